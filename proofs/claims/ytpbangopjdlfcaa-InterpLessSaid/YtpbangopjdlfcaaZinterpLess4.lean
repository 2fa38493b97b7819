/- What the law LawInterpLess leans on, joined (part 4). -/
import Derived.Test.YtpbangopjdlfcaaZinterpLess3
set_option linter.unusedSimpArgs false
set_option linter.unusedVariables false
set_option maxRecDepth 100000
set_option maxHeartbeats 8000000
namespace Go.Aw
open Go.RowKit
variable {P : Program}
theorem callD_sig {nt : Fm} {s : St} {o : Oper} {c : Operand} {f : FuncId} {xs : Array Operand} {ts : Array TypeId} {args : List AV} {h : List (Nat × Blk)} {n : Nat} {rt : List Nat} {r : AV} {h' : List (Nat × Blk)} {m : Nat} (ρ : Nat → Nat)
  (ho : o.op = .call { callee := .value c, args := xs, argTypes := ts }) (hcf : fnOf (ev s.T c) = some f) (hd : dstOK nt o = true) (D : DFn P f args h n rt r h' m) (F : FitD s xs.toList args h n rt r h' ρ)
  {w0 : World} {X I0 : Nat → Prop} {a : Act} {w : World} {next : Act → World → Prop} {Q : Exit → Act → World → Prop} {σ : Lab} {I : Nat → Prop} (tx : TabX w0 X I0) (hn : ∀ l, s.nx ≤ l → σ l = none) (mm : Match nt w0 X I0 σ I s.T s.H a w)
  (hnext : ∀ σ' I' a' w', (∀ l, l < s.nx → σ' l = σ l) → (∀ l, s.nx + m ≤ l → σ' l = none) → Match nt w0 X I0 σ' I' (putT s.T o.dst (some (r.ren (lift2 ρ n s.nx)))) (putH (putH s.H (goneU ρ h)) (newU (lift2 ρ n s.nx) h')) a' w' → next a' w') : o.wp P a w next Q := by
 obtain ⟨hen, hp⟩ := D
 have IN : In σ w I s.T s.H w0 X I0 a s.nx := ⟨mm.heap, mm.tmps, hn _ (Nat.le_refl _), tx⟩
 have hrun : (execOp a.eval o).run P w = .ok (.enter f (xs.map a.eval)) w := by
  have he : a.eval c = .func (.func f) #[] #[] := by
   cases hev : ev s.T c with
   | none => rw [hev] at hcf; simp [fnOf] at hcf
   | some x => rw [hev] at hcf; exact fnOf_spec hcf (IN.ev hev)
  simp only [execOp, ho, resolve, he, Deferred.ofValue, Sem.run_bind, Sem.run_pure, Result.andThen_ok, invoke, Array.append_empty, Array.empty_append, run_enter hen]
 obtain ⟨p1, p2⟩ := argD_spec F.opd
 have here : ∀ l b, ofH h l = some b → s.H (ρ l) = some (b.ren ρ) ∧ l < n ∧ b.labsIn n = true := fun l b hl => F.here (l, b) (ofH_mem hl)
 have inj : ∀ l l' b b', ofH h l = some b → ofH h l' = some b' → ρ l = ρ l' → l = l' := fun l l' b b' h1 h2 e => by
  have := distinct_inj F.inj (l, b) (ofH_mem h1) (l', b') (ofH_mem h2) e
  injection this
 generalize hσc : relab ρ n σ = σc
 have σat : ∀ l, l < n → σc l = σ (ρ l) := fun l hl => by rw [← hσc]; unfold relab; rw [if_pos hl]
 have σno : ∀ l, n ≤ l → σc l = none := fun l hl => by rw [← hσc]; unfold relab; rw [if_neg (by omega)]
 have Xof : ∀ g, lentX σc (ofH h) g → ∃ l b sl, ofH h l = some b ∧ s.H (ρ l) = some (b.ren ρ) ∧ σ (ρ l) = some sl ∧ sl.block = some g := fun g ⟨l, sl, q1, q2, q3⟩ => by
  obtain ⟨b, hb⟩ := Option.ne_none_iff_exists'.1 q1
  obtain ⟨r1, r2, _⟩ := here l b hb
  exact ⟨l, b, sl, hb, r1, by rw [← σat l r2]; exact q2, q3⟩
 have hH : HOK σc w I (ofH h) w (lentX σc (ofH h)) I := by
  refine ⟨fun l b hl => ?_, fun l l' g s1 s2 n1 n2 e1 e2 g1 g2 => ?_, fun l g s1 n1 e1 g1 => ?_, fun g hg => ⟨(mm.heap.imm g hg).1, .inl hg⟩, fun _ h => h, Fr.refl _ _⟩
  ·obtain ⟨r1, r2, r3⟩ := here l b hl
   rw [← hσc]
   exact repB_ren r2 (mm.heap.rows _ _ r1) r3
  ·obtain ⟨b1, hb1⟩ := Option.ne_none_iff_exists'.1 n1
   obtain ⟨b2, hb2⟩ := Option.ne_none_iff_exists'.1 n2
   obtain ⟨r1, r2, _⟩ := here l b1 hb1
   obtain ⟨r1', r2', _⟩ := here l' b2 hb2
   rw [σat l r2] at e1
   rw [σat l' r2'] at e2
   exact inj l l' b1 b2 hb1 hb2 (mm.heap.inj _ _ g s1 s2 (by rw [r1]; simp) (by rw [r1']; simp) e1 e2 g1 g2)
  ·obtain ⟨b1, hb1⟩ := Option.ne_none_iff_exists'.1 n1
   obtain ⟨r1, r2, _⟩ := here l b1 hb1
   refine ⟨?_, .inl ⟨l, s1, n1, e1, g1⟩⟩
   rw [σat l r2] at e1
   exact (mm.heap.mine _ g s1 (by rw [r1]; simp) e1 g1).1
 have hargs := hp w I σc (xs.map a.eval) (by simpa using p1) σno (fun j u y q1 q2 => by
  rw [Array.getElem?_map, Option.map_eq_some_iff] at q1
  obtain ⟨x, hx, rfl⟩ := q1
  have hlab : y.labsIn n = true := List.all_eq_true.1 F.labs y (List.mem_of_getElem? q2)
  rcases p2 j x y (by simpa using hx) q2 with ⟨p, v, rfl, hv, hpv⟩ | hv
  ·exact .p (rep_pureA (IN.ev hv) hpv)
  ·rw [← hσc]
   exact repA_ren (IN.ev hv) y rfl hlab) hH IN.tabs
 unfold Oper.wp
 rw [hrun, Oper.upon_enter]
 refine hargs.mono fun e w' he => ?_
 obtain ⟨v, σ', I', rfl, hh, hrv, hroot, hnew⟩ := he
 -- the caller's labels behind the call
 obtain ⟨σ2, hσ2⟩ : ∃ σ2 : Lab, ∀ l, σ2 l = if l < s.nx then σ l else σ' (n + (l - s.nx)) := ⟨fun l => if l < s.nx then σ l else σ' (n + (l - s.nx)), fun _ => rfl⟩
 have old : ∀ l sl, σ l = some sl → σ2 l = some sl := fun l sl hl => by
  rw [hσ2]
  rcases Nat.lt_or_ge l s.nx with q | q
  ·rw [if_pos q]; exact hl
  ·rw [hn l q] at hl; cases hl
 have new : ∀ l, (rt.contains l || decide (n ≤ l)) = true → ∀ sl, σ' l = some sl → σ2 (lift2 ρ n s.nx l) = some sl := fun l hl sl hs => by
  unfold lift2
  rcases Nat.lt_or_ge l n with q | q
  ·rw [if_pos q]
   have hm : l ∈ rt := by
    rcases Bool.or_eq_true_iff.1 hl with hl | hl
    ·exact List.contains_iff_mem.1 hl
    ·simp at hl; omega
   rw [hroot l hm, σat l q] at hs
   exact old _ _ hs
  ·rw [if_neg (by omega), hσ2, if_neg (by omega), show n + (s.nx + (l - n) - s.nx) = l by omega]
   exact hs
 have blk : ∀ l g sl, s.H l ≠ none → σ l = some sl → sl.block = some g → g < w.heap.size := fun l g sl hn hs hg => by
  obtain ⟨b, hb⟩ := Option.ne_none_iff_exists'.1 hn
  obtain ⟨s', hs', hlt⟩ := (mm.heap.rows l b hb).block
  rw [hs] at hs'; injection hs' with hs'; subst hs'
  exact hlt g hg
 have Xmine : ∀ g, lentX σc (ofH h) g → ¬ I g ∧ (X g ∨ w0.heap.size ≤ g) ∧ g < w.heap.size := fun g hg => by
  obtain ⟨l, b, sl, q1, q2, q3, q4⟩ := Xof g hg
  obtain ⟨m1, m2⟩ := mm.heap.mine _ g sl (by rw [q2]; simp) q3 q4
  exact ⟨m1, m2, blk _ g sl (by rw [q2]; simp) q3 q4⟩
 have same : ∀ b, I b → w'.heap[b]? = w.heap[b]? := fun b hb => hh.fr.block b (mm.heap.imm b hb).1 fun hx => (Xmine b hx).1 hb
 have hI : ∀ g, I g → I' g := hh.sub
 have fresh : ∀ g, I' g → I g ∨ lentX σc (ofH h) g ∨ w.heap.size ≤ g := fun g hg => (hh.imm g hg).2
 have frame : ∀ l b, s.H l = some b → (∀ x ∈ h, ρ x.1 ≠ l) → ∀ g sl, σ l = some sl → sl.block = some g → ¬ lentX σc (ofH h) g := fun l b hl hno g sl hs hg hx => by
  obtain ⟨l2, b2, sl2, q1, q2, q3, q4⟩ := Xof g hx
  exact hno (l2, b2) (ofH_mem q1) (mm.heap.inj _ _ g sl2 sl (by rw [q2]; simp) (by rw [hl]; simp) q3 hs q4 hg)
 -- what stands where
 have cls : ∀ l b, putH (putH s.H (goneU ρ h)) (newU (lift2 ρ n s.nx) h') l = some b → (∃ x ∈ h', lift2 ρ n s.nx x.1 = l ∧ b = x.2.ren (lift2 ρ n s.nx)) ∨ (s.H l = some b ∧ (∀ x ∈ h, ρ x.1 ≠ l)) := fun l b hl => by
  rcases putH_new (lift2 ρ n s.nx) l h' (putH s.H (goneU ρ h)) with ⟨e1, e2⟩ | ⟨x, hx, e1, e2⟩
  ·rw [e1] at hl
   rcases putH_gone ρ l h s.H with ⟨e3, e4⟩ | ⟨e3, _⟩
   ·rw [e3] at hl; exact .inr ⟨hl, e4⟩
   ·rw [e3] at hl; cases hl
  ·rw [e2] at hl
   injection hl with hl
   exact .inl ⟨x, hx, e1, hl.symm⟩
 have mem' : ∀ x ∈ h', (rt.contains x.1 || decide (n ≤ x.1)) = true ∧ x.2.labsBy (fun l => rt.contains l || decide (n ≤ l)) = true := fun x hx => by
  have := List.all_eq_true.1 F.mem x hx
  rwa [Bool.and_eq_true] at this
 have inv : ∀ l, (rt.contains l || decide (n ≤ l)) = true → ∀ sl, σ2 (lift2 ρ n s.nx l) = some sl → σ' l = some sl := fun l hl sl hs => by
  unfold lift2 at hs
  rcases Nat.lt_or_ge l n with q | q
  ·rw [if_pos q] at hs
   have hm : l ∈ rt := by
    rcases Bool.or_eq_true_iff.1 hl with hl | hl
    ·exact List.contains_iff_mem.1 hl
    ·simp at hl; omega
   rw [hroot l hm, σat l q]
   have hc := List.contains_iff_mem.1 (List.all_eq_true.1 F.roots l hm)
   obtain ⟨x, hx, hxl⟩ := List.mem_map.1 hc
   obtain ⟨r1, r2, _⟩ := F.here x hx
   have hlt : ρ l < s.nx := by
    rcases Nat.lt_or_ge (ρ l) s.nx with z | z
    ·exact z
    ·obtain ⟨sl', hsl', _⟩ := (mm.heap.rows _ _ r1).block
     rw [hxl, hn _ z] at hsl'; cases hsl'
   rw [hσ2, if_pos hlt] at hs
   exact hs
  ·rw [if_neg (by omega), hσ2, if_neg (by omega), show n + (s.nx + (l - n) - s.nx) = l by omega] at hs
   exact hs
 have OK : HOK σ2 w' I' (putH (putH s.H (goneU ρ h)) (newU (lift2 ρ n s.nx) h')) w0 X I0 := by
  have rowN : ∀ x ∈ h', repB σ' w' I' x.1 x.2 := fun x hx => hh.rows x.1 x.2 (ofH_of_mem F.dist' hx)
  have neN : ∀ x ∈ h', ofH h' x.1 ≠ none := fun x hx => by rw [ofH_of_mem F.dist' hx]; simp
  have slotF : ∀ l b sl, s.H l = some b → σ2 l = some sl → σ l = some sl := fun l b sl hl hs => by
   obtain ⟨sl', hsl', _⟩ := (mm.heap.rows l b hl).block
   rw [old l sl' hsl'] at hs
   rw [hsl']; exact hs
  refine ⟨fun l b hl => ?_, fun l1 l2 g s1 s2 n1 n2 e1 e2 g1 g2 => ?_, fun l g sl n1 e1 g1 => ?_, fun g hg => ?_, fun g hg => hh.sub g (mm.heap.sub g hg), ⟨hh.fr.os.trans mm.heap.fr.os, hh.fr.tape.trans mm.heap.fr.tape, hh.fr.output.trans mm.heap.fr.output, Nat.le_trans mm.heap.fr.size hh.fr.size, fun b hb hx => ?_, mm.heap.fr.step fun b cur et p hb hc => hh.fr.shape b cur et p hc⟩⟩
  ·rcases cls l b hl with ⟨x, hx, rfl, rfl⟩ | ⟨hl', hno⟩
   ·exact repB_by new (mem' x hx).1 (rowN x hx) (mem' x hx).2
   ·obtain ⟨sl, hsl, hlt⟩ := (mm.heap.rows l b hl').block
    refine (mm.heap.rows l b hl').mono old hI same fun g s' q1 q2 => ?_
    rw [hsl] at q1; injection q1 with q1; subst q1
    exact hh.fr.block g (hlt g q2) (frame l b hl' hno g _ hsl q2)
  ·obtain ⟨b1, hb1⟩ := Option.ne_none_iff_exists'.1 n1
   obtain ⟨b2, hb2⟩ := Option.ne_none_iff_exists'.1 n2
   rcases cls l1 b1 hb1 with ⟨x, hx, rfl, rfl⟩ | ⟨h1, no1⟩
   ·have f1 := inv x.1 (mem' x hx).1 s1 e1
    rcases cls l2 b2 hb2 with ⟨y, hy, rfl, rfl⟩ | ⟨h2, no2⟩
    ·have f2 := inv y.1 (mem' y hy).1 s2 e2
     rw [hh.inj x.1 y.1 g s1 s2 (neN x hx) (neN y hy) f1 f2 g1 g2]
    ·exfalso
     have f2 := slotF l2 b2 s2 h2 e2
     rcases (hh.mine x.1 g s1 (neN x hx) f1 g1).2 with q | q
     ·exact frame l2 b2 h2 no2 g s2 f2 g2 q
     ·have := blk l2 g s2 (by rw [h2]; simp) f2 g2; omega
   ·have f1 := slotF l1 b1 s1 h1 e1
    rcases cls l2 b2 hb2 with ⟨y, hy, rfl, rfl⟩ | ⟨h2, no2⟩
    ·exfalso
     have f2 := inv y.1 (mem' y hy).1 s2 e2
     rcases (hh.mine y.1 g s2 (neN y hy) f2 g2).2 with q | q
     ·exact frame l1 b1 h1 no1 g s1 f1 g1 q
     ·have := blk l1 g s1 (by rw [h1]; simp) f1 g1; omega
    ·exact mm.heap.inj l1 l2 g s1 s2 (by rw [h1]; simp) (by rw [h2]; simp) f1 (slotF l2 b2 s2 h2 e2) g1 g2
  ·obtain ⟨b1, hb1⟩ := Option.ne_none_iff_exists'.1 n1
   rcases cls l b1 hb1 with ⟨x, hx, rfl, rfl⟩ | ⟨h1, no1⟩
   ·have f1 := inv x.1 (mem' x hx).1 sl e1
    obtain ⟨m1, m2⟩ := hh.mine x.1 g sl (neN x hx) f1 g1
    refine ⟨m1, ?_⟩
    rcases m2 with q | q
    ·exact (Xmine g q).2.1
    ·exact .inr (Nat.le_trans mm.heap.fr.size q)
   ·have f1 := slotF l b1 sl h1 e1
    obtain ⟨m1, m2⟩ := mm.heap.mine l g sl (by rw [h1]; simp) f1 g1
    refine ⟨fun hg => ?_, m2⟩
    rcases fresh g hg with q | q | q
    ·exact m1 q
    ·exact frame l b1 h1 no1 g sl f1 g1 q
    ·have := blk l g sl (by rw [h1]; simp) f1 g1; omega
  ·refine ⟨(hh.imm g hg).1, ?_⟩
   rcases fresh g hg with q | q | q
   ·exact (mm.heap.imm g q).2
   ·exact .inr (Xmine g q).2.1
   ·exact .inr (.inr (Nat.le_trans mm.heap.fr.size q))
  ·rw [hh.fr.block b (by have := mm.heap.fr.size; omega) fun hx' => ?_]
   ·exact mm.heap.fr.block b hb hx
   ·rcases (Xmine b hx').2.1 with q | q
    ·exact hx q
    ·omega
 refine hnext σ2 I' _ w' (fun l hl => by rw [hσ2, if_pos hl]) (fun l hl => ?_) (mm.put hd OK old hI same fun y hy => by injection hy with hy; subst hy; exact repA_by new hrv F.res)
 rw [hσ2, if_neg (by omega)]
 exact hnew _ (by omega)
theorem argD_pure {T : Nat → Option AV} {ρ : Nat → Nat} : ∀ {xs : List Operand} {l : List PV}, xs.map (ev T) = l.map (fun p => some (.p p)) → argD T ρ xs (l.map AV.p)
 | [], [], _ => trivial
 | [], _ :: _, h => by cases h
 | _ :: _, [], h => by cases h
 | x :: xs, p :: l, h => by
  rw [List.map_cons, List.map_cons] at h
  injection h with h1 h2
  rw [List.map_cons]
  refine ⟨?_, argD_pure h2⟩
  rw [h1]
  rfl
section
variable {nt : Fm} {ops : Array Oper} {L : List (Oper × Rec)} {nx dc ex : Nat} {T0 : Nat → Option AV} {H0 : Nat → Option Blk} {w0 : World} {X I0 : Nat → Prop}
def Inv2 (nt : Fm) (ops : Array Oper) (L : List (Oper × Rec)) (nx dc ex : Nat) (T0 : Nat → Option AV) (H0 : Nat → Option Blk) (w0 : World) (X I0 : Nat → Prop) (D : Nat → Bool) (a : Act) (w : World) : Prop :=
 ∃ σ I, Match nt w0 X I0 σ I (foldT D L 0 T0) (foldH D L 0 H0) a w ∧ ∀ l s, nx ≤ l → σ l = some s → (∃ j, l = nx + j ∧ j < ops.size ∧ D j = true) ∨ (nx + ops.size ≤ l ∧ l < nx + ops.size + ex ∧ D dc = true)
def DeepOK (P : Program) (N ex : Nat) (o : Oper) (r : Rec) (T : Nat → Option AV) : Prop :=
 o.guard = none ∧ ∃ (f : FuncId) (xs : Array Operand) (ts : Array TypeId) (l : List PV) (rr : AV) (h' : List (Nat × Blk)), o.op = .call { callee := .value (.func f), args := xs, argTypes := ts } ∧ xs.toList.map (ev T) = l.map (fun p => some (.p p)) ∧ DFn P f (l.map AV.p) [] 0 [] rr h' ex ∧ distinct (h'.map (·.1)) = true ∧
  rr.labsBy (fun l => ([] : List Nat).contains l || decide (0 ≤ l)) = true ∧ h'.all (fun x => (([] : List Nat).contains x.1 || decide (0 ≤ x.1)) && x.2.labsBy (fun l => ([] : List Nat).contains l || decide (0 ≤ l))) = true ∧
  r.eff = some ⟨some (rr.ren (lift2 (fun k => k) 0 N)), newU (lift2 (fun k => k) 0 N) h'⟩ ∧ r.reads = []
structure Sound2 (P : Program) (nt : Fm) (ops : Array Oper) (L : List (Oper × Rec)) (nx dc ex : Nat) (T0 : Nat → Option AV) (H0 : Nat → Option Blk) : Prop where
 dst : ops.toList.all (dstOK nt) = true
 len : L.length = ops.size
 opers : ∀ (i : Nat) o r, L[i]? = some (o, r) → ops[i]? = some o
 static : staticOK ops.toList = true
 heap : ∀ i j o r o' r', i < j → L[i]? = some (o, r) → L[j]? = some (o', r') → (∀ l, l ∈ r.writes → l ∉ eReads false o'.op r'.reads ∧ l ∉ r'.writes) ∧ (∀ l, l ∈ r'.writes → l ∉ eReads false o.op r.reads) ∨ ahead ops.toList ops.toList.length i j = true
 chain : ∀ i o r, i ≠ dc → L[i]? = some (o, r) → StepOK P ops.toList (nx + i) o r (foldT (fun j => decide (j < i)) L 0 T0) (foldH (fun j => decide (j < i)) L 0 H0)
 deep : ∀ o r, L[dc]? = some (o, r) → DeepOK P (nx + ops.size) ex o r (foldT (fun j => decide (j < dc)) L 0 T0)
theorem Sound2.step (S : Sound2 P nt ops L nx dc ex T0 H0) (tx : TabX w0 X I0) {D : Nat → Bool} {i : Nat} {K : Act → World → Prop} {Q : Exit → Act → World → Prop} {a : Act} {w : World}
  (hcl : ∀ j o e, ops.toList[j]? = some o → D j = true → e ∈ o.after.toList → Region.binds .any e = true → D e.on = true) (hi : i < ops.size) (hDi : D i = false)
  (hdep : ∀ o, ops.toList[i]? = some o → ∀ e ∈ o.after.toList, Region.binds .any e = true → D e.on = true)
  (inv : Inv2 nt ops L nx dc ex T0 H0 w0 X I0 D a w) (hK : ∀ a w, Inv2 nt ops L nx dc ex T0 H0 w0 X I0 (fun j => D j || j == i) a w → K a w) : wpOp P ops Q i K a w := by
 obtain ⟨σ, I, m, hσ⟩ := inv
 obtain ⟨x, hx⟩ : ∃ x, L[i]? = some x := ⟨_, List.getElem?_eq_getElem (by rw [S.len]; exact hi)⟩
 obtain ⟨o, r⟩ := x
 have ho := S.opers i o r hx
 have ho' : ops.toList[i]? = some o := by rw [Array.getElem?_toList]; exact ho
 have hdo : dstOK nt o = true := List.all_eq_true.1 S.dst o (List.mem_of_getElem? ho')
 have hstat := S.static
 simp only [staticOK, Bool.and_eq_true] at hstat
 have hDlab : D i = false → σ (nx + i) = none := by
  intro _
  cases hs : σ (nx + i) with
  | none => rfl
  | some s =>
   rcases hσ _ s (Nat.le_add_right _ _) hs with ⟨j, hj, _, hDj⟩ | ⟨h5, _, _⟩
   ·have : j = i := by omega
    subst this
    rw [hDi] at hDj
    cases hDj
   ·omega
 -- operations that may change places with this one
 have before : ∀ j, ahead ops.toList ops.toList.length j i = true → D j = true := fun j h => ahead_dep hcl ho' (hdep o ho') _ j h
 have after : ∀ j, ahead ops.toList ops.toList.length i j = true → D j = false := fun j h => by
  cases hj : D j with
  | false => rfl
  | true =>
   have := ahead_done hcl _ i j h hj
   rw [hDi] at this
   cases this
 have hlt : ∀ {j : Nat} {y : Oper × Rec}, L[j]? = some y → j < ops.toList.length := fun h => by
  have := (List.getElem?_eq_some_iff.1 h).1
  rw [Array.length_toList, ← S.len]
  exact this
 have apartT : ∀ j o' r', j ≠ i → L[j]? = some (o', r') → (∀ d, o'.dst = some d → d ∉ o.looksAt ops ∧ o.dst ≠ some d) ∨ (j < i ∧ D j = true) ∨ (i < j ∧ D j = false) := by
  intro j o' r' hne hj
  have hoj : ops.toList[j]? = some o' := by rw [Array.getElem?_toList]; exact S.opers j o' r' hj
  have e : ops.toList.toArray = ops := by simp
  rcases Nat.lt_or_gt_of_ne hne with q | q
  ·rcases pairs_spec hstat.2 q (hlt hx) with h | h
   ·left
    simp only [tmpsApart, hoj, ho', e] at h
    obtain ⟨h1, h2, _⟩ := Oper.apart_spec h
    exact fun d hd => ⟨h1 d hd, h2 d hd⟩
   ·exact .inr (.inl ⟨q, before j h⟩)
  ·rcases pairs_spec hstat.2 q (hlt hj) with h | h
   ·left
    simp only [tmpsApart, hoj, ho', e] at h
    obtain ⟨h1, h2, h3⟩ := Oper.apart_spec h
    exact fun d hd => ⟨h3 d hd, fun h => h2 d h hd⟩
   ·exact .inr (.inr ⟨q, after j h⟩)
 have apartH : ∀ j o' r', j ≠ i → L[j]? = some (o', r') → (∀ l, l ∈ r'.writes → l ∉ eReads false o.op r.reads ∧ l ∉ r.writes) ∨ (j < i ∧ D j = true) ∨ (i < j ∧ D j = false) := by
  intro j o' r' hne hj
  rcases Nat.lt_or_gt_of_ne hne with q | q
  ·rcases S.heap j i o' r' o r q hj hx with ⟨h1, h2⟩ | h
   ·exact .inl h1
   ·exact .inr (.inl ⟨q, before j h⟩)
  ·rcases S.heap i j o r o' r' q hx hj with ⟨h1, h2⟩ | h
   ·exact .inl fun l hl => ⟨h2 l hl, fun h => (h1 l h).2 hl⟩
   ·exact .inr (.inr ⟨q, after j h⟩)
 -- what it looks at is what it looks at in the text's order
 have sameT : ∀ t, t ∈ o.looksAt ops → foldT D L 0 T0 t = foldT (fun j => decide (j < i)) L 0 T0 t := by
  intro t ht
  refine foldT_eq L 0 _ _ rfl fun j y hj hy => ?_
  obtain ⟨o', r'⟩ := y
  rw [Nat.zero_add]
  by_cases hne : j = i
  ·subst hne; rw [hDi]; simp
  ·rcases apartT j o' r' hne hj with h | ⟨h1, h2⟩ | ⟨h1, h2⟩
   ·exact absurd ht (h t hy).1
   ·rw [h2]; simp [h1]
   ·rw [h2]; simp; omega
 have sameH : ∀ l, l ∈ eReads false o.op r.reads → foldH D L 0 H0 l = foldH (fun j => decide (j < i)) L 0 H0 l := by
  intro t ht
  refine foldH_eq L 0 _ _ rfl fun j y hj hy => ?_
  obtain ⟨o', r'⟩ := y
  rw [Nat.zero_add]
  by_cases hne : j = i
  ·subst hne; rw [hDi]; simp
  ·rcases apartH j o' r' hne hj with h | ⟨h1, h2⟩ | ⟨h1, h2⟩
   ·exact absurd ht (h t hy).1
   ·rw [h2]; simp [h1]
   ·rw [h2]; simp; omega
 have evSame : ∀ y ∈ o.op.operands.toList, ev (foldT D L 0 T0) y = ev (foldT (fun j => decide (j < i)) L 0 T0) y := by
  intro y hy
  cases y with
  | tmp t => exact sameT t (List.mem_append_left _ (List.mem_filterMap.2 ⟨.tmp t, hy, rfl⟩))
  | _ => rfl
 have guardSame : guardIs ops.toList o (foldT D L 0 T0) = guardIs ops.toList o (foldT (fun j => decide (j < i)) L 0 T0) := by
  unfold guardIs
  cases hg : o.guard with
  | none => rfl
  | some jw =>
   obtain ⟨j, want⟩ := jw
   simp only
   cases hd : (ops.toList[j]?).bind (·.dst) with
   | none => rfl
   | some d =>
    simp only [Option.bind_some]
    rw [sameT d (List.mem_append_right _ (by simp only [hg]; rw [Array.getElem?_toList] at hd; simp [hd]))]
 -- the state behind it
 have newT : putT (foldT D L 0 T0) o.dst r.val = foldT (fun j => D j || j == i) L 0 T0 := by
  funext t
  by_cases ht : o.dst = some t
  ·have e1 : putT (foldT D L 0 T0) o.dst r.val t = r.val := by simp only [ht, putT, upd_same]
   rw [e1]
   refine (foldT_at L 0 T0 i o r hx ht (by simp) fun j y hij hj hy => ?_).symm
   obtain ⟨o', r'⟩ := y
   rw [Nat.zero_add]
   rcases apartT j o' r' (by omega) hj with h | ⟨h1, h2⟩ | ⟨h1, h2⟩
   ·exact absurd ht (h t hy).2
   ·omega
   ·rw [h2]; simp; omega
  ·rw [putT_ne ht]
   refine foldT_eq L 0 _ _ rfl fun j y hj hy => ?_
   rw [Nat.zero_add]
   have : j ≠ i := by
    rintro rfl
    rw [hx] at hj
    injection hj with hj
    subst hj
    exact ht hy
   simp [this]
 have newH : putH (foldH D L 0 H0) r.upds = foldH (fun j => D j || j == i) L 0 H0 := by
  funext t
  by_cases ht : t ∈ r.writes
  ·rw [putH_in _ _ (fun _ => none) ht]
   refine (foldH_at L 0 H0 i o r hx ht (by simp) fun j y hij hj hy => ?_).symm
   obtain ⟨o', r'⟩ := y
   rw [Nat.zero_add]
   rcases apartH j o' r' (by omega) hj with h | ⟨h1, h2⟩ | ⟨h1, h2⟩
   ·exact absurd ht (h t hy).2
   ·omega
   ·rw [h2]; simp; omega
  ·rw [putH_out _ _ ht]
   refine foldH_eq L 0 _ _ rfl fun j y hj hy => ?_
   rw [Nat.zero_add]
   have : j ≠ i := by
    rintro rfl
    rw [hx] at hj
    injection hj with hj
    subst hj
    exact ht hy
   simp [this]
 have hwant : ∀ b, guardIs ops.toList o (foldT D L 0 T0) = some b → Region.wanted o (yielded ops a.tmps) = b := by
  intro b hb
  unfold guardIs at hb
  cases hg : o.guard with
  | none =>
   rw [hg] at hb
   injection hb with hb
   simp [Region.wanted, hg, hb]
  | some jw =>
   obtain ⟨j, want⟩ := jw
   rw [hg] at hb
   simp only at hb
   split at hb
   ·rename_i b' hb'
    injection hb with hb
    obtain ⟨d, hd1, hd2⟩ := Option.bind_eq_some_iff.1 hb'
    rw [Array.getElem?_toList] at hd1
    obtain ⟨u, hu, hru⟩ := m.tmps d _ hd2
    have hy : yielded ops a.tmps j = some b' := by
     cases hru with
     | p h => cases h; simp [yielded, hd1, hu]
    simp only [Region.wanted, hg, hy, ← hb]
    cases b' <;> cases want <;> rfl
   ·cases hb
 unfold wpOp
 rw [ho]
 simp only
 by_cases hic : i = dc
 ·subst hic
  obtain ⟨hg, f, xs, ts, l, rr, h', hop, hxs, hD, hdis, hres, hmem, hre, hrr⟩ := S.deep o r hx
  rw [if_pos (hwant true (by unfold guardIs; rw [hg]))]
  left
  have hxc : xs.toList.map (ev (foldT D L 0 T0)) = l.map fun p => some (.p p) := by
   rw [← hxs]
   refine List.map_congr_left fun y hy => evSame y ?_
   rw [hop]
   simp only [Op.operands, Call.operands]
   simp [hy]
  have hlab : ∀ l', nx + ops.size ≤ l' → σ l' = none := fun l' hl' => by
   cases hs : σ l' with
   | none => rfl
   | some s =>
    rcases hσ l' s (by omega) hs with ⟨j, h1, h0, _⟩ | ⟨_, _, h2⟩
    ·omega
    ·rw [hDi] at h2; cases h2
  refine callD_sig (s := ⟨foldT D L 0 T0, foldH D L 0 H0, nx + ops.size⟩) (fun k => k) hop rfl hdo hD ⟨argD_pure hxc, by simp [AV.labsIn], (fun x hx => by cases hx), rfl, rfl, hdis, rfl, hres, hmem⟩ tx hlab m fun σ' I' a' w' hlo hhi m' => hK _ _ ⟨σ', I', ?_, fun l' s hl hs => ?_⟩
  ·have e1 : r.val = some (rr.ren (lift2 (fun k => k) 0 (nx + ops.size))) := by simp [Rec.val, hre]
   have e2 : r.upds = newU (lift2 (fun k => k) 0 (nx + ops.size)) h' := by simp [Rec.upds, hre]
   rw [← newT, ← newH, e1, e2]
   exact m'
  ·rcases Nat.lt_or_ge l' (nx + ops.size) with q | q
   ·rw [hlo l' q] at hs
    rcases hσ l' s hl hs with ⟨j, h1, h0, h2⟩ | ⟨h1, _, _⟩
    ·exact .inl ⟨j, h1, h0, by simp [h2]⟩
    ·omega
   ·rcases Nat.lt_or_ge l' (nx + ops.size + ex) with q2 | q2
    ·exact .inr ⟨q, q2, by simp⟩
    ·rw [hhi l' q2] at hs; cases hs
 have hst := S.chain i o r hic hx
 unfold StepOK at hst
 cases he : r.eff with
 | some e =>
  rw [he] at hst
  obtain ⟨hg, hop, hr⟩ := hst
  rw [if_pos (hwant true (guardSame.trans hg))]
  have hop' : opW P (nx + i) o.op (foldT D L 0 T0) (foldH D L 0 H0) fun e' => e' = e := by
   rw [loc_op evSame (fun l hl => sameH l (by simp only [eReads, Bool.false_and, Bool.false_eq_true, if_false]; rw [hr]; exact hl))]
   exact hop
  left
  refine snd_op (w0 := w0) (X := X) (I0 := I0) ⟨m.heap, m.tmps, hDlab hDi, tx⟩ hop' _ _ fun e' v w' σ' I' hk out => hK _ _ ?_
  subst hk
  refine ⟨σ', I', ?_, fun l s hl hs => ?_⟩
  ·have := m.put hdo out.heap out.ext out.imm out.same out.val
   have e1 : r.val = e'.val := by simp [Rec.val, he]
   have e2 : r.upds = e'.upd := by simp [Rec.upds, he]
   rw [← newT, ← newH, e1, e2]
   exact this
  ·by_cases hll : l = nx + i
   ·exact .inl ⟨i, hll, hi, by simp⟩
   ·rw [out.lab l hll] at hs
    rcases hσ l s hl hs with ⟨j, h1, h0, h2⟩ | ⟨h1, h0, h2⟩
    ·exact .inl ⟨j, h1, h0, by simp [h2]⟩
    ·exact .inr ⟨h1, h0, by simp [h2]⟩
 | none =>
  rw [he] at hst
  rw [if_neg (by rw [hwant false (guardSame.trans hst)]; simp)]
  refine hK _ _ ⟨σ, I, ?_, fun l s hl hs => ?_⟩
  ·have := m.put (v := undef) (x := none) hdo m.heap (fun _ _ h => h) (fun _ h => h) (fun _ _ => rfl) (fun y hy => by cases hy)
   have e1 : r.val = none := by simp [Rec.val, he]
   have e2 : r.upds = [] := by simp [Rec.upds, he]
   rw [← newT, ← newH, e1, e2]
   exact this
  ·rcases hσ l s hl hs with ⟨j, h1, h0, h2⟩ | ⟨h1, h0, h2⟩
   ·exact .inl ⟨j, h1, h0, by simp [h2]⟩
   ·exact .inr ⟨h1, h0, by simp [h2]⟩
theorem Sound2.any (S : Sound2 P nt ops L nx dc ex T0 H0) (tx : TabX w0 X I0) {Q : Exit → Act → World → Prop} (hQ : ∀ a w, Inv2 nt ops L nx dc ex T0 H0 w0 X I0 (fun j => decide (j < ops.size)) a w → Q .normal a w) :
  ∀ (fuel : Nat) (listed : Array Bool) (a : Act) (w : World), listed.size = ops.size → (open_ ops.size listed).length ≤ fuel →
   (∀ j o e, ops.toList[j]? = some o → listed.getD j false = true → e ∈ o.after.toList → Region.binds .any e = true → listed.getD e.on false = true) →
   Inv2 nt ops L nx dc ex T0 H0 w0 X I0 (fun j => listed.getD j false) a w → wpAny P .any ops Q fuel listed a w := by
 have getD_ne : ∀ (listed : Array Bool) (i : Nat), listed.size = ops.size → i < ops.size → listed.getD i true = listed.getD i false := by
  intro listed i hs hi
  have : i < listed.size := by omega
  simp [Array.getD, this]
 have full : ∀ (listed : Array Bool), listed.size = ops.size → Region.ready .any ops listed = [] → ∀ i, i < ops.size → listed.getD i false = true := by
  intro listed hs hr i
  induction i using Nat.strongRecOn with
  | _ i ih =>
   intro hi
   cases hd : listed.getD i false with
   | true => rfl
   | false =>
    exfalso
    have : i ∈ Region.ready .any ops listed := by
     unfold Region.ready
     refine List.mem_filter.2 ⟨List.mem_range.2 hi, ?_⟩
     rw [getD_ne listed i hs hi, hd, Array.getElem?_eq_getElem hi]
     simp only [Bool.not_false, Bool.true_and, Option.map_some, Option.getD_some]
     rw [Array.all_eq_true_iff_forall_mem]
     intro e he
     cases hb : Region.binds .any e with
     | false => rfl
     | true =>
      simp only [Bool.not_true, Bool.false_or]
      have hst := S.static
      simp only [staticOK, Bool.and_eq_true] at hst
      have h1 := List.all_eq_true.1 hst.1 i (List.mem_range.2 (by simpa using hi))
      rw [Array.getElem?_toList, Array.getElem?_eq_getElem hi] at h1
      simp only at h1
      have h2 := List.all_eq_true.1 h1 e (by simpa using he)
      rw [hb] at h2
      simp only [Bool.not_true, Bool.false_or, decide_eq_true_eq] at h2
      exact ih e.on h2 (by omega)
    rw [hr] at this
    cases this
 have done : ∀ (listed : Array Bool) a w, listed.size = ops.size → Region.ready .any ops listed = [] → Inv2 nt ops L nx dc ex T0 H0 w0 X I0 (fun j => listed.getD j false) a w → Q .normal a w := by
  intro listed a w hs hr inv
  refine hQ a w ?_
  have : (fun j => listed.getD j false) = fun j => decide (j < ops.size) := by
   funext j
   by_cases hj : j < ops.size
   ·rw [full listed hs hr j hj]; simp [hj]
   ·have : ¬ j < listed.size := by omega
    simp [Array.getD, this, hj]
  rw [this] at inv
  exact inv
 intro fuel
 induction fuel with
 | zero =>
  intro listed a w hs hf hcl inv
  have hr : Region.ready .any ops listed = [] := by
   cases h : Region.ready .any ops listed with
   | nil => rfl
   | cons i l =>
    exfalso
    obtain ⟨h1, h2, _⟩ := ready_mem (show i ∈ Region.ready .any ops listed by rw [h]; simp)
    have : i ∈ open_ ops.size listed := List.mem_filter.2 ⟨List.mem_range.2 h1, by rw [h2]; rfl⟩
    have := List.length_pos_of_mem this
    omega
  exact ⟨hr, done listed a w hs hr inv⟩
 | succ fuel ih =>
  intro listed a w hs hf hcl inv
  refine ⟨fun hr => done listed a w hs hr inv, fun i hi => ?_⟩
  obtain ⟨h1, h2, h3⟩ := ready_mem hi
  have hD : (fun j => (listed.setIfInBounds i true).getD j false) = fun j => listed.getD j false || j == i := by
   funext j
   by_cases hj : j = i
   ·subst hj
    have : j < listed.size := by omega
    simp [Array.getD, this]
   ·by_cases hjs : j < listed.size
    ·have e1 : (j == i) = false := by simpa using hj
     have e2 : ¬ i = j := fun h => hj h.symm
     simp [Array.getD, hjs, e1, e2]
    ·have e1 : (j == i) = false := by simpa using hj
     simp [Array.getD, hjs, e1]
  refine S.step tx (D := fun j => listed.getD j false) hcl h1 (by rw [← getD_ne listed i hs h1]; exact h2) h3 inv fun a w inv' => ?_
  ·refine ih _ a w (by simpa using hs) ?_ (fun j o e ho hj he hb => ?_) (by rw [hD]; exact inv')
   ·have hmem : i ∈ open_ ops.size listed := List.mem_filter.2 ⟨List.mem_range.2 h1, by rw [h2]; rfl⟩
    have hsub : open_ ops.size (listed.setIfInBounds i true) = (open_ ops.size listed).filter fun j => j != i := by
     unfold open_
     rw [List.filter_filter]
     apply List.filter_congr
     intro j hj
     have hj' := List.mem_range.1 hj
     rw [getD_ne _ j (by simpa using hs) hj', getD_ne _ j hs hj']
     have := congrFun hD j
     rw [this]
     cases listed.getD j false <;> cases hji : j == i <;> simp [bne, hji]
    rw [hsub]
    have : ((open_ ops.size listed).filter fun j => j != i).length < (open_ ops.size listed).length := by
     rw [List.length_filter_lt_length_iff_exists]
     exact ⟨i, hmem, by simp⟩
    omega
   ·have hh := congrFun hD
    rw [hh] at hj ⊢
    simp only [Bool.or_eq_true, beq_iff_eq] at hj ⊢
    rcases hj with hj | hj
    ·exact .inl (hcl j o e ho hj he hb)
    ·subst hj
     exact .inl (h3 o ho e he hb)
end
end Go.Aw
namespace Go.Aw
open Go.RowKit
variable {P : Program}
end Go.Aw
namespace Go.Aw.T
open Go.Proofs
def keptJ : In0 → PV
 | .none => .cst .nilIface
 | .num n => .iface 3 (.int .i64 n)
 | .str _ => .cst .nilIface
 | .node cs => .iface 71 (.box cs 0)
theorem interp_kept (x : In0) : PFn Try.prog 47 [.agg [encIn x]] (keptJ x) := by
 have A1 := value_AsNum x
 have A2 := value_AsNode x
 refine PFn.of Try.func47 rfl (by decide) Try.ntmps47 Try.results47 (Nat.le_of_ble_eq_true rfl) ?_
 simp only [argsT]
 cases x with
 | num n =>
  simp only [encIn, asNum] at A1 ⊢
  refine AW.rT (by rfl) fun K hK => ?_
  simp -implicitDefEqProofs only [go_sem, Nat.reduceAdd]
  apply hK; clear hK K
  refine AW.seq ?_
  refine AW.rT (by rfl) fun K hK => ?_
  simp -implicitDefEqProofs only [go_sem, ↓reduceIte, Nat.reduceAdd, Nat.reduceEqDiff, Nat.reduceLeDiff]
  refine ⟨.pure _, A1, ?_⟩
  try simp -implicitDefEqProofs only [go_sem, ↓reduceIte, Nat.reduceAdd, Nat.reduceEqDiff]
  apply hK; clear hK K
  refine AW.rT (by rfl) fun K hK => ?_
  simp -implicitDefEqProofs only [go_sem, Nat.reduceAdd]
  apply hK; clear hK K
  refine AW.cT rfl ?_
  refine AW.rT (by rfl) fun K hK => ?_
  simp -implicitDefEqProofs only [go_sem, ↓reduceIte, Nat.reduceAdd, Nat.reduceEqDiff]
  apply hK; clear hK K
  refine AW.ret ?_
  simp -implicitDefEqProofs only [go_sem, keptJ]
 | node cs =>
  simp only [encIn, asNum, asNode] at A1 A2 ⊢
  refine AW.rT (by rfl) fun K hK => ?_
  simp -implicitDefEqProofs only [go_sem, Nat.reduceAdd]
  apply hK; clear hK K
  refine AW.seq ?_
  refine AW.rT (by rfl) fun K hK => ?_
  simp -implicitDefEqProofs only [go_sem, ↓reduceIte, Nat.reduceAdd, Nat.reduceEqDiff, Nat.reduceLeDiff]
  refine ⟨.pure _, A1, ?_⟩
  try simp -implicitDefEqProofs only [go_sem, ↓reduceIte, Nat.reduceAdd, Nat.reduceEqDiff]
  apply hK; clear hK K
  refine AW.rT (by rfl) fun K hK => ?_
  simp -implicitDefEqProofs only [go_sem, Nat.reduceAdd]
  apply hK; clear hK K
  refine AW.cF rfl ?_
  refine AW.skip ?_
  simp only [andThen]
  refine AW.seq ?_
  refine AW.rT (by rfl) fun K hK => ?_
  simp -implicitDefEqProofs only [go_sem, ↓reduceIte, Nat.reduceAdd, Nat.reduceEqDiff, Nat.reduceLeDiff]
  refine ⟨.pure _, A2, ?_⟩
  try simp -implicitDefEqProofs only [go_sem, ↓reduceIte, Nat.reduceAdd, Nat.reduceEqDiff]
  apply hK; clear hK K
  refine AW.rT (by rfl) fun K hK => ?_
  simp -implicitDefEqProofs only [go_sem, Nat.reduceAdd]
  apply hK; clear hK K
  refine AW.cT rfl ?_
  refine AW.rT (by rfl) fun K hK => ?_
  simp -implicitDefEqProofs only [go_sem, ↓reduceIte, Nat.reduceAdd, Nat.reduceEqDiff]
  apply hK; clear hK K
  refine AW.ret ?_
  simp -implicitDefEqProofs only [go_sem, keptJ]
 | none =>
  simp only [encIn, asNum, asNode] at A1 A2 ⊢
  refine AW.rT (by rfl) fun K hK => ?_
  simp -implicitDefEqProofs only [go_sem, Nat.reduceAdd]
  apply hK; clear hK K
  refine AW.seq ?_
  refine AW.rT (by rfl) fun K hK => ?_
  simp -implicitDefEqProofs only [go_sem, ↓reduceIte, Nat.reduceAdd, Nat.reduceEqDiff, Nat.reduceLeDiff]
  refine ⟨.pure _, A1, ?_⟩
  try simp -implicitDefEqProofs only [go_sem, ↓reduceIte, Nat.reduceAdd, Nat.reduceEqDiff]
  apply hK; clear hK K
  refine AW.rT (by rfl) fun K hK => ?_
  simp -implicitDefEqProofs only [go_sem, Nat.reduceAdd]
  apply hK; clear hK K
  refine AW.cF rfl ?_
  refine AW.skip ?_
  simp only [andThen]
  refine AW.seq ?_
  refine AW.rT (by rfl) fun K hK => ?_
  simp -implicitDefEqProofs only [go_sem, ↓reduceIte, Nat.reduceAdd, Nat.reduceEqDiff, Nat.reduceLeDiff]
  refine ⟨.pure _, A2, ?_⟩
  try simp -implicitDefEqProofs only [go_sem, ↓reduceIte, Nat.reduceAdd, Nat.reduceEqDiff]
  apply hK; clear hK K
  refine AW.rT (by rfl) fun K hK => ?_
  simp -implicitDefEqProofs only [go_sem, Nat.reduceAdd]
  apply hK; clear hK K
  refine AW.cF rfl ?_
  refine AW.skip ?_
  simp only [andThen]
  refine AW.rT (by rfl) fun K hK => ?_
  simp -implicitDefEqProofs only [go_sem, Nat.reduceAdd]
  apply hK; clear hK K
  refine AW.ret ?_
  simp -implicitDefEqProofs only [go_sem, keptJ]
 | str s =>
  simp only [encIn, asNum, asNode] at A1 A2 ⊢
  refine AW.rT (by rfl) fun K hK => ?_
  simp -implicitDefEqProofs only [go_sem, Nat.reduceAdd]
  apply hK; clear hK K
  refine AW.seq ?_
  refine AW.rT (by rfl) fun K hK => ?_
  simp -implicitDefEqProofs only [go_sem, ↓reduceIte, Nat.reduceAdd, Nat.reduceEqDiff, Nat.reduceLeDiff]
  refine ⟨.pure _, A1, ?_⟩
  try simp -implicitDefEqProofs only [go_sem, ↓reduceIte, Nat.reduceAdd, Nat.reduceEqDiff]
  apply hK; clear hK K
  refine AW.rT (by rfl) fun K hK => ?_
  simp -implicitDefEqProofs only [go_sem, Nat.reduceAdd]
  apply hK; clear hK K
  refine AW.cF rfl ?_
  refine AW.skip ?_
  simp only [andThen]
  refine AW.seq ?_
  refine AW.rT (by rfl) fun K hK => ?_
  simp -implicitDefEqProofs only [go_sem, ↓reduceIte, Nat.reduceAdd, Nat.reduceEqDiff, Nat.reduceLeDiff]
  refine ⟨.pure _, A2, ?_⟩
  try simp -implicitDefEqProofs only [go_sem, ↓reduceIte, Nat.reduceAdd, Nat.reduceEqDiff]
  apply hK; clear hK K
  refine AW.rT (by rfl) fun K hK => ?_
  simp -implicitDefEqProofs only [go_sem, Nat.reduceAdd]
  apply hK; clear hK K
  refine AW.cF rfl ?_
  refine AW.skip ?_
  simp only [andThen]
  refine AW.rT (by rfl) fun K hK => ?_
  simp -implicitDefEqProofs only [go_sem, Nat.reduceAdd]
  apply hK; clear hK K
  refine AW.ret ?_
  simp -implicitDefEqProofs only [go_sem, keptJ]
end Go.Aw.T
namespace Go.Aw.T
open Go.Proofs Go.RowKit
theorem project_Clamp (n : Int) : PFn Try.prog 48 [.int .i64 n] (.int .i64 (clampV n)) := by
 refine PFn.of Try.func48 rfl (by decide) Try.ntmps48 Try.results48 (Nat.le_of_ble_eq_true rfl) ?_
 simp only [argsT]
 refine AW.rT (by rfl) fun K hK => ?_
 simp -implicitDefEqProofs only [go_sem]
 apply hK; clear hK K
 refine AW.rT (by rfl) fun K hK => ?_
 simp -implicitDefEqProofs only [go_sem, ↓reduceIte, Nat.reduceAdd, reduceCtorEq]
 try simp -implicitDefEqProofs only [go_sem, ↓reduceIte, Nat.reduceAdd, Nat.reduceMul, Nat.reduceEqDiff, Nat.reduceLeDiff, reduceCtorEq, Int.reduceToNat]
 apply hK; clear hK K
 refine AW.ret ?_
 simp -implicitDefEqProofs only [go_sem]
 congr 1
 unfold clampV
 repeat' split
 all_goals omega
end Go.Aw.T
namespace Go.Aw.T
open Go.Proofs Go.RowKit
def memR (P : List (List Stp)) (a : Int) : List (Nat × Blk) := [(0, .row 2 [[.p (.slice (P.map encPt)), .p (.int .i64 a)]])]
theorem mem_root {s : St} {args : List AV} {P : List (List Stp)} {a b : Int} (h : args[0]? = some (.ptr 0 0 0)) (hs : s.T 0 = some (.ptr 0 0 0)) : ∀ l ∈ ([0] : List Nat), l < 1 ∧ rootOK s args (memR P a) (memR P b) [0] (fun k => k) l := by
 intro k hk
 simp only [List.mem_singleton] at hk
 subst hk
 exact ⟨by decide, .inl ⟨0, 0, 0, 2, _, _, by simp, h, hs, rfl, rfl, rfl, by decide⟩⟩
def PartOK (P : List (List Stp)) (t : Tr) : Prop := ∀ (i : Nat) (a : Int), i < P.length → IntKind.wrap .i64 a = a → DFn Try.prog 24 [.ptr 0 0 0, .p (.int .i64 (i : Int)), .p (.box (ndV t) 0)] (memR P a) 1 [0] (.p (.agg (encTr (runF P t (i : Int))))) (memR P (IntKind.wrap .i64 (a + (lookF P t (i : Int) : Nat)))) 0
def lk1 (P : List (List Stp)) (s : Stp) (x : Tr) : Nat := if s.op = 3 ∨ s.op = 4 then lookF P x s.sub else 0
theorem sum_zero : ∀ (l : List Tr), (l.map fun _ => 0).sum = 0
 | [] => rfl
 | x :: l => by rw [List.map_cons, List.sum_cons, sum_zero l]
theorem lookS_yes {P : List (List Stp)} {s : Stp} {l : List Tr} (h : kindOK s l = true) : lookS P s l = ((lastL s l).map (lk1 P s)).sum := by
 unfold lookS
 by_cases h3 : s.op = 3 ∨ s.op = 4
 ·rw [if_pos ⟨h3, h⟩]
  congr 2
  funext x
  unfold lk1
  rw [if_pos h3]
 ·rw [if_neg (fun q => h3 q.1)]
  have : (fun x => lk1 P s x) = fun _ => 0 := by
   funext x
   unfold lk1
   rw [if_neg h3]
  rw [show lk1 P s = fun _ => 0 from this, sum_zero]
theorem lookS_no {P : List (List Stp)} {s : Stp} {l : List Tr} (h : kindOK s l = false) : lookS P s l = 0 := by
 unfold lookS
 rw [if_neg (by rw [h]; simp)]
theorem wrap_wrap (a : Int) : IntKind.wrap .i64 (IntKind.wrap .i64 a) = IntKind.wrap .i64 a := by
 have := wrap_more a 0
 simpa using this
theorem wrap_nat (a : Int) (n m : Nat) : IntKind.wrap .i64 (IntKind.wrap .i64 (a + (n : Int)) + (m : Int)) = IntKind.wrap .i64 (a + ((n + m : Nat) : Int)) := by
 rw [wrap_more]
 congr 1
 push_cast
 omega
def se (P : List (List Stp)) (r : List Tr) (b : Int) : St := ⟨ofL [(0, .ptr 0 0 0), (6, .p (.slice (r.map encTr)))], ofH [(0, .row 2 [[.p (.slice (P.map encPt)), .p (.int .i64 b)]])], 1⟩
theorem step_end {P : List (List Stp)} {args : List AV} {r : List Tr} {a b : Int} (h : args[0]? = some (.ptr 0 0 0)) : EndD Try.prog #[ResultVar.tmp 6] args (memR P a) 1 [0] (.p (.slice (r.map encTr))) (memR P b) 0 [0] .ret (se P r b) := by
 refine ⟨fun k => k, [.p (.slice (r.map encTr))], ⟨?_, trivial⟩, rfl, rfl, ?_, ?_, ?_⟩
 ·simp only [se]
  simp -implicitDefEqProofs only [go_sem, ↓reduceIte, reduceCtorEq]
  done
 ·simp only [memR, se]
  simp -implicitDefEqProofs only [go_sem, ↓reduceIte, List.forall_mem_cons, List.not_mem_nil, false_implies, implies_true]
  first | done | decide
 ·simp [memR]
 ·exact mem_root h rfl
def ys (s : Stp) (P : List (List Stp)) (b : Int) (L : List (Nat × AV)) (H : List (Nat × Blk)) (n : Nat) : St := ⟨ofL ((0, .ptr 0 0 0) :: (4, .ptr 1 0 0) :: L), ofH ((0, .row 2 [[.p (.slice (P.map encPt)), .p (.int .i64 b)]]) :: (1, .row 3 [[.p (.int .i64 s.op), .p (.int .i64 s.tag), .p (.int .i64 s.sub)]]) :: H), n⟩
def ysA (q : List Tr) (j : Nat) : List (Nat × AV) := [(7, .own 2), (24, .p (.slice (q.map encV1))), (25, .p (.int .i64 (q.length : Int))), (26, .p (.int .i64 (j : Int)))]
theorem interp_step (P : List (List Stp)) (s : Stp) (l : List Tr) (c : Int) (h1 : 1 ≤ s.op) (h4 : s.op ≤ 4) (hsub : s.op = 3 ∨ s.op = 4 → ∃ k : Nat, s.sub = (k : Int) ∧ k < P.length) (hl1 : 1 ≤ l.length) (hl : l.length ≤ 1000)
  (hx : ∀ x ∈ l, lensT x = true ∧ rightT x = true ∧ x.kind = c) (IH : ∀ x ∈ l, PartOK P x) (a : Int) (ha : IntKind.wrap .i64 a = a) :
  DFn Try.prog 35 [.ptr 0 0 0, .p (.agg (encSt s)), .p (.slice (l.map encV1))] (memR P a) 1 [0] (.p (.slice ((stepF P s l).map encTr))) (memR P (IntKind.wrap .i64 (a + (lookS P s l : Nat)))) 0 := by
 refine DFn.of [0] Try.func35 rfl (by decide) Try.ntmps35 Try.results35 (Nat.le_of_ble_eq_true rfl) (by simp) fun val => ?_
 simp only [avT, memR]
 refine AW.rT (by rfl) fun K hK => ?_
 simp -implicitDefEqProofs only [go_sem, ↓reduceIte, Nat.reduceAdd, encSt]
 apply hK; clear hK K
 refine AW.rT (by rfl) fun K hK => ?_
 simp -implicitDefEqProofs only [go_sem, Nat.reduceAdd]
 apply hK; clear hK K
 obtain ⟨sl1, sl2, sl3⟩ := lastL_len s l
 refine AW.cut (fun _ : Unit => ys s P a [(7, .ex []), (2, .p (.slice ((lastL s l).map encV1)))] [] 2) (fun _ => True) ?_ fun _ _ => ?_
 ·by_cases o4 : s.op = 4
  ·have b4 := eqb o4
   have e : lastL s l = l.drop (l.length - 1) := by unfold lastL; rw [if_pos o4]
   have ws : IntKind.wrap .i64 ((l.length : Int) - 1) = ((l.length - 1 : Nat) : Int) := by rw [w64] <;> omega
   rw [e]
   refine AW.rT (by rfl) fun K hK => ?_
   simp -implicitDefEqProofs only [go_sem, ↓reduceIte, Nat.reduceAdd, Nat.reduceEqDiff, b4]
   apply hK; clear hK K
   refine AW.cT rfl ?_
   refine AW.rE (by rfl) fun K hK => ?_
   simp -implicitDefEqProofs only [go_sem, ↓reduceIte, Nat.reduceAdd, Nat.reduceEqDiff, reduceCtorEq, ws, List.length_map]
   refine ⟨fun y hy => by
    obtain ⟨x, _, rfl⟩ := List.mem_map.1 hy
    rfl, by simp, ⟨by omega, by omega, by omega⟩, ?_⟩
   apply hK; clear hK K
   simp only [andThen]
   refine ⟨(), trivial, ?_⟩
   try simp only [ys]
   have tk : List.take l.length (l.map encV1) = l.map encV1 := List.take_of_length_le (by simp)
   refine Ghost.sub ?_ ?_ <;> simp -implicitDefEqProofs only [go_sem, ↓reduceIte, Nat.reduceEqDiff, reduceCtorEq, List.map_drop, tk, List.forall_mem_cons, List.not_mem_nil, false_implies, implies_true, and_self, List.all_cons, List.all_nil, Nat.reduceLT, labsInL, AV.labsIn]
   done
  ·have b4 := beqf o4
   have e : lastL s l = l := by unfold lastL; rw [if_neg o4]
   rw [e]
   refine AW.rT (by rfl) fun K hK => ?_
   simp -implicitDefEqProofs only [go_sem, ↓reduceIte, Nat.reduceAdd, Nat.reduceEqDiff, b4]
   apply hK; clear hK K
   refine AW.cF rfl ?_
   refine AW.skip ?_
   simp only [andThen]
   refine ⟨(), trivial, ?_⟩
   try simp only [ys]
   refine Ghost.sub ?_ ?_ <;> simp -implicitDefEqProofs only [go_sem, ↓reduceIte, Nat.reduceEqDiff, reduceCtorEq, List.forall_mem_cons, List.not_mem_nil, false_implies, implies_true, and_self, List.all_cons, List.all_nil, Nat.reduceLT, labsInL, AV.labsIn]
   done
 have qx : ∀ x ∈ lastL s l, lensT x = true ∧ rightT x = true ∧ x.kind = c ∧ PartOK P x := fun x h => ⟨(hx x (lastL_mem h)).1, (hx x (lastL_mem h)).2.1, (hx x (lastL_mem h)).2.2, IH x (lastL_mem h)⟩
 have LY := @lookS_yes P s l
 have LN := @lookS_no P s l
 have SF : stepF P s l = if kindOK s l = false then [] else if s.op = 4 ∧ ((lastL s l).map (run1F P s)).any (fun y => y.ents.isEmpty) = true then [] else (lastL s l).map (run1F P s) := rfl
 have KO : kindOK s l = if s.op = 2 then decide (c = 1) else if s.op = 3 ∨ s.op = 4 then decide (c = 3) else true := by
  have al : ∀ k : Int, l.all (fun t => decide (t.kind = k)) = decide (c = k) := fun k => by
   by_cases hk : c = k
   ·rw [decide_eq_true hk, List.all_eq_true]
    intro x h
    rw [(hx x h).2.2, decide_eq_true hk]
   ·rw [decide_eq_false hk, List.all_eq_false]
    obtain ⟨x, hxx⟩ : ∃ x, l[0]? = some x := ⟨_, List.getElem?_eq_getElem (by omega)⟩
    refine ⟨x, List.mem_of_getElem? hxx, ?_⟩
    rw [(hx x (List.mem_of_getElem? hxx)).2.2, decide_eq_false hk]
    simp
  unfold kindOK
  rw [al, al]
 generalize kindOK s l = ko at *
 generalize lookS P s l = lks at *
 generalize stepF P s l = sf at *
 generalize lastL s l = q at *
 have q1 := sl2 hl1
 simp only [ys]
 refine AW.seq ?_
 refine AW.rT (by rfl) fun K hK => ?_
 simp -implicitDefEqProofs only [go_sem, ↓reduceIte, Nat.reduceAdd, Nat.reduceEqDiff, reduceCtorEq, List.length_map]
 apply hK; clear hK K
 refine AW.block ?_
 refine AW.loop (fun j : Nat => ys s P (IntKind.wrap .i64 (a + (((q.take j).map (lk1 P s)).sum : Nat))) (ysA q j) [(2, .row 5 (liftE (((q.map (run1F P s)).take j).map encTr)))] 3) (fun j => j ≤ q.length ∧ (1 ≤ j → sf = q.map (run1F P s) ∧ ko = true)) (fun j => q.length - j) 0 ?_ (by simp) fun j hj => ?_
 ·refine Ghost.trans (Ghost.nil (t := 7) (sz := 5) rfl) ?_
  rw [show IntKind.wrap .i64 (a + ((((q.take 0).map (lk1 P s)).sum : Nat) : Int)) = a by simpa using ha]
  simp only [ys, ysA]
  refine Ghost.ent (fun l => if l = 2 then 5 else l) ?_ ?_ ?_ <;> simp -implicitDefEqProofs only [go_sem, ↓reduceIte, Nat.reduceEqDiff, reduceCtorEq, List.take_zero, List.map_nil, liftE_nil, List.forall_mem_cons, List.not_mem_nil, false_implies, implies_true, and_self, List.all_cons, List.all_nil, Nat.reduceLT, labsInL, AV.labsIn]
  all_goals first | rfl | skip
 obtain ⟨hj1, hj2⟩ := hj
 by_cases hjl : j < q.length
 case neg =>
  have hj' : j = q.length := by omega
  subst hj'
  obtain ⟨e1, e2⟩ := hj2 q1
  rw [LY e2, e1]
  rw [List.take_length, List.take_of_length_le (by simp)]
  generalize q.map (run1F P s) = ps
  generalize IntKind.wrap .i64 (a + (((q.map (lk1 P s)).sum : Nat) : Int)) = b
  have hc1 : ((q.length : Int) < (q.length : Int)) = False := eq_false (by omega)
  simp only [ys, ysA]
  refine AW.rT (by rfl) fun K hK => ?_
  simp -implicitDefEqProofs only [go_sem, ↓reduceIte, Nat.reduceAdd, Nat.reduceEqDiff, reduceCtorEq, hc1]
  apply hK; clear hK K
  refine AW.seq ?_
  refine AW.cF rfl ?_
  refine AW.exit ?_
  simp only [andThen, inBlk, ↓reduceIte]
  refine AW.ghost (s' := ys s P b [(7, .p (.slice (ps.map encTr)))] [] 2) (Ghost.trans (Ghost.freeze (lb := 2) (ps := ps.map encTr) rfl (unlift_liftE _)) ?_) ?_
  ·simp only [ys]
   refine Ghost.sub ?_ ?_ <;> simp -implicitDefEqProofs only [go_sem, ↓reduceIte, Nat.reduceEqDiff, reduceCtorEq, thaw, thaw1, Option.map_some, List.map_cons, List.map_nil, List.forall_mem_cons, List.not_mem_nil, false_implies, implies_true, and_self, List.all_cons, List.all_nil, Nat.reduceLT, labsInL, AV.labsIn]
   done
  simp only [ys]
  refine AW.rT (by rfl) fun K hK => ?_
  simp -implicitDefEqProofs only [go_sem, ↓reduceIte, Nat.reduceAdd, Nat.reduceEqDiff, reduceCtorEq]
  apply hK; clear hK K
  refine AW.ghost (s' := se P ps b) ?_ (AW.ret (step_end rfl))
  simp only [se]
  refine Ghost.sub ?_ ?_ <;> simp -implicitDefEqProofs only [go_sem, ↓reduceIte, reduceCtorEq, List.forall_mem_cons, List.not_mem_nil, false_implies, implies_true, and_self, List.all_cons, List.all_nil, Nat.reduceLT, labsInL, AV.labsIn]
  done
 obtain ⟨x, hxj⟩ : ∃ x, q[j]? = some x := ⟨_, List.getElem?_eq_getElem hjl⟩
 obtain ⟨x1, x2, x3, x4⟩ := qx x (List.mem_of_getElem? hxj)
 have ⟨hx1, hx2, hx3⟩ := at_map' encV1 hxj
 have hc1 : ((j : Int) < (q.length : Int)) = True := eq_true (by omega)
 have VT := value_Tree x x1 x2
 have KJ := interp_kept (inV x)
 rw [encIn_inV] at KJ
 rw [encTr_eq] at VT
 have w1 : IntKind.wrap .i64 ((j : Int) + 1) = ((j + 1 : Nat) : Int) := by rw [w64] <;> omega
 have BN : IntKind.wrap .i64 (a + ((((q.take (j + 1)).map (lk1 P s)).sum : Nat) : Int)) = IntKind.wrap .i64 (IntKind.wrap .i64 (a + ((((q.take j).map (lk1 P s)).sum : Nat) : Int)) + ((lk1 P s x : Nat) : Int)) := by
  rw [wrap_nat, List.take_add_one, hxj]
  simp
 have wb : IntKind.wrap .i64 (IntKind.wrap .i64 (a + ((((q.take j).map (lk1 P s)).sum : Nat) : Int))) = IntKind.wrap .i64 (a + ((((q.take j).map (lk1 P s)).sum : Nat) : Int)) := wrap_wrap _
 generalize hb : IntKind.wrap .i64 (a + ((((q.take j).map (lk1 P s)).sum : Nat) : Int)) = b at BN wb
 simp only [ys, ysA]
 refine AW.rT (by rfl) fun K hK => ?_
 simp -implicitDefEqProofs only [go_sem, ↓reduceIte, Nat.reduceAdd, Nat.reduceEqDiff, reduceCtorEq, hc1]
 apply hK; clear hK K
 refine AW.seq ?_
 refine AW.cT rfl ?_
 refine AW.skip ?_
 simp only [andThen]
 refine AW.seq ?_
 refine AW.block ?_
 refine AW.rT (by rfl) fun K hK => ?_
 simp -implicitDefEqProofs only [go_sem, ↓reduceIte, Nat.reduceAdd, Nat.reduceEqDiff, Nat.reduceLeDiff, reduceCtorEq, hc1, hx1, hx3, encV1, List.length_map]
 refine ⟨encV_one x, ?_⟩
 apply hK; clear hK K
 have eo := encV_one x
 refine AW.rT (by rfl) fun K hK => ?_
 simp -implicitDefEqProofs only [go_sem, Nat.reduceAdd, Nat.reduceLeDiff]
 refine ⟨.pure _, VT, ?_⟩
 try simp -implicitDefEqProofs only [go_sem, ↓reduceIte, Nat.reduceAdd, Nat.reduceEqDiff, Nat.reduceLeDiff]
 apply hK; clear hK K
 generalize hQs : ((q.map (run1F P s)).take j).map encTr = Qs at *
 refine AW.ghost (s' := ys s P b (ysA q j ++ [(9, .ptr 3 0 0), (10, .ptr 4 0 0)]) [(2, .row 5 (liftE Qs)), (3, .row 1 [[.p (encV x)]]), (4, .row 5 [cellsT x])] 5) ?_ ?_
 ·simp only [ys, ysA, cellsT, List.cons_append, List.nil_append]
  refine Ghost.ent (fun l => if l = 3 then 6 else if l = 4 then 10 else l) ?_ ?_ ?_ <;> simp -implicitDefEqProofs only [go_sem, ↓reduceIte, Nat.reduceEqDiff, reduceCtorEq, List.forall_mem_cons, List.not_mem_nil, false_implies, implies_true, and_self, map_renL_lift, labsIn_lift, List.all_cons, List.all_nil, Nat.reduceLT, labsInL, AV.labsIn]
  all_goals first | rfl | skip
 refine AW.cut (fun _ : Unit => ys s P (IntKind.wrap .i64 (a + ((((q.take (j + 1)).map (lk1 P s)).sum : Nat) : Int))) (ysA q j ++ [(10, .ptr 4 0 0)]) [(2, .row 5 (liftE Qs)), (4, .row 5 [cellsT (run1F P s x)])] 5) (fun _ => sf = q.map (run1F P s) ∧ ko = true) ?_ fun _ hfin => ?_
 ·rw [BN]
  simp only [ys, ysA, cellsT, List.cons_append, List.nil_append]
  by_cases o1 : s.op = 1
  ·have e2 := beqf (show s.op ≠ 2 by omega)
   have e3 := beqf (show s.op ≠ 3 by omega)
   have e4 := beqf (show s.op ≠ 4 by omega)
   have LK : lk1 P s x = 0 := by unfold lk1; rw [if_neg (by omega)]
   have R1 : run1F P s x = x := by unfold run1F; rw [if_neg (by omega), if_neg (by omega)]
   have KT : ko = true := by rw [KO, if_neg (by omega), if_neg (by omega)]
   rw [LK, R1, show IntKind.wrap .i64 (b + ((0 : Nat) : Int)) = b by simpa using wb]
   generalize keptJ (inV x) = r at KJ
   refine AW.rT (by rfl) fun K hK => ?_
   simp -implicitDefEqProofs only [go_sem, ↓reduceIte, Nat.reduceAdd, Nat.reduceEqDiff, Nat.reduceLeDiff, reduceCtorEq]
   refine ⟨.pure _, KJ, ?_⟩
   try simp -implicitDefEqProofs only [go_sem, Nat.reduceAdd]
   apply hK; clear hK K
   refine AW.rT (by rfl) fun K hK => ?_
   simp -implicitDefEqProofs only [go_sem, ↓reduceIte, Nat.reduceAdd, Nat.reduceEqDiff, reduceCtorEq]
   apply hK; clear hK K
   refine AW.block ?_
   refine AW.rT (by rfl) fun K hK => ?_
   simp -implicitDefEqProofs only [go_sem, ↓reduceIte, Nat.reduceAdd, e2]
   apply hK; clear hK K
   refine AW.cF rfl ?_
   refine AW.seq ?_
   refine AW.rT (by rfl) fun K hK => ?_
   simp -implicitDefEqProofs only [go_sem, ↓reduceIte, Nat.reduceAdd, Nat.reduceEqDiff, e3]
   apply hK; clear hK K
   refine AW.cF rfl ?_
   refine AW.rE (by rfl) fun K hK => ?_
   simp -implicitDefEqProofs only [go_sem, ↓reduceIte, Nat.reduceAdd, Nat.reduceEqDiff, e4]
   apply hK; clear hK K
   simp only [andThen]
   refine AW.cF rfl ?_
   refine AW.skip ?_
   simp only [andThen, inBlk]
   refine ⟨(), ⟨by rw [SF, KT, if_neg (by simp), if_neg (by omega)], KT⟩, ?_⟩
   refine Ghost.sub ?_ ?_ <;> simp -implicitDefEqProofs only [go_sem, ↓reduceIte, Nat.reduceEqDiff, reduceCtorEq, List.forall_mem_cons, List.not_mem_nil, false_implies, implies_true, and_self, labsIn_lift, List.all_cons, List.all_nil, Nat.reduceLT, labsInL, AV.labsIn]
   done
  have kinds : x.kind = 1 ∨ x.kind = 2 ∨ x.kind = 3 := by
   rcases right_kinds x2 with ⟨k, _⟩ | ⟨k, _⟩ | ⟨k, _⟩ <;> omega
  have KJ2 : x.kind = 2 → keptJ (inV x) = .cst .nilIface := fun k => by unfold inV; rw [if_neg (by omega), if_pos k]; rfl
  have KJ1 : x.kind = 1 → keptJ (inV x) = .iface 3 (.int .i64 x.n) := fun k => by unfold inV; rw [if_pos k]; rfl
  have KJ3 : x.kind = 3 → keptJ (inV x) = .iface 71 (.box (ndV x) 0) := fun k => by unfold inV; rw [if_neg (by omega), if_neg (by omega)]; rfl
  by_cases o2 : s.op = 2
  ·have e2 := eqb o2
   have LK : lk1 P s x = 0 := by unfold lk1; rw [if_neg (by omega)]
   rw [LK, show IntKind.wrap .i64 (b + ((0 : Nat) : Int)) = b by simpa using wb]
   by_cases k1 : x.kind = 1
   ·have R1 : run1F P s x = clampT x := by unfold run1F; rw [if_pos o2]
    have KT : ko = true := by rw [KO, if_pos o2, decide_eq_true (by omega)]
    rw [KJ1 k1] at KJ
    have CC := project_Clamp x.n
    rw [R1]
    refine AW.rT (by rfl) fun K hK => ?_
    simp -implicitDefEqProofs only [go_sem, ↓reduceIte, Nat.reduceAdd, Nat.reduceEqDiff, Nat.reduceLeDiff, reduceCtorEq]
    refine ⟨.pure _, KJ, ?_⟩
    try simp -implicitDefEqProofs only [go_sem, Nat.reduceAdd]
    apply hK; clear hK K
    refine AW.rT (by rfl) fun K hK => ?_
    simp -implicitDefEqProofs only [go_sem, ↓reduceIte, Nat.reduceAdd, Nat.reduceEqDiff, reduceCtorEq]
    apply hK; clear hK K
    refine AW.block ?_
    refine AW.rT (by rfl) fun K hK => ?_
    simp -implicitDefEqProofs only [go_sem, ↓reduceIte, Nat.reduceAdd, e2]
    apply hK; clear hK K
    refine AW.cT rfl ?_
    refine AW.rT (by rfl) fun K hK => ?_
    simp -implicitDefEqProofs only [go_sem, ↓reduceIte, Nat.reduceAdd, Nat.reduceEqDiff]
    apply hK; clear hK K
    refine AW.seq ?_
    refine AW.rT (by rfl) fun K hK => ?_
    simp -implicitDefEqProofs only [go_sem, Nat.reduceAdd]
    apply hK; clear hK K
    refine AW.cF rfl ?_
    refine AW.skip ?_
    simp only [andThen]
    refine AW.rE (by rfl) fun K hK => ?_
    simp -implicitDefEqProofs only [go_sem, ↓reduceIte, Nat.reduceAdd, Nat.reduceEqDiff]
    refine ⟨.pure _, CC, ?_⟩
    try simp -implicitDefEqProofs only [go_sem, ↓reduceIte, Nat.reduceAdd, Nat.reduceEqDiff, Nat.reduceLeDiff, reduceCtorEq]
    apply hK; clear hK K
    simp only [andThen, inBlk]
    refine ⟨(), ⟨by rw [SF, KT, if_neg (by simp), if_neg (by omega)], KT⟩, ?_⟩
    simp only [clampT, Tr.kind, Tr.n, Tr.s, Tr.ents, Tr.rest]
    refine Ghost.sub ?_ ?_ <;> simp -implicitDefEqProofs only [go_sem, ↓reduceIte, Nat.reduceEqDiff, reduceCtorEq, List.forall_mem_cons, List.not_mem_nil, false_implies, implies_true, and_self, labsIn_lift, List.all_cons, List.all_nil, Nat.reduceLT, labsInL, AV.labsIn]
    done
   ·have KT : ko = false := by rw [KO, if_pos o2, decide_eq_false (by omega)]
    have S0 : sf = [] := by rw [SF, if_pos KT]
    have j0 : j = 0 := by
     rcases Nat.eq_zero_or_pos j with h | h
     ·exact h
     ·have := (hj2 h).2
      rw [KT] at this
      cases this
    have BA : b = IntKind.wrap .i64 (a + (lks : Int)) := by
     rw [LN KT, ← hb, j0]
     simp
    rw [S0, ← BA]
    rcases (show x.kind = 2 ∨ x.kind = 3 by omega) with k | k
    ·rw [KJ2 k] at KJ
     refine AW.rT (by rfl) fun K hK => ?_
     simp -implicitDefEqProofs only [go_sem, ↓reduceIte, Nat.reduceAdd, Nat.reduceEqDiff, Nat.reduceLeDiff, reduceCtorEq]
     refine ⟨.pure _, KJ, ?_⟩
     try simp -implicitDefEqProofs only [go_sem, Nat.reduceAdd]
     apply hK; clear hK K
     refine AW.rT (by rfl) fun K hK => ?_
     simp -implicitDefEqProofs only [go_sem, ↓reduceIte, Nat.reduceAdd, Nat.reduceEqDiff, reduceCtorEq]
     apply hK; clear hK K
     refine AW.block ?_
     refine AW.rT (by rfl) fun K hK => ?_
     simp -implicitDefEqProofs only [go_sem, ↓reduceIte, Nat.reduceAdd, e2]
     apply hK; clear hK K
     refine AW.cT rfl ?_
     refine AW.rT (by rfl) fun K hK => ?_
     simp -implicitDefEqProofs only [go_sem, ↓reduceIte, Nat.reduceAdd, Nat.reduceEqDiff]
     apply hK; clear hK K
     refine AW.seq ?_
     refine AW.rT (by rfl) fun K hK => ?_
     simp -implicitDefEqProofs only [go_sem, Nat.reduceAdd]
     apply hK; clear hK K
     refine AW.cT rfl ?_
     refine AW.rT (by rfl) fun K hK => ?_
     simp -implicitDefEqProofs only [go_sem, Nat.reduceAdd]
     apply hK; clear hK K
     refine AW.ghost (s' := se P [] b) (Ghost.trans (Ghost.exP (t := 6) (es := []) rfl) ?_) (AW.ret (step_end rfl))
     simp only [se, List.map_nil]
     refine Ghost.sub ?_ ?_ <;> simp -implicitDefEqProofs only [go_sem, ↓reduceIte, reduceCtorEq, List.forall_mem_cons, List.not_mem_nil, false_implies, implies_true, and_self, List.all_cons, List.all_nil, Nat.reduceLT, labsInL, AV.labsIn]
     done
    ·rw [KJ3 k] at KJ
     refine AW.rT (by rfl) fun K hK => ?_
     simp -implicitDefEqProofs only [go_sem, ↓reduceIte, Nat.reduceAdd, Nat.reduceEqDiff, Nat.reduceLeDiff, reduceCtorEq]
     refine ⟨.pure _, KJ, ?_⟩
     try simp -implicitDefEqProofs only [go_sem, Nat.reduceAdd]
     apply hK; clear hK K
     refine AW.rT (by rfl) fun K hK => ?_
     simp -implicitDefEqProofs only [go_sem, ↓reduceIte, Nat.reduceAdd, Nat.reduceEqDiff, reduceCtorEq]
     apply hK; clear hK K
     refine AW.block ?_
     refine AW.rT (by rfl) fun K hK => ?_
     simp -implicitDefEqProofs only [go_sem, ↓reduceIte, Nat.reduceAdd, e2]
     apply hK; clear hK K
     refine AW.cT rfl ?_
     refine AW.rT (by rfl) fun K hK => ?_
     simp -implicitDefEqProofs only [go_sem, ↓reduceIte, Nat.reduceAdd, Nat.reduceEqDiff]
     apply hK; clear hK K
     refine AW.seq ?_
     refine AW.rT (by rfl) fun K hK => ?_
     simp -implicitDefEqProofs only [go_sem, Nat.reduceAdd]
     apply hK; clear hK K
     refine AW.cT rfl ?_
     refine AW.rT (by rfl) fun K hK => ?_
     simp -implicitDefEqProofs only [go_sem, Nat.reduceAdd]
     apply hK; clear hK K
     refine AW.ghost (s' := se P [] b) (Ghost.trans (Ghost.exP (t := 6) (es := []) rfl) ?_) (AW.ret (step_end rfl))
     simp only [se, List.map_nil]
     refine Ghost.sub ?_ ?_ <;> simp -implicitDefEqProofs only [go_sem, ↓reduceIte, reduceCtorEq, List.forall_mem_cons, List.not_mem_nil, false_implies, implies_true, and_self, List.all_cons, List.all_nil, Nat.reduceLT, labsInL, AV.labsIn]
     done
  have e2 := beqf o2
  have o34 : s.op = 3 ∨ s.op = 4 := by omega
  obtain ⟨k, hsk, hkl⟩ := hsub o34
  have LK : lk1 P s x = lookF P x (k : Int) := by unfold lk1; rw [if_pos o34, hsk]
  have R1 : run1F P s x = runF P x (k : Int) := by unfold run1F; rw [if_neg o2, if_pos o34, hsk]
  by_cases k3 : x.kind = 3
  ·have KT : ko = true := by rw [KO, if_neg o2, if_pos o34, decide_eq_true (by omega)]
   rw [KJ3 k3] at KJ
   have PT := x4 k b hkl wb
   rw [LK, R1]
   rw [LK] at BN
   generalize hz : runF P x (k : Int) = z at PT R1
   generalize lookF P x (k : Int) = n at PT BN LK
   rw [encTr_eq, ← hsk] at PT
   refine AW.rT (by rfl) fun K hK => ?_
   simp -implicitDefEqProofs only [go_sem, ↓reduceIte, Nat.reduceAdd, Nat.reduceEqDiff, Nat.reduceLeDiff, reduceCtorEq]
   refine ⟨.pure _, KJ, ?_⟩
   try simp -implicitDefEqProofs only [go_sem, Nat.reduceAdd]
   apply hK; clear hK K
   refine AW.rT (by rfl) fun K hK => ?_
   simp -implicitDefEqProofs only [go_sem, ↓reduceIte, Nat.reduceAdd, Nat.reduceEqDiff, reduceCtorEq]
   apply hK; clear hK K
   refine AW.block ?_
   refine AW.rT (by rfl) fun K hK => ?_
   simp -implicitDefEqProofs only [go_sem, ↓reduceIte, Nat.reduceAdd, e2]
   apply hK; clear hK K
   refine AW.cF rfl ?_
   refine AW.cut (fun _ : Unit => ys s P b (ysA q j ++ [(10, .ptr 4 0 0), (11, .p (.iface 71 (.box (ndV x) 0))), (48, .p (.bool true))]) [(2, .row 5 (liftE Qs)), (4, .row 5 [cellsT x])] 5) (fun _ => True) ?_ fun _ _ => ?_
   ·by_cases o3 : s.op = 3
    ·have e3 := eqb o3
     refine AW.rT (by rfl) fun K hK => ?_
     simp -implicitDefEqProofs only [go_sem, ↓reduceIte, Nat.reduceAdd, Nat.reduceEqDiff, e3]
     apply hK; clear hK K
     refine AW.cT rfl ?_
     refine AW.skip ?_
     simp only [andThen]
     refine ⟨(), trivial, ?_⟩
     simp only [ys, ysA, cellsT, List.cons_append, List.nil_append]
     refine Ghost.sub ?_ ?_ <;> simp -implicitDefEqProofs only [go_sem, ↓reduceIte, Nat.reduceEqDiff, reduceCtorEq, List.forall_mem_cons, List.not_mem_nil, false_implies, implies_true, and_self, labsIn_lift, List.all_cons, List.all_nil, Nat.reduceLT, labsInL, AV.labsIn]
     done
    ·have e3 := beqf o3
     have e4 := eqb (show s.op = 4 by omega)
     refine AW.rT (by rfl) fun K hK => ?_
     simp -implicitDefEqProofs only [go_sem, ↓reduceIte, Nat.reduceAdd, Nat.reduceEqDiff, e3]
     apply hK; clear hK K
     refine AW.cF rfl ?_
     refine AW.rE (by rfl) fun K hK => ?_
     simp -implicitDefEqProofs only [go_sem, ↓reduceIte, Nat.reduceAdd, Nat.reduceEqDiff, e4]
     apply hK; clear hK K
     simp only [andThen]
     refine ⟨(), trivial, ?_⟩
     simp only [ys, ysA, cellsT, List.cons_append, List.nil_append]
     refine Ghost.sub ?_ ?_ <;> simp -implicitDefEqProofs only [go_sem, ↓reduceIte, Nat.reduceEqDiff, reduceCtorEq, List.forall_mem_cons, List.not_mem_nil, false_implies, implies_true, and_self, labsIn_lift, List.all_cons, List.all_nil, Nat.reduceLT, labsInL, AV.labsIn]
     done
   simp only [ys, ysA, cellsT, List.cons_append, List.nil_append]
   refine AW.cT rfl ?_
   refine AW.rT (by rfl) fun K hK => ?_
   simp -implicitDefEqProofs only [go_sem, ↓reduceIte, Nat.reduceAdd, Nat.reduceEqDiff, reduceCtorEq]
   apply hK; clear hK K
   refine AW.seq ?_
   refine AW.rT (by rfl) fun K hK => ?_
   simp -implicitDefEqProofs only [go_sem, Nat.reduceAdd]
   apply hK; clear hK K
   refine AW.cF rfl ?_
   refine AW.skip ?_
   simp only [andThen]
   refine AW.rR (SeqR.ev 4 (by rfl) (by decide) ?_)
   simp -implicitDefEqProofs only [go_sem, ↓reduceIte, Nat.reduceAdd, Nat.reduceEqDiff, reduceCtorEq]
   refine SeqR.call (fun k => k) rfl rfl PT ⟨?_, rfl, ?_, rfl, rfl, rfl, rfl, rfl, rfl⟩ ?_
   ·simp -implicitDefEqProofs only [go_sem, ↓reduceIte, Nat.reduceEqDiff, argD]
   ·simp only [memR]
    simp -implicitDefEqProofs only [go_sem, ↓reduceIte, List.forall_mem_cons, List.not_mem_nil, false_implies, implies_true]
    first | done | decide
   simp only [memR, AV.ren]
   refine SeqR.ev 1 (by rfl) (by decide) ?_
   simp -implicitDefEqProofs only [go_sem, ↓reduceIte, Nat.reduceAdd, Nat.reduceEqDiff, Nat.reduceLeDiff, reduceCtorEq, lift2, goneU, newU, List.map_cons, List.map_nil, putH, Nat.reduceLT]
   refine SeqR.last rfl ?_
   refine AW.ghost (s' := ys s P (IntKind.wrap .i64 (b + (n : Int))) (ysA q j ++ [(10, .ptr 4 0 0)]) [(2, .row 5 (liftE Qs)), (4, .row 5 [cellsT z])] 5) ?_ ?_
   ·simp only [ys, ysA, cellsT, List.cons_append, List.nil_append]
    refine Ghost.sub ?_ ?_ <;> simp -implicitDefEqProofs only [go_sem, ↓reduceIte, Nat.reduceEqDiff, reduceCtorEq, List.forall_mem_cons, List.not_mem_nil, false_implies, implies_true, and_self, labsIn_lift, List.all_cons, List.all_nil, Nat.reduceLT, labsInL, AV.labsIn]
    done
   simp only [ys, ysA, cellsT, List.cons_append, List.nil_append]
   by_cases o4 : s.op = 4
   ·have e4 := eqb o4
    have ql := sl3 o4
    have j0 : j = 0 := by omega
    have qq : q = [x] := by
     have : q.length = 1 := by omega
     match q, this, hxj with
     | [y], _, hxj =>
      rw [j0] at hxj
      injection hxj with h
      rw [h]
    have AN : ((q.map (run1F P s)).any fun y => y.ents.isEmpty) = z.ents.isEmpty := by
     rw [qq, List.map_cons, List.map_nil, R1]
     simp
    have zl : ((z.ents.length : Int) == 0) = z.ents.isEmpty := by
     cases z.ents with
     | nil => rfl
     | cons y l => simp; omega
    rw [AN] at SF
    cases hem : z.ents.isEmpty with
    | true =>
     have S0 : sf = [] := by rw [SF, KT, if_neg (by simp), if_pos ⟨o4, hem⟩]
     have BA : IntKind.wrap .i64 (b + (n : Int)) = IntKind.wrap .i64 (a + (lks : Int)) := by
      rw [LY KT, ← BN, j0]
      rw [qq]
      rfl
     rw [S0, ← BA]
     rw [hem] at zl
     refine AW.rT (by rfl) fun K hK => ?_
     simp -implicitDefEqProofs only [go_sem, ↓reduceIte, Nat.reduceAdd, Nat.reduceEqDiff, reduceCtorEq, e4, List.length_map, zl]
     apply hK; clear hK K
     refine AW.cT rfl ?_
     refine AW.rT (by rfl) fun K hK => ?_
     simp -implicitDefEqProofs only [go_sem, Nat.reduceAdd]
     apply hK; clear hK K
     refine AW.ghost (s' := se P [] (IntKind.wrap .i64 (b + (n : Int)))) (Ghost.trans (Ghost.exP (t := 6) (es := []) rfl) ?_) (AW.ret (step_end rfl))
     simp only [se, List.map_nil]
     refine Ghost.sub ?_ ?_ <;> simp -implicitDefEqProofs only [go_sem, ↓reduceIte, reduceCtorEq, List.forall_mem_cons, List.not_mem_nil, false_implies, implies_true, and_self, List.all_cons, List.all_nil, Nat.reduceLT, labsInL, AV.labsIn]
     done
    | false =>
     rw [hem] at zl
     refine AW.rT (by rfl) fun K hK => ?_
     simp -implicitDefEqProofs only [go_sem, ↓reduceIte, Nat.reduceAdd, Nat.reduceEqDiff, reduceCtorEq, e4, List.length_map, zl]
     apply hK; clear hK K
     refine AW.cF rfl ?_
     refine AW.skip ?_
     simp only [andThen, inBlk]
     refine ⟨(), ⟨by rw [SF, KT, if_neg (by simp), if_neg (by simp [hem])], KT⟩, ?_⟩
     show Ghost _ _ (ys s P (IntKind.wrap .i64 (b + (n : Int))) (ysA q j ++ [(10, .ptr 4 0 0)]) [(2, .row 5 (liftE Qs)), (4, .row 5 [cellsT z])] 5)
     simp only [ys, ysA, cellsT, List.cons_append, List.nil_append]
     refine Ghost.sub ?_ ?_ <;> simp -implicitDefEqProofs only [go_sem, ↓reduceIte, Nat.reduceEqDiff, reduceCtorEq, List.forall_mem_cons, List.not_mem_nil, false_implies, implies_true, and_self, labsIn_lift, List.all_cons, List.all_nil, Nat.reduceLT, labsInL, AV.labsIn]
     done
   ·have e4 := beqf o4
    refine AW.rT (by rfl) fun K hK => ?_
    simp -implicitDefEqProofs only [go_sem, ↓reduceIte, Nat.reduceAdd, Nat.reduceEqDiff, reduceCtorEq, e4]
    apply hK; clear hK K
    refine AW.cF rfl ?_
    refine AW.skip ?_
    simp only [andThen, inBlk]
    refine ⟨(), ⟨by rw [SF, KT, if_neg (by simp), if_neg (by simp [o4])], KT⟩, ?_⟩
    show Ghost _ _ (ys s P (IntKind.wrap .i64 (b + (n : Int))) (ysA q j ++ [(10, .ptr 4 0 0)]) [(2, .row 5 (liftE Qs)), (4, .row 5 [cellsT z])] 5)
    simp only [ys, ysA, cellsT, List.cons_append, List.nil_append]
    refine Ghost.sub ?_ ?_ <;> simp -implicitDefEqProofs only [go_sem, ↓reduceIte, Nat.reduceEqDiff, reduceCtorEq, List.forall_mem_cons, List.not_mem_nil, false_implies, implies_true, and_self, labsIn_lift, List.all_cons, List.all_nil, Nat.reduceLT, labsInL, AV.labsIn]
    done
  ·have KT : ko = false := by rw [KO, if_neg o2, if_pos o34, decide_eq_false (by omega)]
   have S0 : sf = [] := by rw [SF, if_pos KT]
   have j0 : j = 0 := by
    rcases Nat.eq_zero_or_pos j with h | h
    ·exact h
    ·have := (hj2 h).2
     rw [KT] at this
     cases this
   have BA : b = IntKind.wrap .i64 (a + (lks : Int)) := by
    rw [LN KT, ← hb, j0]
    simp
   rw [S0, ← BA]
   rcases (show x.kind = 1 ∨ x.kind = 2 by omega) with k' | k'
   ·rw [KJ1 k'] at KJ
    refine AW.rT (by rfl) fun K hK => ?_
    simp -implicitDefEqProofs only [go_sem, ↓reduceIte, Nat.reduceAdd, Nat.reduceEqDiff, Nat.reduceLeDiff, reduceCtorEq]
    refine ⟨.pure _, KJ, ?_⟩
    try simp -implicitDefEqProofs only [go_sem, Nat.reduceAdd]
    apply hK; clear hK K
    refine AW.rT (by rfl) fun K hK => ?_
    simp -implicitDefEqProofs only [go_sem, ↓reduceIte, Nat.reduceAdd, Nat.reduceEqDiff, reduceCtorEq]
    apply hK; clear hK K
    refine AW.block ?_
    refine AW.rT (by rfl) fun K hK => ?_
    simp -implicitDefEqProofs only [go_sem, ↓reduceIte, Nat.reduceAdd, e2]
    apply hK; clear hK K
    refine AW.cF rfl ?_
    refine AW.cut (fun _ : Unit => ys s P b (ysA q j ++ [(11, .p (.iface 3 (.int .i64 x.n))), (48, .p (.bool true))]) [] 5) (fun _ => True) ?_ fun _ _ => ?_
    ·by_cases o3 : s.op = 3
     ·have e3 := eqb o3
      refine AW.rT (by rfl) fun K hK => ?_
      simp -implicitDefEqProofs only [go_sem, ↓reduceIte, Nat.reduceAdd, Nat.reduceEqDiff, e3]
      apply hK; clear hK K
      refine AW.cT rfl ?_
      refine AW.skip ?_
      simp only [andThen]
      refine ⟨(), trivial, ?_⟩
      simp only [ys, ysA, List.cons_append, List.nil_append]
      refine Ghost.sub ?_ ?_ <;> simp -implicitDefEqProofs only [go_sem, ↓reduceIte, Nat.reduceEqDiff, reduceCtorEq, List.forall_mem_cons, List.not_mem_nil, false_implies, implies_true, and_self, List.all_cons, List.all_nil, Nat.reduceLT, labsInL, AV.labsIn]
      done
     ·have e3 := beqf o3
      have e4 := eqb (show s.op = 4 by omega)
      refine AW.rT (by rfl) fun K hK => ?_
      simp -implicitDefEqProofs only [go_sem, ↓reduceIte, Nat.reduceAdd, Nat.reduceEqDiff, e3]
      apply hK; clear hK K
      refine AW.cF rfl ?_
      refine AW.rE (by rfl) fun K hK => ?_
      simp -implicitDefEqProofs only [go_sem, ↓reduceIte, Nat.reduceAdd, Nat.reduceEqDiff, e4]
      apply hK; clear hK K
      simp only [andThen]
      refine ⟨(), trivial, ?_⟩
      simp only [ys, ysA, List.cons_append, List.nil_append]
      refine Ghost.sub ?_ ?_ <;> simp -implicitDefEqProofs only [go_sem, ↓reduceIte, Nat.reduceEqDiff, reduceCtorEq, List.forall_mem_cons, List.not_mem_nil, false_implies, implies_true, and_self, List.all_cons, List.all_nil, Nat.reduceLT, labsInL, AV.labsIn]
      done
    simp only [ys, ysA, List.cons_append, List.nil_append]
    refine AW.cT rfl ?_
    refine AW.rT (by rfl) fun K hK => ?_
    simp -implicitDefEqProofs only [go_sem, ↓reduceIte, Nat.reduceAdd, Nat.reduceEqDiff, reduceCtorEq]
    apply hK; clear hK K
    refine AW.seq ?_
    refine AW.rT (by rfl) fun K hK => ?_
    simp -implicitDefEqProofs only [go_sem, Nat.reduceAdd]
    apply hK; clear hK K
    refine AW.cT rfl ?_
    refine AW.rT (by rfl) fun K hK => ?_
    simp -implicitDefEqProofs only [go_sem, Nat.reduceAdd]
    apply hK; clear hK K
    refine AW.ghost (s' := se P [] b) (Ghost.trans (Ghost.exP (t := 6) (es := []) rfl) ?_) (AW.ret (step_end rfl))
    simp only [se, List.map_nil]
    refine Ghost.sub ?_ ?_ <;> simp -implicitDefEqProofs only [go_sem, ↓reduceIte, reduceCtorEq, List.forall_mem_cons, List.not_mem_nil, false_implies, implies_true, and_self, List.all_cons, List.all_nil, Nat.reduceLT, labsInL, AV.labsIn]
    done
   ·rw [KJ2 k'] at KJ
    refine AW.rT (by rfl) fun K hK => ?_
    simp -implicitDefEqProofs only [go_sem, ↓reduceIte, Nat.reduceAdd, Nat.reduceEqDiff, Nat.reduceLeDiff, reduceCtorEq]
    refine ⟨.pure _, KJ, ?_⟩
    try simp -implicitDefEqProofs only [go_sem, Nat.reduceAdd]
    apply hK; clear hK K
    refine AW.rT (by rfl) fun K hK => ?_
    simp -implicitDefEqProofs only [go_sem, ↓reduceIte, Nat.reduceAdd, Nat.reduceEqDiff, reduceCtorEq]
    apply hK; clear hK K
    refine AW.block ?_
    refine AW.rT (by rfl) fun K hK => ?_
    simp -implicitDefEqProofs only [go_sem, ↓reduceIte, Nat.reduceAdd, e2]
    apply hK; clear hK K
    refine AW.cF rfl ?_
    refine AW.cut (fun _ : Unit => ys s P b (ysA q j ++ [(11, .p (.cst .nilIface)), (48, .p (.bool true))]) [] 5) (fun _ => True) ?_ fun _ _ => ?_
    ·by_cases o3 : s.op = 3
     ·have e3 := eqb o3
      refine AW.rT (by rfl) fun K hK => ?_
      simp -implicitDefEqProofs only [go_sem, ↓reduceIte, Nat.reduceAdd, Nat.reduceEqDiff, e3]
      apply hK; clear hK K
      refine AW.cT rfl ?_
      refine AW.skip ?_
      simp only [andThen]
      refine ⟨(), trivial, ?_⟩
      simp only [ys, ysA, List.cons_append, List.nil_append]
      refine Ghost.sub ?_ ?_ <;> simp -implicitDefEqProofs only [go_sem, ↓reduceIte, Nat.reduceEqDiff, reduceCtorEq, List.forall_mem_cons, List.not_mem_nil, false_implies, implies_true, and_self, List.all_cons, List.all_nil, Nat.reduceLT, labsInL, AV.labsIn]
      done
     ·have e3 := beqf o3
      have e4 := eqb (show s.op = 4 by omega)
      refine AW.rT (by rfl) fun K hK => ?_
      simp -implicitDefEqProofs only [go_sem, ↓reduceIte, Nat.reduceAdd, Nat.reduceEqDiff, e3]
      apply hK; clear hK K
      refine AW.cF rfl ?_
      refine AW.rE (by rfl) fun K hK => ?_
      simp -implicitDefEqProofs only [go_sem, ↓reduceIte, Nat.reduceAdd, Nat.reduceEqDiff, e4]
      apply hK; clear hK K
      simp only [andThen]
      refine ⟨(), trivial, ?_⟩
      simp only [ys, ysA, List.cons_append, List.nil_append]
      refine Ghost.sub ?_ ?_ <;> simp -implicitDefEqProofs only [go_sem, ↓reduceIte, Nat.reduceEqDiff, reduceCtorEq, List.forall_mem_cons, List.not_mem_nil, false_implies, implies_true, and_self, List.all_cons, List.all_nil, Nat.reduceLT, labsInL, AV.labsIn]
      done
    simp only [ys, ysA, List.cons_append, List.nil_append]
    refine AW.cT rfl ?_
    refine AW.rT (by rfl) fun K hK => ?_
    simp -implicitDefEqProofs only [go_sem, ↓reduceIte, Nat.reduceAdd, Nat.reduceEqDiff, reduceCtorEq]
    apply hK; clear hK K
    refine AW.seq ?_
    refine AW.rT (by rfl) fun K hK => ?_
    simp -implicitDefEqProofs only [go_sem, Nat.reduceAdd]
    apply hK; clear hK K
    refine AW.cT rfl ?_
    refine AW.rT (by rfl) fun K hK => ?_
    simp -implicitDefEqProofs only [go_sem, Nat.reduceAdd]
    apply hK; clear hK K
    refine AW.ghost (s' := se P [] b) (Ghost.trans (Ghost.exP (t := 6) (es := []) rfl) ?_) (AW.ret (step_end rfl))
    simp only [se, List.map_nil]
    refine Ghost.sub ?_ ?_ <;> simp -implicitDefEqProofs only [go_sem, ↓reduceIte, reduceCtorEq, List.forall_mem_cons, List.not_mem_nil, false_implies, implies_true, and_self, List.all_cons, List.all_nil, Nat.reduceLT, labsInL, AV.labsIn]
    done
 obtain ⟨hf1, hf2⟩ := hfin
 have e7 : liftE Qs ++ [cellsT (run1F P s x)] = liftE (((q.map (run1F P s)).take (j + 1)).map encTr) := by
  rw [List.take_add_one, map_at hxj, ← hQs]
  simp [liftE, encTr_eq, cellsT]
 have rlen : (liftE Qs).length ≤ j := by rw [liftE_length, ← hQs, List.length_map, List.length_take]; omega
 generalize run1F P s x = z at e7
 generalize hb' : IntKind.wrap .i64 (a + ((((q.take (j + 1)).map (lk1 P s)).sum : Nat) : Int)) = b' at *
 simp only [cellsT] at e7
 simp only [ys, ysA, cellsT, List.cons_append, List.nil_append]
 refine AW.rE (by rfl) fun K hK => ?_
 simp -implicitDefEqProofs only [go_sem, ↓reduceIte, Nat.reduceAdd, Nat.reduceMul, Nat.reduceEqDiff, Nat.reduceLeDiff, reduceCtorEq]
 refine ⟨⟨by simp, by simp [oneAll, AV.one, PV.one], by simp⟩, by omega, ?_⟩
 try simp -implicitDefEqProofs only [go_sem, ↓reduceIte, Nat.reduceAdd, Nat.reduceMul, Nat.reduceEqDiff, Nat.reduceLeDiff, reduceCtorEq, Int.reduceToNat]
 apply hK; clear hK K
 simp only [andThen, inBlk]
 refine AW.rE (by rfl) fun K hK => ?_
 simp -implicitDefEqProofs only [go_sem, ↓reduceIte, Nat.reduceAdd, Nat.reduceEqDiff, reduceCtorEq, w1]
 apply hK; clear hK K
 refine ⟨j + 1, ⟨by omega, fun _ => ⟨hf1, hf2⟩⟩, by omega, ?_⟩
 show Ghost _ _ (ys s P (IntKind.wrap .i64 (a + ((((q.take (j + 1)).map (lk1 P s)).sum : Nat) : Int))) (ysA q (j + 1)) [(2, .row 5 (liftE (((q.map (run1F P s)).take (j + 1)).map encTr)))] 3)
 rw [hb', ← e7]
 simp only [ys, ysA]
 refine Ghost.ent (fun l => if l = 2 then 8 else l) ?_ ?_ ?_ <;> simp -implicitDefEqProofs only [go_sem, ↓reduceIte, Nat.reduceEqDiff, reduceCtorEq, List.forall_mem_cons, List.not_mem_nil, false_implies, implies_true, and_self, map_renL_lift, labsIn_lift, List.all_append, List.all_cons, List.all_nil, List.map_append, Nat.reduceLT, labsInL, AV.labsIn]
 all_goals first | rfl | skip
end Go.Aw.T
namespace Go.Aw.T
open Go.Proofs Go.RowKit
theorem lookS_nil (P : List (List Stp)) (s : Stp) : lookS P s [] = 0 := by
 unfold lookS lastL
 split
 ·split <;> rfl
 ·rfl
theorem stepF_none (P : List (List Stp)) (s : Stp) : stepF P s [] = [] := by
 have h1 : kindOK s [] = true := by
  unfold kindOK
  split
  ·rfl
  ·split <;> rfl
 have h2 : lastL s ([] : List Tr) = [] := by
  unfold lastL
  split <;> rfl
 unfold stepF
 rw [h1, h2, if_neg (by simp), if_neg (by simp)]
 rfl
theorem rightTs_kind : ∀ {l : List Tr} {c : Int}, rightTs l c = true → ∀ x ∈ l, x.kind = c ∧ rightT x = true
 | [], c, _, x, hx => by cases hx
 | y :: l, c, h, x, hx => by
  rw [rightTs] at h
  split at h
  ·cases h
  rename_i h1
  split at h
  ·rename_i h2
   rcases List.mem_cons.1 hx with rfl | hx
   ·exact ⟨by simpa using h1, h2⟩
   ·exact rightTs_kind h x hx
  ·cases h
theorem rightE_in : ∀ {es : List (Int × List Tr)} {last : Int}, rightE es last = true → ∀ e ∈ es, 1 ≤ e.2.length ∧ e.2.length ≤ 64 ∧ ∀ x ∈ e.2, x.kind = headK e.2 ∧ rightT x = true
 | [], _, _, e, he => by cases he
 | (g, l) :: es, last, h, e, he => by
  rw [rightE] at h
  split at h
  ·cases h
  rename_i h1
  split at h
  ·rename_i h2
   rcases List.mem_cons.1 he with rfl | he
   ·exact ⟨by simp only; omega, by simp only; omega, rightTs_kind h2⟩
   ·exact rightE_in h e he
  ·cases h
theorem getE_G (es : List (Int × List Tr)) (g : Int) : getE es g = getG es g := by
 unfold getE getG
 cases es.find? (fun e => e.1 == g) <;> rfl
theorem prog_step {P : List (List Stp)} (h : progB P = true) {x : List Stp} (hx : x ∈ P) {s : Stp} (hs : s ∈ x) : 1 ≤ s.op ∧ s.op ≤ 4 ∧ (s.op = 3 ∨ s.op = 4 → ∃ k : Nat, s.sub = (k : Int) ∧ k < P.length) := by
 unfold progB at h
 rw [Bool.and_eq_true, List.all_eq_true] at h
 have q := h.2 x hx
 have go : ∀ (l : List Stp) (last : Int), partB P.length last l = true → s ∈ l → ∃ la, stOK P.length la s = true := by
  intro l
  induction l with
  | nil => intro _ _ hh; cases hh
  | cons y l ih =>
   intro last hp hm
   rw [partB, Bool.and_eq_true] at hp
   rcases List.mem_cons.1 hm with rfl | hm
   ·exact ⟨last, hp.1⟩
   ·exact ih _ hp.2 hm
 obtain ⟨la, hl⟩ := go x 0 q hs
 unfold stOK at hl
 simp only [Bool.and_eq_true, Bool.or_eq_true, decide_eq_true_eq, beq_iff_eq] at hl
 obtain ⟨_, hl⟩ := hl
 refine ⟨by omega, by omega, fun h34 => ?_⟩
 have : 0 ≤ s.sub ∧ s.sub < (P.length : Int) := by
  rcases hl with ⟨a, _⟩ | ⟨_, a⟩
  ·omega
  ·exact a
 exact ⟨s.sub.toNat, by omega, by omega⟩
theorem part_len {n : Nat} : ∀ {l : List Stp} {last : Int}, partB n last l = true → last ≤ 500 → last + l.length ≤ 500
 | [], last, _, h => by simpa using h
 | s :: l, last, hp, h => by
  rw [partB, Bool.and_eq_true] at hp
  have q := hp.1
  unfold stOK at q
  rw [Bool.and_eq_true, decide_eq_true_eq] at q
  have := part_len hp.2 (by omega)
  rw [List.length_cons]
  push_cast
  omega
theorem prog_len {P : List (List Stp)} (h : progB P = true) {x : List Stp} (hx : x ∈ P) : x.length ≤ 500 := by
 unfold progB at h
 rw [Bool.and_eq_true, List.all_eq_true] at h
 have := part_len (h.2 x hx) (by omega)
 omega
def outP (P : List (List Stp)) (t : Tr) (x : List Stp) (k : Nat) : List (Int × List Tr) := (x.take k).flatMap (entF P t.ents)
def sumP (P : List (List Stp)) (t : Tr) (x : List Stp) (k : Nat) : Nat := ((x.take k).map fun s => 1 + lookS P s (getG t.ents s.tag)).sum
theorem outP_at {P : List (List Stp)} {t : Tr} {x : List Stp} {k : Nat} {s : Stp} (h : x[k]? = some s) : outP P t x (k + 1) = outP P t x k ++ entF P t.ents s := by
 unfold outP
 rw [List.take_add_one, h, List.flatMap_append]
 simp
theorem sumP_at {P : List (List Stp)} {t : Tr} {x : List Stp} {k : Nat} {s : Stp} (h : x[k]? = some s) : sumP P t x (k + 1) = sumP P t x k + (1 + lookS P s (getG t.ents s.tag)) := by
 unfold sumP
 rw [List.take_add_one, h, List.map_append, List.sum_append]
 simp
theorem outP_len (P : List (List Stp)) (t : Tr) (x : List Stp) (k : Nat) : (outP P t x k).length ≤ k := by
 unfold outP
 have : ∀ l : List Stp, (l.flatMap (entF P t.ents)).length ≤ l.length := fun l => by
  induction l with
  | nil => simp
  | cons s l ih =>
   rw [List.flatMap_cons, List.length_append, List.length_cons]
   have : (entF P t.ents s).length ≤ 1 := by
    unfold entF
    split <;> simp
   omega
 have := this (x.take k)
 rw [List.length_take] at this
 omega
def ype (P : List (List Stp)) (r : Tr) (b : Int) : St := ⟨ofL [(0, .ptr 0 0 0), (6, .ptr 1 0 0)], ofH [(0, .row 2 [[.p (.slice (P.map encPt)), .p (.int .i64 b)]]), (1, .row 5 [cellsT r])], 2⟩
theorem part_end {P : List (List Stp)} {args : List AV} {r : Tr} {a b : Int} (h : args[0]? = some (.ptr 0 0 0)) : EndD Try.prog #[ResultVar.cell 6 26] args (memR P a) 1 [0] (.p (.agg (encTr r))) (memR P b) 0 [0] .ret (ype P r b) := by
 refine ⟨fun k => k, [.p (.agg (encTr r))], ⟨?_, trivial⟩, rfl, rfl, ?_, ?_, ?_⟩
 ·simp only [ype, cellsT, encTr_eq]
  simp -implicitDefEqProofs only [go_sem, ↓reduceIte, Nat.reduceAdd, Nat.reduceLeDiff, reduceCtorEq]
  done
 ·simp only [memR, ype]
  simp -implicitDefEqProofs only [go_sem, ↓reduceIte, List.forall_mem_cons, List.not_mem_nil, false_implies, implies_true]
  first | done | decide
 ·simp [memR]
 ·exact mem_root h rfl
def yp (P : List (List Stp)) (t : Tr) (x : List Stp) (k : Nat) (es : List (Int × List Tr)) (b : Int) (L : List (Nat × AV)) (H : List (Nat × Blk)) (n : Nat) : St :=
 ⟨ofL ((0, .ptr 0 0 0) :: (2, .p (.box (ndV t) 0)) :: (6, .ptr 1 0 0) :: (7, .ptr 2 0 0) :: (20, .p (.slice (x.map encSt))) :: (21, .p (.int .i64 (x.length : Int))) :: (22, .p (.int .i64 (k : Int))) :: L),
 ofH ((0, .row 2 [[.p (.slice (P.map encPt)), .p (.int .i64 b)]]) :: (1, .row 5 [[.p (.int .i64 0), .p (.int .i64 0), .p (.str []), .ex [], .ex []]]) :: (2, .row 5 [[.p (.int .i64 3), .p (.int .i64 0), .p (.str []), .own 3, .ex []]]) :: (3, .row 2 (liftE (es.map encEn))) :: H), n⟩
def ypw (P : List (List Stp)) (es : List (Int × List Tr)) (b : Int) : St := ⟨ofL [(0, .ptr 0 0 0), (6, .ptr 1 0 0), (7, .ptr 2 0 0)], ofH [(0, .row 2 [[.p (.slice (P.map encPt)), .p (.int .i64 b)]]), (1, .row 5 [[.p (.int .i64 0), .p (.int .i64 0), .p (.str []), .ex [], .ex []]]), (2, .row 5 [[.p (.int .i64 3), .p (.int .i64 0), .p (.str []), .p (.slice (es.map encEn)), .p (.slice [])]])], 3⟩
theorem interp_part (P : List (List Stp)) (hP : progB P = true) : ∀ (t : Tr), lensT t = true → rightT t = true → PartOK P t := by
 intro t
 induction h : SizeOf.sizeOf t using Nat.strongRecOn generalizing t with
 | _ sz ih =>
 subst h
 intro hlt hrt i a hi ha
 obtain ⟨x, hx⟩ : ∃ x, P[i]? = some x := ⟨_, List.getElem?_eq_getElem hi⟩
 have hxm := List.mem_of_getElem? hx
 have hPO : partO P (i : Int) = x := by
  unfold partO
  rw [Int.toNat_natCast, List.getD_eq_getElem?_getD, hx]
  rfl
 have RF : runF P t (i : Int) = .mk 3 0 [] (outP P t x x.length) [] := by
  rw [runF_eq, hPO]
  unfold outP
  rw [List.take_length]
 have LF : lookF P t (i : Int) = sumP P t x x.length := by
  rw [lookF_eq, hPO]
  unfold sumP
  rw [List.take_length]
 rw [RF, LF]
 have hre : rightE t.ents 0 = true := by
  rcases right_kinds hrt with ⟨_, q⟩ | ⟨_, q⟩ | ⟨_, _, _, q, _⟩
  ·rw [q]
   show rightE [] 0 = true
   rw [rightE]
  ·rw [q]
   show rightE [] 0 = true
   rw [rightE]
  ·exact q
 obtain ⟨la1, la2, la3⟩ := lensT_mk hlt
 have OL := outP_len P t x
 have x500 := prog_len hP hxm
 refine DFn.of [0] Try.func24 rfl (by decide) Try.ntmps24 Try.results24 (Nat.le_of_ble_eq_true rfl) (by simp) fun val => ?_
 simp only [avT, memR]
 have ⟨hx1, hx2, hx3⟩ := at_map' encPt hx
 refine AW.rT (by rfl) fun K hK => ?_
 simp -implicitDefEqProofs only [go_sem, Nat.reduceAdd]
 apply hK; clear hK K
 refine AW.rT (by rfl) fun K hK => ?_
 simp -implicitDefEqProofs only [go_sem, ↓reduceIte, Nat.reduceAdd, Nat.reduceEqDiff, Nat.reduceLeDiff]
 apply hK; clear hK K
 refine AW.seq ?_
 have hi' : (i : Int) < (P.length : Int) := by omega
 refine AW.rT (by rfl) fun K hK => ?_
 simp -implicitDefEqProofs only [go_sem, ↓reduceIte, Nat.reduceAdd, Nat.reduceEqDiff, reduceCtorEq, hx1, hi', hx3, encPt, List.length_map]
 apply hK; clear hK K
 refine AW.block ?_
 refine AW.loop (fun k : Nat => yp P t x k (outP P t x k) (IntKind.wrap .i64 (a + (sumP P t x k : Nat))) [] [] 4) (fun k => k ≤ x.length) (fun k => x.length - k) 0 ?_ (by simp) fun k hk => ?_
 ·refine Ghost.trans (Ghost.nilH (l := 3) (i := 0) (j := 3) (sz' := 2) rfl rfl rfl) ?_
  rw [show IntKind.wrap .i64 (a + ((sumP P t x 0 : Nat) : Int)) = a by unfold sumP; simpa using ha, show outP P t x 0 = [] from rfl]
  simp only [yp]
  refine Ghost.ent (fun l => if l = 2 then 3 else if l = 3 then 15 else l) ?_ ?_ ?_ <;> simp -implicitDefEqProofs only [go_sem, ↓reduceIte, Nat.reduceEqDiff, reduceCtorEq, List.map_nil, liftE_nil, List.set_cons_zero, List.set_cons_succ, List.forall_mem_cons, List.not_mem_nil, false_implies, implies_true, and_self, List.all_cons, List.all_nil, Nat.reduceLT, labsInL, AV.labsIn]
  all_goals first | rfl | skip
 by_cases hkl : k < x.length
 case neg =>
  have hk' : k = x.length := by omega
  subst hk'
  generalize outP P t x x.length = es
  generalize IntKind.wrap .i64 (a + ((sumP P t x x.length : Nat) : Int)) = b
  have hc1 : ((x.length : Int) < (x.length : Int)) = False := eq_false (by omega)
  simp only [yp]
  refine AW.rT (by rfl) fun K hK => ?_
  simp -implicitDefEqProofs only [go_sem, ↓reduceIte, Nat.reduceAdd, Nat.reduceEqDiff, reduceCtorEq, hc1]
  apply hK; clear hK K
  refine AW.seq ?_
  refine AW.cF rfl ?_
  refine AW.exit ?_
  simp only [andThen, inBlk, ↓reduceIte]
  refine AW.ghost (s' := ypw P es b) (Ghost.trans (Ghost.freeze (lb := 3) (ps := es.map encEn) rfl (unlift_liftE _)) (Ghost.trans (Ghost.exH (l := 2) (i := 0) (j := 4) rfl rfl rfl) ?_)) ?_
  ·simp only [ypw]
   refine Ghost.sub ?_ ?_ <;> simp -implicitDefEqProofs only [go_sem, ↓reduceIte, Nat.reduceEqDiff, reduceCtorEq, thaw, thaw1, Option.map_some, List.map_cons, List.map_nil, List.set_cons_zero, List.set_cons_succ, List.forall_mem_cons, List.not_mem_nil, false_implies, implies_true, and_self, List.all_cons, List.all_nil, Nat.reduceLT, labsInL, AV.labsIn]
   done
  simp only [ypw]
  refine AW.rT (by rfl) fun K hK => ?_
  simp -implicitDefEqProofs only [go_sem, ↓reduceIte, Nat.reduceAdd, Nat.reduceEqDiff, Nat.reduceLeDiff, reduceCtorEq, List.set_cons_zero]
  apply hK; clear hK K
  refine AW.ghost (s' := ype P (.mk 3 0 [] es []) b) ?_ (AW.ret (part_end rfl))
  simp only [ype, cellsT, Tr.kind, Tr.n, Tr.s, Tr.ents, Tr.rest, List.map_nil]
  refine Ghost.sub ?_ ?_ <;> simp -implicitDefEqProofs only [go_sem, ↓reduceIte, Nat.reduceEqDiff, reduceCtorEq, List.forall_mem_cons, List.not_mem_nil, false_implies, implies_true, and_self, List.all_cons, List.all_nil, Nat.reduceLT, labsInL, AV.labsIn]
  done
 obtain ⟨s, hs⟩ : ∃ s, x[k]? = some s := ⟨_, List.getElem?_eq_getElem hkl⟩
 have hsm := List.mem_of_getElem? hs
 have ⟨hs1, hs2, hs3⟩ := at_map' encSt hs
 have hc1 : ((k : Int) < (x.length : Int)) = True := eq_true (by omega)
 have w1 : IntKind.wrap .i64 ((k : Int) + 1) = ((k + 1 : Nat) : Int) := by rw [w64] <;> omega
 obtain ⟨p1, p2, p3⟩ := prog_step hP hxm hsm
 have OA := outP_at (P := P) (t := t) hs
 have OLk := OL k
 have BN : IntKind.wrap .i64 (a + ((sumP P t x (k + 1) : Nat) : Int)) = IntKind.wrap .i64 (IntKind.wrap .i64 (IntKind.wrap .i64 (a + ((sumP P t x k : Nat) : Int)) + 1) + ((lookS P s (getG t.ents s.tag) : Nat) : Int)) := by
  rw [sumP_at hs, show (1 : Int) = ((1 : Nat) : Int) from rfl, wrap_nat, wrap_nat]
 have GC := getG_cases t.ents s.tag
 have CG := node_Get t hlt s.tag
 rw [getE_G] at CG
 have EF : entF P t.ents s = if (stepF P s (getG t.ents s.tag)).isEmpty = true then [] else [(s.tag, stepF P s (getG t.ents s.tag))] := rfl
 have nextK : ∀ (s' : St) (es : List (Int × List Tr)) (b : Int), outP P t x (k + 1) = es → IntKind.wrap .i64 (a + ((sumP P t x (k + 1) : Nat) : Int)) = b → Ghost ⟨58, [0], val⟩ s' (yp P t x (k + 1) es b [] [] 4) → ∃ y : Nat, y ≤ x.length ∧ x.length - y < x.length - k ∧ Ghost ⟨58, [0], val⟩ s' (yp P t x y (outP P t x y) (IntKind.wrap .i64 (a + ((sumP P t x y : Nat) : Int))) [] [] 4) :=
  fun s' es b h1 h2 g => ⟨k + 1, by omega, by omega, by rw [h1, h2]; exact g⟩
 generalize hb : IntKind.wrap .i64 (a + ((sumP P t x k : Nat) : Int)) = b at BN
 generalize hes : outP P t x k = es at OA OLk
 simp only [yp]
 refine AW.rT (by rfl) fun K hK => ?_
 simp -implicitDefEqProofs only [go_sem, ↓reduceIte, Nat.reduceAdd, Nat.reduceEqDiff, reduceCtorEq, hc1]
 apply hK; clear hK K
 refine AW.seq ?_
 refine AW.cT rfl ?_
 refine AW.skip ?_
 simp only [andThen]
 refine AW.seq ?_
 refine AW.block ?_
 refine AW.rT (by rfl) fun K hK => ?_
 simp -implicitDefEqProofs only [go_sem, ↓reduceIte, Nat.reduceAdd, Nat.reduceEqDiff, Nat.reduceLeDiff, reduceCtorEq, hs1, hs3, hc1, encSt, List.length_map]
 apply hK; clear hK K
 refine AW.rT (by rfl) fun K hK => ?_
 simp -implicitDefEqProofs only [go_sem, ↓reduceIte, Nat.reduceAdd, Nat.reduceEqDiff, Nat.reduceLeDiff, reduceCtorEq, List.set_cons_zero]
 apply hK; clear hK K
 refine AW.rT (by rfl) fun K hK => ?_
 simp -implicitDefEqProofs only [go_sem, ↓reduceIte, Nat.reduceAdd, Nat.reduceEqDiff, reduceCtorEq]
 refine ⟨.pure _, CG, ?_⟩
 try simp -implicitDefEqProofs only [go_sem, Nat.reduceAdd]
 apply hK; clear hK K
 refine AW.ghost (s' := yp P t x k es (IntKind.wrap .i64 (b + 1)) [(9, .ptr 4 0 0), (10, .p (.slice ((getG t.ents s.tag).map encV1)))] [(4, .row 3 [[.p (.int .i64 s.op), .p (.int .i64 s.tag), .p (.int .i64 s.sub)]])] 5) ?_ ?_
 ·simp only [yp]
  refine Ghost.ent (fun l => if l = 4 then 7 else l) ?_ ?_ ?_ <;> simp -implicitDefEqProofs only [go_sem, ↓reduceIte, Nat.reduceEqDiff, reduceCtorEq, List.forall_mem_cons, List.not_mem_nil, false_implies, implies_true, and_self, map_renL_lift, labsIn_lift, List.all_cons, List.all_nil, Nat.reduceLT, labsInL, AV.labsIn]
  all_goals first | rfl | skip
 simp only [yp]
 refine AW.seq ?_
 rcases GC with GC | ⟨e, he, heg, GC⟩
 ·rw [GC] at BN EF ⊢
  rw [stepF_none, if_pos (show ([] : List Tr).isEmpty = true from rfl)] at EF
  rw [lookS_nil] at BN
  have BN' : IntKind.wrap .i64 (a + ((sumP P t x (k + 1) : Nat) : Int)) = IntKind.wrap .i64 (b + 1) := by
   rw [BN]
   simpa using wrap_wrap (b + 1)
  rw [EF, List.append_nil] at OA
  refine AW.rT (by rfl) fun K hK => ?_
  simp -implicitDefEqProofs only [go_sem, ↓reduceIte, Nat.reduceAdd, Nat.reduceEqDiff, reduceCtorEq]
  apply hK; clear hK K
  refine AW.cT rfl ?_
  refine AW.exit ?_
  simp only [andThen, inBlk, ↓reduceIte]
  refine AW.rE (by rfl) fun K hK => ?_
  simp -implicitDefEqProofs only [go_sem, ↓reduceIte, Nat.reduceAdd, Nat.reduceEqDiff, reduceCtorEq, w1]
  apply hK; clear hK K
  refine nextK _ _ _ OA BN' ?_
  simp only [yp]
  refine Ghost.sub ?_ ?_ <;> simp -implicitDefEqProofs only [go_sem, ↓reduceIte, Nat.reduceEqDiff, reduceCtorEq, List.forall_mem_cons, List.not_mem_nil, false_implies, implies_true, and_self, labsIn_lift, List.all_cons, List.all_nil, Nat.reduceLT, labsInL, AV.labsIn]
  done
 obtain ⟨r1, r2, r3⟩ := rightE_in hre e he
 have hem := List.getElem?_of_mem he
 obtain ⟨ei, hei⟩ := hem
 have ⟨le1, le2⟩ := lensE_at la3 hei
 have ST := interp_step P s e.2 (headK e.2) p1 p2 p3 r1 le1 (fun y hy => by
  obtain ⟨yj, hyj⟩ := List.getElem?_of_mem hy
  exact ⟨lensTs_at le2 hyj, (r3 y hy).2, (r3 y hy).1⟩) (fun y hy => by
  obtain ⟨yj, hyj⟩ := List.getElem?_of_mem hy
  exact ih _ (size_ent hei hyj) y rfl (lensTs_at le2 hyj) (r3 y hy).2) (IntKind.wrap .i64 (b + 1)) (wrap_wrap _)
 rw [GC] at BN EF ⊢
 have z0 : ((e.2.length : Int) == 0) = false := by
  rw [beq_eq_false_iff_ne]
  omega
 generalize stepF P s e.2 = sf at ST EF
 generalize lookS P s e.2 = lk at ST BN
 simp only [encSt] at ST
 refine AW.rT (by rfl) fun K hK => ?_
 simp -implicitDefEqProofs only [go_sem, ↓reduceIte, Nat.reduceAdd, Nat.reduceEqDiff, reduceCtorEq, z0, List.length_map]
 apply hK; clear hK K
 refine AW.cF rfl ?_
 refine AW.skip ?_
 simp only [andThen]
 refine AW.rR (SeqR.ev 3 (by rfl) (by decide) ?_)
 simp -implicitDefEqProofs only [go_sem, ↓reduceIte, Nat.reduceAdd, Nat.reduceEqDiff, Nat.reduceLeDiff, reduceCtorEq]
 refine SeqR.call (fun k => k) rfl rfl ST ⟨?_, rfl, ?_, rfl, rfl, rfl, rfl, rfl, rfl⟩ ?_
 ·simp -implicitDefEqProofs only [go_sem, ↓reduceIte, Nat.reduceEqDiff, argD]
 ·simp only [memR]
  simp -implicitDefEqProofs only [go_sem, ↓reduceIte, List.forall_mem_cons, List.not_mem_nil, false_implies, implies_true]
  first | done | decide
 simp only [memR, AV.ren]
 refine SeqR.ev 1 (by rfl) (by decide) ?_
 simp -implicitDefEqProofs only [go_sem, ↓reduceIte, Nat.reduceAdd, lift2, goneU, newU, List.map_cons, List.map_nil, putH, Nat.reduceLT]
 refine SeqR.last rfl ?_
 rw [← BN]
 generalize hb' : IntKind.wrap .i64 (a + ((sumP P t x (k + 1) : Nat) : Int)) = b' at *
 refine AW.ghost (s' := yp P t x k es b' [(9, .ptr 4 0 0), (11, .p (.slice (sf.map encTr)))] [(4, .row 3 [[.p (.int .i64 s.op), .p (.int .i64 s.tag), .p (.int .i64 s.sub)]])] 5) ?_ ?_
 ·simp only [yp]
  refine Ghost.sub ?_ ?_ <;> simp -implicitDefEqProofs only [go_sem, ↓reduceIte, Nat.reduceEqDiff, reduceCtorEq, List.forall_mem_cons, List.not_mem_nil, false_implies, implies_true, and_self, labsIn_lift, List.all_cons, List.all_nil, Nat.reduceLT, labsInL, AV.labsIn]
  done
 simp only [yp]
 by_cases h0 : sf = []
 ·subst h0
  rw [if_pos (show ([] : List Tr).isEmpty = true from rfl)] at EF
  rw [EF, List.append_nil] at OA
  refine AW.rT (by rfl) fun K hK => ?_
  simp -implicitDefEqProofs only [go_sem, ↓reduceIte, Nat.reduceAdd, Nat.reduceEqDiff, reduceCtorEq]
  apply hK; clear hK K
  refine AW.cF rfl ?_
  refine AW.skip ?_
  simp only [andThen, inBlk]
  refine AW.rE (by rfl) fun K hK => ?_
  simp -implicitDefEqProofs only [go_sem, ↓reduceIte, Nat.reduceAdd, Nat.reduceEqDiff, reduceCtorEq, w1]
  apply hK; clear hK K
  refine nextK _ _ _ OA rfl ?_
  simp only [yp]
  refine Ghost.sub ?_ ?_ <;> simp -implicitDefEqProofs only [go_sem, ↓reduceIte, Nat.reduceEqDiff, reduceCtorEq, List.forall_mem_cons, List.not_mem_nil, false_implies, implies_true, and_self, labsIn_lift, List.all_cons, List.all_nil, Nat.reduceLT, labsInL, AV.labsIn]
  done
 ·have hp := List.length_pos_iff.2 h0
  have g1 : ((sf.length : Int) > 0) = True := eq_true (by omega)
  rw [if_neg (by simp [h0])] at EF
  rw [EF] at OA
  have e8 : liftE (es.map encEn) ++ [[AV.p (.int .i64 s.tag), .p (.slice (sf.map encTr))]] = liftE ((es ++ [(s.tag, sf)]).map encEn) := by
   simp [liftE, encEn]
  refine AW.rT (by rfl) fun K hK => ?_
  simp -implicitDefEqProofs only [go_sem, ↓reduceIte, Nat.reduceAdd, Nat.reduceEqDiff, reduceCtorEq, g1, List.length_map]
  apply hK; clear hK K
  refine AW.cT rfl ?_
  refine AW.rE (by rfl) fun K hK => ?_
  simp -implicitDefEqProofs only [go_sem, ↓reduceIte, Nat.reduceAdd, Nat.reduceMul, Nat.reduceEqDiff, Nat.reduceLeDiff, reduceCtorEq]
  refine ⟨⟨by simp, by simp [oneAll, AV.one, PV.one], by simp⟩, by simp [liftE_length]; omega, ?_⟩
  try simp -implicitDefEqProofs only [go_sem, ↓reduceIte, Nat.reduceAdd, Nat.reduceMul, Nat.reduceEqDiff, Nat.reduceLeDiff, reduceCtorEq, Int.reduceToNat]
  apply hK; clear hK K
  simp only [andThen, inBlk]
  refine AW.rE (by rfl) fun K hK => ?_
  simp -implicitDefEqProofs only [go_sem, ↓reduceIte, Nat.reduceAdd, Nat.reduceEqDiff, reduceCtorEq, w1]
  apply hK; clear hK K
  refine nextK _ _ _ OA rfl ?_
  simp only [yp]
  rw [← e8]
  refine Ghost.ent (fun l => if l = 3 then 15 else l) ?_ ?_ ?_ <;> simp -implicitDefEqProofs only [go_sem, ↓reduceIte, Nat.reduceEqDiff, reduceCtorEq, List.forall_mem_cons, List.not_mem_nil, false_implies, implies_true, and_self, map_renL_lift, labsIn_lift, List.all_append, List.all_cons, List.all_nil, List.map_append, Nat.reduceLT, labsInL, AV.labsIn]
  all_goals first | rfl | skip
end Go.Aw.T
namespace Go.Aw
open Go.Proofs Go.RowKit
end Go.Aw
namespace Go.Aw.T
open Go.Proofs
theorem find_none {es : List (Int × List Tr)} {g : Int} (h : es.all (fun e => e.1 != g) = true) : es.find? (fun e => e.1 == g) = none := by
 rw [List.find?_eq_none]
 intro e he
 have := List.all_eq_true.1 h e he
 simpa using this
theorem find_some {es : List (Int × List Tr)} {g : Int} {i : Nat} {e : Int × List Tr} (h : (es.take i).all (fun e => e.1 != g) = true) (he : es[i]? = some e) (hg : e.1 = g) : es.find? (fun e => e.1 == g) = some e := by
 have hl := (List.getElem?_eq_some_iff.1 he).1
 have e1 : es = es.take i ++ e :: es.drop (i + 1) := by
  conv => lhs; rw [← List.take_append_drop i es, List.drop_eq_getElem_cons hl, (List.getElem?_eq_some_iff.1 he).2]
 rw [e1, List.find?_append, find_none h]
 simp [hg]
theorem all_take {es : List (Int × List Tr)} {g : Int} {i : Nat} {e : Int × List Tr} (he : es[i]? = some e) (h : (es.take i).all (fun e => e.1 != g) = true) (hg : e.1 ≠ g) : (es.take (i + 1)).all (fun e => e.1 != g) = true := by
 rw [List.take_add_one, he, List.all_append, h]
 simpa using hg
end Go.Aw.T
namespace Go.Aw.T
open Go.Proofs Go.RowKit
end Go.Aw.T
namespace Go.Aw.T
open Go.Proofs Go.RowKit
end Go.Aw.T
namespace Go.Aw
open Go.Proofs Go.RowKit
def stepB (s : Stp) (n : Int) : Bool := (decide (s.op = 1 ∨ s.op = 2) && (s.sub == 0)) || (decide (s.op = 3 ∨ s.op = 4) && decide (0 ≤ s.sub ∧ s.sub < n))
theorem adapt_step (s : Stp) (n : Int) : PFn Try.prog 31 [.agg (encSt s), .int .i64 n] (.bool (stepB s n)) := by
 refine PFn.of Try.func31 rfl (by decide) Try.ntmps31 Try.results31 (Nat.le_of_ble_eq_true rfl) ?_
 simp only [argsT, encSt]
 refine AW.rT (by rfl) fun K hK => ?_
 simp -implicitDefEqProofs only [go_sem, Nat.reduceAdd]
 apply hK; clear hK K
 refine AW.seq ?_
 refine AW.rT (by rfl) fun K hK => ?_
 simp -implicitDefEqProofs only [go_sem, ↓reduceIte, Nat.reduceAdd, Nat.reduceEqDiff]
 apply hK; clear hK K
 refine AW.block ?_
 refine AW.seq ?_
 by_cases h1 : s.op = 1
 ·have q1 : (s.op == 1) = true := by simp [h1]
  have e : stepB s n = (s.sub == 0) := by unfold stepB; simp [h1]
  refine AW.rT (by rfl) fun K hK => ?_
  simp -implicitDefEqProofs only [go_sem, ↓reduceIte, Nat.reduceAdd, q1]
  apply hK; clear hK K
  refine AW.cT rfl ?_
  refine AW.skip ?_
  simp only [andThen]
  refine AW.cT rfl ?_
  refine AW.rT (by rfl) fun K hK => ?_
  simp -implicitDefEqProofs only [go_sem, ↓reduceIte, Nat.reduceAdd, Nat.reduceEqDiff]
  apply hK; clear hK K
  refine AW.ret ?_
  simp -implicitDefEqProofs only [go_sem, e]
 have q1 : (s.op == 1) = false := beq_eq_false_iff_ne.2 h1
 by_cases h2 : s.op = 2
 ·have q2 : (s.op == 2) = true := by simp [h2]
  have e : stepB s n = (s.sub == 0) := by unfold stepB; simp [h2]
  refine AW.rT (by rfl) fun K hK => ?_
  simp -implicitDefEqProofs only [go_sem, ↓reduceIte, Nat.reduceAdd, q1]
  apply hK; clear hK K
  refine AW.cF rfl ?_
  refine AW.rE (by rfl) fun K hK => ?_
  simp -implicitDefEqProofs only [go_sem, ↓reduceIte, Nat.reduceAdd, Nat.reduceEqDiff, q2]
  apply hK; clear hK K
  simp only [andThen]
  refine AW.cT rfl ?_
  refine AW.rT (by rfl) fun K hK => ?_
  simp -implicitDefEqProofs only [go_sem, ↓reduceIte, Nat.reduceAdd, Nat.reduceEqDiff]
  apply hK; clear hK K
  refine AW.ret ?_
  simp -implicitDefEqProofs only [go_sem, e]
 have q2 : (s.op == 2) = false := beq_eq_false_iff_ne.2 h2
 refine AW.rT (by rfl) fun K hK => ?_
 simp -implicitDefEqProofs only [go_sem, ↓reduceIte, Nat.reduceAdd, q1]
 apply hK; clear hK K
 refine AW.cF rfl ?_
 refine AW.rE (by rfl) fun K hK => ?_
 simp -implicitDefEqProofs only [go_sem, ↓reduceIte, Nat.reduceAdd, Nat.reduceEqDiff, q2]
 apply hK; clear hK K
 simp only [andThen]
 refine AW.cF rfl ?_
 refine AW.seq ?_
 have g1 : ((0 : Int) ≤ s.sub) = (0 ≤ s.sub) := rfl
 have e34 : (s.op = 3 ∨ s.op = 4) → stepB s n = decide (0 ≤ s.sub ∧ s.sub < n) := fun h => by
  unfold stepB
  rw [show decide (s.op = 1 ∨ s.op = 2) = false from decide_eq_false (by omega), show decide (s.op = 3 ∨ s.op = 4) = true from decide_eq_true h]
  rfl
 by_cases h3 : s.op = 3
 ·have q3 : (s.op == 3) = true := by simp [h3]
  have e := e34 (.inl h3)
  refine AW.rT (by rfl) fun K hK => ?_
  simp -implicitDefEqProofs only [go_sem, ↓reduceIte, Nat.reduceAdd, Nat.reduceEqDiff, q3]
  apply hK; clear hK K
  refine AW.cT rfl ?_
  refine AW.skip ?_
  simp only [andThen]
  refine AW.cT rfl ?_
  by_cases hs : 0 ≤ s.sub
  ·by_cases hlt : s.sub < n
   ·have e' : stepB s n = true := by rw [e]; exact decide_eq_true ⟨hs, hlt⟩
    refine AW.rT (by rfl) fun K hK => ?_
    simp -implicitDefEqProofs only [go_sem, ↓reduceIte, Nat.reduceAdd, Nat.reduceEqDiff, hs, hlt]
    apply hK; clear hK K
    refine AW.ret ?_
    simp -implicitDefEqProofs only [go_sem, e']
   ·have e' : stepB s n = false := by rw [e]; exact decide_eq_false (by omega)
    refine AW.rT (by rfl) fun K hK => ?_
    simp -implicitDefEqProofs only [go_sem, ↓reduceIte, Nat.reduceAdd, Nat.reduceEqDiff, hs, hlt]
    apply hK; clear hK K
    refine AW.ret ?_
    simp -implicitDefEqProofs only [go_sem, e']
  ·have e' : stepB s n = false := by rw [e]; exact decide_eq_false (by omega)
   refine AW.rT (by rfl) fun K hK => ?_
   simp -implicitDefEqProofs only [go_sem, ↓reduceIte, Nat.reduceAdd, Nat.reduceEqDiff, hs]
   apply hK; clear hK K
   refine AW.ret ?_
   simp -implicitDefEqProofs only [go_sem, e']
 have q3 : (s.op == 3) = false := beq_eq_false_iff_ne.2 h3
 by_cases h4 : s.op = 4
 ·have q4 : (s.op == 4) = true := by simp [h4]
  have e := e34 (.inr h4)
  refine AW.rT (by rfl) fun K hK => ?_
  simp -implicitDefEqProofs only [go_sem, ↓reduceIte, Nat.reduceAdd, Nat.reduceEqDiff, q3]
  apply hK; clear hK K
  refine AW.cF rfl ?_
  refine AW.rE (by rfl) fun K hK => ?_
  simp -implicitDefEqProofs only [go_sem, ↓reduceIte, Nat.reduceAdd, Nat.reduceEqDiff, q4]
  apply hK; clear hK K
  simp only [andThen]
  refine AW.cT rfl ?_
  by_cases hs : 0 ≤ s.sub
  ·by_cases hlt : s.sub < n
   ·have e' : stepB s n = true := by rw [e]; exact decide_eq_true ⟨hs, hlt⟩
    refine AW.rT (by rfl) fun K hK => ?_
    simp -implicitDefEqProofs only [go_sem, ↓reduceIte, Nat.reduceAdd, Nat.reduceEqDiff, hs, hlt]
    apply hK; clear hK K
    refine AW.ret ?_
    simp -implicitDefEqProofs only [go_sem, e']
   ·have e' : stepB s n = false := by rw [e]; exact decide_eq_false (by omega)
    refine AW.rT (by rfl) fun K hK => ?_
    simp -implicitDefEqProofs only [go_sem, ↓reduceIte, Nat.reduceAdd, Nat.reduceEqDiff, hs, hlt]
    apply hK; clear hK K
    refine AW.ret ?_
    simp -implicitDefEqProofs only [go_sem, e']
  ·have e' : stepB s n = false := by rw [e]; exact decide_eq_false (by omega)
   refine AW.rT (by rfl) fun K hK => ?_
   simp -implicitDefEqProofs only [go_sem, ↓reduceIte, Nat.reduceAdd, Nat.reduceEqDiff, hs]
   apply hK; clear hK K
   refine AW.ret ?_
   simp -implicitDefEqProofs only [go_sem, e']
 have q4 : (s.op == 4) = false := beq_eq_false_iff_ne.2 h4
 have e : stepB s n = false := by
  unfold stepB
  rw [show decide (s.op = 1 ∨ s.op = 2) = false from decide_eq_false (by omega), show decide (s.op = 3 ∨ s.op = 4) = false from decide_eq_false (by omega)]
  rfl
 refine AW.rT (by rfl) fun K hK => ?_
 simp -implicitDefEqProofs only [go_sem, ↓reduceIte, Nat.reduceAdd, Nat.reduceEqDiff, q3]
 apply hK; clear hK K
 refine AW.cF rfl ?_
 refine AW.rE (by rfl) fun K hK => ?_
 simp -implicitDefEqProofs only [go_sem, ↓reduceIte, Nat.reduceAdd, Nat.reduceEqDiff, q4]
 apply hK; clear hK K
 simp only [andThen]
 refine AW.cF rfl ?_
 refine AW.skip ?_
 simp only [andThen, inBlk]
 refine AW.rT (by rfl) fun K hK => ?_
 simp -implicitDefEqProofs only [go_sem, Nat.reduceAdd]
 apply hK; clear hK K
 refine AW.ret ?_
 simp -implicitDefEqProofs only [go_sem, e]
def adS (p : List (List Stp)) (l : List (Nat × AV)) : St := ⟨ofL ((1, .ptr 0 0 0) :: (19, .p (.slice (p.map encPt))) :: (20, .p (.int .i64 (p.length : Int))) :: l), ofH [(0, .row 1 [[.p (.slice (p.map encPt))]])], 1⟩
theorem prog_no {p : List (List Stp)} {x : List Stp} (hx : x ∈ p) (h : partB p.length 0 x = false) : progB p = false := by
 unfold progB
 rw [List.all_eq_false.2 ⟨x, hx, by rw [h]; exact Bool.false_ne_true⟩, Bool.and_false]
theorem adapt_Check (p : List (List Stp)) : PFn Try.prog 22 [.agg [.slice (p.map encPt)]] (.bool (progB p)) := by
 refine PFn.of Try.func22 rfl (by decide) Try.ntmps22 Try.results22 (Nat.le_of_ble_eq_true rfl) ?_
 simp only [argsT]
 refine AW.rT (by rfl) fun K hK => ?_
 simp -implicitDefEqProofs only [go_sem, Nat.reduceAdd]
 apply hK; clear hK K
 refine AW.seq ?_
 by_cases hz : p.length < 1
 ·have z1 : ((p.length : Int) < 1) = True := eq_true (by omega)
  have e : progB p = false := by unfold progB; rw [decide_eq_false (by omega)]; rfl
  refine AW.rT (by rfl) fun K hK => ?_
  simp -implicitDefEqProofs only [go_sem, ↓reduceIte, Nat.reduceAdd, Nat.reduceEqDiff, z1, List.length_map]
  apply hK; clear hK K
  refine AW.cT rfl ?_
  refine AW.rT (by rfl) fun K hK => ?_
  simp -implicitDefEqProofs only [go_sem, Nat.reduceAdd]
  apply hK; clear hK K
  refine AW.ret ?_
  simp -implicitDefEqProofs only [go_sem, e]
 have z1 : ((p.length : Int) < 1) = False := eq_false (by omega)
 by_cases hb : p.length > 100
 ·have b1 : ((p.length : Int) > 100) = True := eq_true (by omega)
  have e : progB p = false := by unfold progB; rw [decide_eq_false (by omega)]; rfl
  refine AW.rT (by rfl) fun K hK => ?_
  simp -implicitDefEqProofs only [go_sem, ↓reduceIte, Nat.reduceAdd, Nat.reduceEqDiff, z1, b1, List.length_map]
  apply hK; clear hK K
  refine AW.cT rfl ?_
  refine AW.rT (by rfl) fun K hK => ?_
  simp -implicitDefEqProofs only [go_sem, Nat.reduceAdd]
  apply hK; clear hK K
  refine AW.ret ?_
  simp -implicitDefEqProofs only [go_sem, e]
 have b1 : ((p.length : Int) > 100) = False := eq_false (by omega)
 refine AW.rT (by rfl) fun K hK => ?_
 simp -implicitDefEqProofs only [go_sem, ↓reduceIte, Nat.reduceAdd, Nat.reduceEqDiff, z1, b1, List.length_map]
 apply hK; clear hK K
 refine AW.cF rfl ?_
 refine AW.skip ?_
 simp only [andThen]
 refine AW.cut (fun _ : Unit => ⟨ofL [], ofH [], 0⟩) (fun _ => p.all (partB p.length 0) = true) ?_ fun _ qa => ?_
 rotate_left
 ·have e : progB p = true := by unfold progB; rw [qa, decide_eq_true (by omega)]; rfl
  refine AW.rT (by rfl) fun K hK => ?_
  simp -implicitDefEqProofs only [go_sem]
  apply hK; clear hK K
  refine AW.ret ?_
  simp -implicitDefEqProofs only [go_sem, e]
 refine AW.rT (by rfl) fun K hK => ?_
 simp -implicitDefEqProofs only [go_sem, ↓reduceIte, Nat.reduceAdd, Nat.reduceEqDiff, List.length_map]
 apply hK; clear hK K
 refine AW.block ?_
 refine AW.loop (fun i : Nat => adS p [(21, .p (.int .i64 (i : Int)))]) (fun i => i ≤ p.length ∧ (p.take i).all (partB p.length 0) = true) (fun i => p.length - i) 0 ?_ ⟨by omega, by simp⟩ fun i hi => ?_
 ·simp only [adS]
  refine Ghost.sub ?_ ?_ <;> simp -implicitDefEqProofs only [go_sem, ↓reduceIte, Nat.reduceEqDiff, List.forall_mem_cons, List.not_mem_nil, false_implies, implies_true, and_self, List.all_cons, List.all_nil, Nat.reduceLT, labsInL, AV.labsIn]
  all_goals first | rfl | decide | skip
 obtain ⟨i1, i2⟩ := hi
 simp only [adS]
 by_cases hil : i < p.length
 case neg =>
  have c1 : ((i : Int) < (p.length : Int)) = False := eq_false (by omega)
  rw [List.take_of_length_le (by omega)] at i2
  refine AW.rT (by rfl) fun K hK => ?_
  simp -implicitDefEqProofs only [go_sem, ↓reduceIte, Nat.reduceAdd, Nat.reduceEqDiff, c1]
  apply hK; clear hK K
  refine AW.seq ?_
  refine AW.cF rfl ?_
  refine AW.exit ?_
  simp only [andThen, inBlk, ↓reduceIte]
  refine ⟨(), i2, ?_⟩
  show Ghost _ _ ⟨ofL [], ofH [], 0⟩
  refine Ghost.sub ?_ ?_ <;> simp -implicitDefEqProofs only [go_sem, List.not_mem_nil, false_implies, implies_true]
 have c1 : ((i : Int) < (p.length : Int)) = True := eq_true (by omega)
 obtain ⟨x, hx⟩ : ∃ x, p[i]? = some x := ⟨_, List.getElem?_eq_getElem hil⟩
 have hxm := List.mem_of_getElem? hx
 have ⟨hm1, hm2, hm3⟩ := at_map' encPt hx
 have hm2' : (i : Int) < (p.length : Int) := by omega
 have w1 : IntKind.wrap .i64 ((i : Int) + 1) = ((i + 1 : Nat) : Int) := by rw [w64] <;> omega
 refine AW.rT (by rfl) fun K hK => ?_
 simp -implicitDefEqProofs only [go_sem, ↓reduceIte, Nat.reduceAdd, Nat.reduceEqDiff, c1]
 apply hK; clear hK K
 refine AW.seq ?_
 refine AW.cT rfl ?_
 refine AW.skip ?_
 simp only [andThen]
 refine AW.seq ?_
 refine AW.block ?_
 refine AW.rT (by rfl) fun K hK => ?_
 simp -implicitDefEqProofs only [go_sem, ↓reduceIte, Nat.reduceAdd, Nat.reduceEqDiff, hm1, hm2', hm3, encPt, List.length_map]
 apply hK; clear hK K
 refine AW.rT (by rfl) fun K hK => ?_
 simp -implicitDefEqProofs only [go_sem, Nat.reduceAdd]
 apply hK; clear hK K
 refine AW.rT (by rfl) fun K hK => ?_
 simp -implicitDefEqProofs only [go_sem, ↓reduceIte, Nat.reduceAdd, Nat.reduceEqDiff, List.length_map]
 apply hK; clear hK K
 refine AW.block ?_
 refine AW.loop (fun j : Nat => adS p [(21, .p (.int .i64 (i : Int))), (25, .p (.slice (x.map encSt))), (26, .p (.int .i64 (x.length : Int))), (27, .p (.int .i64 (j : Int))), (5, .p (.int .i64 (if j = 0 then 0 else (x[j - 1]?.map Stp.tag).getD 0)))]) (fun j => j ≤ x.length ∧ (j : Int) ≤ (if j = 0 then 0 else (x[j - 1]?.map Stp.tag).getD 0) ∧ (if j = 0 then 0 else (x[j - 1]?.map Stp.tag).getD 0) ≤ 500 ∧ partB p.length 0 x = partB p.length (if j = 0 then 0 else (x[j - 1]?.map Stp.tag).getD 0) (x.drop j)) (fun j => x.length - j) 0 ?_ ⟨by omega, by simp, by simp, by simp⟩ fun j hj => ?_
 ·simp only [adS]
  refine Ghost.sub ?_ ?_ <;> simp -implicitDefEqProofs only [go_sem, ↓reduceIte, Nat.reduceEqDiff, List.forall_mem_cons, List.not_mem_nil, false_implies, implies_true, and_self, List.all_cons, List.all_nil, Nat.reduceLT, labsInL, AV.labsIn]
  all_goals first | rfl | decide | skip
 obtain ⟨j1, j2, j3, j4⟩ := hj
 simp only [adS]
 generalize hla : (if j = 0 then (0 : Int) else (x[j - 1]?.map Stp.tag).getD 0) = la at *
 by_cases hjl : j < x.length
 case neg =>
  have c2 : ((j : Int) < (x.length : Int)) = False := eq_false (by omega)
  rw [List.drop_of_length_le (by omega)] at j4
  refine AW.rT (by rfl) fun K hK => ?_
  simp -implicitDefEqProofs only [go_sem, ↓reduceIte, Nat.reduceAdd, Nat.reduceEqDiff, c2]
  apply hK; clear hK K
  refine AW.seq ?_
  refine AW.cF rfl ?_
  refine AW.exit ?_
  simp only [andThen, inBlk, ↓reduceIte]
  refine AW.rE (by rfl) fun K hK => ?_
  simp -implicitDefEqProofs only [go_sem, ↓reduceIte, Nat.reduceAdd, Nat.reduceEqDiff, w1]
  apply hK; clear hK K
  refine ⟨i + 1, ⟨by omega, all_next hx i2 j4⟩, by omega, ?_⟩
  refine Ghost.sub ?_ ?_ <;> simp -implicitDefEqProofs only [go_sem, ↓reduceIte, Nat.reduceEqDiff, List.forall_mem_cons, List.not_mem_nil, false_implies, implies_true, and_self, List.all_cons, List.all_nil, Nat.reduceLT, labsInL, AV.labsIn]
 have c2 : ((j : Int) < (x.length : Int)) = True := eq_true (by omega)
 obtain ⟨s, hs⟩ : ∃ s, x[j]? = some s := ⟨_, List.getElem?_eq_getElem hjl⟩
 have ⟨hs1, hs2, hs3⟩ := at_map' encSt hs
 have hs2' : (j : Int) < (x.length : Int) := by omega
 have w2 : IntKind.wrap .i64 ((j : Int) + 1) = ((j + 1 : Nat) : Int) := by rw [w64] <;> omega
 have dj : x.drop j = s :: x.drop (j + 1) := by
  rw [List.drop_eq_getElem_cons hjl]
  rw [List.getElem?_eq_getElem hjl, Option.some.injEq] at hs
  rw [hs]
 rw [dj] at j4
 have jp : partB p.length la (s :: x.drop (j + 1)) = (stOK p.length la s && partB p.length s.tag (x.drop (j + 1))) := rfl
 rw [jp] at j4
 have so : stOK p.length la s = (decide (la < s.tag ∧ s.tag ≤ 500) && stepB s (p.length : Int)) := rfl
 have ST := adapt_step s (p.length : Int)
 simp only [encSt] at ST
 refine AW.rT (by rfl) fun K hK => ?_
 simp -implicitDefEqProofs only [go_sem, ↓reduceIte, Nat.reduceAdd, Nat.reduceEqDiff, c2]
 apply hK; clear hK K
 refine AW.seq ?_
 refine AW.cT rfl ?_
 refine AW.skip ?_
 simp only [andThen]
 refine AW.seq ?_
 refine AW.block ?_
 refine AW.rT (by rfl) fun K hK => ?_
 simp -implicitDefEqProofs only [go_sem, ↓reduceIte, Nat.reduceAdd, Nat.reduceEqDiff, Nat.reduceLeDiff, hs1, hs2', hs3, encSt, List.length_map]
 apply hK; clear hK K
 refine AW.seq ?_
 by_cases t1 : s.tag ≤ la
 ·have f1 : (s.tag ≤ la) = True := eq_true t1
  have e : progB p = false := prog_no hxm (by rw [j4, so, decide_eq_false (by omega)]; rfl)
  refine AW.rT (by rfl) fun K hK => ?_
  simp -implicitDefEqProofs only [go_sem, ↓reduceIte, Nat.reduceAdd, Nat.reduceEqDiff, f1]
  apply hK; clear hK K
  refine AW.cT rfl ?_
  refine AW.rT (by rfl) fun K hK => ?_
  simp -implicitDefEqProofs only [go_sem, Nat.reduceAdd]
  apply hK; clear hK K
  refine AW.ret ?_
  simp -implicitDefEqProofs only [go_sem, e]
 have f1 : (s.tag ≤ la) = False := eq_false t1
 by_cases t2 : s.tag > 500
 ·have f2 : (s.tag > 500) = True := eq_true t2
  have e : progB p = false := prog_no hxm (by rw [j4, so, decide_eq_false (by omega)]; rfl)
  refine AW.rT (by rfl) fun K hK => ?_
  simp -implicitDefEqProofs only [go_sem, ↓reduceIte, Nat.reduceAdd, Nat.reduceEqDiff, f1, f2]
  apply hK; clear hK K
  refine AW.cT rfl ?_
  refine AW.rT (by rfl) fun K hK => ?_
  simp -implicitDefEqProofs only [go_sem, Nat.reduceAdd]
  apply hK; clear hK K
  refine AW.ret ?_
  simp -implicitDefEqProofs only [go_sem, e]
 have f2 : (s.tag > 500) = False := eq_false t2
 cases hb : stepB s (p.length : Int) with
 | false =>
  rw [hb] at ST
  have e : progB p = false := prog_no hxm (by rw [j4, so, hb, Bool.and_false]; rfl)
  refine AW.rT (by rfl) fun K hK => ?_
  simp -implicitDefEqProofs only [go_sem, ↓reduceIte, Nat.reduceAdd, Nat.reduceEqDiff, Nat.reduceLeDiff, reduceCtorEq, f1, f2, List.length_map]
  refine ⟨.pure _, ST, ?_⟩
  try simp -implicitDefEqProofs only [go_sem, ↓reduceIte, Nat.reduceAdd, Nat.reduceEqDiff]
  apply hK; clear hK K
  refine AW.cT rfl ?_
  refine AW.rT (by rfl) fun K hK => ?_
  simp -implicitDefEqProofs only [go_sem, Nat.reduceAdd]
  apply hK; clear hK K
  refine AW.ret ?_
  simp -implicitDefEqProofs only [go_sem, e]
 | true =>
 rw [hb] at ST
 refine AW.rT (by rfl) fun K hK => ?_
 simp -implicitDefEqProofs only [go_sem, ↓reduceIte, Nat.reduceAdd, Nat.reduceEqDiff, Nat.reduceLeDiff, reduceCtorEq, f1, f2, List.length_map]
 refine ⟨.pure _, ST, ?_⟩
 try simp -implicitDefEqProofs only [go_sem, ↓reduceIte, Nat.reduceAdd, Nat.reduceEqDiff]
 apply hK; clear hK K
 refine AW.cF rfl ?_
 refine AW.skip ?_
 simp only [andThen]
 refine AW.rE (by rfl) fun K hK => ?_
 simp -implicitDefEqProofs only [go_sem, ↓reduceIte, Nat.reduceAdd, Nat.reduceEqDiff]
 apply hK; clear hK K
 refine AW.rE (by rfl) fun K hK => ?_
 simp -implicitDefEqProofs only [go_sem, ↓reduceIte, Nat.reduceAdd, Nat.reduceEqDiff, w2]
 apply hK; clear hK K
 have en : (if j + 1 = 0 then (0 : Int) else (x[j + 1 - 1]?.map Stp.tag).getD 0) = s.tag := by
  rw [if_neg (by omega), Nat.add_sub_cancel, hs]
  rfl
 refine ⟨j + 1, ⟨by omega, by rw [en]; omega, by rw [en]; omega, by rw [en, j4, so, hb, decide_eq_true (by omega)]; rfl⟩, by omega, ?_⟩
 rw [en]
 refine Ghost.sub ?_ ?_ <;> simp -implicitDefEqProofs only [go_sem, ↓reduceIte, Nat.reduceEqDiff, reduceCtorEq, List.forall_mem_cons, List.not_mem_nil, false_implies, implies_true, and_self, List.all_cons, List.all_nil, Nat.reduceLT, labsInL, AV.labsIn]
end Go.Aw
namespace Go.Aw.T
open Go.Proofs Go.RowKit
theorem interp_start (P : List (List Stp)) (t : Tr) (hlt : lensT t = true) : PFn Try.prog 16 [.agg [.slice (P.map encPt)], .agg (encTr t)] (.tuple [.agg (encTr (runP P t).1), .int .i64 (IntKind.wrap .i64 ((lookP P t : Nat) : Int)), .int .i64 (runP P t).2]) := by
 have C1 := adapt_Check P
 have C2 := value_Of t hlt
 have zz : encTr zeroTr = [.int .i64 0, .int .i64 0, .str [], .slice [], .slice []] := by rw [encTr_eq]; rfl
 have bad : progB P = false ∨ t.kind ≠ 3 ∨ okT t = false → runP P t = (zeroTr, 1) ∧ lookP P t = 0 := fun h => by
  unfold runP lookP
  rw [if_pos h, if_pos h]
  exact ⟨rfl, rfl⟩
 have w0 : IntKind.wrap .i64 ((0 : Nat) : Int) = 0 := by decide
 rw [encTr_eq t] at C2
 refine PFn.of Try.func16 rfl (by decide) Try.ntmps16 Try.results16 (Nat.le_of_ble_eq_true rfl) ?_
 simp only [argsT]
 refine AW.rT (by rfl) fun K hK => ?_
 simp -implicitDefEqProofs only [go_sem, ↓reduceIte, Nat.reduceAdd, Nat.reduceEqDiff, encTr_eq t]
 apply hK; clear hK K
 refine AW.seq ?_
 cases hp : progB P with
 | false =>
  rw [hp] at C1
  obtain ⟨b1, b2⟩ := bad (.inl hp)
  rw [b1, b2]
  refine AW.rT (by rfl) fun K hK => ?_
  simp -implicitDefEqProofs only [go_sem, ↓reduceIte, Nat.reduceAdd, Nat.reduceEqDiff, Nat.reduceLeDiff, reduceCtorEq]
  refine ⟨.pure _, C1, ?_⟩
  try simp -implicitDefEqProofs only [go_sem, ↓reduceIte, Nat.reduceAdd, Nat.reduceEqDiff]
  apply hK; clear hK K
  refine AW.cT rfl ?_
  refine AW.rT (by rfl) fun K hK => ?_
  simp -implicitDefEqProofs only [go_sem, ↓reduceIte, Nat.reduceAdd, Nat.reduceEqDiff, Nat.reduceLeDiff]
  apply hK; clear hK K
  refine AW.ret ?_
  simp -implicitDefEqProofs only [go_sem, ↓reduceIte, Nat.reduceAdd, Nat.reduceEqDiff, Nat.reduceLeDiff, zz, w0]
  done
 | true =>
 rw [hp] at C1
 by_cases h3 : t.kind = 3
 case neg =>
  have e3 : (t.kind != 3) = true := by simpa using h3
  obtain ⟨b1, b2⟩ := bad (.inr (.inl h3))
  rw [b1, b2]
  refine AW.rT (by rfl) fun K hK => ?_
  simp -implicitDefEqProofs only [go_sem, ↓reduceIte, Nat.reduceAdd, Nat.reduceEqDiff, Nat.reduceLeDiff, reduceCtorEq]
  refine ⟨.pure _, C1, ?_⟩
  try simp -implicitDefEqProofs only [go_sem, ↓reduceIte, Nat.reduceAdd, Nat.reduceEqDiff, e3]
  apply hK; clear hK K
  refine AW.cT rfl ?_
  refine AW.rT (by rfl) fun K hK => ?_
  simp -implicitDefEqProofs only [go_sem, ↓reduceIte, Nat.reduceAdd, Nat.reduceEqDiff, Nat.reduceLeDiff]
  apply hK; clear hK K
  refine AW.ret ?_
  simp -implicitDefEqProofs only [go_sem, ↓reduceIte, Nat.reduceAdd, Nat.reduceEqDiff, Nat.reduceLeDiff, zz, w0]
  done
 have e3 : (t.kind != 3) = false := by simp [h3]
 refine AW.rT (by rfl) fun K hK => ?_
 simp -implicitDefEqProofs only [go_sem, ↓reduceIte, Nat.reduceAdd, Nat.reduceEqDiff, Nat.reduceLeDiff, reduceCtorEq]
 refine ⟨.pure _, C1, ?_⟩
 try simp -implicitDefEqProofs only [go_sem, ↓reduceIte, Nat.reduceAdd, Nat.reduceEqDiff, e3]
 apply hK; clear hK K
 refine AW.cF rfl ?_
 refine AW.skip ?_
 simp only [andThen]
 cases ho : okT t with
 | false =>
  rw [ho] at C2
  obtain ⟨b1, b2⟩ := bad (.inr (.inr ho))
  rw [b1, b2]
  have o1 : (ofV t).one = true := by unfold ofV; rw [ho]; rfl
  refine AW.rT (by rfl) fun K hK => ?_
  simp -implicitDefEqProofs only [go_sem, ↓reduceIte, Nat.reduceAdd, Nat.reduceEqDiff, Nat.reduceLeDiff]
  refine ⟨.pure _, C2, ?_⟩
  try simp -implicitDefEqProofs only [go_sem, ↓reduceIte, Nat.reduceAdd, Nat.reduceEqDiff, Nat.reduceLeDiff]
  try refine ⟨o1, ?_⟩
  apply hK; clear hK K
  refine AW.seq ?_
  refine AW.rT (by rfl) fun K hK => ?_
  simp -implicitDefEqProofs only [go_sem, Nat.reduceAdd]
  apply hK; clear hK K
  refine AW.cT rfl ?_
  refine AW.rT (by rfl) fun K hK => ?_
  simp -implicitDefEqProofs only [go_sem, ↓reduceIte, Nat.reduceAdd, Nat.reduceEqDiff, Nat.reduceLeDiff]
  apply hK; clear hK K
  refine AW.ret ?_
  simp -implicitDefEqProofs only [go_sem, ↓reduceIte, Nat.reduceAdd, Nat.reduceEqDiff, Nat.reduceLeDiff, zz, w0]
  done
 | true =>
 rw [ho] at C2
 have hV : ofV t = encIn (.node (ndV t)) := by
  unfold ofV
  rw [if_pos ho, encV_eq, if_neg (by omega), if_neg (by omega)]
  rfl
 rw [hV] at C2
 have o1 : (encIn (.node (ndV t))).one = true := rfl
 have C3 := value_MustNode (ndV t)
 have hi : 0 < P.length := by
  unfold progB at hp
  rw [Bool.and_eq_true, decide_eq_true_eq] at hp
  omega
 have C4 := interp_part P hp t hlt (ok_right ho) 0 0 hi (by decide)
 have RP : runP P t = (runF P t 0, 0) := by unfold runP; rw [if_neg (by rw [hp, ho]; simp [h3])]
 have LP : lookP P t = lookF P t 0 := by unfold lookP; rw [if_neg (by rw [hp, ho]; simp [h3])]
 rw [RP, LP]
 rw [show ((0 : Nat) : Int) = 0 from rfl, Int.zero_add] at C4
 generalize runF P t 0 = z at C4
 generalize IntKind.wrap .i64 ((lookF P t 0 : Nat) : Int) = n at C4
 rw [encTr_eq z] at C4 ⊢
 simp only [encIn] at C2 C3 o1
 refine AW.rT (by rfl) fun K hK => ?_
 simp -implicitDefEqProofs only [go_sem, ↓reduceIte, Nat.reduceAdd, Nat.reduceEqDiff, Nat.reduceLeDiff]
 refine ⟨.pure _, C2, ?_⟩
 try simp -implicitDefEqProofs only [go_sem, ↓reduceIte, Nat.reduceAdd, Nat.reduceEqDiff, Nat.reduceLeDiff]
 try refine ⟨o1, ?_⟩
 apply hK; clear hK K
 refine AW.seq ?_
 refine AW.rT (by rfl) fun K hK => ?_
 simp -implicitDefEqProofs only [go_sem, Nat.reduceAdd]
 apply hK; clear hK K
 refine AW.cF rfl ?_
 refine AW.skip ?_
 simp only [andThen]
 refine AW.rT (by rfl) fun K hK => ?_
 simp -implicitDefEqProofs only [go_sem, ↓reduceIte, Nat.reduceAdd, Nat.reduceEqDiff, Nat.reduceLeDiff, reduceCtorEq]
 apply hK; clear hK K
 refine AW.rR (SeqR.ev 3 (by rfl) (by decide) ?_)
 simp -implicitDefEqProofs only [go_sem, ↓reduceIte, Nat.reduceAdd, Nat.reduceEqDiff, Nat.reduceLeDiff]
 refine ⟨.pure _, C3, ?_⟩
 try simp -implicitDefEqProofs only [go_sem, Nat.reduceAdd]
 refine SeqR.call (fun k => 25) rfl rfl C4 ⟨?_, rfl, ?_, rfl, rfl, rfl, rfl, rfl, rfl⟩ ?_
 ·simp -implicitDefEqProofs only [go_sem, ↓reduceIte, Nat.reduceEqDiff, argD]
  done
 ·simp only [memR]
  simp -implicitDefEqProofs only [go_sem, List.forall_mem_cons, List.not_mem_nil, false_implies, implies_true]
  first | done | decide | exact ⟨rfl, by decide⟩
 simp only [memR, AV.ren]
 refine SeqR.ev 2 (by rfl) (by decide) ?_
 simp -implicitDefEqProofs only [go_sem, ↓reduceIte, Nat.reduceAdd, Nat.reduceEqDiff, Nat.reduceLeDiff, lift2, goneU, newU, List.map_cons, List.map_nil, putH, Nat.reduceLT]
 refine SeqR.last rfl ?_
 refine AW.dT mixed (by rfl) (by decide +kernel) fun K hK => ?_
 simp -implicitDefEqProofs only [go_sem, ↓reduceIte, Nat.reduceAdd, Nat.reduceEqDiff, Nat.reduceLeDiff]
 refine ⟨by decide +kernel, ?_⟩
 apply hK; clear hK K
 refine AW.ret ?_
 simp -implicitDefEqProofs only [go_sem, ↓reduceIte, Nat.reduceAdd, Nat.reduceEqDiff, Nat.reduceLeDiff]
 done
theorem interp_Run (P : List (List Stp)) (t : Tr) (hlt : lensT t = true) : PFn Try.prog 7 [.agg [.slice (P.map encPt)], .agg (encTr t)] (.tuple [.agg (encTr (runP P t).1), .int .i64 (runP P t).2]) := by
 have C1 := interp_start P t hlt
 generalize (runP P t).1 = z at *
 generalize (runP P t).2 = e at *
 rw [encTr_eq z, encTr_eq t] at C1
 refine PFn.of Try.func7 rfl (by decide) Try.ntmps7 Try.results7 (Nat.le_of_ble_eq_true rfl) ?_
 simp only [argsT]
 refine AW.rT (by rfl) fun K hK => ?_
 simp -implicitDefEqProofs only [go_sem, ↓reduceIte, Nat.reduceAdd, Nat.reduceEqDiff, encTr_eq t]
 apply hK; clear hK K
 refine AW.rT (by rfl) fun K hK => ?_
 simp -implicitDefEqProofs only [go_sem, ↓reduceIte, Nat.reduceAdd, Nat.reduceEqDiff, Nat.reduceLeDiff, reduceCtorEq]
 refine ⟨.pure _, C1, ?_⟩
 try simp -implicitDefEqProofs only [go_sem, ↓reduceIte, Nat.reduceAdd, Nat.reduceEqDiff, Nat.reduceLeDiff]
 apply hK; clear hK K
 refine AW.rT (by rfl) fun K hK => ?_
 simp -implicitDefEqProofs only [go_sem, ↓reduceIte, Nat.reduceAdd, Nat.reduceEqDiff, Nat.reduceLeDiff]
 apply hK; clear hK K
 refine AW.ret ?_
 simp -implicitDefEqProofs only [go_sem, ↓reduceIte, Nat.reduceAdd, Nat.reduceEqDiff, Nat.reduceLeDiff, encTr_eq z]
 done
end Go.Aw.T
namespace Go.Aw
open Go.Proofs Go.RowKit
end Go.Aw
namespace Go.Aw.T
open Go.Proofs Go.RowKit
end Go.Aw.T
namespace Go.Aw.T
open Go.Proofs Go.RowKit
def awT : Tr := .mk 3 0 [] [(1, [.mk 1 1099511627776 [] [] []])] []
theorem aw_0 : runP [[]] awT = (.mk 3 0 [] [] [], 0) := by rfl
theorem aw_1 : runP [[⟨2, 1, 0⟩]] awT = (.mk 3 0 [] [(1, [.mk 1 2147483647 [] [] []])] [], 0) := by rfl
theorem aw_l : lensT awT = true := by rfl
def a16 (L : List (Nat × AV)) (H : List (Nat × Blk)) (n : Nat) : St := ⟨ofL ((1, .ptr 0 0 0) :: L), ofH ((0, .row 5 [cellsT awT]) :: H), n⟩
def aE : List (List PV) := [[.int .i64 1, .slice [[.int .i64 1, .int .i64 1099511627776, .str [], .slice [], .slice []]]]]
theorem law16_awake : PFn Try.prog 6 [] (.bool true) := by
 have C0 := interp_Run [[]] awT aw_l
 have C1 := interp_Run [[⟨2, 1, 0⟩]] awT aw_l
 rw [aw_0] at C0
 rw [aw_1] at C1
 refine PFn.of Try.func6 rfl (by decide) Try.ntmps6 Try.results6 (Nat.le_of_ble_eq_true rfl) ?_
 simp only [argsT]
 refine AW.rT (by rfl) fun K hK => ?_
 simp -implicitDefEqProofs only [go_sem]
 apply hK; clear hK K
 refine AW.rT (by rfl) fun K hK => ?_
 simp -implicitDefEqProofs only [go_sem, ↓reduceIte, Nat.reduceAdd, Nat.reduceMul, Nat.reduceEqDiff, Nat.reduceLeDiff]
 apply hK; clear hK K
 refine AW.ghost (s' := ⟨ofL [(1, .ptr 6 0 0)], ofH [(4, .row 2 [[.p (.int .i64 1), .p (.slice [[.int .i64 1, .int .i64 1099511627776, .str [], .slice [], .slice []]])]]), (6, .row 5 [[.p (.int .i64 3), .p (.int .i64 0), .p (.str []), .own 4, .ex []]])], 7⟩) (Ghost.trans (Ghost.exH (l := 2) (i := 0) (j := 3) rfl rfl rfl) (Ghost.trans (Ghost.exH (l := 2) (i := 0) (j := 4) rfl rfl rfl) (Ghost.trans (Ghost.freeze (lb := 2) (ps := [[.int .i64 1, .int .i64 1099511627776, .str [], .slice [], .slice []]]) rfl (by rfl)) ?_))) ?_
 ·refine Ghost.sub ?_ ?_ <;> simp -implicitDefEqProofs only [go_sem, ↓reduceIte, Nat.reduceEqDiff, thaw, thaw1, Option.map_some, List.map_cons, List.map_nil, List.set_cons_zero, List.set_cons_succ, List.forall_mem_cons, List.not_mem_nil, false_implies, implies_true, and_self, List.all_cons, List.all_nil, Nat.reduceLT, labsInL, AV.labsIn]
  all_goals first | rfl | skip
 refine AW.ghost (s' := ⟨ofL [(1, .ptr 6 0 0)], ofH [(6, .row 5 [[.p (.int .i64 3), .p (.int .i64 0), .p (.str []), .p (.slice aE), .ex []]])], 7⟩) (Ghost.trans (Ghost.freeze (lb := 4) (ps := aE) rfl (by rfl)) ?_) ?_
 ·refine Ghost.sub ?_ ?_ <;> simp -implicitDefEqProofs only [go_sem, ↓reduceIte, Nat.reduceEqDiff, thaw, thaw1, Option.map_some, List.map_cons, List.map_nil, List.forall_mem_cons, List.not_mem_nil, false_implies, implies_true, and_self, List.all_cons, List.all_nil, Nat.reduceLT, labsInL, AV.labsIn]
  all_goals first | rfl | skip
 refine AW.ghost (s' := a16 [] [] 1) (Ghost.trans (Ghost.exH (l := 6) (i := 0) (j := 4) rfl rfl rfl) ?_) ?_
 ·simp only [a16, cellsT, awT, Tr.kind, Tr.n, Tr.s, Tr.ents, Tr.rest, List.map_cons, List.map_nil, encEn, encTr_eq]
  refine Ghost.ent (fun l => if l = 0 then 6 else l) ?_ ?_ ?_ <;> simp -implicitDefEqProofs only [go_sem, ↓reduceIte, List.set_cons_zero, List.set_cons_succ, List.forall_mem_cons, List.not_mem_nil, false_implies, implies_true, and_self, List.all_cons, List.all_nil, Nat.reduceLT, labsInL, AV.labsIn]
  all_goals first | rfl | skip
 have ea : encTr awT = [.int .i64 3, .int .i64 0, .str [], .slice (awT.ents.map encEn), .slice (awT.rest.map encRaw)] := encTr_eq awT
 rw [ea] at C0 C1
 simp only [a16, cellsT, show awT.kind = 3 from rfl, show awT.n = 0 from rfl, show awT.s = [] from rfl]
 generalize awT.ents.map encEn = Es at *
 generalize awT.rest.map encRaw = Rs at *
 rw [encTr_eq] at C0 C1
 simp only [List.map_cons, List.map_nil, encPt, encSt, encEn, encTr_eq, Tr.kind, Tr.n, Tr.s, Tr.ents, Tr.rest] at C0 C1
 refine AW.rR (SeqR.ev 3 (by rfl) (by decide) ?_)
 simp -implicitDefEqProofs only [go_sem, ↓reduceIte, Nat.reduceAdd, Nat.reduceMul, Nat.reduceLeDiff]
 refine SeqR.ghost (s' := ⟨ofL [(1, .ptr 0 0 0), (14, .agg [.own 2])], ofH [(0, .row 5 [[.p (.int .i64 3), .p (.int .i64 0), .p (.str []), .p (.slice Es), .p (.slice Rs)]]), (2, .row 1 [[.p (.slice [])]])], 3⟩) (Ghost.trans (Ghost.freeze (lb := 1) (ps := []) rfl (by rfl)) ?_) ?_
 ·refine Ghost.sub ?_ ?_ <;> simp -implicitDefEqProofs only [go_sem, ↓reduceIte, Nat.reduceEqDiff, reduceCtorEq, thaw, thaw1, Option.map_some, List.map_cons, List.map_nil, List.forall_mem_cons, List.not_mem_nil, false_implies, implies_true, and_self, List.all_cons, List.all_nil, Nat.reduceLT, labsInL, AV.labsIn]
  all_goals first | rfl | skip
 refine SeqR.ghost (s' := ⟨ofL [(1, .ptr 0 0 0), (14, .p (.agg [.slice [[.slice []]]]))], ofH [(0, .row 5 [[.p (.int .i64 3), .p (.int .i64 0), .p (.str []), .p (.slice Es), .p (.slice Rs)]])], 1⟩) (Ghost.trans (Ghost.freeze (lb := 2) (ps := [[.slice []]]) rfl (by rfl)) ?_) ?_
 ·refine Ghost.sub ?_ ?_ <;> simp -implicitDefEqProofs only [go_sem, ↓reduceIte, Nat.reduceEqDiff, reduceCtorEq, thaw, thaw1, Option.map_some, List.map_cons, List.map_nil, mkAgg, allP, List.forall_mem_cons, List.not_mem_nil, false_implies, implies_true, and_self, List.all_cons, List.all_nil, Nat.reduceLT, labsInL, AV.labsIn]
  all_goals first | rfl | skip
 refine SeqR.ev 8 (by rfl) (by decide) ?_
 simp -implicitDefEqProofs only [go_sem, ↓reduceIte, Nat.reduceAdd, Nat.reduceEqDiff, Nat.reduceLeDiff]
 refine ⟨.pure _, C0, ?_⟩
 try simp -implicitDefEqProofs only [go_sem, ↓reduceIte, Nat.reduceAdd, Nat.reduceEqDiff, Nat.reduceLeDiff]
 refine SeqR.last rfl ?_
 refine AW.ghost (s' := ⟨ofL [(1, .ptr 0 0 0), (2, .ptr 1 0 0), (3, .p (.int .i64 0))], ofH [(0, .row 5 [[.p (.int .i64 3), .p (.int .i64 0), .p (.str []), .p (.slice Es), .p (.slice Rs)]]), (1, .row 5 [[.p (.int .i64 3), .p (.int .i64 0), .p (.str []), .p (.slice []), .p (.slice [])]])], 2⟩) ?_ ?_
 ·show Ghost _ _ _
  refine Ghost.ent (fun l => if l = 1 then 6 else l) ?_ ?_ ?_ <;> simp -implicitDefEqProofs only [go_sem, ↓reduceIte, Nat.reduceEqDiff, reduceCtorEq, List.forall_mem_cons, List.not_mem_nil, false_implies, implies_true, and_self, List.all_cons, List.all_nil, Nat.reduceLT, labsInL, AV.labsIn]
  all_goals first | rfl | skip
 refine AW.rR (SeqR.ev 4 (by rfl) (by decide) ?_)
 simp -implicitDefEqProofs only [go_sem, ↓reduceIte, Nat.reduceAdd, Nat.reduceMul, Nat.reduceLeDiff]
 refine SeqR.ghost (s' := ⟨ofL [(1, .ptr 0 0 0), (2, .ptr 1 0 0), (3, .p (.int .i64 0)), (23, .agg [.own 4])], ofH [(0, .row 5 [[.p (.int .i64 3), .p (.int .i64 0), .p (.str []), .p (.slice Es), .p (.slice Rs)]]), (1, .row 5 [[.p (.int .i64 3), .p (.int .i64 0), .p (.str []), .p (.slice []), .p (.slice [])]]), (4, .row 1 [[.p (.slice [[.int .i64 2, .int .i64 1, .int .i64 0]])]])], 5⟩) (Ghost.trans (Ghost.freeze (lb := 3) (ps := [[.int .i64 2, .int .i64 1, .int .i64 0]]) rfl (by rfl)) ?_) ?_
 ·refine Ghost.sub ?_ ?_ <;> simp -implicitDefEqProofs only [go_sem, ↓reduceIte, Nat.reduceEqDiff, reduceCtorEq, thaw, thaw1, Option.map_some, List.map_cons, List.map_nil, List.forall_mem_cons, List.not_mem_nil, false_implies, implies_true, and_self, List.all_cons, List.all_nil, Nat.reduceLT, labsInL, AV.labsIn]
  all_goals first | rfl | skip
 refine SeqR.ghost (s' := ⟨ofL [(1, .ptr 0 0 0), (2, .ptr 1 0 0), (3, .p (.int .i64 0)), (23, .p (.agg [.slice [[.slice [[.int .i64 2, .int .i64 1, .int .i64 0]]]]]))], ofH [(0, .row 5 [[.p (.int .i64 3), .p (.int .i64 0), .p (.str []), .p (.slice Es), .p (.slice Rs)]]), (1, .row 5 [[.p (.int .i64 3), .p (.int .i64 0), .p (.str []), .p (.slice []), .p (.slice [])]])], 2⟩) (Ghost.trans (Ghost.freeze (lb := 4) (ps := [[.slice [[.int .i64 2, .int .i64 1, .int .i64 0]]]]) rfl (by rfl)) ?_) ?_
 ·refine Ghost.sub ?_ ?_ <;> simp -implicitDefEqProofs only [go_sem, ↓reduceIte, Nat.reduceEqDiff, reduceCtorEq, thaw, thaw1, Option.map_some, List.map_cons, List.map_nil, mkAgg, allP, List.forall_mem_cons, List.not_mem_nil, false_implies, implies_true, and_self, List.all_cons, List.all_nil, Nat.reduceLT, labsInL, AV.labsIn]
  all_goals first | rfl | skip
 refine SeqR.ev 8 (by rfl) (by decide) ?_
 simp -implicitDefEqProofs only [go_sem, ↓reduceIte, Nat.reduceAdd, Nat.reduceEqDiff, Nat.reduceLeDiff]
 refine ⟨.pure _, C1, ?_⟩
 try simp -implicitDefEqProofs only [go_sem, ↓reduceIte, Nat.reduceAdd, Nat.reduceEqDiff, Nat.reduceLeDiff]
 refine SeqR.last rfl ?_
 have e0 : ((0 : Int) == 0) = true := rfl
 have e1 : (((0 : Nat) : Int) == 0) = true := rfl
 have e2 : (((1 : Nat) : Int) == 1) = true := rfl
 have e3 : ((2147483647 : Int) == 2147483647) = true := rfl
 have e4 : (0 : Int) < ((1 : Nat) : Int) := by decide
 refine AW.rT (by rfl) fun K hK => ?_
 simp -implicitDefEqProofs only [go_sem, ↓reduceIte, Nat.reduceAdd, Nat.reduceEqDiff, Int.reduceToNat, e0, e1, e2, e3, e4, Int.le_refl, List.getD_cons_zero, List.getElem?_cons_zero, List.length_cons, List.length_nil]
 apply hK; clear hK K
 refine AW.ret ?_
 simp -implicitDefEqProofs only [go_sem]
 done
end Go.Aw.T
namespace Go.Aw
open Go.Proofs Go.RowKit
theorem lift_len {α : Type} {f : α → List PV} {n : Nat} (h : ∀ a, (f a).length = n) (l : List α) : ∀ y ∈ liftE (l.map f), y.length = n := by
 intro y hy
 unfold liftE at hy
 rw [List.map_map] at hy
 obtain ⟨a, _, rfl⟩ := List.mem_map.1 hy
 simp [h]
theorem one_lift {l : List PV} (h : ∀ p ∈ l, p.one = true) : oneAll (l.map AV.p) = true := by
 induction l with
 | nil => rfl
 | cons a l ih =>
  rw [List.map_cons, oneAll, ih fun p hp => h p (List.mem_cons_of_mem _ hp), Bool.and_true]
  exact h a List.mem_cons_self
theorem lift_one {α : Type} {f : α → List PV} (h : ∀ a, ∀ p ∈ f a, p.one = true) (l : List α) : ∀ y ∈ liftE (l.map f), oneAll y = true := by
 intro y hy
 unfold liftE at hy
 rw [List.map_map] at hy
 obtain ⟨a, _, rfl⟩ := List.mem_map.1 hy
 exact one_lift (h a)
theorem one_St (a : Stp) : ∀ p ∈ encSt a, p.one = true := by intro p hp; simp [encSt] at hp; rcases hp with rfl | rfl | rfl <;> rfl
end Go.Aw
namespace Go.Aw
open Go.RowKit Go.ChangeShapes
variable {P : Program} {w : World}
def OpnW (P : Program) (w : World) (t : TypeId) {α : Type} (e : α → List PV) (G : α → Prop) : Prop :=
 (∀ a, ∀ p ∈ e a, p.one = true) ∧ ∀ (H : Type) (enc : TypeId × Value → H) (fuel : Nat) (cs : List Value) (d : DataW H × List MemPlace), DataW.trod enc P w 0 (fun _ => true) true fuel t cs = some d → (d.1.weights P t).all (· ≤ reachBytes) = true →
  ∃ a, G a ∧ cs.length = (e a).length ∧ ∀ (j : Nat) u p, cs[j]? = some u → (e a)[j]? = some p → rep w (old w) u p
theorem Opn.toW {t : TypeId} {α : Type} {e : α → List PV} {G : α → Prop} (h : Opn P w t e G) : OpnW P w t e G := ⟨h.1, fun H enc fuel cs d hd _ => h.2 H enc fuel cs d hd⟩
theorem OpnW.map {t : TypeId} {α β : Type} {e : α → List PV} {G : α → Prop} {e' : β → List PV} {G' : β → Prop} (h : OpnW P w t e G) (f : α → β) (he : ∀ a, e' (f a) = e a) (h1 : ∀ b, ∀ p ∈ e' b, p.one = true) (hg : ∀ a, G a → G' (f a)) : OpnW P w t e' G' := by
 refine ⟨h1, fun H enc fuel cs d hd hw => ?_⟩
 obtain ⟨a, g, l, r⟩ := h.2 H enc fuel cs d hd hw
 exact ⟨f a, hg a g, by rw [he]; exact l, by rw [he]; exact r⟩
theorem weightsAll_mem {H : Type} {te : TypeId} {R : Nat} : ∀ {l : List (DataW H)} {x : DataW H}, (DataW.weightsAll P te l).all (· ≤ R) = true → x ∈ l → (x.weights P te).all (· ≤ R) = true
 | [], x, _, hx => by cases hx
 | y :: l, x, h, hx => by
  rw [DataW.weightsAll, List.all_append, Bool.and_eq_true] at h
  rcases List.mem_cons.1 hx with rfl | hx
  ·exact h.1
  ·exact weightsAll_mem h.2 hx
theorem opnW_slice {t te : TypeId} {sz : Nat} {α : Type} {e : α → List PV} {G : α → Prop} (hu : P.underlying t = some (.slice te)) (hz : P.cellsOf te = sz) (hp : 0 < sz) (h : OpnW P w te e G) (hs : ∀ a, (e a).length = sz) :
  OpnW P w t (fun l : List α => [.slice (l.map e)]) (fun l => (l.length ≤ maxLen ∧ l.length * P.bytesOf te ≤ reachBytes) ∧ ∀ a ∈ l, G a) := by
 refine ⟨fun a p hp => by simp at hp; subst hp; rfl, fun H enc fuel cs d hd hwt => ?_⟩
 have one : ∀ (v : Value) (l : List α), rep w (old w) v (.slice (l.map e)) → ∀ (j : Nat) u p, [v][j]? = some u → ([PV.slice (l.map e)])[j]? = some p → rep w (old w) u p := by
  intro v l hr j u p h1 h2
  cases j with
  | zero => simp at h1 h2; subst h1; subst h2; exact hr
  | succ j => simp at h1
 cases fuel with
 | zero => simp [DataW.trod] at hd
 | succ n =>
  unfold DataW.trod at hd
  rw [hu] at hd
  split at hd <;> rename_i hh <;> try (cases hh; done)
  all_goals try cases hh
  ·exact ⟨[], ⟨⟨by simp, by simp⟩, by simp⟩, rfl, one _ [] (.empty _ _)⟩
  ·rename_i a len cap
   dsimp only at hd
   split at hd
   ·rename_i hc
    obtain ⟨_, hlc, hcm⟩ := hc
    simp only [Option.bind_eq_some_iff] at hd
    obtain ⟨els, he, hrest⟩ := hd
    obtain ⟨hl, hg⟩ := mapM_get he
    have hd1 : ∃ sp, d.1 = .slice (els.map (·.1)) sp := by
     clear hwt
     revert hrest
     simp only [Option.map_eq_some_iff]
     intro hrest
     first
     | (obtain ⟨sp, _, rfl⟩ := hrest; exact ⟨_, rfl⟩)
     | (obtain ⟨sp, _, hd⟩ := hrest; injection hd with hd; subst hd; exact ⟨_, rfl⟩)
     | (subst hrest; exact ⟨_, rfl⟩)
    obtain ⟨sp, hsp⟩ := hd1
    rw [hsp] at hwt
    simp only [DataW.weights, hu, List.all_cons, Bool.and_eq_true, decide_eq_true_eq, List.length_map, List.all_append] at hwt
    obtain ⟨hw1, hw2, _⟩ := hwt
    have hl' : els.length = len := by simpa using hl
    rw [hl'] at hw1
    have hwlen : len * P.bytesOf te ≤ reachBytes := Nat.le_trans (Nat.mul_le_mul_right _ (Nat.le_add_right _ _)) hw1
    have each : ∀ i, i < len → ∃ x : List Value × α, w.cells? 0 (a.add (i * sz)) sz = some x.1 ∧ G x.2 ∧ x.1.length = (e x.2).length ∧ ∀ (j : Nat) u p, x.1[j]? = some u → (e x.2)[j]? = some p → rep w (old w) u p := by
     intro i hi
     obtain ⟨y, hyi, hy⟩ := hg i i (by simp [hi])
     obtain ⟨c, hc1, hc2⟩ := Option.bind_eq_some_iff.1 hy
     rw [hz] at hc1
     obtain ⟨b, g, l, r⟩ := h.2 H enc n c y hc2 (weightsAll_mem hw2 (List.mem_map.2 ⟨y, List.mem_of_getElem? hyi, rfl⟩))
     exact ⟨(c, b), hc1, g, l, r⟩
    obtain ⟨xs, hxl, hx⟩ := list_choose len each
    have hgl : ((xs.map (·.2)).length ≤ maxLen ∧ (xs.map (·.2)).length * P.bytesOf te ≤ reachBytes) ∧ ∀ b ∈ xs.map (·.2), G b := by
     refine ⟨⟨by rw [List.length_map, hxl]; exact Nat.le_trans hlc hcm, by rw [List.length_map, hxl]; exact hwlen⟩, fun b hb => ?_⟩
     obtain ⟨x, hx1, rfl⟩ := List.mem_map.1 hb
     obtain ⟨i, hi⟩ := List.getElem?_of_mem hx1
     exact (hx i x hi).2.1
    refine ⟨xs.map (·.2), hgl, rfl, one _ _ ?_⟩
    rcases Nat.eq_zero_or_pos len with h0 | h0
    ·subst h0
     have : xs = [] := List.eq_nil_of_length_eq_zero hxl
     subst this
     exact .empty _ _
    ·obtain ⟨x0, hx0⟩ : ∃ x, xs[0]? = some x := ⟨_, List.getElem?_eq_getElem (by omega)⟩
     obtain ⟨c0, _, l0, _⟩ := hx 0 x0 hx0
     obtain ⟨_, cl0, cg0⟩ := World.cells?_some c0
     have q0 := cg0 0 hp
     rw [Nat.zero_mul] at q0
     have hadd : (a.add 0).add 0 = a := by simp [Addr.add]
     rw [hadd, List.getElem?_eq_getElem (by omega)] at q0
     have hsp : a.spot = none ∧ a.block < w.heap.size := by
      unfold World.cell? at q0
      split at q0
      ·rename_i hb
       split at q0
       ·cases q0
       ·rename_i hs'
        refine ⟨by simpa using hs', ?_⟩
        rcases Nat.lt_or_ge a.block w.heap.size with h' | h'
        ·exact h'
        ·rw [Array.getElem?_eq_none h'] at hb; cases hb
      ·cases q0
     obtain ⟨b, o, sp⟩ := a
     obtain ⟨hsp, hbl⟩ := hsp
     dsimp only at hsp hbl
     subst hsp
     refine rep.slice (I := old w) b o len cap sz ((xs.map (·.2)).map e) (fun i j => ((xs.getD i ([], x0.2)).1.getD j .nilIface)) (by simp [hxl]) hlc ?_ hbl ?_ ?_ ?_
     ·intro x hx
      simp only [List.map_map, List.mem_map] at hx
      obtain ⟨y, _, rfl⟩ := hx
      exact hs _
     ·intro x hx p hp'
      simp only [List.map_map, List.mem_map] at hx
      obtain ⟨y, _, rfl⟩ := hx
      exact h.1 _ _ hp'
     ·intro i x j p hi hj
      simp only [List.map_map, List.getElem?_map, Option.map_eq_some_iff] at hi
      obtain ⟨y, hy, rfl⟩ := hi
      obtain ⟨c1, _, l1, r1⟩ := hx i y hy
      obtain ⟨_, cl1, cg1⟩ := World.cells?_some c1
      have hjl : j < sz := by rw [← hs y.2]; exact (List.getElem?_eq_some_iff.1 hj).1
      have := cg1 j hjl
      have ea : ((⟨b, o, none⟩ : Addr).add (i * sz)).add j = ⟨b, o + (i * sz + j), none⟩ := by
       unfold Addr.add
       repeat' split
       all_goals simp <;> omega
      rw [ea, List.getElem?_eq_getElem (by omega)] at this
      rw [this]
      simp [List.getD, hy, List.getElem?_eq_getElem (show j < y.1.length by omega)]
     ·intro i x j p hi hj
      simp only [List.map_map, List.getElem?_map, Option.map_eq_some_iff] at hi
      obtain ⟨y, hy, rfl⟩ := hi
      obtain ⟨c1, _, l1, r1⟩ := hx i y hy
      obtain ⟨_, cl1, cg1⟩ := World.cells?_some c1
      have hjl : j < sz := by rw [← hs y.2]; exact (List.getElem?_eq_some_iff.1 hj).1
      refine r1 j _ p ?_ hj
      simp [List.getD, hy, List.getElem?_eq_getElem (show j < y.1.length by omega)]
   ·cases hd
  all_goals cases hd
def OpnFW (P : Program) (w : World) (off : Nat) (fs : List Field) {α : Type} (e : α → List PV) (G : α → Prop) : Prop :=
 (∀ a, ∀ p ∈ e a, p.one = true) ∧ (∀ a, (e a).length = (fs.map fun f => P.cellsOf f.type).sum) ∧ ∀ (H : Type) (enc : TypeId × Value → H) (n : Nat) (cs : List Value) (xs : List (DataW H × List MemPlace)),
  fs.mapM (fun f => DataW.trod enc P w 0 (fun _ => true) true n f.type ((cs.drop f.offset).take (P.cellsOf f.type))) = some xs → (DataW.weightsEach P (fs.map (·.type)) (xs.map (·.1))).all (· ≤ reachBytes) = true →
  ∃ a, G a ∧ ∀ (j : Nat) u p, cs[off + j]? = some u → (e a)[j]? = some p → rep w (old w) u p
theorem opnFW_nil {off : Nat} : OpnFW P w off [] (fun _ : Unit => []) (fun _ => True) :=
 ⟨fun a p hp => by simp at hp, fun a => rfl, fun H enc n cs xs h _ => ⟨(), trivial, fun j u p h1 h2 => by simp at h2⟩⟩
theorem opnFW_cons {off sz : Nat} {f : Field} {fs : List Field} {α β : Type} {e : α → List PV} {G : α → Prop} {e' : β → List PV} {G' : β → Prop} (ho : f.offset = off) (hz : P.cellsOf f.type = sz) (h : OpnW P w f.type e G) (hs : ∀ a, (e a).length = sz) (h' : OpnFW P w (off + sz) fs e' G') :
  OpnFW P w off (f :: fs) (fun x : α × β => e x.1 ++ e' x.2) (fun x => G x.1 ∧ G' x.2) := by
 refine ⟨fun a p hp => ?_, fun a => by simp [hs, hz, h'.2.1], fun H enc n cs xs hx hwt => ?_⟩
 ·rcases List.mem_append.1 hp with hp | hp
  ·exact h.1 _ _ hp
  ·exact h'.1 _ _ hp
 ·simp only [List.mapM_cons, Option.bind_eq_bind, Option.bind_eq_some_iff, Option.pure_def, Option.some.injEq] at hx
  obtain ⟨y, hy, ys, hys, rfl⟩ := hx
  rw [List.map_cons, List.map_cons, DataW.weightsEach, List.all_append, Bool.and_eq_true] at hwt
  obtain ⟨a, ga, la, ra⟩ := h.2 H enc n _ y hy hwt.1
  obtain ⟨b, gb, rb⟩ := h'.2.2 H enc n cs ys hys hwt.2
  refine ⟨(a, b), ⟨ga, gb⟩, fun j u p h1 h2 => ?_⟩
  rcases Nat.lt_or_ge j sz with hj | hj
  ·rw [List.getElem?_append_left (by rw [hs]; exact hj)] at h2
   refine ra j u p ?_ h2
   rw [ho, hz, List.getElem?_take, if_pos hj, List.getElem?_drop]
   exact h1
  ·rw [List.getElem?_append_right (by rw [hs]; exact hj), hs] at h2
   exact rb (j - sz) u p (by rw [← h1]; congr 1; omega) h2
theorem opnW_struct {t : TypeId} {fs : Array Field} {α : Type} {e : α → List PV} {G : α → Prop} (hu : P.underlying t = some (.struct fs)) (hz : P.cellsOf t = (fs.toList.map fun f => P.cellsOf f.type).sum) (h : OpnFW P w 0 fs.toList e G) : OpnW P w t e G := by
 refine ⟨h.1, fun H enc fuel cs d hd hwt => ?_⟩
 cases fuel with
 | zero => simp [DataW.trod] at hd
 | succ n =>
  unfold DataW.trod at hd
  rw [hu] at hd
  split at hd <;> rename_i hh <;> try (cases hh; done)
  all_goals try cases hh
  all_goals try (cases hd; done)
  all_goals
   split at hd
   ·rename_i hl
    obtain ⟨xs, hx, hd⟩ := Option.map_eq_some_iff.1 hd
    subst hd
    simp only [DataW.weights, hu] at hwt
    obtain ⟨a, ga, ra⟩ := h.2.2 H enc n _ xs hx hwt
    exact ⟨a, ga, by rw [hl, hz, h.2.1], fun j u p h1 h2 => ra j u p (by rw [Nat.zero_add]; exact h1) h2⟩
   ·cases hd
theorem opnAW_flat {t : TypeId} {ts : List TypeId} {α β : Type} {e : α → PV} {G : α → Prop} {e' : β → List PV} {G' : β → Prop} (hf : flat P t = true) (h : OpnW P w t (fun a => [e a]) G) (h' : OpnA P w ts e' G') : OpnA P w (t :: ts) (fun x : α × β => e x.1 :: e' x.2) (fun x => G x.1 ∧ G' x.2) := by
 intro H enc vs ds ps hh hv hwt
 obtain ⟨v, vs1, d, ds1, p, q, rfl, rfl, rfl, h1, h2⟩ := trodAll_cons hh
 rw [DataW.weightsEach, List.all_append, Bool.and_eq_true] at hwt
 obtain ⟨n, hn⟩ := h1
 obtain ⟨base, hv0⟩ := hv 0 t v rfl rfl
 rw [cells_flat hf hv0] at hn
 obtain ⟨a, ga, la, ra⟩ := h.2 H enc n _ _ hn hwt.1
 obtain ⟨b, gb, lb, rb⟩ := h' H enc vs1 ds1 q h2 (fun j t v h1 h2 => hv (j + 1) t v (by simpa using h1) (by simpa using h2)) hwt.2
 refine ⟨(a, b), ⟨ga, gb⟩, by simp [lb], fun j u p h1 h2 => ?_⟩
 cases j with
 | zero =>
  simp at h1 h2
  subst h1; subst h2
  exact ra 0 _ (e a) rfl rfl
 | succ j => exact rb j u p (by simpa using h1) (by simpa using h2)
theorem opnAW_agg {t : TypeId} {ts : List TypeId} {fs : Array Field} {α β : Type} {e : α → List PV} {G : α → Prop} {e' : β → List PV} {G' : β → Prop} (hu : P.underlying t = some (.struct fs)) (h : OpnW P w t e G) (h' : OpnA P w ts e' G') : OpnA P w (t :: ts) (fun x : α × β => .agg (e x.1) :: e' x.2) (fun x => G x.1 ∧ G' x.2) := by
 intro H enc vs ds ps hh hv hwt
 obtain ⟨v, vs1, d, ds1, p, q, rfl, rfl, rfl, h1, h2⟩ := trodAll_cons hh
 rw [DataW.weightsEach, List.all_append, Bool.and_eq_true] at hwt
 obtain ⟨n, hn⟩ := h1
 obtain ⟨base, hv0⟩ := hv 0 t v rfl rfl
 unfold Value.okWide at hv0
 rw [hu] at hv0
 obtain ⟨cs, rfl, _, _⟩ := hv0
 obtain ⟨a, ga, la, ra⟩ := h.2 H enc n _ _ hn hwt.1
 obtain ⟨b, gb, lb, rb⟩ := h' H enc vs1 ds1 q h2 (fun j t v h1 h2 => hv (j + 1) t v (by simpa using h1) (by simpa using h2)) hwt.2
 refine ⟨(a, b), ⟨ga, gb⟩, by simp [lb], fun j u p h1 h2 => ?_⟩
 cases j with
 | zero =>
  simp at h1 h2
  subst h1; subst h2
  exact .agg (by simpa [Value.cells] using la) fun j u p h1 h2 => ra j u p (by simpa [Value.cells] using h1) h2
 | succ j => exact rb j u p (by simpa using h1) (by simpa using h2)
end Go.Aw
namespace Go.Aw
open Go.RowKit Go.ChangeShapes Go.Proofs
def okI (n : Int) : Prop := (Lit.int .i64 n).wf = true
theorem opn_i64W (W : World) : OpnW Try.prog W 3 (fun n : Int => [.int .i64 n]) okI := (opn_int Try.underlying3).toW
structure GSt (a : Stp) : Prop where
 op : okI a.op
 tag : okI a.tag
 sub : okI a.sub
theorem opn_st (W : World) : OpnW Try.prog W 49 encSt GSt := by
 have c3 : Try.prog.cellsOf 3 = 1 := by kernel_rfl
 refine OpnW.map (G := fun x : Int × Int × Int × Unit => (okI) x.1 ∧ (okI) x.2.1 ∧ (okI) x.2.2.1 ∧ True) (opnW_struct Try.underlying49 (by kernel_rfl) ?_) (fun x : Int × Int × Int × Unit => (⟨x.1, x.2.1, x.2.2.1⟩ : Stp)) (fun a => rfl) (fun b p hp => by simp [encSt] at hp; rcases hp with rfl | rfl | rfl <;> rfl) ?_
 ·have f2 := opnFW_cons (P := Try.prog) (w := W) (off := 2) (f := { name := "Sub", type := 3, offset := 2, embedded := false, tag := "", pkgPath := "", byteOffset := 16 }) rfl c3 (opn_i64W W) (fun _ => rfl) opnFW_nil
  have f1 := opnFW_cons (P := Try.prog) (w := W) (off := 1) (f := { name := "Tag", type := 3, offset := 1, embedded := false, tag := "", pkgPath := "", byteOffset := 8 }) rfl c3 (opn_i64W W) (fun _ => rfl) f2
  have f0 := opnFW_cons (P := Try.prog) (w := W) (off := 0) (f := { name := "Op", type := 3, offset := 0, embedded := false, tag := "", pkgPath := "", byteOffset := 0 }) rfl c3 (opn_i64W W) (fun _ => rfl) f1
  exact f0
 ·intro x h
  exact ⟨h.1, h.2.1, h.2.2.1⟩
def GSts (l : List Stp) : Prop := (l.length ≤ maxLen ∧ l.length * Try.prog.bytesOf 49 ≤ reachBytes) ∧ ∀ a ∈ l, GSt a
theorem opn_sts (W : World) : OpnW Try.prog W 31 (fun l : List Stp => [.slice (l.map encSt)]) GSts :=
 opnW_slice (sz := 3) Try.underlying31 (by kernel_rfl) (by decide) (opn_st W) (fun _ => rfl)
def GPts (l : List (List Stp)) : Prop := (l.length ≤ maxLen ∧ l.length * Try.prog.bytesOf 31 ≤ reachBytes) ∧ ∀ a ∈ l, GSts a
theorem opn_pts (W : World) : OpnW Try.prog W 22 (fun l : List (List Stp) => [.slice (l.map encPt)]) GPts :=
 opnW_slice (sz := 1) Try.underlying22 (by kernel_rfl) (by decide) (opn_sts W) (fun _ => rfl)
theorem GPts.lens {p : List (List Stp)} (G : GPts p) : ∀ x ∈ p, x.length ≤ 6000000000000 := fun x hx => by
 have h := (G.2 x hx).1.2
 have e : reachBytes = 140737488351232 := by decide
 have b : Try.prog.bytesOf 49 = 24 := by kernel_rfl
 rw [e, b] at h
 omega
end Go.Aw
namespace Go.Aw.T
open Go.Proofs Go.RowKit
theorem same_of {a b : Tr} {f : FuncId} (h : PFn Try.prog f [.agg (encTr a), .agg (encTr b)] (.bool (sameT a b))) (e : a = b) : PFn Try.prog f [.agg (encTr a), .agg (encTr b)] (.bool true) := by
 rw [(sameT_iff a b).2 e] at h
 exact h
theorem runF_lens {P : List (List Stp)} (hP : progB P = true) : ∀ (t : Tr) (i : Nat), i < P.length → lensT t = true → rightT t = true → lensT (runF P t (i : Int)) = true := by
 intro t
 induction h : SizeOf.sizeOf t using Nat.strongRecOn generalizing t with
 | _ sz ih =>
 subst h
 intro i hi hlt hrt
 obtain ⟨x, hx⟩ : ∃ x, P[i]? = some x := ⟨_, List.getElem?_eq_getElem hi⟩
 have hxm := List.mem_of_getElem? hx
 have hPO : partO P (i : Int) = x := by
  unfold partO
  rw [Int.toNat_natCast, List.getD_eq_getElem?_getD, hx]
  rfl
 have hre : rightE t.ents 0 = true := by
  rcases right_kinds hrt with ⟨_, q⟩ | ⟨_, q⟩ | ⟨_, _, _, q, _⟩
  ·rw [q]
   show rightE [] 0 = true
   rw [rightE]
  ·rw [q]
   show rightE [] 0 = true
   rw [rightE]
  ·exact q
 obtain ⟨la1, la2, la3⟩ := lensT_mk hlt
 have x500 := prog_len hP hxm
 rw [runF_eq, hPO]
 have lE : ∀ {es : List (Int × List Tr)}, (∀ e ∈ es, e.2.length ≤ 1000 ∧ lensTs e.2 = true) → lensE es = true := by
  intro es
  induction es with
  | nil => intro _; rw [lensE]
  | cons e es ih =>
   intro h
   obtain ⟨g, l⟩ := e
   obtain ⟨h1, h2⟩ := h (g, l) (List.mem_cons_self ..)
   rw [lensE, h2, ih fun y hy => h y (List.mem_cons_of_mem _ hy)]
   simp
   exact h1
 have lTs : ∀ {l : List Tr}, (∀ y ∈ l, lensT y = true) → lensTs l = true := by
  intro l
  induction l with
  | nil => intro _; rw [lensTs]
  | cons y l ih =>
   intro h
   rw [lensTs, h y (List.mem_cons_self ..), ih fun z hz => h z (List.mem_cons_of_mem _ hz)]
   rfl
 have hlen : (x.flatMap (entF P t.ents)).length ≤ 1000 := by
  have := outP_len P t x x.length
  unfold outP at this
  rw [List.take_length] at this
  omega
 rw [lensT]
 simp only [Bool.and_eq_true, decide_eq_true_eq]
 refine ⟨⟨by simp, hlen⟩, lE fun e he => ?_⟩
 obtain ⟨s, hs, he⟩ := List.mem_flatMap.1 he
 unfold entF at he
 split at he
 ·cases he
 ·rw [List.mem_singleton] at he
  subst he
  simp only
  obtain ⟨p1, p2, p3⟩ := prog_step hP hxm hs
  rcases getG_cases t.ents s.tag with hg | ⟨e', he', _, hg⟩
  ·rw [hg, stepF_none]
   exact ⟨by simp, by rw [lensTs]⟩
  ·rw [hg]
   obtain ⟨r1, r2, r3⟩ := rightE_in hre e' he'
   obtain ⟨ei, hei⟩ := List.getElem?_of_mem he'
   have ⟨le1, le2⟩ := lensE_at la3 hei
   have sl := (lastL_len s e'.2).1
   unfold stepF
   split
   ·exact ⟨by simp, by rw [lensTs]⟩
   ·split
    ·exact ⟨by simp, by rw [lensTs]⟩
    ·refine ⟨by rw [List.length_map]; omega, lTs fun y hy => ?_⟩
     obtain ⟨z, hz, rfl⟩ := List.mem_map.1 hy
     have hz' := lastL_mem hz
     obtain ⟨zj, hzj⟩ := List.getElem?_of_mem hz'
     have lz := lensTs_at le2 hzj
     unfold run1F
     split
     ·unfold clampT
      have := lz
      cases z
      rw [lensT] at this ⊢
      exact this
     ·split
      ·rename_i o34
       obtain ⟨k, hsk, hkl⟩ := p3 o34
       rw [hsk]
       exact ih _ (size_ent hei hzj) z rfl k hkl lz (r3 z hz').2
      ·exact lz
theorem runP_lens {P : List (List Stp)} {t : Tr} (hlt : lensT t = true) : lensT (runP P t).1 = true := by
 unfold runP
 split
 ·rfl
 ·rename_i h
  simp only [not_or] at h
  have hp : progB P = true := by simpa using h.1
  have ho : okT t = true := by simpa using h.2.2
  have hi : 0 < P.length := by
   unfold progB at hp
   rw [Bool.and_eq_true, decide_eq_true_eq] at hp
   omega
  exact runF_lens hp t 0 hi hlt (ok_right ho)
end Go.Aw.T
namespace Go.Aw.T
open Go.Proofs Go.RowKit
theorem rightE_mono : ∀ {es : List (Int × List Tr)} {a b : Int}, a ≤ b → rightE es b = true → rightE es a = true
 | [], a, b, _, _ => by rw [rightE]
 | (g, l) :: es, a, b, h, hr => by
  rw [rightE] at hr ⊢
  split at hr
  ·cases hr
  rename_i h1
  rw [if_neg (by omega)]
  exact hr
theorem right_mk {k n : Int} {s : List UInt8} {es : List (Int × List Tr)} {r : List Raw} (hk : k = 3) (hn : n = 0) (hs : s = []) (hr : r = []) (he : rightE es 0 = true) : rightT (.mk k n s es r) = true := by
 subst hk hn hs hr
 rw [rightT, if_neg (by decide), if_neg (by decide), if_pos rfl, he]
 rfl
theorem dTs_ge : ∀ {l : List Tr} {x : Tr} {m d : Nat}, x ∈ l → dT x m ≤ dTs l m d
 | [], _, _, _, h => by cases h
 | a :: l, x, m, d, h => by
  rw [dTs]
  have mono : ∀ (l : List Tr) (d : Nat), d ≤ dTs l m d := fun l => by
   induction l with
   | nil => intro d; rw [dTs]; omega
   | cons b l ih => intro d; rw [dTs]; have := ih (max d (dT b m)); omega
  rcases List.mem_cons.1 h with rfl | h
  ·have := mono l (max d (dT x m)); omega
  ·exact dTs_ge h
theorem dE_ge : ∀ {es : List (Int × List Tr)} {e : Int × List Tr} {x : Tr} {m d : Nat}, e ∈ es → x ∈ e.2 → dT x m ≤ dE es m d
 | [], _, _, _, _, h, _ => by cases h
 | (g, l) :: es, e, x, m, d, h, hx => by
  rw [dE]
  have mono1 : ∀ (l : List Tr) (d : Nat), d ≤ dTs l m d := fun l => by
   induction l with
   | nil => intro d; rw [dTs]; omega
   | cons b l ih => intro d; rw [dTs]; have := ih (max d (dT b m)); omega
  have mono : ∀ (es : List (Int × List Tr)) (d : Nat), d ≤ dE es m d := fun es => by
   induction es with
   | nil => intro d; rw [dE]; omega
   | cons b es ih => obtain ⟨g, l⟩ := b; intro d; rw [dE]; have := ih (dTs l m d); have := mono1 l d; omega
  rcases List.mem_cons.1 h with rfl | h
  ·have h1 := dTs_ge (m := m) (d := d) hx
   have := mono es (dTs l m d)
   simp only at h1
   omega
  ·exact dE_ge h hx
theorem dTs_bound {b m : Nat} : ∀ {l : List Tr} {d : Nat}, (∀ x ∈ l, dT x m ≤ b) → d ≤ b → dTs l m d ≤ b
 | [], d, _, h => by rw [dTs]; exact h
 | x :: l, d, hl, h => by
  rw [dTs]
  have := hl x (List.mem_cons_self)
  exact dTs_bound (fun y hy => hl y (List.mem_cons_of_mem _ hy)) (by omega)
theorem dE_bound {b m : Nat} : ∀ {es : List (Int × List Tr)} {d : Nat}, (∀ e ∈ es, ∀ x ∈ e.2, dT x m ≤ b) → d ≤ b → dE es m d ≤ b
 | [], d, _, h => by rw [dE]; exact h
 | (g, l) :: es, d, hl, h => by
  rw [dE]
  exact dE_bound (fun e he => hl e (List.mem_cons_of_mem _ he)) (dTs_bound (hl (g, l) List.mem_cons_self) h)
theorem rightTs_all {k : Int} : ∀ {l : List Tr}, (∀ x ∈ l, x.kind = k ∧ rightT x = true) → rightTs l k = true
 | [], _ => by rw [rightTs]
 | x :: l, h => by
  have := h x (List.mem_cons_self)
  rw [rightTs, if_neg (by simp [this.1]), if_pos this.2]
  exact rightTs_all fun y hy => h y (List.mem_cons_of_mem _ hy)
theorem part_right {P : List (List Stp)} {es : List (Int × List Tr)} : ∀ {x : List Stp} {last : Int}, partB P.length last x = true → (∀ s ∈ x, stepF P s (getG es s.tag) ≠ [] → (stepF P s (getG es s.tag)).length ≤ 64 ∧ ∃ k, ∀ y ∈ stepF P s (getG es s.tag), y.kind = k ∧ rightT y = true) →
  rightE (x.flatMap (entF P es)) last = true
 | [], _, _, _ => by
  rw [List.flatMap_nil, rightE]
 | s :: l, last, hp, h => by
  rw [partB, Bool.and_eq_true] at hp
  have q := hp.1
  unfold stOK at q
  rw [Bool.and_eq_true, decide_eq_true_eq] at q
  have ih := part_right (P := P) (es := es) hp.2 fun u hu => h u (List.mem_cons_of_mem _ hu)
  have hs := h s (List.mem_cons_self ..)
  rw [List.flatMap_cons]
  unfold entF
  cases hy : stepF P s (getG es s.tag) with
  | nil =>
   rw [if_pos (by rfl), List.nil_append]
   exact rightE_mono (by omega) ih
  | cons y ys =>
   rw [hy] at hs
   obtain ⟨h1, k, h2⟩ := hs (by simp)
   have hk : headK (y :: ys) = k := (h2 y (List.mem_cons_self ..)).1
   rw [if_neg (by simp), List.singleton_append, rightE, if_neg (by simp at h1 ⊢; omega), hk, if_pos (rightTs_all h2)]
   exact ih
theorem step_right {P : List (List Stp)} {s : Stp} {l : List Tr} {c : Int} (h1 : 1 ≤ s.op) (h4 : s.op ≤ 4) (hx : ∀ x ∈ l, x.kind = c ∧ rightT x = true) (IH : ∀ x ∈ l, rightT (runF P x s.sub) = true ∨ ¬ (s.op = 3 ∨ s.op = 4)) :
  (stepF P s l).length ≤ l.length ∧ (stepF P s l ≠ [] → ∃ k, ∀ y ∈ stepF P s l, y.kind = k ∧ rightT y = true) := by
 have sl := (lastL_len s l).1
 unfold stepF
 split
 ·exact ⟨by simp, fun h => absurd rfl h⟩
 ·rename_i hk
  have hk : kindOK s l = true := by simpa using hk
  split
  ·exact ⟨by simp, fun h => absurd rfl h⟩
  ·refine ⟨by rw [List.length_map]; exact sl, fun _ => ⟨if s.op = 1 then c else if s.op = 2 then 1 else 3, fun y hy => ?_⟩⟩
   obtain ⟨z, hz, rfl⟩ := List.mem_map.1 hy
   have hz' := lastL_mem hz
   obtain ⟨z1, z2⟩ := hx z hz'
   unfold kindOK at hk
   unfold run1F
   by_cases o1 : s.op = 1
   ·rw [if_pos o1, if_neg (by omega), if_neg (by omega)]
    exact ⟨z1, z2⟩
   rw [if_neg o1]
   by_cases o2 : s.op = 2
   ·rw [if_pos o2, List.all_eq_true] at hk
    have k1 := of_decide_eq_true (hk z hz')
    rw [if_pos o2, if_pos o2]
    refine ⟨k1, ?_⟩
    rcases right_kinds z2 with ⟨k, e⟩ | ⟨k, _⟩ | ⟨k, _⟩
    ·rw [e]
     show rightT (.mk 1 (clampV z.n) [] [] []) = true
     rw [rightT]
     rfl
    ·omega
    ·omega
   ·rw [if_neg o2, if_neg o2, if_pos (by omega)]
    rcases IH z hz' with h | h
    ·refine ⟨?_, h⟩
     rw [runF_eq]
     rfl
    ·exact absurd (by omega) h
theorem run_right {P : List (List Stp)} (hP : progB P = true) : ∀ (t : Tr) (i : Nat), i < P.length → rightT t = true → rightT (runF P t (i : Int)) = true ∧ (t.kind = 3 → ∀ q, dT (runF P t (i : Int)) q ≤ dT t q) := by
 intro t
 induction h : SizeOf.sizeOf t using Nat.strongRecOn generalizing t with
 | _ sz ih =>
 subst h
 intro i hi hrt
 obtain ⟨x, hx⟩ : ∃ x, P[i]? = some x := ⟨_, List.getElem?_eq_getElem hi⟩
 have hxm := List.mem_of_getElem? hx
 have hPO : partO P (i : Int) = x := by
  unfold partO
  rw [Int.toNat_natCast, List.getD_eq_getElem?_getD, hx]
  rfl
 have hre : rightE t.ents 0 = true := by
  rcases right_kinds hrt with ⟨_, q⟩ | ⟨_, q⟩ | ⟨_, _, _, q, _⟩
  ·rw [q]
   show rightE [] 0 = true
   rw [rightE]
  ·rw [q]
   show rightE [] 0 = true
   rw [rightE]
  ·exact q
 have hpx : partB P.length 0 x = true := by
  unfold progB at hP
  rw [Bool.and_eq_true, List.all_eq_true] at hP
  exact hP.2 x hxm
 have SUB : ∀ s ∈ x, ∀ e ∈ t.ents, ∀ z ∈ e.2, s.op = 3 ∨ s.op = 4 → rightT (runF P z s.sub) = true ∧ (z.kind = 3 → ∀ q, dT (runF P z s.sub) q ≤ dT z q) := fun s hs e he z hz o34 => by
  obtain ⟨k, hk, hkl⟩ := (prog_step hP hxm hs).2.2 o34
  obtain ⟨ei, hei⟩ := List.getElem?_of_mem he
  obtain ⟨zj, hzj⟩ := List.getElem?_of_mem hz
  rw [hk]
  exact ih _ (size_ent hei hzj) z rfl k hkl ((rightE_in hre e he).2.2 z hz).2
 rw [runF_eq, hPO]
 constructor
 ·refine right_mk rfl rfl rfl rfl (part_right hpx fun s hs hne => ?_)
  obtain ⟨p1, p2, p3⟩ := prog_step hP hxm hs
  rcases getG_cases t.ents s.tag with hg | ⟨e, he, _, hg⟩
  ·rw [hg, stepF_none] at hne
   exact absurd rfl hne
  ·rw [hg] at hne ⊢
   obtain ⟨r1, r2, r3⟩ := rightE_in hre e he
   obtain ⟨a, b⟩ := step_right (P := P) p1 p2 r3 fun z hz => by
    by_cases o : s.op = 3 ∨ s.op = 4
    ·exact .inl (SUB s hs e he z hz o).1
    ·exact .inr o
   exact ⟨by omega, b hne⟩
 ·intro hk q
  rw [dT_mk, dT_mk t, hk]
  by_cases hq : q = 0
  ·rw [if_pos (.inr hq)]; omega
  rw [if_neg (by simp [hq, Tr.kind]), if_neg (by simp [hq])]
  have : dE (x.flatMap (entF P t.ents)) (q - 1) 0 ≤ dE t.ents (q - 1) 0 := dE_bound (fun e' he' y hy => by
   obtain ⟨s, hs, he'⟩ := List.mem_flatMap.1 he'
   unfold entF at he'
   split at he'
   ·cases he'
   ·rw [List.mem_singleton] at he'
    subst he'
    simp only at hy
    rcases getG_cases t.ents s.tag with hg | ⟨e, he, _, hg⟩
    ·rw [hg, stepF_none] at hy
     cases hy
    ·rw [hg] at hy
     unfold stepF at hy
     split at hy
     ·cases hy
     rename_i hko
     have hko : kindOK s e.2 = true := by simpa using hko
     split at hy
     ·cases hy
     obtain ⟨z, hz, rfl⟩ := List.mem_map.1 hy
     have hz' := lastL_mem hz
     have dx := dE_ge (m := q - 1) (d := 0) he hz'
     have : dT (run1F P s z) (q - 1) ≤ dT z (q - 1) := by
      unfold run1F
      split
      ·unfold clampT
       rw [dT_mk, dT_mk z]; exact Nat.le_refl _
      split
      ·rename_i o2 o34
       unfold kindOK at hko
       rw [if_neg o2, if_pos o34, List.all_eq_true] at hko
       exact (SUB s hs e he z hz' o34).2 (of_decide_eq_true (hko z hz')) _
      ·exact Nat.le_refl _
     omega) (Nat.zero_le _)
  show dE (x.flatMap (entF P t.ents)) (q - 1) 0 + 1 ≤ _
  omega
theorem run_ok {P : List (List Stp)} (hP : progB P = true) {t : Tr} (hk : t.kind = 3) (ho : okT t = true) : okT (runF P t 0) = true := by
 have hi : 0 < P.length := by
  unfold progB at hP
  rw [Bool.and_eq_true, decide_eq_true_eq] at hP
  omega
 obtain ⟨a, b⟩ := run_right hP t 0 hi (ok_right ho)
 have b := b hk 101
 unfold okT at ho ⊢
 rw [Bool.and_eq_true, decide_eq_true_eq] at ho ⊢
 exact ⟨Nat.le_trans b ho.1, a⟩
def undE (t : Tr) (g : Int) : List (Int × List Tr) := (t.ents.find? (fun e => e.1 == g)).toList
theorem run_less {P : List (List Stp)} {t : Tr} {i : Int} {e : Int × List Tr} (hPl : ∀ x ∈ partO P i, 1 ≤ x.op ∧ x.op ≤ 4) (he : e ∈ (runF P t i).ents) : ∃ e', undE t e.1 = [e'] ∧ e.2.length ≤ e'.2.length := by
 rw [runF_eq] at he
 obtain ⟨s, hs, he⟩ := List.mem_flatMap.1 he
 unfold entF at he
 split at he
 ·cases he
 rename_i hne
 rw [List.mem_singleton] at he
 subst he
 simp only at hne ⊢
 unfold undE
 unfold getG at hne ⊢
 cases hf : t.ents.find? (fun e => e.1 == s.tag) with
 | none =>
  rw [hf] at hne
  simp only at hne
  rw [stepF_none] at hne
  simp at hne
 | some e' =>
  refine ⟨e', rfl, ?_⟩
  simp only
  have sl := (lastL_len s e'.2).1
  unfold stepF
  split
  ·simp
  ·split
   ·simp
   ·rw [List.length_map]; exact sl
def vuE (t : Tr) (g : Int) (i : Nat) : St := ⟨ofL [(1, .p (.int .i64 g)), (2, .ptr 0 0 0), (5, .p (.int .i64 (i : Int)))], ofH [(0, .row 5 [cellsT t])], 1⟩
theorem law16_under (t : Tr) (hlt : lensT t = true) (g : Int) : PFn Try.prog 10 [.agg (encTr t), .int .i64 g] (.slice ((undE t g).map encEn)) := by
 obtain ⟨la1, la2, la3⟩ := lensT_mk hlt
 refine PFn.of Try.func10 rfl (by decide) Try.ntmps10 Try.results10 (Nat.le_of_ble_eq_true rfl) ?_
 simp only [argsT]
 refine AW.rT (by rfl) fun K hK => ?_
 simp -implicitDefEqProofs only [go_sem, Nat.reduceAdd, encTr_eq]
 apply hK; clear hK K
 refine AW.seq ?_
 refine AW.rT (by rfl) fun K hK => ?_
 simp -implicitDefEqProofs only [go_sem, Nat.reduceAdd]
 apply hK; clear hK K
 refine AW.block ?_
 refine AW.loop (fun i : Nat => vuE t g i) (fun i => i ≤ t.ents.length ∧ (t.ents.take i).all (fun e => e.1 != g) = true) (fun i => t.ents.length - i) 0 ?_ ⟨by simp, by simp⟩ fun i hi => ?_
 ·simp only [vuE, cellsT]
  refine Ghost.sub ?_ ?_ <;> simp -implicitDefEqProofs only [go_sem, ↓reduceIte, Nat.reduceEqDiff, List.forall_mem_cons, List.not_mem_nil, false_implies, implies_true, and_self, List.all_cons, List.all_nil, Nat.reduceLT, labsInL, AV.labsIn]
  rfl
 obtain ⟨g1, g2⟩ := hi
 simp only [vuE, cellsT]
 refine AW.seq ?_
 by_cases hil : i < t.ents.length
 case neg =>
  have hc1 : ((i : Int) < (t.ents.length : Int)) = False := eq_false (by omega)
  rw [List.take_of_length_le (by omega)] at g2
  have HH : undE t g = [] := by unfold undE; rw [find_none g2]; rfl
  refine AW.rT (by rfl) fun K hK => ?_
  simp -implicitDefEqProofs only [go_sem, ↓reduceIte, Nat.reduceAdd, Nat.reduceEqDiff, hc1, List.length_map]
  apply hK; clear hK K
  refine AW.cF rfl ?_
  refine AW.exit ?_
  simp only [andThen, inBlk, ↓reduceIte]
  refine AW.rT (by rfl) fun K hK => ?_
  simp -implicitDefEqProofs only [go_sem, Nat.reduceAdd]
  apply hK; clear hK K
  refine AW.ret ?_
  simp -implicitDefEqProofs only [go_sem, HH, List.map_nil]
 obtain ⟨e, he⟩ : ∃ e, t.ents[i]? = some e := ⟨_, List.getElem?_eq_getElem hil⟩
 have ⟨he1, he2, he3⟩ := at_map' encEn he
 have hc1 : ((i : Int) < (t.ents.length : Int)) = True := eq_true (by omega)
 have w1 : IntKind.wrap .i64 ((i : Int) + 1) = ((i + 1 : Nat) : Int) := by rw [w64] <;> omega
 refine AW.rT (by rfl) fun K hK => ?_
 simp -implicitDefEqProofs only [go_sem, ↓reduceIte, Nat.reduceAdd, Nat.reduceEqDiff, hc1, List.length_map]
 apply hK; clear hK K
 refine AW.cT rfl ?_
 refine AW.skip ?_
 simp only [andThen]
 refine AW.seq ?_
 refine AW.block ?_
 by_cases hg : e.1 = g
 ·have b1 := eqb hg
  have HH : undE t g = [e] := by unfold undE; rw [find_some g2 he hg]; rfl
  refine AW.rT (by rfl) fun K hK => ?_
  simp -implicitDefEqProofs only [go_sem, ↓reduceIte, Nat.reduceAdd, Nat.reduceEqDiff, he1, he3, hc1, encEn, List.length_map, b1]
  apply hK; clear hK K
  refine AW.cT rfl ?_
  refine AW.rT (by rfl) fun K hK => ?_
  simp -implicitDefEqProofs only [go_sem, ↓reduceIte, Nat.reduceAdd, Nat.reduceEqDiff, w1, List.length_map]
  refine ⟨fun y hy => by
   obtain ⟨x, _, rfl⟩ := List.mem_map.1 hy
   rfl, by simp, ⟨by omega, by omega, by omega⟩, ?_⟩
  apply hK; clear hK K
  have DD : List.drop i (List.take (i + 1) (t.ents.map encEn)) = [encEn e] := by
   rw [List.take_add_one, map_at he]
   exact List.drop_left' (by rw [List.length_take, List.length_map]; omega)
  refine AW.ret ?_
  simp -implicitDefEqProofs only [go_sem, HH, List.map_cons, List.map_nil, DD]
  done
 ·have b1 := beqf hg
  refine AW.rT (by rfl) fun K hK => ?_
  simp -implicitDefEqProofs only [go_sem, ↓reduceIte, Nat.reduceAdd, Nat.reduceEqDiff, he1, he3, hc1, encEn, List.length_map, b1]
  apply hK; clear hK K
  refine AW.cF rfl ?_
  refine AW.skip ?_
  simp only [andThen, inBlk]
  refine AW.rE (by rfl) fun K hK => ?_
  simp -implicitDefEqProofs only [go_sem, ↓reduceIte, Nat.reduceAdd, Nat.reduceEqDiff, w1]
  apply hK; clear hK K
  refine ⟨i + 1, ⟨by omega, all_take he g2 hg⟩, by omega, ?_⟩
  show Ghost _ _ (vuE t g (i + 1))
  simp only [vuE, cellsT]
  refine Ghost.sub ?_ ?_ <;> simp -implicitDefEqProofs only [go_sem, ↓reduceIte, Nat.reduceEqDiff, List.forall_mem_cons, List.not_mem_nil, false_implies, implies_true, and_self, List.all_cons, List.all_nil, Nat.reduceLT, labsInL, AV.labsIn]
  done
def lsS (p : List (List Stp)) (t : Tr) (i k : Nat) : St := ⟨ofL [(0, .p (.slice (p.map encPt))), (3, .ptr 0 0 0), (5, .ptr 1 0 0), (6, .p (.int .i64 (k : Int)))], ofH [(0, .row 5 [cellsT t]), (1, .row 1 [[.own 2]]), (2, .row 1 (liftE ((p.take i).map encPt)))], 3⟩
def lsM (p : List (List Stp)) (t : Tr) (x : List Stp) (i : Nat) : St := ⟨ofL [(0, .p (.slice (p.map encPt))), (3, .ptr 0 0 0), (5, .ptr 1 0 0), (6, .p (.int .i64 (i : Int)))], ofH [(0, .row 5 [cellsT t]), (1, .row 1 [[.own 2]]), (2, .row 1 (liftE ((p.take i).map encPt) ++ [[.own 3]])), (3, .row 3 (liftE (x.map encSt)))], 4⟩
def lsZ (t z : Tr) (i : Nat) : St := ⟨ofL [(3, .ptr 0 0 0), (7, .ptr 1 0 0), (9, .p (.int .i64 (i : Int)))], ofH [(0, .row 5 [cellsT t]), (1, .row 5 [cellsT z])], 2⟩
theorem law16_InterpLess (p : List (List Stp)) (t : Tr) (GP : GPts p) : PFn Try.prog 3 [.slice (p.map encPt), .agg (encTr t)] (.bool true) := by
 have SM := law00_Small t
 refine PFn.of Try.func3 rfl (by decide) Try.ntmps3 Try.results3 (Nat.le_of_ble_eq_true rfl) ?_
 simp only [argsT]
 rw [encTr_eq t] at SM
 refine AW.rT (by rfl) fun K hK => ?_
 simp -implicitDefEqProofs only [go_sem, ↓reduceIte, Nat.reduceAdd, encTr_eq t]
 apply hK; clear hK K
 refine AW.seq ?_
 by_cases hl : p.length > 120
 ·have b1 : ((p.length : Int) > 120) = True := eq_true (by omega)
  refine AW.rT (by rfl) fun K hK => ?_
  simp -implicitDefEqProofs only [go_sem, ↓reduceIte, Nat.reduceAdd, Nat.reduceEqDiff, reduceCtorEq, b1, List.length_map]
  apply hK; clear hK K
  refine AW.cT rfl ?_
  refine AW.rT (by rfl) fun K hK => ?_
  simp -implicitDefEqProofs only [go_sem]
  refine ⟨.pure _, law16_awake, ?_⟩
  try simp -implicitDefEqProofs only [go_sem, Nat.reduceAdd]
  apply hK; clear hK K
  refine AW.ret ?_
  simp -implicitDefEqProofs only [go_sem]
 have b1 : ((p.length : Int) > 120) = False := eq_false (by omega)
 cases hsm : smallB t with
 | false =>
  rw [hsm] at SM
  refine AW.rT (by rfl) fun K hK => ?_
  simp -implicitDefEqProofs only [go_sem, ↓reduceIte, Nat.reduceAdd, Nat.reduceEqDiff, Nat.reduceLeDiff, reduceCtorEq, b1, List.length_map]
  refine ⟨.pure _, SM, ?_⟩
  try simp -implicitDefEqProofs only [go_sem, ↓reduceIte, Nat.reduceAdd, Nat.reduceEqDiff]
  apply hK; clear hK K
  refine AW.cT rfl ?_
  refine AW.rT (by rfl) fun K hK => ?_
  simp -implicitDefEqProofs only [go_sem]
  refine ⟨.pure _, law16_awake, ?_⟩
  try simp -implicitDefEqProofs only [go_sem, Nat.reduceAdd]
  apply hK; clear hK K
  refine AW.ret ?_
  simp -implicitDefEqProofs only [go_sem]
 | true =>
 rw [hsm] at SM
 have hlt := smallB_lens hsm
 have PL := GPts.lens GP
 have CT := law00_Tree t hlt
 have R1 := interp_Run p t hlt
 refine AW.rT (by rfl) fun K hK => ?_
 simp -implicitDefEqProofs only [go_sem, ↓reduceIte, Nat.reduceAdd, Nat.reduceEqDiff, Nat.reduceLeDiff, reduceCtorEq, b1, List.length_map]
 refine ⟨.pure _, SM, ?_⟩
 try simp -implicitDefEqProofs only [go_sem, ↓reduceIte, Nat.reduceAdd, Nat.reduceEqDiff]
 apply hK; clear hK K
 refine AW.cF rfl ?_
 refine AW.skip ?_
 simp only [andThen]
 refine AW.rT (by rfl) fun K hK => ?_
 simp -implicitDefEqProofs only [go_sem, Nat.reduceAdd]
 apply hK; clear hK K
 refine AW.seq ?_
 refine AW.rT (by rfl) fun K hK => ?_
 simp -implicitDefEqProofs only [go_sem, Nat.reduceAdd]
 apply hK; clear hK K
 refine AW.block ?_
 refine AW.loop (fun i : Nat => lsS p t i i) (fun i => i ≤ p.length) (fun i => p.length - i) 0 ?_ (by omega) fun i i1 => ?_
 ·refine Ghost.trans (Ghost.nilH (l := 10) (i := 0) (j := 0) (sz' := 1) rfl rfl rfl) ?_
  simp only [lsS, cellsT, List.take_zero, List.map_nil, liftE_nil]
  refine Ghost.ent (fun l => if l = 1 then 10 else if l = 2 then 12 else l) ?_ ?_ ?_ <;> simp -implicitDefEqProofs only [go_sem, ↓reduceIte, Nat.reduceEqDiff, reduceCtorEq, List.set_cons_zero, List.forall_mem_cons, List.not_mem_nil, false_implies, implies_true, and_self, List.all_cons, List.all_nil, Nat.reduceLT, labsInL, AV.labsIn]
  all_goals first | rfl | decide | skip
 simp only [lsS, cellsT]
 refine AW.seq ?_
 by_cases hil : i < p.length
 case pos =>
  obtain ⟨x, hx⟩ : ∃ x, p[i]? = some x := ⟨_, List.getElem?_eq_getElem hil⟩
  have ⟨hx1, hx2, hx3⟩ := at_map' encPt hx
  have hx2' : (i : Int) < (p.length : Int) := by omega
  have c1 : ((i : Int) < (p.length : Int)) = True := eq_true (by omega)
  have w1 : IntKind.wrap .i64 ((i : Int) + 1) = ((i + 1 : Nat) : Int) := by rw [w64] <;> omega
  have hxl := PL x (List.mem_of_getElem? hx)
  have tl : (p.take i).length = i := by rw [List.length_take]; omega
  refine AW.rT (by rfl) fun K hK => ?_
  simp -implicitDefEqProofs only [go_sem, ↓reduceIte, Nat.reduceAdd, Nat.reduceEqDiff, reduceCtorEq, c1, List.length_map]
  apply hK; clear hK K
  refine AW.cT rfl ?_
  refine AW.skip ?_
  simp only [andThen]
  refine AW.seq ?_
  refine AW.block ?_
  have tk : liftE ((p.take i).map encPt) ++ [[.p (.slice (x.map encSt))]] = liftE ((p.take (i + 1)).map encPt) := by
   rw [List.take_add_one, hx, Option.toList_some, List.map_append, liftE_append]
   rfl
  refine AW.dE mixed (by rfl) (by decide +kernel) fun K hK => ?_
  simp -implicitDefEqProofs only [go_sem, ↓reduceIte, Nat.reduceAdd, Nat.reduceMul, Nat.reduceEqDiff, Nat.reduceLeDiff, reduceCtorEq, hx1, hx2', hx3, List.length_map, encPt]
  refine ⟨⟨lift_len (f := encSt) (fun _ => rfl) x, lift_one one_St x, by simp⟩, ⟨.inl trivial, by simp, by rw [liftE_length, List.length_map]; omega⟩, ⟨by simp, by simp [oneAll, AV.one], by simp⟩, by rw [liftE_length, List.length_map, tl]; omega, by decide +kernel, ?_⟩
  apply hK; clear hK K
  simp only [andThen, inBlk]
  refine AW.ghost (s' := lsM p t x i) ?_ ?_
  ·simp only [lsM, cellsT]
   refine Ghost.ent (fun l => if l = 3 then 13 else if l = 2 then 15 else l) ?_ ?_ ?_ <;> simp -implicitDefEqProofs only [go_sem, ↓reduceIte, Nat.reduceEqDiff, reduceCtorEq, List.forall_mem_cons, List.not_mem_nil, false_implies, implies_true, and_self, map_renL_lift, labsIn_lift, List.all_append, List.all_cons, List.all_nil, List.map_append, Nat.reduceLT, labsInL, AV.labsIn]
   all_goals first | rfl | decide | skip
  refine AW.ghost (s' := lsS p t (i + 1) i) (Ghost.trans (Ghost.freeze (lb := 3) (sz := 3) (ps := x.map encSt) rfl (unlift_liftE _)) ?_) ?_
  ·simp only [lsS, lsM, cellsT]
   refine Ghost.sub ?_ ?_ <;> simp -implicitDefEqProofs only [go_sem, ↓reduceIte, Nat.reduceEqDiff, reduceCtorEq, thaw, thaw1, Option.map_some, List.map_cons, List.map_nil, thaw_lift, List.map_append, tk, List.forall_mem_cons, List.not_mem_nil, false_implies, implies_true, and_self, labsIn_lift, List.all_cons, List.all_nil, Nat.reduceLT, labsInL, AV.labsIn]
   all_goals first | rfl | decide | skip
  simp only [lsS, cellsT]
  refine AW.rE (by rfl) fun K hK => ?_
  simp -implicitDefEqProofs only [go_sem, ↓reduceIte, Nat.reduceAdd, Nat.reduceEqDiff, reduceCtorEq, w1]
  apply hK; clear hK K
  refine ⟨i + 1, by omega, by omega, ?_⟩
  refine Ghost.sub ?_ ?_ <;> simp -implicitDefEqProofs only [go_sem, ↓reduceIte, Nat.reduceEqDiff, reduceCtorEq, List.forall_mem_cons, List.not_mem_nil, false_implies, implies_true, and_self, labsIn_lift, List.all_cons, List.all_nil, Nat.reduceLT, labsInL, AV.labsIn]
 have c1 : ((i : Int) < (p.length : Int)) = False := eq_false (by omega)
 rw [List.take_of_length_le (by omega)]
 refine AW.rT (by rfl) fun K hK => ?_
 simp -implicitDefEqProofs only [go_sem, ↓reduceIte, Nat.reduceAdd, Nat.reduceEqDiff, reduceCtorEq, c1, List.length_map]
 apply hK; clear hK K
 refine AW.cF rfl ?_
 refine AW.exit ?_
 simp only [andThen, inBlk, ↓reduceIte]
 refine AW.ghost (s' := ⟨ofL [(3, .ptr 0 0 0), (5, .ptr 1 0 0)], ofH [(0, .row 5 [cellsT t]), (1, .row 1 [[.p (.slice (p.map encPt))]])], 3⟩) (Ghost.trans (Ghost.freeze (lb := 2) (sz := 1) (ps := p.map encPt) rfl (unlift_liftE _)) ?_) ?_
 ·simp only [cellsT]
  refine Ghost.sub ?_ ?_ <;> simp -implicitDefEqProofs only [go_sem, ↓reduceIte, Nat.reduceEqDiff, reduceCtorEq, thaw, thaw1, Option.map_some, List.map_cons, List.map_nil, List.forall_mem_cons, List.not_mem_nil, false_implies, implies_true, and_self, List.all_cons, List.all_nil, Nat.reduceLT, labsInL, AV.labsIn]
  all_goals first | rfl | decide | skip
 have ZL := runP_lens (P := p) hlt
 have zz : encTr zeroTr = [.int .i64 0, .int .i64 0, .str [], .slice [], .slice []] := by rw [encTr_eq]; rfl
 have RP : runP p t = if progB p = false ∨ t.kind ≠ 3 ∨ okT t = false then (zeroTr, 1) else (runF p t 0, 0) := rfl
 simp only [cellsT]
 by_cases hbad : progB p = false ∨ t.kind ≠ 3 ∨ okT t = false
 ·rw [if_pos hbad] at RP
  rw [RP] at R1
  have S1 := same_of (ref09_Same zeroTr zeroTr rfl) rfl
  simp only [encTr_eq t] at CT R1
  rw [zz] at R1 S1
  have e1 : ((1 : Int) != 0) = true := rfl
  refine AW.dT mixed (by rfl) (by decide +kernel) fun K hK => ?_
  simp -implicitDefEqProofs only [go_sem, ↓reduceIte, Nat.reduceAdd, Nat.reduceEqDiff, Nat.reduceLeDiff]
  refine ⟨.pure _, CT, ?_⟩
  try simp -implicitDefEqProofs only [go_sem, ↓reduceIte, Nat.reduceAdd, Nat.reduceEqDiff]
  refine ⟨.pure _, R1, ?_⟩
  try simp -implicitDefEqProofs only [go_sem, ↓reduceIte, Nat.reduceAdd, Nat.reduceEqDiff, Nat.reduceLeDiff]
  refine ⟨by decide +kernel, ?_⟩
  apply hK; clear hK K
  refine AW.seq ?_
  refine AW.rT (by rfl) fun K hK => ?_
  simp -implicitDefEqProofs only [go_sem, ↓reduceIte, Nat.reduceAdd, e1]
  apply hK; clear hK K
  refine AW.cT rfl ?_
  refine AW.rT (by rfl) fun K hK => ?_
  simp -implicitDefEqProofs only [go_sem, ↓reduceIte, Nat.reduceAdd, Nat.reduceEqDiff, Nat.reduceLeDiff]
  refine ⟨.pure _, S1, ?_⟩
  try simp -implicitDefEqProofs only [go_sem, ↓reduceIte, Nat.reduceAdd]
  refine ⟨.pure _, law16_awake, ?_⟩
  try simp -implicitDefEqProofs only [go_sem, ↓reduceIte, Nat.reduceAdd, Nat.reduceEqDiff]
  apply hK; clear hK K
  refine AW.ret ?_
  simp -implicitDefEqProofs only [go_sem]
  done
 rw [if_neg hbad] at RP
 rw [RP] at R1 ZL
 simp only [not_or] at hbad
 have hp : progB p = true := by simpa using hbad.1
 have hk3 : t.kind = 3 := by simpa using hbad.2.1
 have ho : okT t = true := by simpa using hbad.2.2
 have ZL : lensT (runF p t 0) = true := ZL
 have CK := ref_Check (runF p t 0) ZL
 rw [run_ok hp hk3 ho] at CK
 have LS : ∀ e ∈ (runF p t 0).ents, ∃ e', undE t e.1 = [e'] ∧ e.2.length ≤ e'.2.length := fun e he => run_less (fun s hs => by
  unfold partO at hs
  cases hq : p with
  | nil => rw [hq] at hs; cases hs
  | cons x l =>
   rw [hq] at hs
   have := prog_step hp (x := x) (by rw [hq]; exact List.mem_cons_self ..) (s := s) hs
   exact ⟨this.1, this.2.1⟩) he
 have zr : (runF p t 0).rest = [] := by rw [runF_eq]; rfl
 have ZE := (lensT_mk ZL).2.1
 have ZB := (lensT_mk ZL).2.2
 have UN := fun g => law16_under t hlt g
 generalize runF p t 0 = z at *
 simp only [encTr_eq t, encTr_eq z] at CT R1 CK UN
 have e0 : ((0 : Int) != 0) = false := rfl
 refine AW.dT mixed (by rfl) (by decide +kernel) fun K hK => ?_
 simp -implicitDefEqProofs only [go_sem, ↓reduceIte, Nat.reduceAdd, Nat.reduceEqDiff, Nat.reduceLeDiff]
 refine ⟨.pure _, CT, ?_⟩
 try simp -implicitDefEqProofs only [go_sem, ↓reduceIte, Nat.reduceAdd, Nat.reduceEqDiff]
 refine ⟨.pure _, R1, ?_⟩
 try simp -implicitDefEqProofs only [go_sem, ↓reduceIte, Nat.reduceAdd, Nat.reduceEqDiff, Nat.reduceLeDiff]
 refine ⟨by decide +kernel, ?_⟩
 apply hK; clear hK K
 refine AW.seq ?_
 refine AW.rT (by rfl) fun K hK => ?_
 simp -implicitDefEqProofs only [go_sem, ↓reduceIte, Nat.reduceAdd, e0]
 apply hK; clear hK K
 refine AW.cF rfl ?_
 refine AW.skip ?_
 simp only [andThen]
 refine AW.seq ?_
 refine AW.rT (by rfl) fun K hK => ?_
 simp -implicitDefEqProofs only [go_sem, Nat.reduceAdd]
 apply hK; clear hK K
 refine AW.block ?_
 refine AW.loop (fun i : Nat => lsZ t z i) (fun i => i ≤ z.ents.length) (fun i => z.ents.length - i) 0 ?_ (by simp) fun j hj => ?_
 ·simp only [lsZ, cellsT]
  refine Ghost.ent (fun l => if l = 1 then 10 else l) ?_ ?_ ?_ <;> simp -implicitDefEqProofs only [go_sem, ↓reduceIte, Nat.reduceEqDiff, reduceCtorEq, List.forall_mem_cons, List.not_mem_nil, false_implies, implies_true, and_self, List.all_cons, List.all_nil, Nat.reduceLT, labsInL, AV.labsIn]
  all_goals first | rfl | decide | skip
 simp only [lsZ, cellsT]
 refine AW.seq ?_
 by_cases hjl : j < z.ents.length
 ·obtain ⟨e, he⟩ : ∃ e, z.ents[j]? = some e := ⟨_, List.getElem?_eq_getElem hjl⟩
  have ⟨he1, he2, he3⟩ := at_map' encEn he
  have hj1 : ((j : Int) < (z.ents.length : Int)) = True := eq_true (by omega)
  obtain ⟨e', u1, u2⟩ := LS e (List.mem_of_getElem? he)
  have U := UN e.1
  rw [u1] at U
  simp only [List.map_cons, List.map_nil, encEn] at U
  have w1 : IntKind.wrap .i64 ((j : Int) + 1) = ((j + 1 : Nat) : Int) := by rw [w64] <;> omega
  have f1 : (((1 : Nat) : Int) != 1) = false := rfl
  have f2 : ((e.2.length : Int) > (e'.2.length : Int)) = False := eq_false (by omega)
  have f3 : ((0 : Int) < ((1 : Nat) : Int)) = True := by simp
  refine AW.rT (by rfl) fun K hK => ?_
  simp -implicitDefEqProofs only [go_sem, ↓reduceIte, Nat.reduceAdd, Nat.reduceEqDiff, hj1, List.length_map]
  apply hK; clear hK K
  refine AW.cT rfl ?_
  refine AW.skip ?_
  simp only [andThen]
  refine AW.seq ?_
  refine AW.block ?_
  refine AW.dT mixed (by rfl) (by decide +kernel) fun K hK => ?_
  simp -implicitDefEqProofs only [go_sem, ↓reduceIte, Nat.reduceAdd, Nat.reduceEqDiff, Nat.reduceLeDiff, he1, hj1, he3, encEn, List.length_map]
  refine ⟨.pure _, U, ?_⟩
  try simp -implicitDefEqProofs only [go_sem, ↓reduceIte, Nat.reduceAdd]
  refine ⟨by decide +kernel, ?_⟩
  apply hK; clear hK K
  refine AW.dT mixed (by rfl) (by decide +kernel) fun K hK => ?_
  simp -implicitDefEqProofs only [go_sem, ↓reduceIte, Nat.reduceAdd, Nat.reduceEqDiff, Int.reduceToNat, he1, hj1, he3, encEn, List.length_map, f1, f2, f3, Int.le_refl, List.length_cons, List.length_nil, List.getD_cons_zero, List.getElem?_cons_zero]
  refine ⟨by decide +kernel, ?_⟩
  apply hK; clear hK K
  refine AW.cF rfl ?_
  refine AW.skip ?_
  simp only [andThen, inBlk]
  refine AW.rE (by rfl) fun K hK => ?_
  simp -implicitDefEqProofs only [go_sem, ↓reduceIte, Nat.reduceAdd, Nat.reduceEqDiff, w1]
  apply hK; clear hK K
  refine ⟨j + 1, by omega, by omega, ?_⟩
  show Ghost _ _ (lsZ t z (j + 1))
  simp only [lsZ, cellsT]
  refine Ghost.sub ?_ ?_ <;> simp -implicitDefEqProofs only [go_sem, ↓reduceIte, Nat.reduceEqDiff, List.forall_mem_cons, List.not_mem_nil, false_implies, implies_true, and_self, List.all_cons, List.all_nil, Nat.reduceLT, labsInL, AV.labsIn]
  done
 have hj1 : ((j : Int) < (z.ents.length : Int)) = False := eq_false (by omega)
 refine AW.rT (by rfl) fun K hK => ?_
 simp -implicitDefEqProofs only [go_sem, ↓reduceIte, Nat.reduceAdd, Nat.reduceEqDiff, hj1, List.length_map]
 apply hK; clear hK K
 refine AW.cF rfl ?_
 refine AW.exit ?_
 simp only [andThen, inBlk, ↓reduceIte]
 rw [zr] at CK ⊢
 refine AW.rT (by rfl) fun K hK => ?_
 simp -implicitDefEqProofs only [go_sem, ↓reduceIte, Nat.reduceAdd, Nat.reduceEqDiff, Nat.reduceLeDiff]
 refine ⟨.pure _, CK, ?_⟩
 try simp -implicitDefEqProofs only [go_sem, ↓reduceIte, Nat.reduceAdd, Nat.reduceEqDiff]
 refine ⟨.pure _, law16_awake, ?_⟩
 try simp -implicitDefEqProofs only [go_sem, ↓reduceIte, Nat.reduceAdd, Nat.reduceEqDiff]
 apply hK; clear hK K
 refine AW.ret ?_
 simp -implicitDefEqProofs only [go_sem]
end Go.Aw.T
namespace Go.Aw
open Go.Proofs
theorem tryOrder : Ytpbangopjdlfcaa.Try.pinned.checked.prog.initOrder = "harness 41c5c9002920a2496b1c90a8b95ba5cece94e458788be6604b7a3d53659cfd67 cut " ++ "at concordat/concordatlaw16.InterpLess concordat/concordatlaw16.InterpRuns" := by kernel_rfl
theorem tryWords0 (t : List Char) : wordsSigns ("harness 41c5c9002920a2496b1c90a8b95ba5cece94e458788be6604b7a3d53659cfd67 cut ".toList ++ t) = "harness".toList :: "41c5c9002920a2496b1c90a8b95ba5cece94e458788be6604b7a3d53659cfd67".toList :: "cut".toList :: wordsSigns t := by kernel_rfl
theorem words_of {s a b : String} {l : List (List Char)} (h : s = a ++ b) (hw : ∀ t, wordsSigns (a.toList ++ t) = l ++ wordsSigns t) : ∃ ws, wordsSigns s.toList = l ++ ws := by
 subst h
 rw [String.toList_append]
 exact ⟨_, hw _⟩
theorem tryWords : ∃ ws, wordsSigns Ytpbangopjdlfcaa.Try.pinned.checked.prog.initOrder.toList = ["harness".toList, "41c5c9002920a2496b1c90a8b95ba5cece94e458788be6604b7a3d53659cfd67".toList, "cut".toList] ++ ws := words_of tryOrder tryWords0
theorem headLifts_of {P : Program} {S : String} {ws : List (List Char)} (e : wordsSigns P.initOrder.toList = ["harness".toList, S.toList, "cut".toList] ++ ws) (hs : isSumSigns S.toList = true) : behindMainWord (wordsSigns P.initOrder.toList) = "cut".toList :: ws ∧ P.headLifts = [] := by
 have h1 : behindMainWord (wordsSigns P.initOrder.toList) = "cut".toList :: ws := by
  rw [e]
  show (if ("harness".toList == "harness".toList || "harness".toList == "ownmain".toList) && isSumSigns S.toList then "cut".toList :: ws else _) = _
  rw [hs]
  rfl
 refine ⟨h1, ?_⟩
 unfold Program.headLifts
 rw [h1]
 have h2 : stripLifts liftWords ("cut".toList :: ws) = ([], "cut".toList :: ws) := by kernel_rfl
 rw [h2]
 rfl
theorem trySum : isSumSigns "41c5c9002920a2496b1c90a8b95ba5cece94e458788be6604b7a3d53659cfd67".toList = true := by kernel_rfl
theorem final_of {P : Program} {ws : List (List Char)} (h1 : behindMainWord (wordsSigns P.initOrder.toList) = "cut".toList :: ws) (h2 : P.headLifts = []) : P.liftsFinal = false := by
 unfold Program.liftsFinal
 rw [h1, h2]
 kernel_rfl
theorem make_of {P : Program} {ws : List (List Char)} (h1 : behindMainWord (wordsSigns P.initOrder.toList) = "cut".toList :: ws) : P.make = some .cut := by
 unfold Program.make
 rw [h1]
 kernel_rfl
theorem tryFinal : Ytpbangopjdlfcaa.Try.pinned.checked.prog.liftsFinal = false := by
 obtain ⟨ws, e⟩ := tryWords
 obtain ⟨h1, h2⟩ := headLifts_of e trySum
 exact final_of h1 h2
theorem tryMake : Ytpbangopjdlfcaa.Try.pinned.checked.prog.make = some .cut := by
 obtain ⟨ws, e⟩ := tryWords
 obtain ⟨h1, h2⟩ := headLifts_of e trySum
 exact make_of h1
theorem enter_of {P : Program} {ws : List (List Char)} (h1 : behindMainWord (wordsSigns P.initOrder.toList) = "cut".toList :: ws) (a : P.laysLater = false) (b : P.bearsReflect = false) (c : P.doorFits [] = true) : P.mayEnter = true := by
 unfold Program.mayEnter
 rw [h1]
 have h2 : stripLifts liftWords ("cut".toList :: ws) = ([], "cut".toList :: ws) := by kernel_rfl
 dsimp only
 rw [h2, a, b, c]
 rfl
theorem tryEnter : Ytpbangopjdlfcaa.Try.pinned.checked.prog.mayEnter = true := by
 obtain ⟨ws, e⟩ := tryWords
 obtain ⟨h1, h2⟩ := headLifts_of e trySum
 exact enter_of h1 (by kernel_rfl) (by kernel_rfl) (by kernel_rfl)
end Go.Aw
