/- A drawn region with one call among its operations that hands out deep memory. -/
import Derived.Test.YtmeplhcfjihafaaAwD4
namespace Go.Aw
open Go.RowKit
variable {P : Program}
theorem callD_sig {nt : Fm} {s : St} {o : Oper} {c : Operand} {f : FuncId} {xs : Array Operand} {ts : Array TypeId} {args : List AV} {h : List (Nat × Blk)} {n : Nat} {rt : List Nat} {r : AV} {h' : List (Nat × Blk)} {m : Nat} (ρ : Nat → Nat)
    (ho : o.op = .call { callee := .value c, args := xs, argTypes := ts }) (hcf : fnOf (ev s.T c) = some f) (hd : dstOK nt o = true) (D : DFn P f args h n rt r h' m) (F : FitD s xs.toList args h n rt r h' ρ)
    {w0 : World} {X I0 : Nat → Prop} {a : Act} {w : World} {next : Act → World → Prop} {Q : Exit → Act → World → Prop} {σ : Lab} {I : Nat → Prop} (tx : TabX w0 X I0) (hn : ∀ l, s.nx ≤ l → σ l = none) (mm : Match nt w0 X I0 σ I s.T s.H a w)
    (hnext : ∀ σ' I' a' w', (∀ l, l < s.nx → σ' l = σ l) → (∀ l, s.nx + m ≤ l → σ' l = none) → Match nt w0 X I0 σ' I' (putT s.T o.dst (some (r.ren (lift2 ρ n s.nx)))) (putH (putH s.H (goneU ρ h)) (newU (lift2 ρ n s.nx) h')) a' w' → next a' w') : o.wp P a w next Q := by
  obtain ⟨hen, hp⟩ := D
  have IN : In σ w I s.T s.H w0 X I0 a s.nx := ⟨mm.heap, mm.tmps, hn _ (Nat.le_refl _), tx⟩
  have hrun : (execOp a.eval o).run P w = .ok (.enter f (xs.map a.eval)) w := by
    have he : a.eval c = .func (.func f) #[] #[] := by
      cases hev : ev s.T c with
      | none => rw [hev] at hcf; simp [fnOf] at hcf
      | some x => rw [hev] at hcf; exact fnOf_spec hcf (IN.ev hev)
    simp only [execOp, ho, resolve, he, Deferred.ofValue, Sem.run_bind, Sem.run_pure, Result.andThen_ok, invoke, Array.append_empty, Array.empty_append, run_enter hen]
  obtain ⟨p1, p2⟩ := argD_spec F.opd
  have here : ∀ l b, ofH h l = some b → s.H (ρ l) = some (b.ren ρ) ∧ l < n ∧ b.labsIn n = true := fun l b hl => F.here (l, b) (ofH_mem hl)
  have inj : ∀ l l' b b', ofH h l = some b → ofH h l' = some b' → ρ l = ρ l' → l = l' := fun l l' b b' h1 h2 e => by
    have := distinct_inj F.inj (l, b) (ofH_mem h1) (l', b') (ofH_mem h2) e
    injection this
  generalize hσc : relab ρ n σ = σc
  have σat : ∀ l, l < n → σc l = σ (ρ l) := fun l hl => by rw [← hσc]; unfold relab; rw [if_pos hl]
  have σno : ∀ l, n ≤ l → σc l = none := fun l hl => by rw [← hσc]; unfold relab; rw [if_neg (by omega)]
  have Xof : ∀ g, lentX σc (ofH h) g → ∃ l b sl, ofH h l = some b ∧ s.H (ρ l) = some (b.ren ρ) ∧ σ (ρ l) = some sl ∧ sl.block = some g := fun g ⟨l, sl, q1, q2, q3⟩ => by
    obtain ⟨b, hb⟩ := Option.ne_none_iff_exists'.1 q1
    obtain ⟨r1, r2, _⟩ := here l b hb
    exact ⟨l, b, sl, hb, r1, by rw [← σat l r2]; exact q2, q3⟩
  have hH : HOK σc w I (ofH h) w (lentX σc (ofH h)) I := by
    refine ⟨fun l b hl => ?_, fun l l' g s1 s2 n1 n2 e1 e2 g1 g2 => ?_, fun l g s1 n1 e1 g1 => ?_, fun g hg => ⟨(mm.heap.imm g hg).1, .inl hg⟩, fun _ h => h, Fr.refl _ _⟩
    · obtain ⟨r1, r2, r3⟩ := here l b hl
      rw [← hσc]
      exact repB_ren r2 (mm.heap.rows _ _ r1) r3
    · obtain ⟨b1, hb1⟩ := Option.ne_none_iff_exists'.1 n1
      obtain ⟨b2, hb2⟩ := Option.ne_none_iff_exists'.1 n2
      obtain ⟨r1, r2, _⟩ := here l b1 hb1
      obtain ⟨r1', r2', _⟩ := here l' b2 hb2
      rw [σat l r2] at e1
      rw [σat l' r2'] at e2
      exact inj l l' b1 b2 hb1 hb2 (mm.heap.inj _ _ g s1 s2 (by rw [r1]; simp) (by rw [r1']; simp) e1 e2 g1 g2)
    · obtain ⟨b1, hb1⟩ := Option.ne_none_iff_exists'.1 n1
      obtain ⟨r1, r2, _⟩ := here l b1 hb1
      refine ⟨?_, .inl ⟨l, s1, n1, e1, g1⟩⟩
      rw [σat l r2] at e1
      exact (mm.heap.mine _ g s1 (by rw [r1]; simp) e1 g1).1
  have hargs := hp w I σc (xs.map a.eval) (by simpa using p1) σno (fun j u y q1 q2 => by
    rw [Array.getElem?_map, Option.map_eq_some_iff] at q1
    obtain ⟨x, hx, rfl⟩ := q1
    have hlab : y.labsIn n = true := List.all_eq_true.1 F.labs y (List.mem_of_getElem? q2)
    rcases p2 j x y (by simpa using hx) q2 with ⟨p, v, rfl, hv, hpv⟩ | hv
    · exact .p (rep_pureA (IN.ev hv) hpv)
    · rw [← hσc]
      exact repA_ren (IN.ev hv) y rfl hlab) hH IN.tabs
  unfold Oper.wp
  rw [hrun, Oper.upon_enter]
  refine hargs.mono fun e w' he => ?_
  obtain ⟨v, σ', I', rfl, hh, hrv, hroot, hnew⟩ := he
  -- the caller's labels behind the call
  obtain ⟨σ2, hσ2⟩ : ∃ σ2 : Lab, ∀ l, σ2 l = if l < s.nx then σ l else σ' (n + (l - s.nx)) := ⟨fun l => if l < s.nx then σ l else σ' (n + (l - s.nx)), fun _ => rfl⟩
  have old : ∀ l sl, σ l = some sl → σ2 l = some sl := fun l sl hl => by
    rw [hσ2]
    rcases Nat.lt_or_ge l s.nx with q | q
    · rw [if_pos q]; exact hl
    · rw [hn l q] at hl; cases hl
  have new : ∀ l, (rt.contains l || decide (n ≤ l)) = true → ∀ sl, σ' l = some sl → σ2 (lift2 ρ n s.nx l) = some sl := fun l hl sl hs => by
    unfold lift2
    rcases Nat.lt_or_ge l n with q | q
    · rw [if_pos q]
      have hm : l ∈ rt := by
        rcases Bool.or_eq_true_iff.1 hl with hl | hl
        · exact List.contains_iff_mem.1 hl
        · simp at hl; omega
      rw [hroot l hm, σat l q] at hs
      exact old _ _ hs
    · rw [if_neg (by omega), hσ2, if_neg (by omega), show n + (s.nx + (l - n) - s.nx) = l by omega]
      exact hs
  have blk : ∀ l g sl, s.H l ≠ none → σ l = some sl → sl.block = some g → g < w.heap.size := fun l g sl hn hs hg => by
    obtain ⟨b, hb⟩ := Option.ne_none_iff_exists'.1 hn
    obtain ⟨s', hs', hlt⟩ := (mm.heap.rows l b hb).block
    rw [hs] at hs'; injection hs' with hs'; subst hs'
    exact hlt g hg
  have Xmine : ∀ g, lentX σc (ofH h) g → ¬ I g ∧ (X g ∨ w0.heap.size ≤ g) ∧ g < w.heap.size := fun g hg => by
    obtain ⟨l, b, sl, q1, q2, q3, q4⟩ := Xof g hg
    obtain ⟨m1, m2⟩ := mm.heap.mine _ g sl (by rw [q2]; simp) q3 q4
    exact ⟨m1, m2, blk _ g sl (by rw [q2]; simp) q3 q4⟩
  have same : ∀ b, I b → w'.heap[b]? = w.heap[b]? := fun b hb => hh.fr.block b (mm.heap.imm b hb).1 fun hx => (Xmine b hx).1 hb
  have hI : ∀ g, I g → I' g := hh.sub
  have fresh : ∀ g, I' g → I g ∨ lentX σc (ofH h) g ∨ w.heap.size ≤ g := fun g hg => (hh.imm g hg).2
  have frame : ∀ l b, s.H l = some b → (∀ x ∈ h, ρ x.1 ≠ l) → ∀ g sl, σ l = some sl → sl.block = some g → ¬ lentX σc (ofH h) g := fun l b hl hno g sl hs hg hx => by
    obtain ⟨l2, b2, sl2, q1, q2, q3, q4⟩ := Xof g hx
    exact hno (l2, b2) (ofH_mem q1) (mm.heap.inj _ _ g sl2 sl (by rw [q2]; simp) (by rw [hl]; simp) q3 hs q4 hg)
  -- what stands where
  have cls : ∀ l b, putH (putH s.H (goneU ρ h)) (newU (lift2 ρ n s.nx) h') l = some b → (∃ x ∈ h', lift2 ρ n s.nx x.1 = l ∧ b = x.2.ren (lift2 ρ n s.nx)) ∨ (s.H l = some b ∧ (∀ x ∈ h, ρ x.1 ≠ l)) := fun l b hl => by
    rcases putH_new (lift2 ρ n s.nx) l h' (putH s.H (goneU ρ h)) with ⟨e1, e2⟩ | ⟨x, hx, e1, e2⟩
    · rw [e1] at hl
      rcases putH_gone ρ l h s.H with ⟨e3, e4⟩ | ⟨e3, _⟩
      · rw [e3] at hl; exact .inr ⟨hl, e4⟩
      · rw [e3] at hl; cases hl
    · rw [e2] at hl
      injection hl with hl
      exact .inl ⟨x, hx, e1, hl.symm⟩
  have mem' : ∀ x ∈ h', (rt.contains x.1 || decide (n ≤ x.1)) = true ∧ x.2.labsBy (fun l => rt.contains l || decide (n ≤ l)) = true := fun x hx => by
    have := List.all_eq_true.1 F.mem x hx
    rwa [Bool.and_eq_true] at this
  have inv : ∀ l, (rt.contains l || decide (n ≤ l)) = true → ∀ sl, σ2 (lift2 ρ n s.nx l) = some sl → σ' l = some sl := fun l hl sl hs => by
    unfold lift2 at hs
    rcases Nat.lt_or_ge l n with q | q
    · rw [if_pos q] at hs
      have hm : l ∈ rt := by
        rcases Bool.or_eq_true_iff.1 hl with hl | hl
        · exact List.contains_iff_mem.1 hl
        · simp at hl; omega
      rw [hroot l hm, σat l q]
      have hc := List.contains_iff_mem.1 (List.all_eq_true.1 F.roots l hm)
      obtain ⟨x, hx, hxl⟩ := List.mem_map.1 hc
      obtain ⟨r1, r2, _⟩ := F.here x hx
      have hlt : ρ l < s.nx := by
        rcases Nat.lt_or_ge (ρ l) s.nx with z | z
        · exact z
        · obtain ⟨sl', hsl', _⟩ := (mm.heap.rows _ _ r1).block
          rw [hxl, hn _ z] at hsl'; cases hsl'
      rw [hσ2, if_pos hlt] at hs
      exact hs
    · rw [if_neg (by omega), hσ2, if_neg (by omega), show n + (s.nx + (l - n) - s.nx) = l by omega] at hs
      exact hs
  have OK : HOK σ2 w' I' (putH (putH s.H (goneU ρ h)) (newU (lift2 ρ n s.nx) h')) w0 X I0 := by
    have rowN : ∀ x ∈ h', repB σ' w' I' x.1 x.2 := fun x hx => hh.rows x.1 x.2 (ofH_of_mem F.dist' hx)
    have neN : ∀ x ∈ h', ofH h' x.1 ≠ none := fun x hx => by rw [ofH_of_mem F.dist' hx]; simp
    have slotF : ∀ l b sl, s.H l = some b → σ2 l = some sl → σ l = some sl := fun l b sl hl hs => by
      obtain ⟨sl', hsl', _⟩ := (mm.heap.rows l b hl).block
      rw [old l sl' hsl'] at hs
      rw [hsl']; exact hs
    refine ⟨fun l b hl => ?_, fun l1 l2 g s1 s2 n1 n2 e1 e2 g1 g2 => ?_, fun l g sl n1 e1 g1 => ?_, fun g hg => ?_, fun g hg => hh.sub g (mm.heap.sub g hg), ⟨hh.fr.os.trans mm.heap.fr.os, hh.fr.tape.trans mm.heap.fr.tape, hh.fr.output.trans mm.heap.fr.output, Nat.le_trans mm.heap.fr.size hh.fr.size, fun b hb hx => ?_, mm.heap.fr.step fun b cur et p hb hc => hh.fr.shape b cur et p hc⟩⟩
    · rcases cls l b hl with ⟨x, hx, rfl, rfl⟩ | ⟨hl', hno⟩
      · exact repB_by new (mem' x hx).1 (rowN x hx) (mem' x hx).2
      · obtain ⟨sl, hsl, hlt⟩ := (mm.heap.rows l b hl').block
        refine (mm.heap.rows l b hl').mono old hI same fun g s' q1 q2 => ?_
        rw [hsl] at q1; injection q1 with q1; subst q1
        exact hh.fr.block g (hlt g q2) (frame l b hl' hno g _ hsl q2)
    · obtain ⟨b1, hb1⟩ := Option.ne_none_iff_exists'.1 n1
      obtain ⟨b2, hb2⟩ := Option.ne_none_iff_exists'.1 n2
      rcases cls l1 b1 hb1 with ⟨x, hx, rfl, rfl⟩ | ⟨h1, no1⟩
      · have f1 := inv x.1 (mem' x hx).1 s1 e1
        rcases cls l2 b2 hb2 with ⟨y, hy, rfl, rfl⟩ | ⟨h2, no2⟩
        · have f2 := inv y.1 (mem' y hy).1 s2 e2
          rw [hh.inj x.1 y.1 g s1 s2 (neN x hx) (neN y hy) f1 f2 g1 g2]
        · exfalso
          have f2 := slotF l2 b2 s2 h2 e2
          rcases (hh.mine x.1 g s1 (neN x hx) f1 g1).2 with q | q
          · exact frame l2 b2 h2 no2 g s2 f2 g2 q
          · have := blk l2 g s2 (by rw [h2]; simp) f2 g2; omega
      · have f1 := slotF l1 b1 s1 h1 e1
        rcases cls l2 b2 hb2 with ⟨y, hy, rfl, rfl⟩ | ⟨h2, no2⟩
        · exfalso
          have f2 := inv y.1 (mem' y hy).1 s2 e2
          rcases (hh.mine y.1 g s2 (neN y hy) f2 g2).2 with q | q
          · exact frame l1 b1 h1 no1 g s1 f1 g1 q
          · have := blk l1 g s1 (by rw [h1]; simp) f1 g1; omega
        · exact mm.heap.inj l1 l2 g s1 s2 (by rw [h1]; simp) (by rw [h2]; simp) f1 (slotF l2 b2 s2 h2 e2) g1 g2
    · obtain ⟨b1, hb1⟩ := Option.ne_none_iff_exists'.1 n1
      rcases cls l b1 hb1 with ⟨x, hx, rfl, rfl⟩ | ⟨h1, no1⟩
      · have f1 := inv x.1 (mem' x hx).1 sl e1
        obtain ⟨m1, m2⟩ := hh.mine x.1 g sl (neN x hx) f1 g1
        refine ⟨m1, ?_⟩
        rcases m2 with q | q
        · exact (Xmine g q).2.1
        · exact .inr (Nat.le_trans mm.heap.fr.size q)
      · have f1 := slotF l b1 sl h1 e1
        obtain ⟨m1, m2⟩ := mm.heap.mine l g sl (by rw [h1]; simp) f1 g1
        refine ⟨fun hg => ?_, m2⟩
        rcases fresh g hg with q | q | q
        · exact m1 q
        · exact frame l b1 h1 no1 g sl f1 g1 q
        · have := blk l g sl (by rw [h1]; simp) f1 g1; omega
    · refine ⟨(hh.imm g hg).1, ?_⟩
      rcases fresh g hg with q | q | q
      · exact (mm.heap.imm g q).2
      · exact .inr (Xmine g q).2.1
      · exact .inr (.inr (Nat.le_trans mm.heap.fr.size q))
    · rw [hh.fr.block b (by have := mm.heap.fr.size; omega) fun hx' => ?_]
      · exact mm.heap.fr.block b hb hx
      · rcases (Xmine b hx').2.1 with q | q
        · exact hx q
        · omega
  refine hnext σ2 I' _ w' (fun l hl => by rw [hσ2, if_pos hl]) (fun l hl => ?_) (mm.put hd OK old hI same fun y hy => by injection hy with hy; subst hy; exact repA_by new hrv F.res)
  rw [hσ2, if_neg (by omega)]
  exact hnew _ (by omega)
theorem argD_pure {T : Nat → Option AV} {ρ : Nat → Nat} : ∀ {xs : List Operand} {l : List PV}, xs.map (ev T) = l.map (fun p => some (.p p)) → argD T ρ xs (l.map AV.p)
  | [], [], _ => trivial
  | [], _ :: _, h => by cases h
  | _ :: _, [], h => by cases h
  | x :: xs, p :: l, h => by
    rw [List.map_cons, List.map_cons] at h
    injection h with h1 h2
    rw [List.map_cons]
    refine ⟨?_, argD_pure h2⟩
    rw [h1]
    rfl
section
variable {nt : Fm} {ops : Array Oper} {L : List (Oper × Rec)} {nx dc ex : Nat} {T0 : Nat → Option AV} {H0 : Nat → Option Blk} {w0 : World} {X I0 : Nat → Prop}
def Inv2 (nt : Fm) (ops : Array Oper) (L : List (Oper × Rec)) (nx dc ex : Nat) (T0 : Nat → Option AV) (H0 : Nat → Option Blk) (w0 : World) (X I0 : Nat → Prop) (D : Nat → Bool) (a : Act) (w : World) : Prop :=
  ∃ σ I, Match nt w0 X I0 σ I (foldT D L 0 T0) (foldH D L 0 H0) a w ∧ ∀ l s, nx ≤ l → σ l = some s → (∃ j, l = nx + j ∧ j < ops.size ∧ D j = true) ∨ (nx + ops.size ≤ l ∧ l < nx + ops.size + ex ∧ D dc = true)
def DeepOK (P : Program) (N ex : Nat) (o : Oper) (r : Rec) (T : Nat → Option AV) : Prop :=
  o.guard = none ∧ ∃ (f : FuncId) (xs : Array Operand) (ts : Array TypeId) (l : List PV) (rr : AV) (h' : List (Nat × Blk)), o.op = .call { callee := .value (.func f), args := xs, argTypes := ts } ∧ xs.toList.map (ev T) = l.map (fun p => some (.p p)) ∧ DFn P f (l.map AV.p) [] 0 [] rr h' ex ∧ distinct (h'.map (·.1)) = true ∧
    rr.labsBy (fun l => ([] : List Nat).contains l || decide (0 ≤ l)) = true ∧ h'.all (fun x => (([] : List Nat).contains x.1 || decide (0 ≤ x.1)) && x.2.labsBy (fun l => ([] : List Nat).contains l || decide (0 ≤ l))) = true ∧
    r.eff = some ⟨some (rr.ren (lift2 (fun k => k) 0 N)), newU (lift2 (fun k => k) 0 N) h'⟩ ∧ r.reads = []
structure Sound2 (P : Program) (nt : Fm) (ops : Array Oper) (L : List (Oper × Rec)) (nx dc ex : Nat) (T0 : Nat → Option AV) (H0 : Nat → Option Blk) : Prop where
  dst : ops.toList.all (dstOK nt) = true
  len : L.length = ops.size
  opers : ∀ (i : Nat) o r, L[i]? = some (o, r) → ops[i]? = some o
  static : staticOK ops.toList = true
  heap : ∀ i j o r o' r', i < j → L[i]? = some (o, r) → L[j]? = some (o', r') → (∀ l, l ∈ r.writes → l ∉ eReads false o'.op r'.reads ∧ l ∉ r'.writes) ∧ (∀ l, l ∈ r'.writes → l ∉ eReads false o.op r.reads) ∨ ahead ops.toList ops.toList.length i j = true
  chain : ∀ i o r, i ≠ dc → L[i]? = some (o, r) → StepOK P ops.toList (nx + i) o r (foldT (fun j => decide (j < i)) L 0 T0) (foldH (fun j => decide (j < i)) L 0 H0)
  deep : ∀ o r, L[dc]? = some (o, r) → DeepOK P (nx + ops.size) ex o r (foldT (fun j => decide (j < dc)) L 0 T0)
theorem Sound2.step (S : Sound2 P nt ops L nx dc ex T0 H0) (tx : TabX w0 X I0) {D : Nat → Bool} {i : Nat} {K : Act → World → Prop} {Q : Exit → Act → World → Prop} {a : Act} {w : World}
    (hcl : ∀ j o e, ops.toList[j]? = some o → D j = true → e ∈ o.after.toList → Region.binds .any e = true → D e.on = true) (hi : i < ops.size) (hDi : D i = false)
    (hdep : ∀ o, ops.toList[i]? = some o → ∀ e ∈ o.after.toList, Region.binds .any e = true → D e.on = true)
    (inv : Inv2 nt ops L nx dc ex T0 H0 w0 X I0 D a w) (hK : ∀ a w, Inv2 nt ops L nx dc ex T0 H0 w0 X I0 (fun j => D j || j == i) a w → K a w) : wpOp P ops Q i K a w := by
  obtain ⟨σ, I, m, hσ⟩ := inv
  obtain ⟨x, hx⟩ : ∃ x, L[i]? = some x := ⟨_, List.getElem?_eq_getElem (by rw [S.len]; exact hi)⟩
  obtain ⟨o, r⟩ := x
  have ho := S.opers i o r hx
  have ho' : ops.toList[i]? = some o := by rw [Array.getElem?_toList]; exact ho
  have hdo : dstOK nt o = true := List.all_eq_true.1 S.dst o (List.mem_of_getElem? ho')
  have hstat := S.static
  simp only [staticOK, Bool.and_eq_true] at hstat
  have hDlab : D i = false → σ (nx + i) = none := by
    intro _
    cases hs : σ (nx + i) with
    | none => rfl
    | some s =>
      rcases hσ _ s (Nat.le_add_right _ _) hs with ⟨j, hj, _, hDj⟩ | ⟨h5, _, _⟩
      · have : j = i := by omega
        subst this
        rw [hDi] at hDj
        cases hDj
      · omega
  -- operations that may change places with this one
  have before : ∀ j, ahead ops.toList ops.toList.length j i = true → D j = true := fun j h => ahead_dep hcl ho' (hdep o ho') _ j h
  have after : ∀ j, ahead ops.toList ops.toList.length i j = true → D j = false := fun j h => by
    cases hj : D j with
    | false => rfl
    | true =>
      have := ahead_done hcl _ i j h hj
      rw [hDi] at this
      cases this
  have hlt : ∀ {j : Nat} {y : Oper × Rec}, L[j]? = some y → j < ops.toList.length := fun h => by
    have := (List.getElem?_eq_some_iff.1 h).1
    rw [Array.length_toList, ← S.len]
    exact this
  have apartT : ∀ j o' r', j ≠ i → L[j]? = some (o', r') → (∀ d, o'.dst = some d → d ∉ o.looksAt ops ∧ o.dst ≠ some d) ∨ (j < i ∧ D j = true) ∨ (i < j ∧ D j = false) := by
    intro j o' r' hne hj
    have hoj : ops.toList[j]? = some o' := by rw [Array.getElem?_toList]; exact S.opers j o' r' hj
    have e : ops.toList.toArray = ops := by simp
    rcases Nat.lt_or_gt_of_ne hne with q | q
    · rcases pairs_spec hstat.2 q (hlt hx) with h | h
      · left
        simp only [tmpsApart, hoj, ho', e] at h
        obtain ⟨h1, h2, _⟩ := Oper.apart_spec h
        exact fun d hd => ⟨h1 d hd, h2 d hd⟩
      · exact .inr (.inl ⟨q, before j h⟩)
    · rcases pairs_spec hstat.2 q (hlt hj) with h | h
      · left
        simp only [tmpsApart, hoj, ho', e] at h
        obtain ⟨h1, h2, h3⟩ := Oper.apart_spec h
        exact fun d hd => ⟨h3 d hd, fun h => h2 d h hd⟩
      · exact .inr (.inr ⟨q, after j h⟩)
  have apartH : ∀ j o' r', j ≠ i → L[j]? = some (o', r') → (∀ l, l ∈ r'.writes → l ∉ eReads false o.op r.reads ∧ l ∉ r.writes) ∨ (j < i ∧ D j = true) ∨ (i < j ∧ D j = false) := by
    intro j o' r' hne hj
    rcases Nat.lt_or_gt_of_ne hne with q | q
    · rcases S.heap j i o' r' o r q hj hx with ⟨h1, h2⟩ | h
      · exact .inl h1
      · exact .inr (.inl ⟨q, before j h⟩)
    · rcases S.heap i j o r o' r' q hx hj with ⟨h1, h2⟩ | h
      · exact .inl fun l hl => ⟨h2 l hl, fun h => (h1 l h).2 hl⟩
      · exact .inr (.inr ⟨q, after j h⟩)
  -- what it looks at is what it looks at in the text's order
  have sameT : ∀ t, t ∈ o.looksAt ops → foldT D L 0 T0 t = foldT (fun j => decide (j < i)) L 0 T0 t := by
    intro t ht
    refine foldT_eq L 0 _ _ rfl fun j y hj hy => ?_
    obtain ⟨o', r'⟩ := y
    rw [Nat.zero_add]
    by_cases hne : j = i
    · subst hne; rw [hDi]; simp
    · rcases apartT j o' r' hne hj with h | ⟨h1, h2⟩ | ⟨h1, h2⟩
      · exact absurd ht (h t hy).1
      · rw [h2]; simp [h1]
      · rw [h2]; simp; omega
  have sameH : ∀ l, l ∈ eReads false o.op r.reads → foldH D L 0 H0 l = foldH (fun j => decide (j < i)) L 0 H0 l := by
    intro t ht
    refine foldH_eq L 0 _ _ rfl fun j y hj hy => ?_
    obtain ⟨o', r'⟩ := y
    rw [Nat.zero_add]
    by_cases hne : j = i
    · subst hne; rw [hDi]; simp
    · rcases apartH j o' r' hne hj with h | ⟨h1, h2⟩ | ⟨h1, h2⟩
      · exact absurd ht (h t hy).1
      · rw [h2]; simp [h1]
      · rw [h2]; simp; omega
  have evSame : ∀ y ∈ o.op.operands.toList, ev (foldT D L 0 T0) y = ev (foldT (fun j => decide (j < i)) L 0 T0) y := by
    intro y hy
    cases y with
    | tmp t => exact sameT t (List.mem_append_left _ (List.mem_filterMap.2 ⟨.tmp t, hy, rfl⟩))
    | _ => rfl
  have guardSame : guardIs ops.toList o (foldT D L 0 T0) = guardIs ops.toList o (foldT (fun j => decide (j < i)) L 0 T0) := by
    unfold guardIs
    cases hg : o.guard with
    | none => rfl
    | some jw =>
      obtain ⟨j, want⟩ := jw
      simp only
      cases hd : (ops.toList[j]?).bind (·.dst) with
      | none => rfl
      | some d =>
        simp only [Option.bind_some]
        rw [sameT d (List.mem_append_right _ (by simp only [hg]; rw [Array.getElem?_toList] at hd; simp [hd]))]
  -- the state behind it
  have newT : putT (foldT D L 0 T0) o.dst r.val = foldT (fun j => D j || j == i) L 0 T0 := by
    funext t
    by_cases ht : o.dst = some t
    · have e1 : putT (foldT D L 0 T0) o.dst r.val t = r.val := by simp only [ht, putT, upd_same]
      rw [e1]
      refine (foldT_at L 0 T0 i o r hx ht (by simp) fun j y hij hj hy => ?_).symm
      obtain ⟨o', r'⟩ := y
      rw [Nat.zero_add]
      rcases apartT j o' r' (by omega) hj with h | ⟨h1, h2⟩ | ⟨h1, h2⟩
      · exact absurd ht (h t hy).2
      · omega
      · rw [h2]; simp; omega
    · rw [putT_ne ht]
      refine foldT_eq L 0 _ _ rfl fun j y hj hy => ?_
      rw [Nat.zero_add]
      have : j ≠ i := by
        rintro rfl
        rw [hx] at hj
        injection hj with hj
        subst hj
        exact ht hy
      simp [this]
  have newH : putH (foldH D L 0 H0) r.upds = foldH (fun j => D j || j == i) L 0 H0 := by
    funext t
    by_cases ht : t ∈ r.writes
    · rw [putH_in _ _ (fun _ => none) ht]
      refine (foldH_at L 0 H0 i o r hx ht (by simp) fun j y hij hj hy => ?_).symm
      obtain ⟨o', r'⟩ := y
      rw [Nat.zero_add]
      rcases apartH j o' r' (by omega) hj with h | ⟨h1, h2⟩ | ⟨h1, h2⟩
      · exact absurd ht (h t hy).2
      · omega
      · rw [h2]; simp; omega
    · rw [putH_out _ _ ht]
      refine foldH_eq L 0 _ _ rfl fun j y hj hy => ?_
      rw [Nat.zero_add]
      have : j ≠ i := by
        rintro rfl
        rw [hx] at hj
        injection hj with hj
        subst hj
        exact ht hy
      simp [this]
  have hwant : ∀ b, guardIs ops.toList o (foldT D L 0 T0) = some b → Region.wanted o (yielded ops a.tmps) = b := by
    intro b hb
    unfold guardIs at hb
    cases hg : o.guard with
    | none =>
      rw [hg] at hb
      injection hb with hb
      simp [Region.wanted, hg, hb]
    | some jw =>
      obtain ⟨j, want⟩ := jw
      rw [hg] at hb
      simp only at hb
      split at hb
      · rename_i b' hb'
        injection hb with hb
        obtain ⟨d, hd1, hd2⟩ := Option.bind_eq_some_iff.1 hb'
        rw [Array.getElem?_toList] at hd1
        obtain ⟨u, hu, hru⟩ := m.tmps d _ hd2
        have hy : yielded ops a.tmps j = some b' := by
          cases hru with
          | p h => cases h; simp [yielded, hd1, hu]
        simp only [Region.wanted, hg, hy, ← hb]
        cases b' <;> cases want <;> rfl
      · cases hb
  unfold wpOp
  rw [ho]
  simp only
  by_cases hic : i = dc
  · subst hic
    obtain ⟨hg, f, xs, ts, l, rr, h', hop, hxs, hD, hdis, hres, hmem, hre, hrr⟩ := S.deep o r hx
    rw [if_pos (hwant true (by unfold guardIs; rw [hg]))]
    left
    have hxc : xs.toList.map (ev (foldT D L 0 T0)) = l.map fun p => some (.p p) := by
      rw [← hxs]
      refine List.map_congr_left fun y hy => evSame y ?_
      rw [hop]
      simp only [Op.operands, Call.operands]
      simp [hy]
    have hlab : ∀ l', nx + ops.size ≤ l' → σ l' = none := fun l' hl' => by
      cases hs : σ l' with
      | none => rfl
      | some s =>
        rcases hσ l' s (by omega) hs with ⟨j, h1, h0, _⟩ | ⟨_, _, h2⟩
        · omega
        · rw [hDi] at h2; cases h2
    refine callD_sig (s := ⟨foldT D L 0 T0, foldH D L 0 H0, nx + ops.size⟩) (fun k => k) hop rfl hdo hD ⟨argD_pure hxc, by simp [AV.labsIn], (fun x hx => by cases hx), rfl, rfl, hdis, rfl, hres, hmem⟩ tx hlab m fun σ' I' a' w' hlo hhi m' => hK _ _ ⟨σ', I', ?_, fun l' s hl hs => ?_⟩
    · have e1 : r.val = some (rr.ren (lift2 (fun k => k) 0 (nx + ops.size))) := by simp [Rec.val, hre]
      have e2 : r.upds = newU (lift2 (fun k => k) 0 (nx + ops.size)) h' := by simp [Rec.upds, hre]
      rw [← newT, ← newH, e1, e2]
      exact m'
    · rcases Nat.lt_or_ge l' (nx + ops.size) with q | q
      · rw [hlo l' q] at hs
        rcases hσ l' s hl hs with ⟨j, h1, h0, h2⟩ | ⟨h1, _, _⟩
        · exact .inl ⟨j, h1, h0, by simp [h2]⟩
        · omega
      · rcases Nat.lt_or_ge l' (nx + ops.size + ex) with q2 | q2
        · exact .inr ⟨q, q2, by simp⟩
        · rw [hhi l' q2] at hs; cases hs
  have hst := S.chain i o r hic hx
  unfold StepOK at hst
  cases he : r.eff with
  | some e =>
    rw [he] at hst
    obtain ⟨hg, hop, hr⟩ := hst
    rw [if_pos (hwant true (guardSame.trans hg))]
    have hop' : opW P (nx + i) o.op (foldT D L 0 T0) (foldH D L 0 H0) fun e' => e' = e := by
      rw [loc_op evSame (fun l hl => sameH l (by simp only [eReads, Bool.false_and, Bool.false_eq_true, if_false]; rw [hr]; exact hl))]
      exact hop
    left
    refine snd_op (w0 := w0) (X := X) (I0 := I0) ⟨m.heap, m.tmps, hDlab hDi, tx⟩ hop' _ _ fun e' v w' σ' I' hk out => hK _ _ ?_
    subst hk
    refine ⟨σ', I', ?_, fun l s hl hs => ?_⟩
    · have := m.put hdo out.heap out.ext out.imm out.same out.val
      have e1 : r.val = e'.val := by simp [Rec.val, he]
      have e2 : r.upds = e'.upd := by simp [Rec.upds, he]
      rw [← newT, ← newH, e1, e2]
      exact this
    · by_cases hll : l = nx + i
      · exact .inl ⟨i, hll, hi, by simp⟩
      · rw [out.lab l hll] at hs
        rcases hσ l s hl hs with ⟨j, h1, h0, h2⟩ | ⟨h1, h0, h2⟩
        · exact .inl ⟨j, h1, h0, by simp [h2]⟩
        · exact .inr ⟨h1, h0, by simp [h2]⟩
  | none =>
    rw [he] at hst
    rw [if_neg (by rw [hwant false (guardSame.trans hst)]; simp)]
    refine hK _ _ ⟨σ, I, ?_, fun l s hl hs => ?_⟩
    · have := m.put (v := undef) (x := none) hdo m.heap (fun _ _ h => h) (fun _ h => h) (fun _ _ => rfl) (fun y hy => by cases hy)
      have e1 : r.val = none := by simp [Rec.val, he]
      have e2 : r.upds = [] := by simp [Rec.upds, he]
      rw [← newT, ← newH, e1, e2]
      exact this
    · rcases hσ l s hl hs with ⟨j, h1, h0, h2⟩ | ⟨h1, h0, h2⟩
      · exact .inl ⟨j, h1, h0, by simp [h2]⟩
      · exact .inr ⟨h1, h0, by simp [h2]⟩
theorem Sound2.any (S : Sound2 P nt ops L nx dc ex T0 H0) (tx : TabX w0 X I0) {Q : Exit → Act → World → Prop} (hQ : ∀ a w, Inv2 nt ops L nx dc ex T0 H0 w0 X I0 (fun j => decide (j < ops.size)) a w → Q .normal a w) :
    ∀ (fuel : Nat) (listed : Array Bool) (a : Act) (w : World), listed.size = ops.size → (open_ ops.size listed).length ≤ fuel →
      (∀ j o e, ops.toList[j]? = some o → listed.getD j false = true → e ∈ o.after.toList → Region.binds .any e = true → listed.getD e.on false = true) →
      Inv2 nt ops L nx dc ex T0 H0 w0 X I0 (fun j => listed.getD j false) a w → wpAny P .any ops Q fuel listed a w := by
  have getD_ne : ∀ (listed : Array Bool) (i : Nat), listed.size = ops.size → i < ops.size → listed.getD i true = listed.getD i false := by
    intro listed i hs hi
    have : i < listed.size := by omega
    simp [Array.getD, this]
  have full : ∀ (listed : Array Bool), listed.size = ops.size → Region.ready .any ops listed = [] → ∀ i, i < ops.size → listed.getD i false = true := by
    intro listed hs hr i
    induction i using Nat.strongRecOn with
    | _ i ih =>
      intro hi
      cases hd : listed.getD i false with
      | true => rfl
      | false =>
        exfalso
        have : i ∈ Region.ready .any ops listed := by
          unfold Region.ready
          refine List.mem_filter.2 ⟨List.mem_range.2 hi, ?_⟩
          rw [getD_ne listed i hs hi, hd, Array.getElem?_eq_getElem hi]
          simp only [Bool.not_false, Bool.true_and, Option.map_some, Option.getD_some]
          rw [Array.all_eq_true_iff_forall_mem]
          intro e he
          cases hb : Region.binds .any e with
          | false => rfl
          | true =>
            simp only [Bool.not_true, Bool.false_or]
            have hst := S.static
            simp only [staticOK, Bool.and_eq_true] at hst
            have h1 := List.all_eq_true.1 hst.1 i (List.mem_range.2 (by simpa using hi))
            rw [Array.getElem?_toList, Array.getElem?_eq_getElem hi] at h1
            simp only at h1
            have h2 := List.all_eq_true.1 h1 e (by simpa using he)
            rw [hb] at h2
            simp only [Bool.not_true, Bool.false_or, decide_eq_true_eq] at h2
            exact ih e.on h2 (by omega)
        rw [hr] at this
        cases this
  have done : ∀ (listed : Array Bool) a w, listed.size = ops.size → Region.ready .any ops listed = [] → Inv2 nt ops L nx dc ex T0 H0 w0 X I0 (fun j => listed.getD j false) a w → Q .normal a w := by
    intro listed a w hs hr inv
    refine hQ a w ?_
    have : (fun j => listed.getD j false) = fun j => decide (j < ops.size) := by
      funext j
      by_cases hj : j < ops.size
      · rw [full listed hs hr j hj]; simp [hj]
      · have : ¬ j < listed.size := by omega
        simp [Array.getD, this, hj]
    rw [this] at inv
    exact inv
  intro fuel
  induction fuel with
  | zero =>
    intro listed a w hs hf hcl inv
    have hr : Region.ready .any ops listed = [] := by
      cases h : Region.ready .any ops listed with
      | nil => rfl
      | cons i l =>
        exfalso
        obtain ⟨h1, h2, _⟩ := ready_mem (show i ∈ Region.ready .any ops listed by rw [h]; simp)
        have : i ∈ open_ ops.size listed := List.mem_filter.2 ⟨List.mem_range.2 h1, by rw [h2]; rfl⟩
        have := List.length_pos_of_mem this
        omega
    exact ⟨hr, done listed a w hs hr inv⟩
  | succ fuel ih =>
    intro listed a w hs hf hcl inv
    refine ⟨fun hr => done listed a w hs hr inv, fun i hi => ?_⟩
    obtain ⟨h1, h2, h3⟩ := ready_mem hi
    have hD : (fun j => (listed.setIfInBounds i true).getD j false) = fun j => listed.getD j false || j == i := by
      funext j
      by_cases hj : j = i
      · subst hj
        have : j < listed.size := by omega
        simp [Array.getD, this]
      · by_cases hjs : j < listed.size
        · have e1 : (j == i) = false := by simpa using hj
          have e2 : ¬ i = j := fun h => hj h.symm
          simp [Array.getD, hjs, e1, e2]
        · have e1 : (j == i) = false := by simpa using hj
          simp [Array.getD, hjs, e1]
    refine S.step tx (D := fun j => listed.getD j false) hcl h1 (by rw [← getD_ne listed i hs h1]; exact h2) h3 inv fun a w inv' => ?_
    · refine ih _ a w (by simpa using hs) ?_ (fun j o e ho hj he hb => ?_) (by rw [hD]; exact inv')
      · have hmem : i ∈ open_ ops.size listed := List.mem_filter.2 ⟨List.mem_range.2 h1, by rw [h2]; rfl⟩
        have hsub : open_ ops.size (listed.setIfInBounds i true) = (open_ ops.size listed).filter fun j => j != i := by
          unfold open_
          rw [List.filter_filter]
          apply List.filter_congr
          intro j hj
          have hj' := List.mem_range.1 hj
          rw [getD_ne _ j (by simpa using hs) hj', getD_ne _ j hs hj']
          have := congrFun hD j
          rw [this]
          cases listed.getD j false <;> cases hji : j == i <;> simp [bne, hji]
        rw [hsub]
        have : ((open_ ops.size listed).filter fun j => j != i).length < (open_ ops.size listed).length := by
          rw [List.length_filter_lt_length_iff_exists]
          exact ⟨i, hmem, by simp⟩
        omega
      · have hh := congrFun hD
        rw [hh] at hj ⊢
        simp only [Bool.or_eq_true, beq_iff_eq] at hj ⊢
        rcases hj with hj | hj
        · exact .inl (hcl j o e ho hj he hb)
        · subst hj
          exact .inl (h3 o ho e he hb)
theorem foldT_app (D : Nat → Bool) : ∀ (A B : List (Oper × Rec)) (c : Nat) (T : Nat → Option AV), foldT D (A ++ B) c T = foldT D B (c + A.length) (foldT D A c T)
  | [], B, c, T => rfl
  | (o, r) :: A, B, c, T => by
    rw [List.cons_append]
    simp only [foldT]
    rw [foldT_app D A B (c + 1), List.length_cons, show c + 1 + A.length = c + (A.length + 1) by omega]
theorem foldH_app (D : Nat → Bool) : ∀ (A B : List (Oper × Rec)) (c : Nat) (T : Nat → Option Blk), foldH D (A ++ B) c T = foldH D B (c + A.length) (foldH D A c T)
  | [], B, c, T => rfl
  | (o, r) :: A, B, c, T => by
    rw [List.cons_append]
    simp only [foldH]
    rw [foldH_app D A B (c + 1), List.length_cons, show c + 1 + A.length = c + (A.length + 1) by omega]
theorem foldT_off {D : Nat → Bool} : ∀ (A : List (Oper × Rec)) (c : Nat) (T : Nat → Option AV), (∀ j, c ≤ j → D j = false) → foldT D A c T = T
  | [], c, T, _ => rfl
  | (o, r) :: A, c, T, h => by
    simp only [foldT, h c (Nat.le_refl _), Bool.false_eq_true, if_false]
    exact foldT_off A (c + 1) T fun j hj => h j (by omega)
theorem foldH_off {D : Nat → Bool} : ∀ (A : List (Oper × Rec)) (c : Nat) (T : Nat → Option Blk), (∀ j, c ≤ j → D j = false) → foldH D A c T = T
  | [], c, T, _ => rfl
  | (o, r) :: A, c, T, h => by
    simp only [foldH, h c (Nat.le_refl _), Bool.false_eq_true, if_false]
    exact foldH_off A (c + 1) T fun j hj => h j (by omega)
theorem foldT_same {D D' : Nat → Bool} : ∀ (A : List (Oper × Rec)) (c : Nat) (T : Nat → Option AV), (∀ j, c ≤ j → j < c + A.length → D j = D' j) → foldT D A c T = foldT D' A c T
  | [], c, T, _ => rfl
  | (o, r) :: A, c, T, h => by
    simp only [foldT]
    rw [h c (Nat.le_refl _) (by simp)]
    exact foldT_same A (c + 1) _ fun j h1 h2 => h j (by omega) (by rw [List.length_cons]; omega)
theorem foldH_same {D D' : Nat → Bool} : ∀ (A : List (Oper × Rec)) (c : Nat) (T : Nat → Option Blk), (∀ j, c ≤ j → j < c + A.length → D j = D' j) → foldH D A c T = foldH D' A c T
  | [], c, T, _ => rfl
  | (o, r) :: A, c, T, h => by
    simp only [foldH]
    rw [h c (Nat.le_refl _) (by simp)]
    exact foldH_same A (c + 1) _ fun j h1 h2 => h j (by omega) (by rw [List.length_cons]; omega)
theorem foldT_at0 {D : Nat → Bool} : ∀ (A : List (Oper × Rec)) (c : Nat) (T : Nat → Option AV), (∀ j, j < A.length → D (c + j) = true) → foldT D A c T = foldT (fun _ => true) A 0 T := by
  have sh : ∀ (A : List (Oper × Rec)) (c c' : Nat) (T : Nat → Option AV), foldT (fun _ => true) A c T = foldT (fun _ => true) A c' T := by
    intro A
    induction A with
    | nil => intro c c' T; rfl
    | cons x A ih => intro c c' T; obtain ⟨o, r⟩ := x; simp only [foldT, if_true]; exact ih _ _ _
  intro A c T h
  rw [sh A 0 c]
  exact foldT_same A c T fun j h1 h2 => by have := h (j - c) (by omega); rwa [show c + (j - c) = j by omega] at this
theorem foldH_at0 {D : Nat → Bool} : ∀ (A : List (Oper × Rec)) (c : Nat) (T : Nat → Option Blk), (∀ j, j < A.length → D (c + j) = true) → foldH D A c T = foldH (fun _ => true) A 0 T := by
  have sh : ∀ (A : List (Oper × Rec)) (c c' : Nat) (T : Nat → Option Blk), foldH (fun _ => true) A c T = foldH (fun _ => true) A c' T := by
    intro A
    induction A with
    | nil => intro c c' T; rfl
    | cons x A ih => intro c c' T; obtain ⟨o, r⟩ := x; simp only [foldH, if_true]; exact ih _ _ _
  intro A c T h
  rw [sh A 0 c]
  exact foldH_same A c T fun j h1 h2 => by have := h (j - c) (by omega); rwa [show c + (j - c) = j by omega] at this
def heapA (all : List Oper) (fs : List (List Nat × List Nat)) : Bool := pairsOK all (heapApart fs)
/-- A region whose order is drawn, with one call that hands out deep memory: what stands ahead of it in the text, the call, what stands behind it. -/
theorem AW.drawDeep {id : Nat} {y : Code} {s : St} {Q : Exit → St → Prop} {pre suf : List Oper} {oc : Oper} {d : Tmp} {f : FuncId} {xs : Array Operand} {ts : Array TypeId} {ty : TypeId} {ps : String} {af : Array Edge} {l : List PV} {rr : AV} {h' : List (Nat × Blk)}
    (hops : ops.toList = pre ++ oc :: suf) (hoc : oc = ⟨some d, .call { callee := .value (.func f), args := xs, argTypes := ts }, ty, ps, af, none⟩)
    (hm : P.follows .mixedOrders = true) (hd : ops.toList.all (dstOK nt) = true) (hs : staticOK ops.toList = true)
    (DF : DFn P f (l.map AV.p) [] 0 [] rr h' ex) (hdis : distinct (h'.map (·.1)) = true) (hres : rr.labsBy (fun l => ([] : List Nat).contains l || decide (0 ≤ l)) = true) (hmem : h'.all (fun x => (([] : List Nat).contains x.1 || decide (0 ≤ x.1)) && x.2.labsBy (fun l => ([] : List Nat).contains l || decide (0 ≤ l))) = true)
    (h : ∀ K : St → Prop, (∀ s', AW P nt y s' Q → K s') → drawO P ops.toList s.nx pre s.T s.H [] fun T1 H1 n1 fs1 => xs.toList.map (ev T1) = l.map (fun p => some (.p p)) ∧
      drawO P ops.toList (n1 + 1) suf (upd T1 d (some (rr.ren (lift2 (fun k => k) 0 (s.nx + ops.size))))) (putH H1 (newU (lift2 (fun k => k) 0 (s.nx + ops.size)) h')) (([], (newU (lift2 (fun k => k) 0 (s.nx + ops.size)) h').map (·.1)) :: fs1) fun T H n fs => heapA ops.toList fs.reverse = true ∧ K ⟨T, H, n + ex⟩) :
    AW P nt (.seq (.region id ops true) y) s Q := by
  refine AW.seq ?_
  have h := h (fun s' => AW P nt y s' Q) fun _ h => h
  intro w0 X I0 a w tx ⟨σ, I, hn, m⟩
  refine wp_region_any hm ?_
  have hlen : ops.size = pre.length + (suf.length + 1) := by rw [← Array.length_toList, hops, List.length_append, List.length_cons]
  rw [drawO_eq] at h
  have h := drawA_W _ _ _ _ _ _ h
  obtain ⟨rs1, a1, a2, a3, a4⟩ := drawW_chain pre s.nx s.T s.H _ h
  rw [drawO_eq] at a4
  have a4 := drawA_W _ _ _ _ _ _ a4
  obtain ⟨rs2, b1, b2, b3, b4⟩ := drawW_chain suf _ _ _ _ a4
  obtain ⟨rc, hrc⟩ : ∃ rc : Rec, rc = ⟨some ⟨some (rr.ren (lift2 (fun k => k) 0 (s.nx + ops.size))), newU (lift2 (fun k => k) 0 (s.nx + ops.size)) h'⟩, []⟩ := ⟨_, rfl⟩
  have z1 : (pre.zip rs1).length = pre.length := by rw [List.length_zip, a1, Nat.min_self]
  have z2 : (suf.zip rs2).length = suf.length := by rw [List.length_zip, b1, Nat.min_self]
  obtain ⟨L, hL⟩ : ∃ L, L = pre.zip rs1 ++ (oc, rc) :: suf.zip rs2 := ⟨_, rfl⟩
  have lL : L.length = ops.size := by rw [hL, List.length_append, List.length_cons, z1, z2, hlen]
  have hLz : L = ops.toList.zip (rs1 ++ rc :: rs2) := by
    rw [hL, hops, List.zip_append a1.symm]
    rfl
  have hz : ∀ (i : Nat) o r, L[i]? = some (o, r) → ops.toList[i]? = some o ∧ (rs1 ++ rc :: rs2)[i]? = some r := by
    intro i o r hi
    rw [hLz, List.getElem?_zip_eq_some] at hi
    exact hi
  have hfs : (List.map foot rs2).reverse ++ ([], (newU (lift2 (fun k => k) 0 (s.nx + ops.size)) h').map (·.1)) :: ((List.map foot rs1).reverse ++ []) = ((rs1 ++ rc :: rs2).map foot).reverse := by
    rw [List.append_nil, List.map_append, List.map_cons, List.reverse_append, List.reverse_cons, List.append_assoc]
    have : foot rc = ([], (newU (lift2 (fun k => k) 0 (s.nx + ops.size)) h').map (·.1)) := by rw [hrc]; rfl
    rw [this]
    rfl
  rw [hfs, List.reverse_reverse] at b3
  have hA1 : ∀ D : Nat → Bool, (∀ j, j < pre.length → D j = true) → foldT D (pre.zip rs1) 0 s.T = foldT (fun _ => true) (pre.zip rs1) 0 s.T ∧ foldH D (pre.zip rs1) 0 s.H = foldH (fun _ => true) (pre.zip rs1) 0 s.H := fun D hD =>
    ⟨foldT_same _ 0 _ fun j _ h2 => by rw [hD j (by omega)], foldH_same _ 0 _ fun j _ h2 => by rw [hD j (by omega)]⟩
  have hupd : ∀ (T : Nat → Option AV) (H : Nat → Option Blk), recT T oc rc = upd T d (some (rr.ren (lift2 (fun k => k) 0 (s.nx + ops.size)))) ∧ recH H rc = putH H (newU (lift2 (fun k => k) 0 (s.nx + ops.size)) h') := fun T H => by
    rw [hrc, hoc]
    exact ⟨rfl, rfl⟩
  have S : Sound2 P nt ops L s.nx pre.length ex s.T s.H := by
    refine ⟨hd, lL, fun i o r hi => by rw [← Array.getElem?_toList]; exact (hz i o r hi).1, hs, fun i j o r o' r' hij hi hj => ?_, fun i o r hne hi => ?_, fun o r hi => ?_⟩
    · have er : ∀ op l, eReads false op l = l := fun op l => by simp [eReads]
      rw [er, er]
      rcases pairs_spec b3 hij (by have := (List.getElem?_eq_some_iff.1 (hz j o' r' hj).1).1; exact this) with q | q
      · left
        simp only [heapApart, List.getElem?_map, (hz i o r hi).2, (hz j o' r' hj).2, Option.map_some, foot, Bool.and_eq_true] at q
        exact ⟨fun l hl => ⟨disj_spec q.1.1 hl, disj_spec q.1.2 hl⟩, fun l hl => disj_spec q.2 hl⟩
      · exact .inr q
    · rcases Nat.lt_or_gt_of_ne hne with q | q
      · have hi' : (pre.zip rs1)[i]? = some (o, r) := by rw [hL, List.getElem?_append_left (by omega)] at hi; exact hi
        have := chain_at (pre.zip rs1) 0 s.nx s.T s.H a2 i o r hi'
        simp only [Nat.zero_add] at this
        rw [hL, foldT_app, foldH_app, foldT_off, foldH_off]
        · exact this
        · intro j hj; simp; omega
        · intro j hj; simp; omega
      · obtain ⟨k, rfl⟩ : ∃ k, i = pre.length + 1 + k := ⟨i - (pre.length + 1), by omega⟩
        have hi' : (suf.zip rs2)[k]? = some (o, r) := by
          rw [hL, List.getElem?_append_right (by omega), z1, show pre.length + 1 + k - pre.length = k + 1 by omega, List.getElem?_cons_succ] at hi
          exact hi
        have := chain_at (suf.zip rs2) (pre.length + 1) _ _ _ b2 k o r hi'
        rw [hL, foldT_app, foldH_app]
        simp only [foldT, foldH, Nat.zero_add, z1]
        rw [if_pos (by simp; omega), if_pos (by simp; omega), (hA1 (fun j => decide (j < pre.length + 1 + k)) fun j hj => by simp; omega).1, (hA1 (fun j => decide (j < pre.length + 1 + k)) fun j hj => by simp; omega).2, (hupd _ (fun _ => none)).1, (hupd (fun _ => none) _).2]
        rw [show s.nx + (pre.length + 1 + k) = s.nx + pre.length + 1 + k by omega]
        exact this
    · have : (oc, rc) = (o, r) := by
        rw [hL, List.getElem?_append_right (by omega), z1, Nat.sub_self] at hi
        simpa using hi
      injection this with h1 h2
      subst h1 h2
      refine ⟨by rw [hoc], f, xs, ts, l, rr, h', by rw [hoc], ?_, DF, hdis, hres, hmem, by rw [hrc], by rw [hrc]⟩
      rw [hL, foldT_app, foldT_off, (hA1 (fun j => decide (j < pre.length)) fun j hj => by simp; omega).1]
      · exact a3
      · intro j hj; simp; omega
  refine S.any (w0 := w0) (X := X) (I0 := I0) tx (Q := fun e a' w' => ∃ s', Matches nt w0 X I0 s' a' w' ∧ andThen (fun s' => AW P nt y s' Q) Q e s') (fun a w inv => ?_) ops.size _ a _ (by simp) (by unfold open_; exact Nat.le_trans (List.length_filter_le _ _) (by simp)) (fun j o e ho hj he hb => ?_) ?_
  · obtain ⟨σ, I, m, hσ⟩ := inv
    have e1 : foldT (fun j => decide (j < ops.size)) L 0 s.T = foldT (fun _ => true) (suf.zip rs2) 0 (upd (foldT (fun _ => true) (pre.zip rs1) 0 s.T) d (some (rr.ren (lift2 (fun k => k) 0 (s.nx + ops.size))))) := by
      rw [hL, foldT_app]
      simp only [foldT, Nat.zero_add, z1]
      rw [if_pos (by simp; omega), (hA1 (fun j => decide (j < ops.size)) fun j hj => by simp; omega).1, (hupd _ (fun _ => none)).1]
      exact foldT_at0 _ _ _ fun j hj => by simp; omega
    have e2 : foldH (fun j => decide (j < ops.size)) L 0 s.H = foldH (fun _ => true) (suf.zip rs2) 0 (putH (foldH (fun _ => true) (pre.zip rs1) 0 s.H) (newU (lift2 (fun k => k) 0 (s.nx + ops.size)) h')) := by
      rw [hL, foldH_app]
      simp only [foldH, Nat.zero_add, z1]
      rw [if_pos (by simp; omega), (hA1 (fun j => decide (j < ops.size)) fun j hj => by simp; omega).2, (hupd (fun _ => none) _).2]
      exact foldH_at0 _ _ _ fun j hj => by simp; omega
    rw [e1, e2] at m
    refine ⟨_, ⟨σ, I, fun l hl => ?_, m⟩, b4⟩
    cases hs' : σ l with
    | none => rfl
    | some sl =>
      simp only at hl
      rcases hσ l sl (by omega) hs' with ⟨j, h5, h6, _⟩ | ⟨_, h6, _⟩ <;> omega
  · by_cases hj' : j < ops.size
    · simp [Array.getD, hj'] at hj
    · simp [Array.getD, hj'] at hj
  · have e0 : (fun j => (Array.replicate ops.size false).getD j false) = fun _ => false := by
      funext j
      by_cases hj : j < ops.size <;> simp [Array.getD, hj]
    rw [e0]
    refine ⟨σ, I, ?_, fun l sl hl hs' => ?_⟩
    · rw [foldT_off _ _ _ fun _ _ => rfl, foldH_off _ _ _ fun _ _ => rfl]
      exact ⟨m.defers, m.size, m.pins, m.heap.world rfl rfl rfl rfl, fun i x hx => by
        obtain ⟨u, hu, hr⟩ := m.tmps i x hx
        exact ⟨u, hu, hr.mono (fun _ _ h => h) (fun _ h => h) (fun _ _ => rfl)⟩⟩
    · rw [hn l hl] at hs'
      cases hs'
end
end Go.Aw
