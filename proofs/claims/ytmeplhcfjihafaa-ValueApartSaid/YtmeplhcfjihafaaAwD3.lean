/- A call of a function value, with deep memory. -/
import Derived.Test.YtmeplhcfjihafaaAwDc
namespace Go.Aw
open Go.RowKit
variable {P : Program}
/-- The caller's memory behind a call that was lent some of it, or that handed some out. -/
theorem callD_val {nt : Fm} {s : St} {K : St → Prop} {o : Oper} {c : Operand} {f : FuncId} {xs : Array Operand} {ts : Array TypeId} {args : List AV} {h : List (Nat × Blk)} {n : Nat} {rt : List Nat} {r : AV} {h' : List (Nat × Blk)} {m : Nat} (ρ : Nat → Nat)
    (ho : o.op = .call { callee := .value c, args := xs, argTypes := ts }) (hcf : fnOf (ev s.T c) = some f) (hd : dstOK nt o = true) (D : DFn P f args h n rt r h' m) (F : FitD s xs.toList args h n rt r h' ρ)
    (hk : K ⟨putT s.T o.dst (some (r.ren (lift2 ρ n s.nx))), putH (putH s.H (goneU ρ h)) (newU (lift2 ρ n s.nx) h'), s.nx + m⟩) : CallD P nt o s K := by
  obtain ⟨hen, hp⟩ := D
  intro w0 X I0 a w next Q tx ⟨σ, I, hn, mm⟩ hnext
  have IN : In σ w I s.T s.H w0 X I0 a s.nx := ⟨mm.heap, mm.tmps, hn _ (Nat.le_refl _), tx⟩
  have hrun : (execOp a.eval o).run P w = .ok (.enter f (xs.map a.eval)) w := by
    have he : a.eval c = .func (.func f) #[] #[] := by
      cases hev : ev s.T c with
      | none => rw [hev] at hcf; simp [fnOf] at hcf
      | some x => rw [hev] at hcf; exact fnOf_spec hcf (IN.ev hev)
    simp only [execOp, ho, resolve, he, Deferred.ofValue, Sem.run_bind, Sem.run_pure, Result.andThen_ok, invoke, Array.append_empty, Array.empty_append, run_enter hen]
  obtain ⟨p1, p2⟩ := argD_spec F.opd
  have here : ∀ l b, ofH h l = some b → s.H (ρ l) = some (b.ren ρ) ∧ l < n ∧ b.labsIn n = true := fun l b hl => F.here (l, b) (ofH_mem hl)
  have inj : ∀ l l' b b', ofH h l = some b → ofH h l' = some b' → ρ l = ρ l' → l = l' := fun l l' b b' h1 h2 e => by
    have := distinct_inj F.inj (l, b) (ofH_mem h1) (l', b') (ofH_mem h2) e
    injection this
  generalize hσc : relab ρ n σ = σc
  have σat : ∀ l, l < n → σc l = σ (ρ l) := fun l hl => by rw [← hσc]; unfold relab; rw [if_pos hl]
  have σno : ∀ l, n ≤ l → σc l = none := fun l hl => by rw [← hσc]; unfold relab; rw [if_neg (by omega)]
  have Xof : ∀ g, lentX σc (ofH h) g → ∃ l b sl, ofH h l = some b ∧ s.H (ρ l) = some (b.ren ρ) ∧ σ (ρ l) = some sl ∧ sl.block = some g := fun g ⟨l, sl, q1, q2, q3⟩ => by
    obtain ⟨b, hb⟩ := Option.ne_none_iff_exists'.1 q1
    obtain ⟨r1, r2, _⟩ := here l b hb
    exact ⟨l, b, sl, hb, r1, by rw [← σat l r2]; exact q2, q3⟩
  have hH : HOK σc w I (ofH h) w (lentX σc (ofH h)) I := by
    refine ⟨fun l b hl => ?_, fun l l' g s1 s2 n1 n2 e1 e2 g1 g2 => ?_, fun l g s1 n1 e1 g1 => ?_, fun g hg => ⟨(mm.heap.imm g hg).1, .inl hg⟩, fun _ h => h, Fr.refl _ _⟩
    · obtain ⟨r1, r2, r3⟩ := here l b hl
      rw [← hσc]
      exact repB_ren r2 (mm.heap.rows _ _ r1) r3
    · obtain ⟨b1, hb1⟩ := Option.ne_none_iff_exists'.1 n1
      obtain ⟨b2, hb2⟩ := Option.ne_none_iff_exists'.1 n2
      obtain ⟨r1, r2, _⟩ := here l b1 hb1
      obtain ⟨r1', r2', _⟩ := here l' b2 hb2
      rw [σat l r2] at e1
      rw [σat l' r2'] at e2
      exact inj l l' b1 b2 hb1 hb2 (mm.heap.inj _ _ g s1 s2 (by rw [r1]; simp) (by rw [r1']; simp) e1 e2 g1 g2)
    · obtain ⟨b1, hb1⟩ := Option.ne_none_iff_exists'.1 n1
      obtain ⟨r1, r2, _⟩ := here l b1 hb1
      refine ⟨?_, .inl ⟨l, s1, n1, e1, g1⟩⟩
      rw [σat l r2] at e1
      exact (mm.heap.mine _ g s1 (by rw [r1]; simp) e1 g1).1
  have hargs := hp w I σc (xs.map a.eval) (by simpa using p1) σno (fun j u y q1 q2 => by
    rw [Array.getElem?_map, Option.map_eq_some_iff] at q1
    obtain ⟨x, hx, rfl⟩ := q1
    have hlab : y.labsIn n = true := List.all_eq_true.1 F.labs y (List.mem_of_getElem? q2)
    rcases p2 j x y (by simpa using hx) q2 with ⟨p, v, rfl, hv, hpv⟩ | hv
    · exact .p (rep_pureA (IN.ev hv) hpv)
    · rw [← hσc]
      exact repA_ren (IN.ev hv) y rfl hlab) hH IN.tabs
  unfold Oper.wp
  rw [hrun, Oper.upon_enter]
  refine hargs.mono fun e w' he => ?_
  obtain ⟨v, σ', I', rfl, hh, hrv, hroot, hnew⟩ := he
  -- the caller's labels behind the call
  obtain ⟨σ2, hσ2⟩ : ∃ σ2 : Lab, ∀ l, σ2 l = if l < s.nx then σ l else σ' (n + (l - s.nx)) := ⟨fun l => if l < s.nx then σ l else σ' (n + (l - s.nx)), fun _ => rfl⟩
  have old : ∀ l sl, σ l = some sl → σ2 l = some sl := fun l sl hl => by
    rw [hσ2]
    rcases Nat.lt_or_ge l s.nx with q | q
    · rw [if_pos q]; exact hl
    · rw [hn l q] at hl; cases hl
  have new : ∀ l, (rt.contains l || decide (n ≤ l)) = true → ∀ sl, σ' l = some sl → σ2 (lift2 ρ n s.nx l) = some sl := fun l hl sl hs => by
    unfold lift2
    rcases Nat.lt_or_ge l n with q | q
    · rw [if_pos q]
      have hm : l ∈ rt := by
        rcases Bool.or_eq_true_iff.1 hl with hl | hl
        · exact List.contains_iff_mem.1 hl
        · simp at hl; omega
      rw [hroot l hm, σat l q] at hs
      exact old _ _ hs
    · rw [if_neg (by omega), hσ2, if_neg (by omega), show n + (s.nx + (l - n) - s.nx) = l by omega]
      exact hs
  have blk : ∀ l g sl, s.H l ≠ none → σ l = some sl → sl.block = some g → g < w.heap.size := fun l g sl hn hs hg => by
    obtain ⟨b, hb⟩ := Option.ne_none_iff_exists'.1 hn
    obtain ⟨s', hs', hlt⟩ := (mm.heap.rows l b hb).block
    rw [hs] at hs'; injection hs' with hs'; subst hs'
    exact hlt g hg
  have Xmine : ∀ g, lentX σc (ofH h) g → ¬ I g ∧ (X g ∨ w0.heap.size ≤ g) ∧ g < w.heap.size := fun g hg => by
    obtain ⟨l, b, sl, q1, q2, q3, q4⟩ := Xof g hg
    obtain ⟨m1, m2⟩ := mm.heap.mine _ g sl (by rw [q2]; simp) q3 q4
    exact ⟨m1, m2, blk _ g sl (by rw [q2]; simp) q3 q4⟩
  have same : ∀ b, I b → w'.heap[b]? = w.heap[b]? := fun b hb => hh.fr.block b (mm.heap.imm b hb).1 fun hx => (Xmine b hx).1 hb
  have hI : ∀ g, I g → I' g := hh.sub
  have fresh : ∀ g, I' g → I g ∨ lentX σc (ofH h) g ∨ w.heap.size ≤ g := fun g hg => (hh.imm g hg).2
  have frame : ∀ l b, s.H l = some b → (∀ x ∈ h, ρ x.1 ≠ l) → ∀ g sl, σ l = some sl → sl.block = some g → ¬ lentX σc (ofH h) g := fun l b hl hno g sl hs hg hx => by
    obtain ⟨l2, b2, sl2, q1, q2, q3, q4⟩ := Xof g hx
    exact hno (l2, b2) (ofH_mem q1) (mm.heap.inj _ _ g sl2 sl (by rw [q2]; simp) (by rw [hl]; simp) q3 hs q4 hg)
  -- what stands where
  have cls : ∀ l b, putH (putH s.H (goneU ρ h)) (newU (lift2 ρ n s.nx) h') l = some b → (∃ x ∈ h', lift2 ρ n s.nx x.1 = l ∧ b = x.2.ren (lift2 ρ n s.nx)) ∨ (s.H l = some b ∧ (∀ x ∈ h, ρ x.1 ≠ l)) := fun l b hl => by
    rcases putH_new (lift2 ρ n s.nx) l h' (putH s.H (goneU ρ h)) with ⟨e1, e2⟩ | ⟨x, hx, e1, e2⟩
    · rw [e1] at hl
      rcases putH_gone ρ l h s.H with ⟨e3, e4⟩ | ⟨e3, _⟩
      · rw [e3] at hl; exact .inr ⟨hl, e4⟩
      · rw [e3] at hl; cases hl
    · rw [e2] at hl
      injection hl with hl
      exact .inl ⟨x, hx, e1, hl.symm⟩
  have mem' : ∀ x ∈ h', (rt.contains x.1 || decide (n ≤ x.1)) = true ∧ x.2.labsBy (fun l => rt.contains l || decide (n ≤ l)) = true := fun x hx => by
    have := List.all_eq_true.1 F.mem x hx
    rwa [Bool.and_eq_true] at this
  have inv : ∀ l, (rt.contains l || decide (n ≤ l)) = true → ∀ sl, σ2 (lift2 ρ n s.nx l) = some sl → σ' l = some sl := fun l hl sl hs => by
    unfold lift2 at hs
    rcases Nat.lt_or_ge l n with q | q
    · rw [if_pos q] at hs
      have hm : l ∈ rt := by
        rcases Bool.or_eq_true_iff.1 hl with hl | hl
        · exact List.contains_iff_mem.1 hl
        · simp at hl; omega
      rw [hroot l hm, σat l q]
      have hc := List.contains_iff_mem.1 (List.all_eq_true.1 F.roots l hm)
      obtain ⟨x, hx, hxl⟩ := List.mem_map.1 hc
      obtain ⟨r1, r2, _⟩ := F.here x hx
      have hlt : ρ l < s.nx := by
        rcases Nat.lt_or_ge (ρ l) s.nx with z | z
        · exact z
        · obtain ⟨sl', hsl', _⟩ := (mm.heap.rows _ _ r1).block
          rw [hxl, hn _ z] at hsl'; cases hsl'
      rw [hσ2, if_pos hlt] at hs
      exact hs
    · rw [if_neg (by omega), hσ2, if_neg (by omega), show n + (s.nx + (l - n) - s.nx) = l by omega] at hs
      exact hs
  have OK : HOK σ2 w' I' (putH (putH s.H (goneU ρ h)) (newU (lift2 ρ n s.nx) h')) w0 X I0 := by
    have rowN : ∀ x ∈ h', repB σ' w' I' x.1 x.2 := fun x hx => hh.rows x.1 x.2 (ofH_of_mem F.dist' hx)
    have neN : ∀ x ∈ h', ofH h' x.1 ≠ none := fun x hx => by rw [ofH_of_mem F.dist' hx]; simp
    have slotF : ∀ l b sl, s.H l = some b → σ2 l = some sl → σ l = some sl := fun l b sl hl hs => by
      obtain ⟨sl', hsl', _⟩ := (mm.heap.rows l b hl).block
      rw [old l sl' hsl'] at hs
      rw [hsl']; exact hs
    refine ⟨fun l b hl => ?_, fun l1 l2 g s1 s2 n1 n2 e1 e2 g1 g2 => ?_, fun l g sl n1 e1 g1 => ?_, fun g hg => ?_, fun g hg => hh.sub g (mm.heap.sub g hg), ⟨hh.fr.os.trans mm.heap.fr.os, hh.fr.tape.trans mm.heap.fr.tape, hh.fr.output.trans mm.heap.fr.output, Nat.le_trans mm.heap.fr.size hh.fr.size, fun b hb hx => ?_, mm.heap.fr.step fun b cur et p hb hc => hh.fr.shape b cur et p hc⟩⟩
    · rcases cls l b hl with ⟨x, hx, rfl, rfl⟩ | ⟨hl', hno⟩
      · exact repB_by new (mem' x hx).1 (rowN x hx) (mem' x hx).2
      · obtain ⟨sl, hsl, hlt⟩ := (mm.heap.rows l b hl').block
        refine (mm.heap.rows l b hl').mono old hI same fun g s' q1 q2 => ?_
        rw [hsl] at q1; injection q1 with q1; subst q1
        exact hh.fr.block g (hlt g q2) (frame l b hl' hno g _ hsl q2)
    · obtain ⟨b1, hb1⟩ := Option.ne_none_iff_exists'.1 n1
      obtain ⟨b2, hb2⟩ := Option.ne_none_iff_exists'.1 n2
      rcases cls l1 b1 hb1 with ⟨x, hx, rfl, rfl⟩ | ⟨h1, no1⟩
      · have f1 := inv x.1 (mem' x hx).1 s1 e1
        rcases cls l2 b2 hb2 with ⟨y, hy, rfl, rfl⟩ | ⟨h2, no2⟩
        · have f2 := inv y.1 (mem' y hy).1 s2 e2
          rw [hh.inj x.1 y.1 g s1 s2 (neN x hx) (neN y hy) f1 f2 g1 g2]
        · exfalso
          have f2 := slotF l2 b2 s2 h2 e2
          rcases (hh.mine x.1 g s1 (neN x hx) f1 g1).2 with q | q
          · exact frame l2 b2 h2 no2 g s2 f2 g2 q
          · have := blk l2 g s2 (by rw [h2]; simp) f2 g2; omega
      · have f1 := slotF l1 b1 s1 h1 e1
        rcases cls l2 b2 hb2 with ⟨y, hy, rfl, rfl⟩ | ⟨h2, no2⟩
        · exfalso
          have f2 := inv y.1 (mem' y hy).1 s2 e2
          rcases (hh.mine y.1 g s2 (neN y hy) f2 g2).2 with q | q
          · exact frame l1 b1 h1 no1 g s1 f1 g1 q
          · have := blk l1 g s1 (by rw [h1]; simp) f1 g1; omega
        · exact mm.heap.inj l1 l2 g s1 s2 (by rw [h1]; simp) (by rw [h2]; simp) f1 (slotF l2 b2 s2 h2 e2) g1 g2
    · obtain ⟨b1, hb1⟩ := Option.ne_none_iff_exists'.1 n1
      rcases cls l b1 hb1 with ⟨x, hx, rfl, rfl⟩ | ⟨h1, no1⟩
      · have f1 := inv x.1 (mem' x hx).1 sl e1
        obtain ⟨m1, m2⟩ := hh.mine x.1 g sl (neN x hx) f1 g1
        refine ⟨m1, ?_⟩
        rcases m2 with q | q
        · exact (Xmine g q).2.1
        · exact .inr (Nat.le_trans mm.heap.fr.size q)
      · have f1 := slotF l b1 sl h1 e1
        obtain ⟨m1, m2⟩ := mm.heap.mine l g sl (by rw [h1]; simp) f1 g1
        refine ⟨fun hg => ?_, m2⟩
        rcases fresh g hg with q | q | q
        · exact m1 q
        · exact frame l b1 h1 no1 g sl f1 g1 q
        · have := blk l g sl (by rw [h1]; simp) f1 g1; omega
    · refine ⟨(hh.imm g hg).1, ?_⟩
      rcases fresh g hg with q | q | q
      · exact (mm.heap.imm g q).2
      · exact .inr (Xmine g q).2.1
      · exact .inr (.inr (Nat.le_trans mm.heap.fr.size q))
    · rw [hh.fr.block b (by have := mm.heap.fr.size; omega) fun hx' => ?_]
      · exact mm.heap.fr.block b hb hx
      · rcases (Xmine b hx').2.1 with q | q
        · exact hx q
        · omega
  refine hnext ⟨putT s.T o.dst (some (r.ren (lift2 ρ n s.nx))), _, s.nx + m⟩ _ w' ⟨σ2, I', fun l hl => ?_, mm.put hd OK old hI same fun y hy => by injection hy with hy; subst hy; exact repA_by new hrv F.res⟩ hk
  simp only at hl
  rw [hσ2, if_neg (by omega)]
  exact hnew _ (by omega)
theorem SeqR.callV {nt : Fm} {s : St} {ops : Array Oper} {i : Nat} {K : St → Prop} {d : Tmp} {c : Operand} {f : FuncId} {xs : Array Operand} {ts : Array TypeId} {ty : TypeId} {ps : String} {af : Array Edge} {args : List AV} {h : List (Nat × Blk)} {n : Nat} {rt : List Nat} {r : AV} {h' : List (Nat × Blk)} {m : Nat} (ρ : Nat → Nat)
    (ho : ops[i]? = some ⟨some d, .call { callee := .value c, args := xs, argTypes := ts }, ty, ps, af, none⟩) (hcf : fnOf (Go.Aw.ev s.T c) = some f) (hd : dstOK nt ⟨some d, .call { callee := .value c, args := xs, argTypes := ts }, ty, ps, af, none⟩ = true) (D : DFn P f args h n rt r h' m) (F : FitD s xs.toList args h n rt r h' ρ)
    (hk : SeqR P nt ops (i + 1) ⟨upd s.T d (some (r.ren (lift2 ρ n s.nx))), putH (putH s.H (goneU ρ h)) (newU (lift2 ρ n s.nx) h'), s.nx + m⟩ K) : SeqR P nt ops i s K :=
  SeqR.op ho rfl (callD_val ρ rfl hcf hd D F hk)
end Go.Aw
