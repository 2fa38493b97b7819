/- Calls that are lent deep memory, or hand it out: the contract's proof, and its use. -/
import Derived.Test.YtmeplhcfjihafaaAwD1
namespace Go.Aw
open Go.RowKit
variable {P : Program}
theorem DFn.of {f : FuncId} {fn : Func} {c : Code} {args : List AV} {h : List (Nat × Blk)} {n : Nat} {rt : List Nat} {r : AV} {h' : List (Nat × Blk)} {m : Nat} (pins : List Nat) (hf : P.funcs[f]? = some fn) (hb : fn.body = some c) (hn : fn.name ≠ "runtime.NumGoroutine") {nt : Nat} (hnt : fn.ntmps = nt) {rs : Array ResultVar} (hrs : fn.results = rs) (hnt' : args.length ≤ nt)
    (hpins : ∀ i ∈ pins, i < args.length) (hw : ∀ val : Nat → Value, AW P ⟨nt, pins, val⟩ c ⟨avT args 0, ofH h, n⟩ (EndD P rs args h n rt r h' m pins)) : DFn P f args h n rt r h' m := by
  subst hnt hrs
  refine ⟨by simp [enters, hf, hb, hn], fun w I σ vals hs hσ hr hH ht => ?_⟩
  have tx : TabX w (lentX σ (ofH h)) I := ⟨ht, fun g hg => (hH.imm g hg).1, fun g ⟨l, s, q1, q2, q3⟩ => (hH.mine l g s q1 q2 q3).1⟩
  refine calls_of_wp hf hb ?_
  have at_ : ∀ i, i < vals.size → (vals ++ Array.replicate (fn.ntmps - vals.size) undef)[i]? = vals[i]? := fun i hi => by rw [Array.getElem?_append_left hi]
  have mt : Matches ⟨fn.ntmps, pins, fun i => vals.getD i undef⟩ w (lentX σ (ofH h)) I ⟨avT args 0, ofH h, n⟩ { tmps := vals ++ Array.replicate (fn.ntmps - vals.size) undef, defers := [] } w := by
    refine ⟨σ, I, hσ, rfl, (by simp; omega), fun i hi => ?_, hH, fun i x hx => ?_⟩
    · have hlt := hpins i hi
      rw [← hs] at hlt
      simp only
      rw [at_ i hlt, Array.getD_eq_getD_getElem?, Array.getElem?_eq_getElem hlt]
      rfl
    · simp only at hx
      rw [avT_at, if_neg (by omega), Nat.sub_zero] at hx
      have hi : i < vals.size := by rw [hs]; exact (List.getElem?_eq_some_iff.1 hx).1
      exact ⟨vals[i], by rw [at_ i hi, Array.getElem?_eq_getElem hi], hr i _ x (Array.getElem?_eq_getElem hi) hx⟩
  refine wp_mono (hw _ w _ I _ w tx mt) ?_
  rintro e a' w' ⟨s', ⟨σ', I', hn', m'⟩, q⟩
  have fin : EndD P fn.results args h n rt r h' m pins .ret s' → a'.defers = [] ∧ ∃ v, (results fn a'.tmps).run P w' = .ok v w' ∧
      ∃ v' σ'' I'', Ending.returned v = .returned v' ∧ HOK σ'' w' I'' (ofH h') w (lentX σ (ofH h)) I ∧ repA σ'' w' I'' v' r ∧ (∀ l ∈ rt, σ'' l = σ l) ∧ (∀ l, n + m ≤ l → σ'' l = none) := by
    rintro ⟨ρ, l, q1, q2, q3, q4, q5, q6⟩
    obtain ⟨vs, h1, h2, h3⟩ := resD_run (P := P) tx m' (hn' _ (Nat.le_refl _)) (resF a'.tmps) (fun t => rfl) (fun t ty => rfl) fn.results.toList l q1
    have hrun : (results fn a'.tmps).run P w' = .ok (if h : vs.length = 1 then vs[0] else .tuple vs.toArray) w' := by
      rw [results_eq, show fn.results = fn.results.toList.toArray by simp, List.mapM_toArray]
      simp only [Sem.run_bind, Sem.run_map, h1, Result.andThen_ok, Sem.run_pure, List.size_toArray, List.getElem_toArray]
    have hat : ∀ l b, ofH h' l = some b → s'.H (ρ l) = some (b.ren ρ) ∧ l < n + m ∧ b.labsIn (n + m) = true := fun l b hl => q4 (l, b) (ofH_mem hl)
    have hv : repA σ' w' I' (if h : vs.length = 1 then vs[0] else .tuple vs.toArray) (oneOrA l) := by
      by_cases h4 : vs.length = 1
      · rw [dif_pos h4]
        obtain ⟨p, rfl⟩ : ∃ p, l = [p] := List.length_eq_one_iff.1 (by omega)
        exact h3 0 _ p (List.getElem?_eq_getElem (by omega)) rfl
      · rw [dif_neg h4]
        have : oneOrA l = .tuple l := by
          unfold oneOrA
          split
          · exact absurd h2 h4
          · rfl
        rw [this]
        exact .tuple (by simpa using h2) (fun j u p q1 q2 => h3 j u p (by simpa using q1) q2)
    refine ⟨m'.defers, _, hrun, _, relab ρ (n + m) σ', I', rfl, ⟨fun l b hl => ?_, fun l l' g s1 s2 n1 n2 e1 e2 g1 g2 => ?_, fun l g s1 n1 e1 g1 => ?_, m'.heap.imm, m'.heap.sub, m'.heap.fr⟩, repA_ren hv r q2 q3, fun l hl => ?_, fun l hl => ?_⟩
    · obtain ⟨p1, p2, p3⟩ := hat l b hl
      exact repB_ren p2 (m'.heap.rows _ _ p1) p3
    · obtain ⟨b1, hb1⟩ := Option.ne_none_iff_exists'.1 n1
      obtain ⟨b2, hb2⟩ := Option.ne_none_iff_exists'.1 n2
      obtain ⟨p1, p2, p3⟩ := hat l b1 hb1
      obtain ⟨p1', p2', p3'⟩ := hat l' b2 hb2
      unfold relab at e1 e2
      rw [if_pos p2] at e1
      rw [if_pos p2'] at e2
      have := m'.heap.inj (ρ l) (ρ l') g s1 s2 (by rw [p1]; simp) (by rw [p1']; simp) e1 e2 g1 g2
      exact q5 (l, b1) (ofH_mem hb1) (l', b2) (ofH_mem hb2) this
    · obtain ⟨b1, hb1⟩ := Option.ne_none_iff_exists'.1 n1
      obtain ⟨p1, p2, p3⟩ := hat l b1 hb1
      unfold relab at e1
      rw [if_pos p2] at e1
      exact m'.heap.mine (ρ l) g s1 (by rw [p1]; simp) e1 g1
    · obtain ⟨hln, hroot⟩ := q6 l hl
      unfold relab
      rw [if_pos (by omega)]
      have pin : ∀ j, j ∈ pins → ∀ x, s'.T j = some x → ∃ u, vals[j]? = some u ∧ repA σ' w' I' u x := fun j hj x hx => by
        have hp := m'.pins j hj
        obtain ⟨u, hu, hru⟩ := m'.tmps j x hx
        rw [hp] at hu
        have hlt : j < vals.size := by rw [hs]; exact hpins j hj
        simp only [Option.some.injEq] at hu
        rw [Array.getD_eq_getD_getElem?, Array.getElem?_eq_getElem hlt] at hu
        simp only [Option.getD_some] at hu
        subst hu
        exact ⟨_, Array.getElem?_eq_getElem hlt, hru⟩
      rcases hroot with ⟨j, i, off, sz, es, es', r1, r2, r3, r4, r5, r6, r7⟩ | ⟨j, es, r1, r2, r3, r4⟩ | ⟨j, k, cs, cs', sz, es, es', r1, r2, r3, r4, r5, r6, r7, r8, r9⟩
      · obtain ⟨u, hu, hru⟩ := pin j r1 _ r3
        obtain ⟨p1, p2, p3⟩ := hat l _ r5
        have hu0 := hr j u _ hu r2
        have b0 := hH.rows l _ r4
        have b1 := m'.heap.rows _ _ p1
        exact slot_kept hu0 hru b0 b1 (by rw [List.length_map]; exact r6) r7 m'.heap.fr.shape
      · obtain ⟨u, hu, hru⟩ := pin j r1 _ r3
        have hu0 := hr j u _ hu r2
        cases hu0 with
        | map s0 =>
          cases hru with
          | map s1 => rw [s0, s1]
      · obtain ⟨u, hu, hru⟩ := pin j r1 _ r4
        obtain ⟨p1, p2, p3⟩ := hat l _ r7
        have hu0 := hr j u _ hu r2
        have b0 := hH.rows l _ r6
        have b1 := m'.heap.rows _ _ p1
        obtain ⟨vs, rfl, z1, z2⟩ := aggA hu0
        obtain ⟨vs', e', z3, z4⟩ := aggA hru
        injection e' with e'
        subst e'
        have hk : k < vs.size := by rw [z1]; exact (List.getElem?_eq_some_iff.1 r3).1
        have y0 := z2 k _ _ (Array.getElem?_eq_getElem hk) r3
        have y1 := z4 k _ _ (Array.getElem?_eq_getElem hk) r5
        exact own_kept y0 y1 b0 b1 r8 (by simpa using r9)
    · unfold relab
      rw [if_neg (by omega)]
  cases e with
  | normal => exact fin q
  | ret => exact fin q
  | exit _ => exact q.elim
  | goto _ => exact q.elim
  | panic _ => exact q.elim
  | outgrown => exact q.elim
/-- The operands of a call stand for its arguments, by these labels. -/
def argD (T : Nat → Option AV) (ρ : Nat → Nat) : List Operand → List AV → Prop
  | [], [] => True
  | x :: xs, .p p :: ys => (match ev T x with | some v => pureA v = some p | none => False) ∧ argD T ρ xs ys
  | x :: xs, y :: ys => ev T x = some (y.ren ρ) ∧ argD T ρ xs ys
  | _, _ => False
theorem argD_spec {T : Nat → Option AV} {ρ : Nat → Nat} : ∀ {xs : List Operand} {ys : List AV}, argD T ρ xs ys → xs.length = ys.length ∧ ∀ (j : Nat) x y, xs[j]? = some x → ys[j]? = some y → (∃ p v, y = .p p ∧ ev T x = some v ∧ pureA v = some p) ∨ ev T x = some (y.ren ρ) := by
  intro xs
  induction xs with
  | nil =>
    intro ys h
    cases ys with
    | nil => exact ⟨rfl, fun j x y h => by simp at h⟩
    | cons y ys => simp [argD] at h
  | cons x xs ih =>
    intro ys h
    cases ys with
    | nil => simp [argD] at h
    | cons y ys =>
      have main : argD T ρ xs ys → ((∃ p v, y = .p p ∧ ev T x = some v ∧ pureA v = some p) ∨ ev T x = some (y.ren ρ)) → (x :: xs).length = (y :: ys).length ∧ ∀ (j : Nat) x' y', (x :: xs)[j]? = some x' → (y :: ys)[j]? = some y' → (∃ p v, y' = .p p ∧ ev T x' = some v ∧ pureA v = some p) ∨ ev T x' = some (y'.ren ρ) := by
        intro h1 h2
        obtain ⟨q1, q2⟩ := ih h1
        refine ⟨by simp [q1], fun j x' y' e1 e2 => ?_⟩
        cases j with
        | zero => simp at e1 e2; subst e1 e2; exact h2
        | succ j => exact q2 j x' y' (by simpa using e1) (by simpa using e2)
      cases y with
      | p p =>
        simp only [argD] at h
        obtain ⟨h1, h2⟩ := h
        split at h1
        · rename_i v hv
          exact main h2 (.inl ⟨p, v, rfl, hv, h1⟩)
        · exact h1.elim
      | _ => exact main h.2 (.inr h.1)
def lift2 (ρ : Nat → Nat) (n nx : Nat) (l : Nat) : Nat := if l < n then ρ l else nx + (l - n)
def goneU (ρ : Nat → Nat) (h : List (Nat × Blk)) : List (Nat × Option Blk) := h.map fun x => (ρ x.1, none)
def newU (ρ : Nat → Nat) (h : List (Nat × Blk)) : List (Nat × Option Blk) := h.map fun x => (ρ x.1, some (x.2.ren ρ))
theorem putH_gone (ρ : Nat → Nat) (l : Nat) : ∀ (h : List (Nat × Blk)) (H : Nat → Option Blk), (putH H (goneU ρ h) l = H l ∧ ∀ x ∈ h, ρ x.1 ≠ l) ∨ (putH H (goneU ρ h) l = none ∧ ∃ x ∈ h, ρ x.1 = l)
  | [], H => .inl ⟨rfl, fun x hx => by cases hx⟩
  | x :: h, H => by
    have e : putH H (goneU ρ (x :: h)) = putH (upd H (ρ x.1) none) (goneU ρ h) := rfl
    rw [e]
    rcases putH_gone ρ l h (upd H (ρ x.1) none) with ⟨h1, h2⟩ | ⟨h1, y, hy, h2⟩
    · by_cases hl : ρ x.1 = l
      · right
        refine ⟨?_, x, List.mem_cons_self, hl⟩
        rw [h1, hl, upd_same]
      · left
        refine ⟨by rw [h1, upd_ne _ _ (fun h => hl h.symm)], fun y hy => ?_⟩
        rcases List.mem_cons.1 hy with rfl | hy
        · exact hl
        · exact h2 y hy
    · exact .inr ⟨h1, y, List.mem_cons_of_mem _ hy, h2⟩
theorem putH_new (ρ : Nat → Nat) (l : Nat) : ∀ (h : List (Nat × Blk)) (H : Nat → Option Blk), (putH H (newU ρ h) l = H l ∧ ∀ x ∈ h, ρ x.1 ≠ l) ∨ (∃ x ∈ h, ρ x.1 = l ∧ putH H (newU ρ h) l = some (x.2.ren ρ))
  | [], H => .inl ⟨rfl, fun x hx => by cases hx⟩
  | x :: h, H => by
    have e : putH H (newU ρ (x :: h)) = putH (upd H (ρ x.1) (some (x.2.ren ρ))) (newU ρ h) := rfl
    rw [e]
    rcases putH_new ρ l h (upd H (ρ x.1) (some (x.2.ren ρ))) with ⟨h1, h2⟩ | ⟨y, hy, h1, h2⟩
    · by_cases hl : ρ x.1 = l
      · right
        refine ⟨x, List.mem_cons_self, hl, ?_⟩
        rw [h1, ← hl, upd_same]
      · left
        refine ⟨by rw [h1, upd_ne _ _ (fun h => hl h.symm)], fun y hy => ?_⟩
        rcases List.mem_cons.1 hy with rfl | hy
        · exact hl
        · exact h2 y hy
    · exact .inr ⟨y, List.mem_cons_of_mem _ hy, h1, h2⟩
def distinct : List Nat → Bool
  | [] => true
  | x :: l => !l.contains x && distinct l
theorem ofH_of_mem : ∀ {h : List (Nat × Blk)} {x : Nat × Blk}, distinct (h.map (·.1)) = true → x ∈ h → ofH h x.1 = some x.2
  | [], _, _, h => by cases h
  | y :: h, x, hd, hx => by
    simp only [List.map_cons, distinct, Bool.and_eq_true, Bool.not_eq_true'] at hd
    obtain ⟨a, b⟩ := y
    rcases List.mem_cons.1 hx with rfl | hx'
    · simp [ofH]
    · have : x.1 ≠ a := by
        intro e
        have : (h.map (·.1)).contains a = true := by
          rw [List.contains_iff_mem]
          exact List.mem_map.2 ⟨x, hx', e⟩
        rw [this] at hd
        cases hd.1
      simp only [ofH, if_neg this]
      exact ofH_of_mem hd.2 hx'
/-- All that a call asks which is lent memory, or hands it out. -/
structure FitD (s : St) (xs : List Operand) (args : List AV) (h : List (Nat × Blk)) (n : Nat) (rt : List Nat) (r : AV) (h' : List (Nat × Blk)) (ρ : Nat → Nat) : Prop where
  opd : argD s.T ρ xs args
  labs : args.all (fun y => y.labsIn n) = true
  here : ∀ x ∈ h, s.H (ρ x.1) = some (x.2.ren ρ) ∧ x.1 < n ∧ x.2.labsIn n = true
  inj : distinct (h.map fun x => ρ x.1) = true
  dist : distinct (h.map (·.1)) = true
  dist' : distinct (h'.map (·.1)) = true
  roots : rt.all (fun l => (h.map (·.1)).contains l) = true
  res : r.labsBy (fun l => rt.contains l || decide (n ≤ l)) = true
  mem : h'.all (fun x => (rt.contains x.1 || decide (n ≤ x.1)) && x.2.labsBy (fun l => rt.contains l || decide (n ≤ l))) = true
theorem distinct_inj {ρ : Nat → Nat} : ∀ {h : List (Nat × Blk)}, distinct (h.map fun x => ρ x.1) = true → ∀ x ∈ h, ∀ y ∈ h, ρ x.1 = ρ y.1 → x = y
  | [], _, x, hx, _, _, _ => by cases hx
  | z :: h, hd, x, hx, y, hy, e => by
    simp only [List.map_cons, distinct, Bool.and_eq_true, Bool.not_eq_true'] at hd
    have no : ∀ v ∈ h, ρ v.1 ≠ ρ z.1 := fun v hv e => by
      have : (h.map fun x => ρ x.1).contains (ρ z.1) = true := by
        rw [List.contains_iff_mem]
        exact List.mem_map.2 ⟨v, hv, e⟩
      rw [this] at hd
      cases hd.1
    rcases List.mem_cons.1 hx with hx' | hx'
    · rcases List.mem_cons.1 hy with hy' | hy'
      · rw [hx', hy']
      · rw [hx'] at e
        exact absurd e.symm (no y hy')
    · rcases List.mem_cons.1 hy with hy' | hy'
      · rw [hy'] at e
        exact absurd e (no x hx')
      · exact distinct_inj hd.2 x hx' y hy' e
/-- The caller's memory behind a call that was lent some of it, or that handed some out. -/
theorem callD_fn {nt : Fm} {s : St} {K : St → Prop} {o : Oper} {f : FuncId} {xs : Array Operand} {ts : Array TypeId} {args : List AV} {h : List (Nat × Blk)} {n : Nat} {rt : List Nat} {r : AV} {h' : List (Nat × Blk)} {m : Nat} (ρ : Nat → Nat)
    (ho : o.op = .call { callee := .value (.func f), args := xs, argTypes := ts }) (hd : dstOK nt o = true) (D : DFn P f args h n rt r h' m) (F : FitD s xs.toList args h n rt r h' ρ)
    (hk : K ⟨putT s.T o.dst (some (r.ren (lift2 ρ n s.nx))), putH (putH s.H (goneU ρ h)) (newU (lift2 ρ n s.nx) h'), s.nx + m⟩) : CallD P nt o s K := by
  obtain ⟨hen, hp⟩ := D
  intro w0 X I0 a w next Q tx ⟨σ, I, hn, mm⟩ hnext
  have IN : In σ w I s.T s.H w0 X I0 a s.nx := ⟨mm.heap, mm.tmps, hn _ (Nat.le_refl _), tx⟩
  have hrun : (execOp a.eval o).run P w = .ok (.enter f (xs.map a.eval)) w := by
    have he : a.eval (.func f) = .func (.func f) #[] #[] := rfl
    simp only [execOp, ho, resolve, he, Deferred.ofValue, Sem.run_bind, Sem.run_pure, Result.andThen_ok, invoke, Array.append_empty, Array.empty_append, run_enter hen]
  obtain ⟨p1, p2⟩ := argD_spec F.opd
  have here : ∀ l b, ofH h l = some b → s.H (ρ l) = some (b.ren ρ) ∧ l < n ∧ b.labsIn n = true := fun l b hl => F.here (l, b) (ofH_mem hl)
  have inj : ∀ l l' b b', ofH h l = some b → ofH h l' = some b' → ρ l = ρ l' → l = l' := fun l l' b b' h1 h2 e => by
    have := distinct_inj F.inj (l, b) (ofH_mem h1) (l', b') (ofH_mem h2) e
    injection this
  generalize hσc : relab ρ n σ = σc
  have σat : ∀ l, l < n → σc l = σ (ρ l) := fun l hl => by rw [← hσc]; unfold relab; rw [if_pos hl]
  have σno : ∀ l, n ≤ l → σc l = none := fun l hl => by rw [← hσc]; unfold relab; rw [if_neg (by omega)]
  have Xof : ∀ g, lentX σc (ofH h) g → ∃ l b sl, ofH h l = some b ∧ s.H (ρ l) = some (b.ren ρ) ∧ σ (ρ l) = some sl ∧ sl.block = some g := fun g ⟨l, sl, q1, q2, q3⟩ => by
    obtain ⟨b, hb⟩ := Option.ne_none_iff_exists'.1 q1
    obtain ⟨r1, r2, _⟩ := here l b hb
    exact ⟨l, b, sl, hb, r1, by rw [← σat l r2]; exact q2, q3⟩
  have hH : HOK σc w I (ofH h) w (lentX σc (ofH h)) I := by
    refine ⟨fun l b hl => ?_, fun l l' g s1 s2 n1 n2 e1 e2 g1 g2 => ?_, fun l g s1 n1 e1 g1 => ?_, fun g hg => ⟨(mm.heap.imm g hg).1, .inl hg⟩, fun _ h => h, Fr.refl _ _⟩
    · obtain ⟨r1, r2, r3⟩ := here l b hl
      rw [← hσc]
      exact repB_ren r2 (mm.heap.rows _ _ r1) r3
    · obtain ⟨b1, hb1⟩ := Option.ne_none_iff_exists'.1 n1
      obtain ⟨b2, hb2⟩ := Option.ne_none_iff_exists'.1 n2
      obtain ⟨r1, r2, _⟩ := here l b1 hb1
      obtain ⟨r1', r2', _⟩ := here l' b2 hb2
      rw [σat l r2] at e1
      rw [σat l' r2'] at e2
      exact inj l l' b1 b2 hb1 hb2 (mm.heap.inj _ _ g s1 s2 (by rw [r1]; simp) (by rw [r1']; simp) e1 e2 g1 g2)
    · obtain ⟨b1, hb1⟩ := Option.ne_none_iff_exists'.1 n1
      obtain ⟨r1, r2, _⟩ := here l b1 hb1
      refine ⟨?_, .inl ⟨l, s1, n1, e1, g1⟩⟩
      rw [σat l r2] at e1
      exact (mm.heap.mine _ g s1 (by rw [r1]; simp) e1 g1).1
  have hargs := hp w I σc (xs.map a.eval) (by simpa using p1) σno (fun j u y q1 q2 => by
    rw [Array.getElem?_map, Option.map_eq_some_iff] at q1
    obtain ⟨x, hx, rfl⟩ := q1
    have hlab : y.labsIn n = true := List.all_eq_true.1 F.labs y (List.mem_of_getElem? q2)
    rcases p2 j x y (by simpa using hx) q2 with ⟨p, v, rfl, hv, hpv⟩ | hv
    · exact .p (rep_pureA (IN.ev hv) hpv)
    · rw [← hσc]
      exact repA_ren (IN.ev hv) y rfl hlab) hH IN.tabs
  unfold Oper.wp
  rw [hrun, Oper.upon_enter]
  refine hargs.mono fun e w' he => ?_
  obtain ⟨v, σ', I', rfl, hh, hrv, hroot, hnew⟩ := he
  -- the caller's labels behind the call
  obtain ⟨σ2, hσ2⟩ : ∃ σ2 : Lab, ∀ l, σ2 l = if l < s.nx then σ l else σ' (n + (l - s.nx)) := ⟨fun l => if l < s.nx then σ l else σ' (n + (l - s.nx)), fun _ => rfl⟩
  have old : ∀ l sl, σ l = some sl → σ2 l = some sl := fun l sl hl => by
    rw [hσ2]
    rcases Nat.lt_or_ge l s.nx with q | q
    · rw [if_pos q]; exact hl
    · rw [hn l q] at hl; cases hl
  have new : ∀ l, (rt.contains l || decide (n ≤ l)) = true → ∀ sl, σ' l = some sl → σ2 (lift2 ρ n s.nx l) = some sl := fun l hl sl hs => by
    unfold lift2
    rcases Nat.lt_or_ge l n with q | q
    · rw [if_pos q]
      have hm : l ∈ rt := by
        rcases Bool.or_eq_true_iff.1 hl with hl | hl
        · exact List.contains_iff_mem.1 hl
        · simp at hl; omega
      rw [hroot l hm, σat l q] at hs
      exact old _ _ hs
    · rw [if_neg (by omega), hσ2, if_neg (by omega), show n + (s.nx + (l - n) - s.nx) = l by omega]
      exact hs
  have blk : ∀ l g sl, s.H l ≠ none → σ l = some sl → sl.block = some g → g < w.heap.size := fun l g sl hn hs hg => by
    obtain ⟨b, hb⟩ := Option.ne_none_iff_exists'.1 hn
    obtain ⟨s', hs', hlt⟩ := (mm.heap.rows l b hb).block
    rw [hs] at hs'; injection hs' with hs'; subst hs'
    exact hlt g hg
  have Xmine : ∀ g, lentX σc (ofH h) g → ¬ I g ∧ (X g ∨ w0.heap.size ≤ g) ∧ g < w.heap.size := fun g hg => by
    obtain ⟨l, b, sl, q1, q2, q3, q4⟩ := Xof g hg
    obtain ⟨m1, m2⟩ := mm.heap.mine _ g sl (by rw [q2]; simp) q3 q4
    exact ⟨m1, m2, blk _ g sl (by rw [q2]; simp) q3 q4⟩
  have same : ∀ b, I b → w'.heap[b]? = w.heap[b]? := fun b hb => hh.fr.block b (mm.heap.imm b hb).1 fun hx => (Xmine b hx).1 hb
  have hI : ∀ g, I g → I' g := hh.sub
  have fresh : ∀ g, I' g → I g ∨ lentX σc (ofH h) g ∨ w.heap.size ≤ g := fun g hg => (hh.imm g hg).2
  have frame : ∀ l b, s.H l = some b → (∀ x ∈ h, ρ x.1 ≠ l) → ∀ g sl, σ l = some sl → sl.block = some g → ¬ lentX σc (ofH h) g := fun l b hl hno g sl hs hg hx => by
    obtain ⟨l2, b2, sl2, q1, q2, q3, q4⟩ := Xof g hx
    exact hno (l2, b2) (ofH_mem q1) (mm.heap.inj _ _ g sl2 sl (by rw [q2]; simp) (by rw [hl]; simp) q3 hs q4 hg)
  -- what stands where
  have cls : ∀ l b, putH (putH s.H (goneU ρ h)) (newU (lift2 ρ n s.nx) h') l = some b → (∃ x ∈ h', lift2 ρ n s.nx x.1 = l ∧ b = x.2.ren (lift2 ρ n s.nx)) ∨ (s.H l = some b ∧ (∀ x ∈ h, ρ x.1 ≠ l)) := fun l b hl => by
    rcases putH_new (lift2 ρ n s.nx) l h' (putH s.H (goneU ρ h)) with ⟨e1, e2⟩ | ⟨x, hx, e1, e2⟩
    · rw [e1] at hl
      rcases putH_gone ρ l h s.H with ⟨e3, e4⟩ | ⟨e3, _⟩
      · rw [e3] at hl; exact .inr ⟨hl, e4⟩
      · rw [e3] at hl; cases hl
    · rw [e2] at hl
      injection hl with hl
      exact .inl ⟨x, hx, e1, hl.symm⟩
  have mem' : ∀ x ∈ h', (rt.contains x.1 || decide (n ≤ x.1)) = true ∧ x.2.labsBy (fun l => rt.contains l || decide (n ≤ l)) = true := fun x hx => by
    have := List.all_eq_true.1 F.mem x hx
    rwa [Bool.and_eq_true] at this
  have inv : ∀ l, (rt.contains l || decide (n ≤ l)) = true → ∀ sl, σ2 (lift2 ρ n s.nx l) = some sl → σ' l = some sl := fun l hl sl hs => by
    unfold lift2 at hs
    rcases Nat.lt_or_ge l n with q | q
    · rw [if_pos q] at hs
      have hm : l ∈ rt := by
        rcases Bool.or_eq_true_iff.1 hl with hl | hl
        · exact List.contains_iff_mem.1 hl
        · simp at hl; omega
      rw [hroot l hm, σat l q]
      have hc := List.contains_iff_mem.1 (List.all_eq_true.1 F.roots l hm)
      obtain ⟨x, hx, hxl⟩ := List.mem_map.1 hc
      obtain ⟨r1, r2, _⟩ := F.here x hx
      have hlt : ρ l < s.nx := by
        rcases Nat.lt_or_ge (ρ l) s.nx with z | z
        · exact z
        · obtain ⟨sl', hsl', _⟩ := (mm.heap.rows _ _ r1).block
          rw [hxl, hn _ z] at hsl'; cases hsl'
      rw [hσ2, if_pos hlt] at hs
      exact hs
    · rw [if_neg (by omega), hσ2, if_neg (by omega), show n + (s.nx + (l - n) - s.nx) = l by omega] at hs
      exact hs
  have OK : HOK σ2 w' I' (putH (putH s.H (goneU ρ h)) (newU (lift2 ρ n s.nx) h')) w0 X I0 := by
    have rowN : ∀ x ∈ h', repB σ' w' I' x.1 x.2 := fun x hx => hh.rows x.1 x.2 (ofH_of_mem F.dist' hx)
    have neN : ∀ x ∈ h', ofH h' x.1 ≠ none := fun x hx => by rw [ofH_of_mem F.dist' hx]; simp
    have slotF : ∀ l b sl, s.H l = some b → σ2 l = some sl → σ l = some sl := fun l b sl hl hs => by
      obtain ⟨sl', hsl', _⟩ := (mm.heap.rows l b hl).block
      rw [old l sl' hsl'] at hs
      rw [hsl']; exact hs
    refine ⟨fun l b hl => ?_, fun l1 l2 g s1 s2 n1 n2 e1 e2 g1 g2 => ?_, fun l g sl n1 e1 g1 => ?_, fun g hg => ?_, fun g hg => hh.sub g (mm.heap.sub g hg), ⟨hh.fr.os.trans mm.heap.fr.os, hh.fr.tape.trans mm.heap.fr.tape, hh.fr.output.trans mm.heap.fr.output, Nat.le_trans mm.heap.fr.size hh.fr.size, fun b hb hx => ?_, mm.heap.fr.step fun b cur et p hb hc => hh.fr.shape b cur et p hc⟩⟩
    · rcases cls l b hl with ⟨x, hx, rfl, rfl⟩ | ⟨hl', hno⟩
      · exact repB_by new (mem' x hx).1 (rowN x hx) (mem' x hx).2
      · obtain ⟨sl, hsl, hlt⟩ := (mm.heap.rows l b hl').block
        refine (mm.heap.rows l b hl').mono old hI same fun g s' q1 q2 => ?_
        rw [hsl] at q1; injection q1 with q1; subst q1
        exact hh.fr.block g (hlt g q2) (frame l b hl' hno g _ hsl q2)
    · obtain ⟨b1, hb1⟩ := Option.ne_none_iff_exists'.1 n1
      obtain ⟨b2, hb2⟩ := Option.ne_none_iff_exists'.1 n2
      rcases cls l1 b1 hb1 with ⟨x, hx, rfl, rfl⟩ | ⟨h1, no1⟩
      · have f1 := inv x.1 (mem' x hx).1 s1 e1
        rcases cls l2 b2 hb2 with ⟨y, hy, rfl, rfl⟩ | ⟨h2, no2⟩
        · have f2 := inv y.1 (mem' y hy).1 s2 e2
          rw [hh.inj x.1 y.1 g s1 s2 (neN x hx) (neN y hy) f1 f2 g1 g2]
        · exfalso
          have f2 := slotF l2 b2 s2 h2 e2
          rcases (hh.mine x.1 g s1 (neN x hx) f1 g1).2 with q | q
          · exact frame l2 b2 h2 no2 g s2 f2 g2 q
          · have := blk l2 g s2 (by rw [h2]; simp) f2 g2; omega
      · have f1 := slotF l1 b1 s1 h1 e1
        rcases cls l2 b2 hb2 with ⟨y, hy, rfl, rfl⟩ | ⟨h2, no2⟩
        · exfalso
          have f2 := inv y.1 (mem' y hy).1 s2 e2
          rcases (hh.mine y.1 g s2 (neN y hy) f2 g2).2 with q | q
          · exact frame l1 b1 h1 no1 g s1 f1 g1 q
          · have := blk l1 g s1 (by rw [h1]; simp) f1 g1; omega
        · exact mm.heap.inj l1 l2 g s1 s2 (by rw [h1]; simp) (by rw [h2]; simp) f1 (slotF l2 b2 s2 h2 e2) g1 g2
    · obtain ⟨b1, hb1⟩ := Option.ne_none_iff_exists'.1 n1
      rcases cls l b1 hb1 with ⟨x, hx, rfl, rfl⟩ | ⟨h1, no1⟩
      · have f1 := inv x.1 (mem' x hx).1 sl e1
        obtain ⟨m1, m2⟩ := hh.mine x.1 g sl (neN x hx) f1 g1
        refine ⟨m1, ?_⟩
        rcases m2 with q | q
        · exact (Xmine g q).2.1
        · exact .inr (Nat.le_trans mm.heap.fr.size q)
      · have f1 := slotF l b1 sl h1 e1
        obtain ⟨m1, m2⟩ := mm.heap.mine l g sl (by rw [h1]; simp) f1 g1
        refine ⟨fun hg => ?_, m2⟩
        rcases fresh g hg with q | q | q
        · exact m1 q
        · exact frame l b1 h1 no1 g sl f1 g1 q
        · have := blk l g sl (by rw [h1]; simp) f1 g1; omega
    · refine ⟨(hh.imm g hg).1, ?_⟩
      rcases fresh g hg with q | q | q
      · exact (mm.heap.imm g q).2
      · exact .inr (Xmine g q).2.1
      · exact .inr (.inr (Nat.le_trans mm.heap.fr.size q))
    · rw [hh.fr.block b (by have := mm.heap.fr.size; omega) fun hx' => ?_]
      · exact mm.heap.fr.block b hb hx
      · rcases (Xmine b hx').2.1 with q | q
        · exact hx q
        · omega
  refine hnext ⟨putT s.T o.dst (some (r.ren (lift2 ρ n s.nx))), _, s.nx + m⟩ _ w' ⟨σ2, I', fun l hl => ?_, mm.put hd OK old hI same fun y hy => by injection hy with hy; subst hy; exact repA_by new hrv F.res⟩ hk
  simp only at hl
  rw [hσ2, if_neg (by omega)]
  exact hnew _ (by omega)
end Go.Aw
