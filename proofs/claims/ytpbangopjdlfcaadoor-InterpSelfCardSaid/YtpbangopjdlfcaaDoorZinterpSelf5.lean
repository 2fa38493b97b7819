/- What the law LawInterpSelf leans on, joined (part 5). -/
import Derived.Test.YtpbangopjdlfcaaDoorZinterpSelf4
set_option linter.unusedSimpArgs false
set_option linter.unusedVariables false
set_option maxRecDepth 100000
set_option maxHeartbeats 8000000
namespace Go.Aw
open Go.RowKit
variable {P : Program}
theorem DFn.of {f : FuncId} {fn : Func} {c : Code} {args : List AV} {h : List (Nat × Blk)} {n : Nat} {rt : List Nat} {r : AV} {h' : List (Nat × Blk)} {m : Nat} (pins : List Nat) (hf : P.funcs[f]? = some fn) (hb : fn.body = some c) (hn : fn.name ≠ "runtime.NumGoroutine") {nt : Nat} (hnt : fn.ntmps = nt) {rs : Array ResultVar} (hrs : fn.results = rs) (hnt' : args.length ≤ nt)
  (hpins : ∀ i ∈ pins, i < args.length) (hw : ∀ val : Nat → Value, AW P ⟨nt, pins, val⟩ c ⟨avT args 0, ofH h, n⟩ (EndD P rs args h n rt r h' m pins)) : DFn P f args h n rt r h' m := by
 subst hnt hrs
 refine ⟨by simp [enters, hf, hb, hn], fun w I σ vals hs hσ hr hH ht => ?_⟩
 have tx : TabX w (lentX σ (ofH h)) I := ⟨ht, fun g hg => (hH.imm g hg).1, fun g ⟨l, s, q1, q2, q3⟩ => (hH.mine l g s q1 q2 q3).1⟩
 refine calls_of_wp hf hb ?_
 have at_ : ∀ i, i < vals.size → (vals ++ Array.replicate (fn.ntmps - vals.size) undef)[i]? = vals[i]? := fun i hi => by rw [Array.getElem?_append_left hi]
 have mt : Matches ⟨fn.ntmps, pins, fun i => vals.getD i undef⟩ w (lentX σ (ofH h)) I ⟨avT args 0, ofH h, n⟩ { tmps := vals ++ Array.replicate (fn.ntmps - vals.size) undef, defers := [] } w := by
  refine ⟨σ, I, hσ, rfl, (by simp; omega), fun i hi => ?_, hH, fun i x hx => ?_⟩
  ·have hlt := hpins i hi
   rw [← hs] at hlt
   simp only
   rw [at_ i hlt, Array.getD_eq_getD_getElem?, Array.getElem?_eq_getElem hlt]
   rfl
  ·simp only at hx
   rw [avT_at, if_neg (by omega), Nat.sub_zero] at hx
   have hi : i < vals.size := by rw [hs]; exact (List.getElem?_eq_some_iff.1 hx).1
   exact ⟨vals[i], by rw [at_ i hi, Array.getElem?_eq_getElem hi], hr i _ x (Array.getElem?_eq_getElem hi) hx⟩
 refine wp_mono (hw _ w _ I _ w tx mt) ?_
 rintro e a' w' ⟨s', ⟨σ', I', hn', m'⟩, q⟩
 have fin : EndD P fn.results args h n rt r h' m pins .ret s' → a'.defers = [] ∧ ∃ v, (results fn a'.tmps).run P w' = .ok v w' ∧
   ∃ v' σ'' I'', Ending.returned v = .returned v' ∧ HOK σ'' w' I'' (ofH h') w (lentX σ (ofH h)) I ∧ repA σ'' w' I'' v' r ∧ (∀ l ∈ rt, σ'' l = σ l) ∧ (∀ l, n + m ≤ l → σ'' l = none) := by
  rintro ⟨ρ, l, q1, q2, q3, q4, q5, q6⟩
  obtain ⟨vs, h1, h2, h3⟩ := resD_run (P := P) tx m' (hn' _ (Nat.le_refl _)) (resF a'.tmps) (fun t => rfl) (fun t ty => rfl) fn.results.toList l q1
  have hrun : (results fn a'.tmps).run P w' = .ok (if h : vs.length = 1 then vs[0] else .tuple vs.toArray) w' := by
   rw [results_eq, show fn.results = fn.results.toList.toArray by simp, List.mapM_toArray]
   simp only [Sem.run_bind, Sem.run_map, h1, Result.andThen_ok, Sem.run_pure, List.size_toArray, List.getElem_toArray]
  have hat : ∀ l b, ofH h' l = some b → s'.H (ρ l) = some (b.ren ρ) ∧ l < n + m ∧ b.labsIn (n + m) = true := fun l b hl => q4 (l, b) (ofH_mem hl)
  have hv : repA σ' w' I' (if h : vs.length = 1 then vs[0] else .tuple vs.toArray) (oneOrA l) := by
   by_cases h4 : vs.length = 1
   ·rw [dif_pos h4]
    obtain ⟨p, rfl⟩ : ∃ p, l = [p] := List.length_eq_one_iff.1 (by omega)
    exact h3 0 _ p (List.getElem?_eq_getElem (by omega)) rfl
   ·rw [dif_neg h4]
    have : oneOrA l = .tuple l := by
     unfold oneOrA
     split
     ·exact absurd h2 h4
     ·rfl
    rw [this]
    exact .tuple (by simpa using h2) (fun j u p q1 q2 => h3 j u p (by simpa using q1) q2)
  refine ⟨m'.defers, _, hrun, _, relab ρ (n + m) σ', I', rfl, ⟨fun l b hl => ?_, fun l l' g s1 s2 n1 n2 e1 e2 g1 g2 => ?_, fun l g s1 n1 e1 g1 => ?_, m'.heap.imm, m'.heap.sub, m'.heap.fr⟩, repA_ren hv r q2 q3, fun l hl => ?_, fun l hl => ?_⟩
  ·obtain ⟨p1, p2, p3⟩ := hat l b hl
   exact repB_ren p2 (m'.heap.rows _ _ p1) p3
  ·obtain ⟨b1, hb1⟩ := Option.ne_none_iff_exists'.1 n1
   obtain ⟨b2, hb2⟩ := Option.ne_none_iff_exists'.1 n2
   obtain ⟨p1, p2, p3⟩ := hat l b1 hb1
   obtain ⟨p1', p2', p3'⟩ := hat l' b2 hb2
   unfold relab at e1 e2
   rw [if_pos p2] at e1
   rw [if_pos p2'] at e2
   have := m'.heap.inj (ρ l) (ρ l') g s1 s2 (by rw [p1]; simp) (by rw [p1']; simp) e1 e2 g1 g2
   exact q5 (l, b1) (ofH_mem hb1) (l', b2) (ofH_mem hb2) this
  ·obtain ⟨b1, hb1⟩ := Option.ne_none_iff_exists'.1 n1
   obtain ⟨p1, p2, p3⟩ := hat l b1 hb1
   unfold relab at e1
   rw [if_pos p2] at e1
   exact m'.heap.mine (ρ l) g s1 (by rw [p1]; simp) e1 g1
  ·obtain ⟨hln, hroot⟩ := q6 l hl
   unfold relab
   rw [if_pos (by omega)]
   have pin : ∀ j, j ∈ pins → ∀ x, s'.T j = some x → ∃ u, vals[j]? = some u ∧ repA σ' w' I' u x := fun j hj x hx => by
    have hp := m'.pins j hj
    obtain ⟨u, hu, hru⟩ := m'.tmps j x hx
    rw [hp] at hu
    have hlt : j < vals.size := by rw [hs]; exact hpins j hj
    simp only [Option.some.injEq] at hu
    rw [Array.getD_eq_getD_getElem?, Array.getElem?_eq_getElem hlt] at hu
    simp only [Option.getD_some] at hu
    subst hu
    exact ⟨_, Array.getElem?_eq_getElem hlt, hru⟩
   rcases hroot with ⟨j, i, off, sz, es, es', r1, r2, r3, r4, r5, r6, r7⟩ | ⟨j, es, r1, r2, r3, r4⟩ | ⟨j, k, cs, cs', sz, es, es', r1, r2, r3, r4, r5, r6, r7, r8, r9⟩
   ·obtain ⟨u, hu, hru⟩ := pin j r1 _ r3
    obtain ⟨p1, p2, p3⟩ := hat l _ r5
    have hu0 := hr j u _ hu r2
    have b0 := hH.rows l _ r4
    have b1 := m'.heap.rows _ _ p1
    exact slot_kept hu0 hru b0 b1 (by rw [List.length_map]; exact r6) r7 m'.heap.fr.shape
   ·obtain ⟨u, hu, hru⟩ := pin j r1 _ r3
    have hu0 := hr j u _ hu r2
    cases hu0 with
    | map s0 =>
     cases hru with
     | map s1 => rw [s0, s1]
   ·obtain ⟨u, hu, hru⟩ := pin j r1 _ r4
    obtain ⟨p1, p2, p3⟩ := hat l _ r7
    have hu0 := hr j u _ hu r2
    have b0 := hH.rows l _ r6
    have b1 := m'.heap.rows _ _ p1
    obtain ⟨vs, rfl, z1, z2⟩ := aggA hu0
    obtain ⟨vs', e', z3, z4⟩ := aggA hru
    injection e' with e'
    subst e'
    have hk : k < vs.size := by rw [z1]; exact (List.getElem?_eq_some_iff.1 r3).1
    have y0 := z2 k _ _ (Array.getElem?_eq_getElem hk) r3
    have y1 := z4 k _ _ (Array.getElem?_eq_getElem hk) r5
    exact own_kept y0 y1 b0 b1 r8 (by simpa using r9)
  ·unfold relab
   rw [if_neg (by omega)]
 cases e with
 | normal => exact fin q
 | ret => exact fin q
 | exit _ => exact q.elim
 | goto _ => exact q.elim
 | panic _ => exact q.elim
 | outgrown => exact q.elim
def argD (T : Nat → Option AV) (ρ : Nat → Nat) : List Operand → List AV → Prop
 | [], [] => True
 | x :: xs, .p p :: ys => (match ev T x with | some v => pureA v = some p | none => False) ∧ argD T ρ xs ys
 | x :: xs, y :: ys => ev T x = some (y.ren ρ) ∧ argD T ρ xs ys
 | _, _ => False
theorem argD_spec {T : Nat → Option AV} {ρ : Nat → Nat} : ∀ {xs : List Operand} {ys : List AV}, argD T ρ xs ys → xs.length = ys.length ∧ ∀ (j : Nat) x y, xs[j]? = some x → ys[j]? = some y → (∃ p v, y = .p p ∧ ev T x = some v ∧ pureA v = some p) ∨ ev T x = some (y.ren ρ) := by
 intro xs
 induction xs with
 | nil =>
  intro ys h
  cases ys with
  | nil => exact ⟨rfl, fun j x y h => by simp at h⟩
  | cons y ys => simp [argD] at h
 | cons x xs ih =>
  intro ys h
  cases ys with
  | nil => simp [argD] at h
  | cons y ys =>
   have main : argD T ρ xs ys → ((∃ p v, y = .p p ∧ ev T x = some v ∧ pureA v = some p) ∨ ev T x = some (y.ren ρ)) → (x :: xs).length = (y :: ys).length ∧ ∀ (j : Nat) x' y', (x :: xs)[j]? = some x' → (y :: ys)[j]? = some y' → (∃ p v, y' = .p p ∧ ev T x' = some v ∧ pureA v = some p) ∨ ev T x' = some (y'.ren ρ) := by
    intro h1 h2
    obtain ⟨q1, q2⟩ := ih h1
    refine ⟨by simp [q1], fun j x' y' e1 e2 => ?_⟩
    cases j with
    | zero => simp at e1 e2; subst e1 e2; exact h2
    | succ j => exact q2 j x' y' (by simpa using e1) (by simpa using e2)
   cases y with
   | p p =>
    simp only [argD] at h
    obtain ⟨h1, h2⟩ := h
    split at h1
    ·rename_i v hv
     exact main h2 (.inl ⟨p, v, rfl, hv, h1⟩)
    ·exact h1.elim
   | _ => exact main h.2 (.inr h.1)
def lift2 (ρ : Nat → Nat) (n nx : Nat) (l : Nat) : Nat := if l < n then ρ l else nx + (l - n)
def goneU (ρ : Nat → Nat) (h : List (Nat × Blk)) : List (Nat × Option Blk) := h.map fun x => (ρ x.1, none)
def newU (ρ : Nat → Nat) (h : List (Nat × Blk)) : List (Nat × Option Blk) := h.map fun x => (ρ x.1, some (x.2.ren ρ))
theorem putH_gone (ρ : Nat → Nat) (l : Nat) : ∀ (h : List (Nat × Blk)) (H : Nat → Option Blk), (putH H (goneU ρ h) l = H l ∧ ∀ x ∈ h, ρ x.1 ≠ l) ∨ (putH H (goneU ρ h) l = none ∧ ∃ x ∈ h, ρ x.1 = l)
 | [], H => .inl ⟨rfl, fun x hx => by cases hx⟩
 | x :: h, H => by
  have e : putH H (goneU ρ (x :: h)) = putH (upd H (ρ x.1) none) (goneU ρ h) := rfl
  rw [e]
  rcases putH_gone ρ l h (upd H (ρ x.1) none) with ⟨h1, h2⟩ | ⟨h1, y, hy, h2⟩
  ·by_cases hl : ρ x.1 = l
   ·right
    refine ⟨?_, x, List.mem_cons_self, hl⟩
    rw [h1, hl, upd_same]
   ·left
    refine ⟨by rw [h1, upd_ne _ _ (fun h => hl h.symm)], fun y hy => ?_⟩
    rcases List.mem_cons.1 hy with rfl | hy
    ·exact hl
    ·exact h2 y hy
  ·exact .inr ⟨h1, y, List.mem_cons_of_mem _ hy, h2⟩
theorem putH_new (ρ : Nat → Nat) (l : Nat) : ∀ (h : List (Nat × Blk)) (H : Nat → Option Blk), (putH H (newU ρ h) l = H l ∧ ∀ x ∈ h, ρ x.1 ≠ l) ∨ (∃ x ∈ h, ρ x.1 = l ∧ putH H (newU ρ h) l = some (x.2.ren ρ))
 | [], H => .inl ⟨rfl, fun x hx => by cases hx⟩
 | x :: h, H => by
  have e : putH H (newU ρ (x :: h)) = putH (upd H (ρ x.1) (some (x.2.ren ρ))) (newU ρ h) := rfl
  rw [e]
  rcases putH_new ρ l h (upd H (ρ x.1) (some (x.2.ren ρ))) with ⟨h1, h2⟩ | ⟨y, hy, h1, h2⟩
  ·by_cases hl : ρ x.1 = l
   ·right
    refine ⟨x, List.mem_cons_self, hl, ?_⟩
    rw [h1, ← hl, upd_same]
   ·left
    refine ⟨by rw [h1, upd_ne _ _ (fun h => hl h.symm)], fun y hy => ?_⟩
    rcases List.mem_cons.1 hy with rfl | hy
    ·exact hl
    ·exact h2 y hy
  ·exact .inr ⟨y, List.mem_cons_of_mem _ hy, h1, h2⟩
def distinct : List Nat → Bool
 | [] => true
 | x :: l => !l.contains x && distinct l
theorem ofH_of_mem : ∀ {h : List (Nat × Blk)} {x : Nat × Blk}, distinct (h.map (·.1)) = true → x ∈ h → ofH h x.1 = some x.2
 | [], _, _, h => by cases h
 | y :: h, x, hd, hx => by
  simp only [List.map_cons, distinct, Bool.and_eq_true, Bool.not_eq_true'] at hd
  obtain ⟨a, b⟩ := y
  rcases List.mem_cons.1 hx with rfl | hx'
  ·simp [ofH]
  ·have : x.1 ≠ a := by
    intro e
    have : (h.map (·.1)).contains a = true := by
     rw [List.contains_iff_mem]
     exact List.mem_map.2 ⟨x, hx', e⟩
    rw [this] at hd
    cases hd.1
   simp only [ofH, if_neg this]
   exact ofH_of_mem hd.2 hx'
structure FitD (s : St) (xs : List Operand) (args : List AV) (h : List (Nat × Blk)) (n : Nat) (rt : List Nat) (r : AV) (h' : List (Nat × Blk)) (ρ : Nat → Nat) : Prop where
 opd : argD s.T ρ xs args
 labs : args.all (fun y => y.labsIn n) = true
 here : ∀ x ∈ h, s.H (ρ x.1) = some (x.2.ren ρ) ∧ x.1 < n ∧ x.2.labsIn n = true
 inj : distinct (h.map fun x => ρ x.1) = true
 dist : distinct (h.map (·.1)) = true
 dist' : distinct (h'.map (·.1)) = true
 roots : rt.all (fun l => (h.map (·.1)).contains l) = true
 res : r.labsBy (fun l => rt.contains l || decide (n ≤ l)) = true
 mem : h'.all (fun x => (rt.contains x.1 || decide (n ≤ x.1)) && x.2.labsBy (fun l => rt.contains l || decide (n ≤ l))) = true
theorem distinct_inj {ρ : Nat → Nat} : ∀ {h : List (Nat × Blk)}, distinct (h.map fun x => ρ x.1) = true → ∀ x ∈ h, ∀ y ∈ h, ρ x.1 = ρ y.1 → x = y
 | [], _, x, hx, _, _, _ => by cases hx
 | z :: h, hd, x, hx, y, hy, e => by
  simp only [List.map_cons, distinct, Bool.and_eq_true, Bool.not_eq_true'] at hd
  have no : ∀ v ∈ h, ρ v.1 ≠ ρ z.1 := fun v hv e => by
   have : (h.map fun x => ρ x.1).contains (ρ z.1) = true := by
    rw [List.contains_iff_mem]
    exact List.mem_map.2 ⟨v, hv, e⟩
   rw [this] at hd
   cases hd.1
  rcases List.mem_cons.1 hx with hx' | hx'
  ·rcases List.mem_cons.1 hy with hy' | hy'
   ·rw [hx', hy']
   ·rw [hx'] at e
    exact absurd e.symm (no y hy')
  ·rcases List.mem_cons.1 hy with hy' | hy'
   ·rw [hy'] at e
    exact absurd e (no x hx')
   ·exact distinct_inj hd.2 x hx' y hy' e
theorem callD_fn {nt : Fm} {s : St} {K : St → Prop} {o : Oper} {f : FuncId} {xs : Array Operand} {ts : Array TypeId} {args : List AV} {h : List (Nat × Blk)} {n : Nat} {rt : List Nat} {r : AV} {h' : List (Nat × Blk)} {m : Nat} (ρ : Nat → Nat)
  (ho : o.op = .call { callee := .value (.func f), args := xs, argTypes := ts }) (hd : dstOK nt o = true) (D : DFn P f args h n rt r h' m) (F : FitD s xs.toList args h n rt r h' ρ)
  (hk : K ⟨putT s.T o.dst (some (r.ren (lift2 ρ n s.nx))), putH (putH s.H (goneU ρ h)) (newU (lift2 ρ n s.nx) h'), s.nx + m⟩) : CallD P nt o s K := by
 obtain ⟨hen, hp⟩ := D
 intro w0 X I0 a w next Q tx ⟨σ, I, hn, mm⟩ hnext
 have IN : In σ w I s.T s.H w0 X I0 a s.nx := ⟨mm.heap, mm.tmps, hn _ (Nat.le_refl _), tx⟩
 have hrun : (execOp a.eval o).run P w = .ok (.enter f (xs.map a.eval)) w := by
  have he : a.eval (.func f) = .func (.func f) #[] #[] := rfl
  simp only [execOp, ho, resolve, he, Deferred.ofValue, Sem.run_bind, Sem.run_pure, Result.andThen_ok, invoke, Array.append_empty, Array.empty_append, run_enter hen]
 obtain ⟨p1, p2⟩ := argD_spec F.opd
 have here : ∀ l b, ofH h l = some b → s.H (ρ l) = some (b.ren ρ) ∧ l < n ∧ b.labsIn n = true := fun l b hl => F.here (l, b) (ofH_mem hl)
 have inj : ∀ l l' b b', ofH h l = some b → ofH h l' = some b' → ρ l = ρ l' → l = l' := fun l l' b b' h1 h2 e => by
  have := distinct_inj F.inj (l, b) (ofH_mem h1) (l', b') (ofH_mem h2) e
  injection this
 generalize hσc : relab ρ n σ = σc
 have σat : ∀ l, l < n → σc l = σ (ρ l) := fun l hl => by rw [← hσc]; unfold relab; rw [if_pos hl]
 have σno : ∀ l, n ≤ l → σc l = none := fun l hl => by rw [← hσc]; unfold relab; rw [if_neg (by omega)]
 have Xof : ∀ g, lentX σc (ofH h) g → ∃ l b sl, ofH h l = some b ∧ s.H (ρ l) = some (b.ren ρ) ∧ σ (ρ l) = some sl ∧ sl.block = some g := fun g ⟨l, sl, q1, q2, q3⟩ => by
  obtain ⟨b, hb⟩ := Option.ne_none_iff_exists'.1 q1
  obtain ⟨r1, r2, _⟩ := here l b hb
  exact ⟨l, b, sl, hb, r1, by rw [← σat l r2]; exact q2, q3⟩
 have hH : HOK σc w I (ofH h) w (lentX σc (ofH h)) I := by
  refine ⟨fun l b hl => ?_, fun l l' g s1 s2 n1 n2 e1 e2 g1 g2 => ?_, fun l g s1 n1 e1 g1 => ?_, fun g hg => ⟨(mm.heap.imm g hg).1, .inl hg⟩, fun _ h => h, Fr.refl _ _⟩
  ·obtain ⟨r1, r2, r3⟩ := here l b hl
   rw [← hσc]
   exact repB_ren r2 (mm.heap.rows _ _ r1) r3
  ·obtain ⟨b1, hb1⟩ := Option.ne_none_iff_exists'.1 n1
   obtain ⟨b2, hb2⟩ := Option.ne_none_iff_exists'.1 n2
   obtain ⟨r1, r2, _⟩ := here l b1 hb1
   obtain ⟨r1', r2', _⟩ := here l' b2 hb2
   rw [σat l r2] at e1
   rw [σat l' r2'] at e2
   exact inj l l' b1 b2 hb1 hb2 (mm.heap.inj _ _ g s1 s2 (by rw [r1]; simp) (by rw [r1']; simp) e1 e2 g1 g2)
  ·obtain ⟨b1, hb1⟩ := Option.ne_none_iff_exists'.1 n1
   obtain ⟨r1, r2, _⟩ := here l b1 hb1
   refine ⟨?_, .inl ⟨l, s1, n1, e1, g1⟩⟩
   rw [σat l r2] at e1
   exact (mm.heap.mine _ g s1 (by rw [r1]; simp) e1 g1).1
 have hargs := hp w I σc (xs.map a.eval) (by simpa using p1) σno (fun j u y q1 q2 => by
  rw [Array.getElem?_map, Option.map_eq_some_iff] at q1
  obtain ⟨x, hx, rfl⟩ := q1
  have hlab : y.labsIn n = true := List.all_eq_true.1 F.labs y (List.mem_of_getElem? q2)
  rcases p2 j x y (by simpa using hx) q2 with ⟨p, v, rfl, hv, hpv⟩ | hv
  ·exact .p (rep_pureA (IN.ev hv) hpv)
  ·rw [← hσc]
   exact repA_ren (IN.ev hv) y rfl hlab) hH IN.tabs
 unfold Oper.wp
 rw [hrun, Oper.upon_enter]
 refine hargs.mono fun e w' he => ?_
 obtain ⟨v, σ', I', rfl, hh, hrv, hroot, hnew⟩ := he
 -- the caller's labels behind the call
 obtain ⟨σ2, hσ2⟩ : ∃ σ2 : Lab, ∀ l, σ2 l = if l < s.nx then σ l else σ' (n + (l - s.nx)) := ⟨fun l => if l < s.nx then σ l else σ' (n + (l - s.nx)), fun _ => rfl⟩
 have old : ∀ l sl, σ l = some sl → σ2 l = some sl := fun l sl hl => by
  rw [hσ2]
  rcases Nat.lt_or_ge l s.nx with q | q
  ·rw [if_pos q]; exact hl
  ·rw [hn l q] at hl; cases hl
 have new : ∀ l, (rt.contains l || decide (n ≤ l)) = true → ∀ sl, σ' l = some sl → σ2 (lift2 ρ n s.nx l) = some sl := fun l hl sl hs => by
  unfold lift2
  rcases Nat.lt_or_ge l n with q | q
  ·rw [if_pos q]
   have hm : l ∈ rt := by
    rcases Bool.or_eq_true_iff.1 hl with hl | hl
    ·exact List.contains_iff_mem.1 hl
    ·simp at hl; omega
   rw [hroot l hm, σat l q] at hs
   exact old _ _ hs
  ·rw [if_neg (by omega), hσ2, if_neg (by omega), show n + (s.nx + (l - n) - s.nx) = l by omega]
   exact hs
 have blk : ∀ l g sl, s.H l ≠ none → σ l = some sl → sl.block = some g → g < w.heap.size := fun l g sl hn hs hg => by
  obtain ⟨b, hb⟩ := Option.ne_none_iff_exists'.1 hn
  obtain ⟨s', hs', hlt⟩ := (mm.heap.rows l b hb).block
  rw [hs] at hs'; injection hs' with hs'; subst hs'
  exact hlt g hg
 have Xmine : ∀ g, lentX σc (ofH h) g → ¬ I g ∧ (X g ∨ w0.heap.size ≤ g) ∧ g < w.heap.size := fun g hg => by
  obtain ⟨l, b, sl, q1, q2, q3, q4⟩ := Xof g hg
  obtain ⟨m1, m2⟩ := mm.heap.mine _ g sl (by rw [q2]; simp) q3 q4
  exact ⟨m1, m2, blk _ g sl (by rw [q2]; simp) q3 q4⟩
 have same : ∀ b, I b → w'.heap[b]? = w.heap[b]? := fun b hb => hh.fr.block b (mm.heap.imm b hb).1 fun hx => (Xmine b hx).1 hb
 have hI : ∀ g, I g → I' g := hh.sub
 have fresh : ∀ g, I' g → I g ∨ lentX σc (ofH h) g ∨ w.heap.size ≤ g := fun g hg => (hh.imm g hg).2
 have frame : ∀ l b, s.H l = some b → (∀ x ∈ h, ρ x.1 ≠ l) → ∀ g sl, σ l = some sl → sl.block = some g → ¬ lentX σc (ofH h) g := fun l b hl hno g sl hs hg hx => by
  obtain ⟨l2, b2, sl2, q1, q2, q3, q4⟩ := Xof g hx
  exact hno (l2, b2) (ofH_mem q1) (mm.heap.inj _ _ g sl2 sl (by rw [q2]; simp) (by rw [hl]; simp) q3 hs q4 hg)
 -- what stands where
 have cls : ∀ l b, putH (putH s.H (goneU ρ h)) (newU (lift2 ρ n s.nx) h') l = some b → (∃ x ∈ h', lift2 ρ n s.nx x.1 = l ∧ b = x.2.ren (lift2 ρ n s.nx)) ∨ (s.H l = some b ∧ (∀ x ∈ h, ρ x.1 ≠ l)) := fun l b hl => by
  rcases putH_new (lift2 ρ n s.nx) l h' (putH s.H (goneU ρ h)) with ⟨e1, e2⟩ | ⟨x, hx, e1, e2⟩
  ·rw [e1] at hl
   rcases putH_gone ρ l h s.H with ⟨e3, e4⟩ | ⟨e3, _⟩
   ·rw [e3] at hl; exact .inr ⟨hl, e4⟩
   ·rw [e3] at hl; cases hl
  ·rw [e2] at hl
   injection hl with hl
   exact .inl ⟨x, hx, e1, hl.symm⟩
 have mem' : ∀ x ∈ h', (rt.contains x.1 || decide (n ≤ x.1)) = true ∧ x.2.labsBy (fun l => rt.contains l || decide (n ≤ l)) = true := fun x hx => by
  have := List.all_eq_true.1 F.mem x hx
  rwa [Bool.and_eq_true] at this
 have inv : ∀ l, (rt.contains l || decide (n ≤ l)) = true → ∀ sl, σ2 (lift2 ρ n s.nx l) = some sl → σ' l = some sl := fun l hl sl hs => by
  unfold lift2 at hs
  rcases Nat.lt_or_ge l n with q | q
  ·rw [if_pos q] at hs
   have hm : l ∈ rt := by
    rcases Bool.or_eq_true_iff.1 hl with hl | hl
    ·exact List.contains_iff_mem.1 hl
    ·simp at hl; omega
   rw [hroot l hm, σat l q]
   have hc := List.contains_iff_mem.1 (List.all_eq_true.1 F.roots l hm)
   obtain ⟨x, hx, hxl⟩ := List.mem_map.1 hc
   obtain ⟨r1, r2, _⟩ := F.here x hx
   have hlt : ρ l < s.nx := by
    rcases Nat.lt_or_ge (ρ l) s.nx with z | z
    ·exact z
    ·obtain ⟨sl', hsl', _⟩ := (mm.heap.rows _ _ r1).block
     rw [hxl, hn _ z] at hsl'; cases hsl'
   rw [hσ2, if_pos hlt] at hs
   exact hs
  ·rw [if_neg (by omega), hσ2, if_neg (by omega), show n + (s.nx + (l - n) - s.nx) = l by omega] at hs
   exact hs
 have OK : HOK σ2 w' I' (putH (putH s.H (goneU ρ h)) (newU (lift2 ρ n s.nx) h')) w0 X I0 := by
  have rowN : ∀ x ∈ h', repB σ' w' I' x.1 x.2 := fun x hx => hh.rows x.1 x.2 (ofH_of_mem F.dist' hx)
  have neN : ∀ x ∈ h', ofH h' x.1 ≠ none := fun x hx => by rw [ofH_of_mem F.dist' hx]; simp
  have slotF : ∀ l b sl, s.H l = some b → σ2 l = some sl → σ l = some sl := fun l b sl hl hs => by
   obtain ⟨sl', hsl', _⟩ := (mm.heap.rows l b hl).block
   rw [old l sl' hsl'] at hs
   rw [hsl']; exact hs
  refine ⟨fun l b hl => ?_, fun l1 l2 g s1 s2 n1 n2 e1 e2 g1 g2 => ?_, fun l g sl n1 e1 g1 => ?_, fun g hg => ?_, fun g hg => hh.sub g (mm.heap.sub g hg), ⟨hh.fr.os.trans mm.heap.fr.os, hh.fr.tape.trans mm.heap.fr.tape, hh.fr.output.trans mm.heap.fr.output, Nat.le_trans mm.heap.fr.size hh.fr.size, fun b hb hx => ?_, mm.heap.fr.step fun b cur et p hb hc => hh.fr.shape b cur et p hc⟩⟩
  ·rcases cls l b hl with ⟨x, hx, rfl, rfl⟩ | ⟨hl', hno⟩
   ·exact repB_by new (mem' x hx).1 (rowN x hx) (mem' x hx).2
   ·obtain ⟨sl, hsl, hlt⟩ := (mm.heap.rows l b hl').block
    refine (mm.heap.rows l b hl').mono old hI same fun g s' q1 q2 => ?_
    rw [hsl] at q1; injection q1 with q1; subst q1
    exact hh.fr.block g (hlt g q2) (frame l b hl' hno g _ hsl q2)
  ·obtain ⟨b1, hb1⟩ := Option.ne_none_iff_exists'.1 n1
   obtain ⟨b2, hb2⟩ := Option.ne_none_iff_exists'.1 n2
   rcases cls l1 b1 hb1 with ⟨x, hx, rfl, rfl⟩ | ⟨h1, no1⟩
   ·have f1 := inv x.1 (mem' x hx).1 s1 e1
    rcases cls l2 b2 hb2 with ⟨y, hy, rfl, rfl⟩ | ⟨h2, no2⟩
    ·have f2 := inv y.1 (mem' y hy).1 s2 e2
     rw [hh.inj x.1 y.1 g s1 s2 (neN x hx) (neN y hy) f1 f2 g1 g2]
    ·exfalso
     have f2 := slotF l2 b2 s2 h2 e2
     rcases (hh.mine x.1 g s1 (neN x hx) f1 g1).2 with q | q
     ·exact frame l2 b2 h2 no2 g s2 f2 g2 q
     ·have := blk l2 g s2 (by rw [h2]; simp) f2 g2; omega
   ·have f1 := slotF l1 b1 s1 h1 e1
    rcases cls l2 b2 hb2 with ⟨y, hy, rfl, rfl⟩ | ⟨h2, no2⟩
    ·exfalso
     have f2 := inv y.1 (mem' y hy).1 s2 e2
     rcases (hh.mine y.1 g s2 (neN y hy) f2 g2).2 with q | q
     ·exact frame l1 b1 h1 no1 g s1 f1 g1 q
     ·have := blk l1 g s1 (by rw [h1]; simp) f1 g1; omega
    ·exact mm.heap.inj l1 l2 g s1 s2 (by rw [h1]; simp) (by rw [h2]; simp) f1 (slotF l2 b2 s2 h2 e2) g1 g2
  ·obtain ⟨b1, hb1⟩ := Option.ne_none_iff_exists'.1 n1
   rcases cls l b1 hb1 with ⟨x, hx, rfl, rfl⟩ | ⟨h1, no1⟩
   ·have f1 := inv x.1 (mem' x hx).1 sl e1
    obtain ⟨m1, m2⟩ := hh.mine x.1 g sl (neN x hx) f1 g1
    refine ⟨m1, ?_⟩
    rcases m2 with q | q
    ·exact (Xmine g q).2.1
    ·exact .inr (Nat.le_trans mm.heap.fr.size q)
   ·have f1 := slotF l b1 sl h1 e1
    obtain ⟨m1, m2⟩ := mm.heap.mine l g sl (by rw [h1]; simp) f1 g1
    refine ⟨fun hg => ?_, m2⟩
    rcases fresh g hg with q | q | q
    ·exact m1 q
    ·exact frame l b1 h1 no1 g sl f1 g1 q
    ·have := blk l g sl (by rw [h1]; simp) f1 g1; omega
  ·refine ⟨(hh.imm g hg).1, ?_⟩
   rcases fresh g hg with q | q | q
   ·exact (mm.heap.imm g q).2
   ·exact .inr (Xmine g q).2.1
   ·exact .inr (.inr (Nat.le_trans mm.heap.fr.size q))
  ·rw [hh.fr.block b (by have := mm.heap.fr.size; omega) fun hx' => ?_]
   ·exact mm.heap.fr.block b hb hx
   ·rcases (Xmine b hx').2.1 with q | q
    ·exact hx q
    ·omega
 refine hnext ⟨putT s.T o.dst (some (r.ren (lift2 ρ n s.nx))), _, s.nx + m⟩ _ w' ⟨σ2, I', fun l hl => ?_, mm.put hd OK old hI same fun y hy => by injection hy with hy; subst hy; exact repA_by new hrv F.res⟩ hk
 simp only at hl
 rw [hσ2, if_neg (by omega)]
 exact hnew _ (by omega)
end Go.Aw
namespace Go.Aw
open Go.Proofs Go.RowKit
theorem SeqR.call {P : Program} {nt : Fm} {s : St} {ops : Array Oper} {i : Nat} {K : St → Prop} {d : Tmp} {f : FuncId} {xs : Array Operand} {ts : Array TypeId} {ty : TypeId} {ps : String} {af : Array Edge} {args : List AV} {h : List (Nat × Blk)} {n : Nat} {rt : List Nat} {r : AV} {h' : List (Nat × Blk)} {m : Nat} (ρ : Nat → Nat)
  (ho : ops[i]? = some ⟨some d, .call { callee := .value (.func f), args := xs, argTypes := ts }, ty, ps, af, none⟩) (hd : dstOK nt ⟨some d, .call { callee := .value (.func f), args := xs, argTypes := ts }, ty, ps, af, none⟩ = true) (D : DFn P f args h n rt r h' m) (F : FitD s xs.toList args h n rt r h' ρ)
  (hk : SeqR P nt ops (i + 1) ⟨upd s.T d (some (r.ren (lift2 ρ n s.nx))), putH (putH s.H (goneU ρ h)) (newU (lift2 ρ n s.nx) h'), s.nx + m⟩ K) : SeqR P nt ops i s K :=
 SeqR.op ho rfl (callD_fn ρ rfl hd D F hk)
theorem labsBy_lift {p : Nat → Bool} {sz : Nat} {es : List (List PV)} : (Blk.row sz (liftE es)).labsBy p = true := by
 have : ∀ l : List PV, labsByL p (l.map AV.p) = true := fun l => by
  induction l with
  | nil => rfl
  | cons a l ih => rw [List.map_cons, labsByL, ih]; rfl
 simp only [Blk.labsBy, liftE, List.all_map, List.all_eq_true]
 intro e _
 exact this e
end Go.Aw
namespace Go.Aw
open Go.Proofs Go.RowKit
def addP (l : List Pr) (p : Pr) : List Pr := if l.contains p = true then l else l ++ [p]
end Go.Aw
namespace Go.Aw
open Go.Proofs Go.RowKit
def fOf (m : Ms) (t : Int) : Fd × Bool := firstP (fun x => x.tag == t) zFd m.fields
end Go.Aw
namespace Go.Aw
open Go.Proofs Go.RowKit
end Go.Aw
namespace Go.Aw
open Go.Proofs Go.RowKit
def noGo (Q : Exit → St → Prop) : Exit → St → Prop
 | .goto _, _ => False
 | e, s => Q e s
attribute [go_sem] noGo
end Go.Aw
namespace Go.Aw
open Go.Proofs Go.RowKit
def msgOf (S : Sc) (k : List UInt8) : Ms := (firstP (fun x => x.name == k) zMs S.msgs).1
structure PairsOK (S U : Sc) (l : List Pr) : Prop where
 here : ∀ p ∈ l, hasM S p.o = true ∧ hasM U p.n = true
 nd : l.Nodup
theorem addP_ok {S U : Sc} {l : List Pr} {p : Pr} (h : PairsOK S U l) (h1 : hasM S p.o = true) (h2 : hasM U p.n = true) : PairsOK S U (addP l p) := by
 unfold addP
 split
 ·exact h
 ·rename_i hn
  refine ⟨fun q hq => ?_, ?_⟩
  ·rcases List.mem_append.1 hq with hq | hq
   ·exact h.here q hq
   ·simp at hq; subst hq; exact ⟨h1, h2⟩
  ·rw [List.nodup_append]
   refine ⟨h.nd, by simp, fun x hx y hy => ?_⟩
   simp at hy
   subst hy
   rintro rfl
   exact hn (by rw [List.contains_iff_mem]; exact hx)
theorem sub_len {α : Type} [DecidableEq α] : ∀ {a b : List α}, a.Nodup → (∀ x ∈ a, x ∈ b) → a.length ≤ b.length
 | [], b, _, _ => Nat.zero_le _
 | x :: a, b, hn, hs => by
  have hx := hs x List.mem_cons_self
  have h := sub_len (a := a) (b := b.erase x) (List.nodup_cons.1 hn).2 fun y hy => by
   have hy' := hs y (List.mem_cons_of_mem _ hy)
   have hne : y ≠ x := by
    rintro rfl
    exact (List.nodup_cons.1 hn).1 hy
   exact (List.mem_erase_of_ne hne).2 hy'
  have hl := List.length_erase_of_mem hx
  have : 0 < b.length := List.length_pos_of_mem hx
  rw [List.length_cons]
  omega
def allPairs (S U : Sc) : List Pr := S.msgs.flatMap fun x => U.msgs.map fun y => ⟨x.name, y.name⟩
theorem flat_len {α β : Type} {f : α → List β} {n : Nat} : ∀ {l : List α}, (∀ x ∈ l, (f x).length = n) → (l.flatMap f).length = l.length * n
 | [], _ => by simp
 | x :: l, h => by
  rw [List.flatMap_cons, List.length_append, flat_len (l := l) fun y hy => h y (List.mem_cons_of_mem _ hy), h x List.mem_cons_self, List.length_cons, Nat.add_mul, Nat.one_mul, Nat.add_comm]
theorem pairs_len {S U : Sc} {l : List Pr} (h : PairsOK S U l) (h1 : S.msgs.length ≤ 10) (h2 : U.msgs.length ≤ 10) : l.length ≤ 100 := by
 have q := sub_len (b := allPairs S U) h.nd fun p hp => by
  obtain ⟨q1, q2⟩ := h.here p hp
  unfold hasM at q1 q2
  rw [found_any, List.any_eq_true] at q1 q2
  obtain ⟨x, hx, ex⟩ := q1
  obtain ⟨y, hy, ey⟩ := q2
  unfold allPairs
  rw [List.mem_flatMap]
  refine ⟨x, hx, List.mem_map.2 ⟨y, hy, ?_⟩⟩
  have e1 : x.name = p.o := by simpa using ex
  have e2 : y.name = p.n := by simpa using ey
  rw [e1, e2]
 have e : (allPairs S U).length = S.msgs.length * U.msgs.length := flat_len fun x _ => by simp
 have : S.msgs.length * U.msgs.length ≤ 10 * 10 := Nat.mul_le_mul h1 h2
 omega
theorem first_found {α : Type} {p : α → Bool} {z : α} {l : List α} (h : (firstP p z l).2 = true) : (firstP p z l).1 ∈ l ∧ p (firstP p z l).1 = true := by
 unfold firstP at *
 cases e : l.find? p with
 | none => rw [e] at h; cases h
 | some a => exact ⟨List.mem_of_find?_eq_some e, List.find?_some e⟩
theorem kind7 {S : Sc} (R : RightS S) {m : Ms} (hm : m ∈ S.msgs) {f : Fd} (hf : f ∈ m.fields) (k : f.ty.kind = 7) : hasM S f.ty.name = true := by
 obtain ⟨i, hi⟩ := List.getElem?_of_mem hf
 have q := (R.fld m hm i f hi).2.2.1
 unfold fieldB at q
 rw [Bool.and_eq_true] at q
 have q := q.2
 unfold kindB at q
 rw [if_neg (by omega), if_pos k] at q
 exact q
end Go.Aw
namespace Go.Aw
open Go.Proofs Go.RowKit
theorem mem_addP {l : List Pr} {p q : Pr} : q ∈ addP l p ↔ q ∈ l ∨ q = p := by
 unfold addP
 split
 ·rename_i h
  rw [List.contains_iff_mem] at h
  constructor
  ·exact .inl
  ·rintro (h' | rfl)
   ·exact h'
   ·exact h
 ·simp
theorem msgOf_mem {S : Sc} {k : List UInt8} (h : hasM S k = true) : msgOf S k ∈ S.msgs ∧ (msgOf S k).name = k := by
 have := first_found (p := fun x : Ms => x.name == k) (z := zMs) (l := S.msgs) h
 exact ⟨this.1, eq_of_beq this.2⟩
end Go.Aw
namespace Go.Aw
open Go.Proofs Go.RowKit
end Go.Aw
namespace Go.Aw
open Go.Proofs Go.RowKit
theorem flds_iff {S : Sc} : ∀ {l : List Fd} {ns : List (List UInt8)} {us : List Int}, fldsC S ns us l = 0 ↔ (∀ f ∈ l, nameB f.name = true ∧ tagB f.tag = true ∧ fieldB S f = true ∧ f.name ∉ ns ∧ f.tag ∉ us) ∧ (l.map Fd.name).Nodup ∧ (l.map Fd.tag).Nodup
 | [], ns, us => by simp [fldsC]
 | f :: l, ns, us => by
  rw [fldsC, List.map_cons, List.map_cons, List.nodup_cons, List.nodup_cons]
  constructor
  ·intro h
   split at h
   ·rename_i h1
    split at h
    ·rename_i h2
     split at h
     ·rename_i h3
      obtain ⟨q1, q2, q3⟩ := (flds_iff (l := l)).1 h
      have t1 := takes_iff.1 h1
      rw [Bool.and_eq_true, Bool.not_eq_true', ← Bool.not_eq_true, List.contains_iff_mem] at h2
      refine ⟨fun g hg => ?_, ⟨fun hm => ?_, q2⟩, ⟨fun hm => ?_, q3⟩⟩
      ·rcases List.mem_cons.1 hg with rfl | hg
       ·exact ⟨t1.1, h2.1, h3, t1.2, h2.2⟩
       ·obtain ⟨a, b, c, d, e⟩ := q1 g hg
        exact ⟨a, b, c, fun hm => d (List.mem_append.2 (.inl hm)), fun hm => e (List.mem_append.2 (.inl hm))⟩
      ·obtain ⟨g, hg, e⟩ := List.mem_map.1 hm
       exact (q1 g hg).2.2.2.1 (by rw [e]; simp)
      ·obtain ⟨g, hg, e⟩ := List.mem_map.1 hm
       exact (q1 g hg).2.2.2.2 (by rw [e]; simp)
     ·cases h
    ·cases h
   ·cases h
  ·rintro ⟨h, ⟨n1, n2⟩, ⟨m1, m2⟩⟩
   obtain ⟨a, b, c, d, e⟩ := h f List.mem_cons_self
   rw [if_pos (takes_iff.2 ⟨a, d⟩), if_pos (by rw [Bool.and_eq_true, Bool.not_eq_true', ← Bool.not_eq_true, List.contains_iff_mem]; exact ⟨b, e⟩), if_pos c]
   refine (flds_iff (l := l)).2 ⟨fun g hg => ?_, n2, m2⟩
   obtain ⟨a', b', c', d', e'⟩ := h g (List.mem_cons_of_mem _ hg)
   refine ⟨a', b', c', fun hm => ?_, fun hm => ?_⟩
   ·rcases List.mem_append.1 hm with hm | hm
    ·exact d' hm
    ·simp at hm; exact n1 (List.mem_map.2 ⟨g, hg, hm⟩)
   ·rcases List.mem_append.1 hm with hm | hm
    ·exact e' hm
    ·simp at hm; exact m1 (List.mem_map.2 ⟨g, hg, hm⟩)
theorem res_iff : ∀ {l : List Int} {us : List Int}, resBad us l = false ↔ (∀ t ∈ l, tagB t = true ∧ t ∉ us) ∧ l.Nodup
 | [], us => by simp [resBad]
 | t :: l, us => by
  rw [resBad, List.nodup_cons]
  constructor
  ·intro h
   split at h
   ·rename_i h2
    rw [Bool.and_eq_true, Bool.not_eq_true', ← Bool.not_eq_true, List.contains_iff_mem] at h2
    obtain ⟨q1, q2⟩ := (res_iff (l := l)).1 h
    refine ⟨fun g hg => ?_, fun hm => ?_, q2⟩
    ·rcases List.mem_cons.1 hg with rfl | hg
     ·exact h2
     ·exact ⟨(q1 g hg).1, fun hm => (q1 g hg).2 (List.mem_append.2 (.inl hm))⟩
    ·exact (q1 t hm).2 (by simp)
   ·cases h
  ·rintro ⟨h, n1, n2⟩
   obtain ⟨a, b⟩ := h t List.mem_cons_self
   rw [if_pos (by rw [Bool.and_eq_true, Bool.not_eq_true', ← Bool.not_eq_true, List.contains_iff_mem]; exact ⟨a, b⟩)]
   refine (res_iff (l := l)).2 ⟨fun g hg => ?_, n2⟩
   obtain ⟨a', b'⟩ := h g (List.mem_cons_of_mem _ hg)
   refine ⟨a', fun hm => ?_⟩
   rcases List.mem_append.1 hm with hm | hm
   ·exact b' hm
   ·simp at hm; subst hm; exact n1 hg
structure FitM (S : Sc) (m : Ms) : Prop where
 no : m.fields.length ≤ 16 ∧ m.res.length ≤ 32
 res : ∀ t ∈ m.res, tagB t = true
 rnd : m.res.Nodup
 fld : ∀ f ∈ m.fields, nameB f.name = true ∧ tagB f.tag = true ∧ fieldB S f = true ∧ f.tag ∉ m.res
 nnd : (m.fields.map Fd.name).Nodup
 tnd : (m.fields.map Fd.tag).Nodup
theorem body_iff {S : Sc} {m : Ms} : bodyC S m = 0 ↔ FitM S m := by
 unfold bodyC
 constructor
 ·intro h
  split at h
  ·cases h
  rename_i h1
  split at h
  ·cases h
  rename_i h2
  obtain ⟨q1, q2, q3⟩ := flds_iff.1 h
  obtain ⟨r1, r2⟩ := res_iff.1 (by simpa using h2)
  exact ⟨by omega, fun t ht => (r1 t ht).1, r2, fun f hf => ⟨(q1 f hf).1, (q1 f hf).2.1, (q1 f hf).2.2.1, (q1 f hf).2.2.2.2⟩, q2, q3⟩
 ·intro F
  have := F.no
  rw [if_neg (by omega), if_neg (by rw [Bool.not_eq_true]; exact res_iff.2 ⟨fun t ht => ⟨F.res t ht, by simp⟩, F.rnd⟩)]
  exact flds_iff.2 ⟨fun f hf => ⟨(F.fld f hf).1, (F.fld f hf).2.1, (F.fld f hf).2.2.1, by simp, (F.fld f hf).2.2.2⟩, F.nnd, F.tnd⟩
theorem fOf_tag {m : Ms} {t : Int} (h : (fOf m t).2 = true) : (fOf m t).1 ∈ m.fields ∧ (fOf m t).1.tag = t := by
 have := first_found (p := fun x : Fd => x.tag == t) (z := zFd) (l := m.fields) h
 exact ⟨this.1, eq_of_beq this.2⟩
theorem fit_msgs {S : Sc} (F : FitS S) {m : Ms} (h : m ∈ S.msgs) : FitM S m := body_iff.1 (F.body m h)
theorem hasM_iff {S : Sc} {k : List UInt8} : hasM S k = true ↔ ∃ m ∈ S.msgs, m.name = k := by
 unfold hasM
 rw [found_any, List.any_eq_true]
 simp
end Go.Aw
namespace Go.Aw
open Go.Proofs Go.RowKit
end Go.Aw
namespace Go.Aw
open Go.Proofs Go.RowKit
structure Stp where
 op : Int
 tag : Int
 sub : Int
 deriving DecidableEq
def encSt (s : Stp) : List PV := [.int .i64 s.op, .int .i64 s.tag, .int .i64 s.sub]
def encPt (l : List Stp) : List PV := [.slice (l.map encSt)]
def placeP (l : List Pr) (p : Pr) : Nat := l.findIdx (fun x => x == p)
theorem place_yes {l : List Pr} {p : Pr} (h : p ∈ l) : placeP l p < l.length ∧ l[placeP l p]? = some p := by
 have h1 : placeP l p < l.length := List.findIdx_lt_length_of_exists ⟨p, h, by simp⟩
 refine ⟨h1, ?_⟩
 have h2 : l[placeP l p]? = some l[placeP l p] := List.getElem?_eq_getElem h1
 have h3 : (l[placeP l p] == p) = true := List.findIdx_getElem (p := fun x => x == p) (w := h1)
 rw [h2, show l[placeP l p] = p by simpa using h3]
theorem place_no {l : List Pr} {p : Pr} (h : p ∉ l) : placeP l p = l.length :=
 List.findIdx_eq_length_of_false fun x hx => by
  rw [beq_eq_false_iff_ne]
  rintro rfl
  exact h hx
def intoB (mo mn : Ms) (t : Int) : Bool := (fOf mo t).2 && (fOf mn t).2 && ((fOf mo t).1.label == (fOf mn t).1.label) && ((fOf mo t).1.ty.kind == 7) && ((fOf mn t).1.ty.kind == 7)
def pairO (mo mn : Ms) (t : Int) : Pr := ⟨(fOf mo t).1.ty.name, (fOf mn t).1.ty.name⟩
def stepO (mo mn : Ms) (t : Int) (l : List Pr) : Option Stp :=
 if (fOf mo t).2 = true ∧ (fOf mn t).2 = true ∧ (fOf mo t).1.label = (fOf mn t).1.label then
  (if (fOf mo t).1.ty.kind = 7 ∧ (fOf mn t).1.ty.kind = 7 then some ⟨if (fOf mo t).1.label = 1 then 4 else 3, t, placeP l (pairO mo mn t)⟩
  else if (fOf mo t).1.ty.kind = 2 ∧ (fOf mn t).1.ty.kind = 1 then some ⟨2, t, 0⟩
  else if (fOf mo t).1.ty.kind = (fOf mn t).1.ty.kind ∨ (fOf mo t).1.ty.kind = 1 ∧ (fOf mn t).1.ty.kind = 2 then some ⟨1, t, 0⟩ else none)
 else none
def stepLs (mo mn : Ms) (t : Int) (l : List Pr) : List Pr := if intoB mo mn t = true then addP l (pairO mo mn t) else l
def stepsP (mo mn : Ms) : Nat → Int → List Pr → List Stp × List Pr
 | 0, _, l => ([], l)
 | n + 1, t, l => ((stepO mo mn t l).toList ++ (stepsP mo mn n (t + 1) (stepLs mo mn t l)).1, (stepsP mo mn n (t + 1) (stepLs mo mn t l)).2)
def makeP (S U : Sc) : Nat → Nat → List Pr → List (List Stp)
 | 0, _, _ => []
 | n + 1, i, l => match l[i]? with
  | none => []
  | some p => (stepsP (msgOf S p.o) (msgOf U p.n) 500 1 l).1 :: makeP S U n (i + 1) (stepsP (msgOf S p.o) (msgOf U p.n) 500 1 l).2
def makeL (S U : Sc) : Nat → Nat → List Pr → List Pr
 | 0, _, l => l
 | n + 1, i, l => match l[i]? with
  | none => l
  | some p => makeL S U n (i + 1) (stepsP (msgOf S p.o) (msgOf U p.n) 500 1 l).2
def makeR (S U : Sc) (a b : List UInt8) : List (List Stp) × Int :=
 if checkC S = 0 ∧ checkC U = 0 then (if hasM S a = true ∧ hasM U b = true then (makeP S U 101 0 [⟨a, b⟩], 0) else ([], 14)) else ([], 1)
theorem pref_stepLs (mo mn : Ms) (t : Int) (l : List Pr) : ∀ (i : Nat) p, l[i]? = some p → (stepLs mo mn t l)[i]? = some p := by
 intro i p h
 unfold stepLs addP
 split
 ·split
  ·exact h
  ·rw [List.getElem?_append_left (List.getElem?_eq_some_iff.1 h).1]; exact h
 ·exact h
theorem pref_stepsP (mo mn : Ms) : ∀ (n : Nat) (t : Int) (l : List Pr) (i : Nat) p, l[i]? = some p → (stepsP mo mn n t l).2[i]? = some p
 | 0, t, l, i, p, h => h
 | n + 1, t, l, i, p, h => pref_stepsP mo mn n (t + 1) _ i p (pref_stepLs mo mn t l i p h)
theorem pref_makeL (S U : Sc) : ∀ (n i : Nat) (l : List Pr) (j : Nat) p, l[j]? = some p → (makeL S U n i l)[j]? = some p
 | 0, i, l, j, p, h => h
 | n + 1, i, l, j, p, h => by
  rw [makeL]
  split
  ·exact h
  ·exact pref_makeL S U n (i + 1) _ j p (pref_stepsP _ _ 500 1 l j p h)
theorem intoB_spec {mo mn : Ms} {t : Int} (h : intoB mo mn t = true) : (fOf mo t).2 = true ∧ (fOf mn t).2 = true ∧ (fOf mo t).1.label = (fOf mn t).1.label ∧ (fOf mo t).1.ty.kind = 7 ∧ (fOf mn t).1.ty.kind = 7 := by
 unfold intoB at h
 simp only [Bool.and_eq_true, beq_iff_eq] at h
 obtain ⟨⟨⟨⟨a, b⟩, c⟩, d⟩, e⟩ := h
 exact ⟨a, b, c, d, e⟩
theorem stepLs_ok {S U : Sc} (RS : RightS S) (RU : RightS U) {mo mn : Ms} (hmo : mo ∈ S.msgs) (hmn : mn ∈ U.msgs) {t : Int} {l : List Pr} (h : PairsOK S U l) : PairsOK S U (stepLs mo mn t l) := by
 unfold stepLs
 split
 ·rename_i hb
  obtain ⟨a, b, _, d, e⟩ := intoB_spec hb
  exact addP_ok h (kind7 RS hmo (fOf_tag a).1 d) (kind7 RU hmn (fOf_tag b).1 e)
 ·exact h
theorem stepsP_ok {S U : Sc} (RS : RightS S) (RU : RightS U) {mo mn : Ms} (hmo : mo ∈ S.msgs) (hmn : mn ∈ U.msgs) : ∀ (n : Nat) (t : Int) (l : List Pr), PairsOK S U l → PairsOK S U (stepsP mo mn n t l).2
 | 0, t, l, h => h
 | n + 1, t, l, h => stepsP_ok RS RU hmo hmn n (t + 1) _ (stepLs_ok RS RU hmo hmn h)
theorem makeL_ok {S U : Sc} (RS : RightS S) (RU : RightS U) : ∀ (n i : Nat) (l : List Pr), PairsOK S U l → PairsOK S U (makeL S U n i l)
 | 0, i, l, h => h
 | n + 1, i, l, h => by
  rw [makeL]
  split
  ·exact h
  ·rename_i p hp
   obtain ⟨a, b⟩ := h.here p (List.mem_of_getElem? hp)
   exact makeL_ok RS RU n (i + 1) _ (stepsP_ok RS RU (msgOf_mem a).1 (msgOf_mem b).1 500 1 l h)
theorem make_len {S U : Sc} (RS : RightS S) (RU : RightS U) : ∀ (n i : Nat) (l : List Pr), 101 ≤ n + i → i ≤ l.length → PairsOK S U l → (makeP S U n i l).length + i = (makeL S U n i l).length
 | 0, i, l, hn, hi, h => by
  have := pairs_len h RS.len.2.1 RU.len.2.1
  omega
 | n + 1, i, l, hn, hi, h => by
  rw [makeP, makeL]
  cases hp : l[i]? with
  | none =>
   have := List.getElem?_eq_none_iff.1 hp
   simp only [List.length_nil]
   omega
  | some p =>
   obtain ⟨a, b⟩ := h.here p (List.mem_of_getElem? hp)
   have ok := stepsP_ok RS RU (msgOf_mem a).1 (msgOf_mem b).1 500 1 l h
   have hl : i + 1 ≤ (stepsP (msgOf S p.o) (msgOf U p.n) 500 1 l).2.length := by
    have := (List.getElem?_eq_some_iff.1 (pref_stepsP (msgOf S p.o) (msgOf U p.n) 500 1 l i p hp)).1
    omega
   have := make_len RS RU n (i + 1) _ (by omega) hl ok
   simp only [List.length_cons]
   omega
def stOK (n : Nat) (last : Int) (s : Stp) : Bool := decide (last < s.tag ∧ s.tag ≤ 500) && ((decide (s.op = 1 ∨ s.op = 2) && (s.sub == 0)) || (decide (s.op = 3 ∨ s.op = 4) && decide (0 ≤ s.sub ∧ s.sub < n)))
def partB (n : Nat) : Int → List Stp → Bool
 | _, [] => true
 | last, s :: l => stOK n last s && partB n s.tag l
def progB (p : List (List Stp)) : Bool := decide (1 ≤ p.length ∧ p.length ≤ 100) && p.all (partB p.length 0)
theorem partB_low {n : Nat} {a b : Int} (h : a ≤ b) : ∀ {l : List Stp}, partB n b l = true → partB n a l = true
 | [], _ => rfl
 | s :: l, q => by
  rw [partB, Bool.and_eq_true] at q ⊢
  refine ⟨?_, q.2⟩
  have := q.1
  unfold stOK at this ⊢
  rw [Bool.and_eq_true, decide_eq_true_eq] at this ⊢
  exact ⟨by omega, this.2⟩
theorem stepO_sub {mo mn : Ms} {t : Int} {l : List Pr} {s : Stp} (h : stepO mo mn t l = some s) : s.tag = t ∧ ((s.op = 1 ∨ s.op = 2) ∧ s.sub = 0 ∨ (s.op = 3 ∨ s.op = 4) ∧ s.sub = (placeP l (pairO mo mn t) : Int) ∧ (stepLs mo mn t l)[placeP l (pairO mo mn t)]? = some (pairO mo mn t)) := by
 unfold stepO at h
 split at h
 ·rename_i h1
  split at h
  ·rename_i h2
   injection h with h
   subst h
   refine ⟨rfl, .inr ⟨by split <;> simp, rfl, ?_⟩⟩
   have hb : intoB mo mn t = true := by unfold intoB; simp [h1, h2]
   unfold stepLs
   rw [if_pos hb]
   unfold addP
   split
   ·rename_i h3
    rw [List.contains_iff_mem] at h3
    exact (place_yes h3).2
   ·rename_i h3
    rw [List.contains_iff_mem] at h3
    rw [place_no h3, List.getElem?_append_right (Nat.le_refl _), Nat.sub_self]
    rfl
  ·split at h
   ·injection h with h; subst h; exact ⟨rfl, .inl ⟨.inr rfl, rfl⟩⟩
   ·split at h
    ·injection h with h; subst h; exact ⟨rfl, .inl ⟨.inl rfl, rfl⟩⟩
    ·cases h
 ·cases h
theorem steps_part {mo mn : Ms} {N : Nat} : ∀ (n : Nat) (t : Int) (l : List Pr), t + n ≤ 501 → (stepsP mo mn n t l).2.length ≤ N → partB N (t - 1) (stepsP mo mn n t l).1 = true
 | 0, t, l, _, _ => rfl
 | n + 1, t, l, ht, hN => by
  rw [stepsP] at hN ⊢
  simp only at hN ⊢
  have ih := steps_part (N := N) n (t + 1) (stepLs mo mn t l) (by push_cast at ht; omega) hN
  rw [show t + 1 - 1 = t by omega] at ih
  cases hs : stepO mo mn t l with
  | none => exact partB_low (by omega) ih
  | some s =>
   obtain ⟨a, b⟩ := stepO_sub hs
   show partB N (t - 1) (s :: _) = true
   rw [partB, Bool.and_eq_true]
   refine ⟨?_, by rw [a]; exact ih⟩
   unfold stOK
   rw [Bool.and_eq_true, decide_eq_true_eq]
   refine ⟨by push_cast at ht; omega, ?_⟩
   rw [Bool.or_eq_true, Bool.and_eq_true, Bool.and_eq_true, decide_eq_true_eq, decide_eq_true_eq, decide_eq_true_eq, beq_iff_eq]
   rcases b with ⟨b1, b2⟩ | ⟨b1, b2, b3⟩
   ·exact .inl ⟨b1, b2⟩
   ·refine .inr ⟨b1, by omega, ?_⟩
    have := (List.getElem?_eq_some_iff.1 (pref_stepsP mo mn n (t + 1) _ _ _ b3)).1
    omega
theorem make_parts {S U : Sc} {N : Nat} : ∀ (n i : Nat) (l : List Pr), (makeL S U n i l).length ≤ N → ∀ x ∈ makeP S U n i l, partB N 0 x = true
 | 0, i, l, _, x, hx => by cases hx
 | n + 1, i, l, hN, x, hx => by
  rw [makeP] at hx
  rw [makeL] at hN
  cases hp : l[i]? with
  | none => rw [hp] at hx; cases hx
  | some p =>
   simp only [hp] at hx hN
   rcases List.mem_cons.1 hx with rfl | hx
   ·have hl : (stepsP (msgOf S p.o) (msgOf U p.n) 500 1 l).2.length ≤ N := by
     refine Nat.le_trans ?_ hN
     rcases Nat.eq_zero_or_pos (stepsP (msgOf S p.o) (msgOf U p.n) 500 1 l).2.length with z | z
     ·omega
     ·obtain ⟨q, hq⟩ : ∃ q, (stepsP (msgOf S p.o) (msgOf U p.n) 500 1 l).2[(stepsP (msgOf S p.o) (msgOf U p.n) 500 1 l).2.length - 1]? = some q := ⟨_, List.getElem?_eq_getElem (by omega)⟩
      have := (List.getElem?_eq_some_iff.1 (pref_makeL S U n (i + 1) _ _ q hq)).1
      omega
    exact steps_part 500 1 l (by omega) hl
   ·exact make_parts n (i + 1) _ hN x hx
theorem make_prog {S U : Sc} {a b : List UInt8} (hS : checkC S = 0) (hU : checkC U = 0) (ha : hasM S a = true) (hb : hasM U b = true) :
  progB (makeP S U 101 0 [⟨a, b⟩]) = true ∧ (makeP S U 101 0 [⟨a, b⟩]).length ≤ S.msgs.length * U.msgs.length ∧ ∃ r, makeP S U 101 0 [⟨a, b⟩] = (stepsP (msgOf S a) (msgOf U b) 500 1 [⟨a, b⟩]).1 :: r := by
 have RS := right_of hS
 have RU := right_of hU
 have ok : PairsOK S U [⟨a, b⟩] := ⟨fun p hp => by simp at hp; subst hp; exact ⟨ha, hb⟩, by simp⟩
 have hl := make_len RS RU 101 0 [⟨a, b⟩] (by omega) (by omega) ok
 have ok' := makeL_ok RS RU 101 0 [⟨a, b⟩] ok
 have h100 := pairs_len ok' RS.len.2.1 RU.len.2.1
 have e : makeP S U 101 0 [⟨a, b⟩] = (stepsP (msgOf S a) (msgOf U b) 500 1 [⟨a, b⟩]).1 :: makeP S U 100 1 (stepsP (msgOf S a) (msgOf U b) 500 1 [⟨a, b⟩]).2 := rfl
 refine ⟨?_, ?_, _, e⟩
 ·unfold progB
  rw [Bool.and_eq_true, decide_eq_true_eq, List.all_eq_true]
  refine ⟨⟨by rw [e, List.length_cons]; omega, by omega⟩, fun x hx => ?_⟩
  exact make_parts (N := (makeP S U 101 0 [⟨a, b⟩]).length) 101 0 [⟨a, b⟩] (by omega) x hx
 ·have q := sub_len (b := allPairs S U) ok'.nd fun p hp => by
   obtain ⟨q1, q2⟩ := ok'.here p hp
   obtain ⟨x, hx, ex⟩ := hasM_iff.1 q1
   obtain ⟨y, hy, ey⟩ := hasM_iff.1 q2
   unfold allPairs
   rw [List.mem_flatMap]
   exact ⟨x, hx, List.mem_map.2 ⟨y, hy, by rw [ex, ey]⟩⟩
  have e2 : (allPairs S U).length = S.msgs.length * U.msgs.length := flat_len fun x _ => by simp
  omega
end Go.Aw
namespace Go.Aw.T
open Go.Proofs
def getG {α : Type} (es : List (Int × List α)) (g : Int) : List α := match es.find? (fun e => e.1 == g) with | some e => e.2 | none => []
theorem getG_map {α β : Type} (h : α → β) (g : Int) : ∀ es : List (Int × List α), getG (es.map fun e => (e.1, e.2.map h)) g = (getG es g).map h
 | [] => rfl
 | (k, l) :: es => by
  have ih := getG_map h g es
  unfold getG at ih ⊢
  rw [List.map_cons, List.find?_cons, List.find?_cons]
  simp only
  cases hk : (k == g) with
  | true => rfl
  | false => exact ih
theorem getG_cases {α : Type} (es : List (Int × List α)) (g : Int) : getG es g = [] ∨ ∃ e ∈ es, e.1 = g ∧ getG es g = e.2 := by
 unfold getG
 cases hf : es.find? (fun e => e.1 == g) with
 | none => exact .inl rfl
 | some e => exact .inr ⟨e, List.mem_of_find?_eq_some hf, by simpa using List.find?_some hf, rfl⟩
mutual
def subT {β : Type} (F : List (Int × List (Tr × (Int → β))) → Int → β) : Tr → Int → β
 | .mk _ _ _ es _ => F (subE F es)
def subE {β : Type} (F : List (Int × List (Tr × (Int → β))) → Int → β) : List (Int × List Tr) → List (Int × List (Tr × (Int → β)))
 | [] => []
 | (g, l) :: es => (g, subL F l) :: subE F es
def subL {β : Type} (F : List (Int × List (Tr × (Int → β))) → Int → β) : List Tr → List (Tr × (Int → β))
 | [] => []
 | t :: l => (t, subT F t) :: subL F l
end
theorem subL_map {β : Type} (F : List (Int × List (Tr × (Int → β))) → Int → β) : ∀ l : List Tr, subL F l = l.map fun x => (x, subT F x)
 | [] => by rw [subL]; rfl
 | t :: l => by rw [subL, subL_map F l]; rfl
theorem subE_map {β : Type} (F : List (Int × List (Tr × (Int → β))) → Int → β) : ∀ es : List (Int × List Tr), subE F es = es.map fun e => (e.1, e.2.map fun x => (x, subT F x))
 | [] => by rw [subE]; rfl
 | (g, l) :: es => by rw [subE, subE_map F es, subL_map]; rfl
theorem subT_eq {β : Type} (F : List (Int × List (Tr × (Int → β))) → Int → β) (t : Tr) : subT F t = F (t.ents.map fun e => (e.1, e.2.map fun x => (x, subT F x))) := by
 cases t
 rw [subT, subE_map]
 rfl
def lastL {α : Type} (s : Stp) (l : List α) : List α := if s.op = 4 then l.drop (l.length - 1) else l
theorem lastL_map {α β : Type} (s : Stp) (h : α → β) (l : List α) : lastL s (l.map h) = (lastL s l).map h := by
 unfold lastL
 split
 ·rw [List.map_drop, List.length_map]
 ·rfl
theorem lastL_mem {α : Type} {s : Stp} {l : List α} {x : α} (h : x ∈ lastL s l) : x ∈ l := by
 unfold lastL at h
 split at h
 ·exact List.mem_of_mem_drop h
 ·exact h
theorem lastL_len {α : Type} (s : Stp) (l : List α) : (lastL s l).length ≤ l.length ∧ (1 ≤ l.length → 1 ≤ (lastL s l).length) ∧ (s.op = 4 → (lastL s l).length ≤ 1) := by
 unfold lastL
 split
 ·rw [List.length_drop]; omega
 ·omega
def kindOK (s : Stp) (l : List Tr) : Bool := if s.op = 2 then l.all (fun t => decide (t.kind = 1)) else if s.op = 3 ∨ s.op = 4 then l.all (fun t => decide (t.kind = 3)) else true
def clampT (t : Tr) : Tr := .mk t.kind (clampV t.n) t.s t.ents t.rest
def run1 (s : Stp) (x : Tr × (Int → Tr)) : Tr := if s.op = 2 then clampT x.1 else if s.op = 3 ∨ s.op = 4 then x.2 s.sub else x.1
def stepR (s : Stp) (l : List (Tr × (Int → Tr))) : List Tr :=
 if kindOK s (l.map Prod.fst) = false then [] else if s.op = 4 ∧ ((lastL s l).map (run1 s)).any (fun y => y.ents.isEmpty) = true then [] else (lastL s l).map (run1 s)
def entR (R : List (Int × List (Tr × (Int → Tr)))) (s : Stp) : List (Int × List Tr) := if (stepR s (getG R s.tag)).isEmpty = true then [] else [(s.tag, stepR s (getG R s.tag))]
def partO (P : List (List Stp)) (i : Int) : List Stp := P.getD i.toNat []
def runF (P : List (List Stp)) : Tr → Int → Tr := subT fun R i => .mk 3 0 [] ((partO P i).flatMap (entR R)) []
def run1F (P : List (List Stp)) (s : Stp) (t : Tr) : Tr := if s.op = 2 then clampT t else if s.op = 3 ∨ s.op = 4 then runF P t s.sub else t
def stepF (P : List (List Stp)) (s : Stp) (l : List Tr) : List Tr :=
 if kindOK s l = false then [] else if s.op = 4 ∧ ((lastL s l).map (run1F P s)).any (fun y => y.ents.isEmpty) = true then [] else (lastL s l).map (run1F P s)
def entF (P : List (List Stp)) (es : List (Int × List Tr)) (s : Stp) : List (Int × List Tr) := if (stepF P s (getG es s.tag)).isEmpty = true then [] else [(s.tag, stepF P s (getG es s.tag))]
theorem stepR_F (P : List (List Stp)) (s : Stp) (l : List Tr) : stepR s (l.map fun x => (x, runF P x)) = stepF P s l := by
 unfold stepR stepF
 rw [List.map_map, lastL_map, List.map_map]
 have e1 : (Prod.fst ∘ fun x : Tr => (x, runF P x)) = id := rfl
 have e2 : (run1 s ∘ fun x : Tr => (x, runF P x)) = run1F P s := rfl
 rw [e1, e2, List.map_id]
theorem runF_eq (P : List (List Stp)) (t : Tr) (i : Int) : runF P t i = .mk 3 0 [] ((partO P i).flatMap (entF P t.ents)) [] := by
 have h : runF P t = (fun R i => Tr.mk 3 0 [] ((partO P i).flatMap (entR R)) []) (t.ents.map fun e => (e.1, e.2.map fun x => (x, runF P x))) := by
  conv => lhs; unfold runF
  rw [subT_eq]
  rfl
 rw [h]
 simp only
 congr 1
 congr 1
 funext s
 unfold entR entF
 rw [getG_map, stepR_F]
def lookR (s : Stp) (l : List (Tr × (Int → Nat))) : Nat := if (s.op = 3 ∨ s.op = 4) ∧ kindOK s (l.map Prod.fst) = true then ((lastL s l).map fun x => x.2 s.sub).sum else 0
def lookF (P : List (List Stp)) : Tr → Int → Nat := subT fun R i => ((partO P i).map fun s => 1 + lookR s (getG R s.tag)).sum
def lookS (P : List (List Stp)) (s : Stp) (l : List Tr) : Nat := if (s.op = 3 ∨ s.op = 4) ∧ kindOK s l = true then ((lastL s l).map fun x => lookF P x s.sub).sum else 0
theorem lookF_eq (P : List (List Stp)) (t : Tr) (i : Int) : lookF P t i = ((partO P i).map fun s => 1 + lookS P s (getG t.ents s.tag)).sum := by
 have h : lookF P t = (fun R i => ((partO P i).map fun s => 1 + lookR s (getG R s.tag)).sum) (t.ents.map fun e => (e.1, e.2.map fun x => (x, lookF P x))) := by
  conv => lhs; unfold lookF
  rw [subT_eq]
  rfl
 rw [h]
 simp only
 congr 1
 congr 1
 funext s
 congr 1
 unfold lookR lookS
 rw [getG_map, List.map_map, lastL_map, List.map_map]
 have e1 : (Prod.fst ∘ fun x : Tr => (x, lookF P x)) = id := rfl
 rw [e1, List.map_id]
 rfl
def runP (P : List (List Stp)) (t : Tr) : Tr × Int := if progB P = false ∨ t.kind ≠ 3 ∨ okT t = false then (zeroTr, 1) else (runF P t 0, 0)
def lookP (P : List (List Stp)) (t : Tr) : Nat := if progB P = false ∨ t.kind ≠ 3 ∨ okT t = false then 0 else lookF P t 0
theorem wrap_more (a : Int) (n : Nat) : IntKind.wrap .i64 (IntKind.wrap .i64 a + (n : Int)) = IntKind.wrap .i64 (a + (n : Int)) := by
 have e : (2 : Int) ^ 64 = 18446744073709551616 := by decide
 have e' : (2 : Int) ^ (64 - 1) = 9223372036854775808 := by decide
 simp only [IntKind.wrap, IntKind.bits, IntKind.signed, e, e', Bool.true_and, decide_eq_true_eq]
 split <;> split <;> split <;> omega
end Go.Aw.T
namespace Go.Aw
open Go.Proofs Go.RowKit
end Go.Aw
namespace Go.Aw
open Go.RowKit
variable {P : Program}
end Go.Aw
namespace Go.Aw
open Go.RowKit
variable {P : Program}
end Go.Aw
namespace Go.Aw
open Go.RowKit
variable {P : Program}
section
variable {nt : Fm} {ops : Array Oper} {L : List (Oper × Rec)} {nx dc ex : Nat} {T0 : Nat → Option AV} {H0 : Nat → Option Blk} {w0 : World} {X I0 : Nat → Prop}
end
end Go.Aw
namespace Go.Aw
open Go.RowKit
variable {P : Program}
end Go.Aw
namespace Go.Aw.T
open Go.Proofs Go.RowKit
theorem law00_next (l : List Int) (a : Nat) (ha : a ≤ 1000) (hl : l.length ≤ 200) : LFn Tryd.prog 90 [.v (.slice (l.map encI)), .ptr 0 0 1 [[.int .i64 (a : Int)]]] [none, some (.row 1 [[.int .i64 ((nextF l a).2 : Int)]])] (.int .i64 (nextF l a).1) := by
 refine LFn.of Tryd.func90 rfl (by decide) Tryd.ntmps90 Tryd.results90 (Nat.le_of_ble_eq_true rfl) rfl fun val => ?_
 simp only [laT, laH, laPins, LA.av, List.length_cons, List.length_nil]
 refine AW.rT (by rfl) fun K hK => ?_
 simp -implicitDefEqProofs only [go_sem, Nat.reduceAdd, liftE_cons, liftE_nil, List.map_cons, List.map_nil]
 apply hK; clear hK K
 refine AW.seq ?_
 by_cases h0 : l = []
 ·subst h0
  refine AW.rT (by rfl) fun K hK => ?_
  simp -implicitDefEqProofs only [go_sem, ↓reduceIte, Nat.reduceAdd, reduceCtorEq, List.map_nil]
  apply hK; clear hK K
  refine AW.cT rfl ?_
  refine AW.rT (by rfl) fun K hK => ?_
  simp -implicitDefEqProofs only [go_sem, Nat.reduceAdd]
  apply hK; clear hK K
  refine AW.ret (show _ ∧ ((∃ l, _ ∧ _) ∧ (_ ∧ _ ∧ _) ∧ True) from ⟨?_, ⟨1, ?_, ?_⟩, ⟨rfl, by decide, rfl⟩, trivial⟩) <;> simp -implicitDefEqProofs only [go_sem, ↓reduceIte, Nat.reduceEqDiff, liftE_cons, liftE_nil, List.map_cons, List.map_nil, nextF]
 have hn : 0 < l.length := List.length_pos_iff.2 h0
 have b0 : ((l.length : Int) == 0) = false := beqf (by omega)
 have NF : nextF l a = (andI .i64 (l.getD (((a + 1) * 7 + (a + 1) / l.length) % l.length) 0) 4611686018427387903, a + 1) := by unfold nextF; rw [if_neg h0]
 have W1 : IntKind.wrap .i64 ((a : Int) + 1) = ((a + 1 : Nat) : Int) := by rw [w64] <;> omega
 refine AW.rT (by rfl) fun K hK => ?_
 simp -implicitDefEqProofs only [go_sem, ↓reduceIte, Nat.reduceAdd, reduceCtorEq, List.length_map, b0]
 apply hK; clear hK K
 refine AW.cF rfl ?_
 refine AW.skip ?_
 simp only [andThen]
 refine AW.rT (by rfl) fun K hK => ?_
 simp -implicitDefEqProofs only [go_sem, ↓reduceIte, Nat.reduceAdd, Nat.reduceEqDiff, Nat.reduceLeDiff, W1, List.set_cons_zero]
 apply hK; clear hK K
 have hz : ((l.length : Int) = 0) = False := eq_false (by omega)
 have hd : (((a + 1 : Nat) : Int)).tdiv (l.length : Int) = (((a + 1) / l.length : Nat) : Int) := (Int.ofNat_tdiv _ _).symm
 have hdl : (a + 1) / l.length ≤ a + 1 := Nat.div_le_self _ _
 have wm : IntKind.wrap .i64 (((a + 1 : Nat) : Int) * 7) = (((a + 1) * 7 : Nat) : Int) := by rw [w64] <;> omega
 generalize (a + 1) / l.length = d at hd hdl NF
 have wd : IntKind.wrap .i64 ((d : Nat) : Int) = ((d : Nat) : Int) := by rw [w64] <;> omega
 have ws : IntKind.wrap .i64 ((((a + 1) * 7 : Nat) : Int) + ((d : Nat) : Int)) = (((a + 1) * 7 + d : Nat) : Int) := by rw [w64] <;> omega
 have CP := Go.Aw.law00_Place (((a + 1) * 7 + d : Nat) : Int) (l.length : Int) (by omega) (by omega) (by omega) (by omega)
 rw [show (((a + 1) * 7 + d : Nat) : Int) % (l.length : Int) = ((((a + 1) * 7 + d) % l.length : Nat) : Int) from (Int.natCast_emod _ _).symm] at CP
 have hq : ((a + 1) * 7 + d) % l.length < l.length := Nat.mod_lt _ hn
 obtain ⟨x, hx⟩ : ∃ x, l[((a + 1) * 7 + d) % l.length]? = some x := ⟨_, List.getElem?_eq_getElem hq⟩
 have hxd : l.getD (((a + 1) * 7 + d) % l.length) 0 = x := by rw [List.getD_eq_getElem?_getD, hx]; rfl
 rw [hxd] at NF
 generalize ((a + 1) * 7 + d) % l.length = q at CP hq hx
 have ⟨hx1, hx2, hx3⟩ := at_map' encI hx
 have hq1 : ((q : Int) < (l.length : Int)) = True := eq_true (by omega)
 refine AW.dT mixed (by rfl) (by decide +kernel) fun K hK => ?_
 simp -implicitDefEqProofs only [go_sem, ↓reduceIte, Nat.reduceAdd, Nat.reduceEqDiff, reduceCtorEq, List.length_map, hz, hd, wd, wm, ws]
 refine ⟨.pure _, CP, ?_⟩
 try simp -implicitDefEqProofs only [go_sem, ↓reduceIte, Nat.reduceAdd, Nat.reduceEqDiff, hx1, hq1, hx3, encI, List.length_map]
 refine ⟨heapOK_nil rfl, ?_⟩
 apply hK; clear hK K
 refine AW.ret (show _ ∧ ((∃ l, _ ∧ _) ∧ (_ ∧ _ ∧ _) ∧ True) from ⟨?_, ⟨1, ?_, ?_⟩, ⟨rfl, by decide, rfl⟩, trivial⟩) <;> simp -implicitDefEqProofs only [go_sem, ↓reduceIte, Nat.reduceEqDiff, liftE_cons, liftE_nil, List.map_cons, List.map_nil, NF]
end Go.Aw.T
namespace Go.Aw.T
open Go.Proofs Go.RowKit
def atH (a : Nat) : List (Nat × Blk) := [(0, .row 1 [[.p (.int .i64 (a : Int))]])]
def FitOK (S : Sc) (l : List Int) (d : Nat) : Prop := ∀ (k : List UInt8) (a : Nat), a ≤ 900 → (msOf S k).2 = true → DFn Tryd.prog 60 [.p (.agg (encSc S)), .p (.str k), .p (.slice (l.map encI)), .ptr 0 0 0, .p (.int .i64 ((5 - d : Nat) : Int))] (atH a) 1 [0] (.p (.agg (encTr (fitF S l d k a).1))) (atH (fitF S l d k a).2) 0
theorem at_root {s : St} {args : List AV} {a b : Nat} (h : args[3]? = some (.ptr 0 0 0)) (hs : s.T 3 = some (.ptr 0 0 0)) : ∀ l ∈ ([0] : List Nat), l < 1 ∧ rootOK s args (atH a) (atH b) [3] (fun k => k) l := by
 intro k hk
 simp only [List.mem_singleton] at hk
 subst hk
 exact ⟨by decide, .inl ⟨3, 0, 0, 1, _, _, by simp, h, hs, rfl, rfl, rfl, by decide⟩⟩
theorem Ghost.exH {nt : Fm} {s : St} {l i j sz : Nat} {es : List (List AV)} {e : List AV} {ps : List (List PV)} (hl : s.H l = some (.row sz es)) (hi : es[i]? = some e) (hj : e[j]? = some (.ex ps)) : Ghost nt s ⟨s.T, upd s.H l (some (.row sz (es.set i (e.set j (.p (.slice ps)))))), s.nx⟩ :=
 Ghost.weakH hl hi hj rfl fun _ _ _ _ h => by
  cases h with
  | ex _ h => exact .p h
def ve1 (t : Tr) (b : Nat) : St := ⟨ofL [(3, .ptr 0 0 0), (10, .ptr 3 0 0)], ofH [(0, .row 1 [[.p (.int .i64 (b : Int))]]), (3, .row 5 [cellsT t])], 4⟩
theorem one_end {args : List AV} {t : Tr} {a b : Nat} (h : args[3]? = some (.ptr 0 0 0)) : EndD Tryd.prog #[ResultVar.cell 10 39] args (atH a) 1 [0] (.p (.agg (encTr t))) (atH b) 0 [3] .ret (ve1 t b) := by
 refine ⟨fun k => k, [.p (.agg (encTr t))], ⟨?_, trivial⟩, rfl, rfl, ?_, ?_, ?_⟩
 ·simp only [ve1, cellsT, encTr_eq]
  simp -implicitDefEqProofs only [go_sem, ↓reduceIte, Nat.reduceAdd, Nat.reduceEqDiff, Nat.reduceLeDiff, reduceCtorEq]
  done
 ·simp only [atH, ve1]
  simp -implicitDefEqProofs only [go_sem, ↓reduceIte, List.forall_mem_cons, List.not_mem_nil, false_implies, implies_true]
  first | done | decide
 ·simp [atH]
 ·exact at_root h rfl
def vr0 (S : Sc) (f : Fd) (l : List Int) (d : Nat) (v : Int) (a : Nat) : St := ⟨ofL [(2, .p (.slice (l.map encI))), (3, .ptr 0 0 0), (4, .p (.int .i64 ((5 - d : Nat) : Int))), (5, .ptr 1 0 0), (6, .ptr 2 0 0), (10, .ptr 3 0 0), (11, .p (.int .i64 v))],
 ofH [(0, .row 1 [[.p (.int .i64 (a : Int))]]), (1, .row 4 [cellsSc S]), (2, .row 5 [cellsFd f]), (3, .row 5 [[.p (.int .i64 0), .p (.int .i64 0), .p (.str []), .ex [], .ex []]])], 4⟩
def vr9 (S : Sc) (f : Fd) (l : List Int) (d : Nat) (v : Int) (a : Nat) (b : Bool) : St := ⟨ofL [(2, .p (.slice (l.map encI))), (3, .ptr 0 0 0), (4, .p (.int .i64 ((5 - d : Nat) : Int))), (5, .ptr 1 0 0), (6, .ptr 2 0 0), (10, .ptr 3 0 0), (11, .p (.int .i64 v)), (39, .p (.bool b))],
 ofH [(0, .row 1 [[.p (.int .i64 (a : Int))]]), (1, .row 4 [cellsSc S]), (2, .row 5 [cellsFd f]), (3, .row 5 [[.p (.int .i64 0), .p (.int .i64 0), .p (.str []), .ex [], .ex []]])], 4⟩
theorem law00_one (S : Sc) (l : List Int) (hl : l.length ≤ 200) (f : Fd) (d a : Nat) (ha : a ≤ 890) (h1 : 1 ≤ f.ty.kind) (h7 : f.ty.kind ≤ 7) (hd : f.ty.kind = 7 → ∃ e, d = e + 1 ∧ d ≤ 4 ∧ FitOK S l e ∧ (msOf S f.ty.name).2 = true) :
  DFn Tryd.prog 91 [.p (.agg (encSc S)), .p (.agg (encFd f)), .p (.slice (l.map encI)), .ptr 0 0 0, .p (.int .i64 ((5 - d : Nat) : Int))] (atH a) 1 [0] (.p (.agg (encTr (oneF l (subF S l d) f a).1))) (atH (oneF l (subF S l d) f a).2) 0 := by
 have np := nextF_pos l a
 have CN := law00_next l a (by omega) hl
 refine DFn.of [3] Tryd.func91 rfl (by decide) Tryd.ntmps91 Tryd.results91 (Nat.le_of_ble_eq_true rfl) (by simp) fun val => ?_
 simp only [avT, atH]
 refine AW.rT (by rfl) fun K hK => ?_
 simp -implicitDefEqProofs only [go_sem, ↓reduceIte, Nat.reduceAdd, Nat.reduceEqDiff, encSc, encFd]
 apply hK; clear hK K
 refine AW.rT (by rfl) fun K hK => ?_
 simp -implicitDefEqProofs only [go_sem, ↓reduceIte, Nat.reduceAdd, Nat.reduceEqDiff, reduceCtorEq]
 refine ⟨.lend [none, some 0] [.v (.slice (l.map encI)), .ptr 0 0 1 [[.int .i64 (a : Int)]]] [none, some (.row 1 [[.int .i64 ((nextF l a).2 : Int)]])] (.int .i64 (nextF l a).1), ⟨CN, rfl, ?_⟩, ?_⟩
 ·simp -implicitDefEqProofs only [go_sem, ↓reduceIte, Nat.reduceEqDiff, reduceCtorEq, liftE_cons, liftE_nil, List.map_cons, List.map_nil, and_self]
 simp -implicitDefEqProofs only [go_sem, Nat.reduceAdd, liftE_cons, liftE_nil, List.map_cons, List.map_nil]
 apply hK; clear hK K
 refine AW.ghost (s' := vr0 S f l d (nextF l a).1 (nextF l a).2) ?_ ?_
 ·simp only [vr0, cellsSc, cellsFd]
  refine Ghost.sub ?_ ?_ <;> simp -implicitDefEqProofs only [go_sem, ↓reduceIte, Nat.reduceEqDiff, reduceCtorEq, List.forall_mem_cons, List.not_mem_nil, false_implies, implies_true, and_self, List.all_cons, List.all_nil, Nat.reduceLT, labsInL, AV.labsIn]
  done
 have OF : ∀ (h6 : f.ty.kind ≤ 6), oneF l (subF S l d) f a = (leafF f.ty.kind (nextF l a).1, (nextF l a).2) := fun h6 => by unfold oneF; rw [if_pos ⟨h1, h6⟩]
 have O7 : ∀ (h6 : f.ty.kind = 7), oneF l (subF S l d) f a = subF S l d f.ty.name (nextF l a).2 := fun h6 => by unfold oneF; rw [if_neg (by omega)]
 generalize (nextF l a).1 = v at np OF
 generalize (nextF l a).2 = b at np OF O7
 obtain ⟨np1, np2, np3, np4⟩ := np
 simp only [vr0, cellsSc, cellsFd]
 refine AW.seq ?_
 refine AW.rT (by rfl) fun K hK => ?_
 simp -implicitDefEqProofs only [go_sem, ↓reduceIte, Nat.reduceAdd, Nat.reduceEqDiff, reduceCtorEq]
 apply hK; clear hK K
 refine AW.block ?_
 by_cases k1 : f.ty.kind = 1
 ·have e1 := eqb k1
  have HH : oneF l (subF S l d) f a = (.mk 1 (v % 4294967296 - 2147483648) [] [] [], b) := by rw [OF (by omega)]; unfold leafF; rw [if_pos k1]
  have rm : v.tmod 4294967296 = v % 4294967296 := Int.tmod_eq_emod_of_nonneg np1
  have hz : ((4294967296 : Int) = 0) = False := by simp
  have wq : IntKind.wrap .i64 (v % 4294967296) = v % 4294967296 := by rw [w64] <;> omega
  have wr : IntKind.wrap .i64 (v % 4294967296 - 2147483648) = v % 4294967296 - 2147483648 := by rw [w64] <;> omega
  refine AW.rT (by rfl) fun K hK => ?_
  simp -implicitDefEqProofs only [go_sem, ↓reduceIte, Nat.reduceAdd, e1]
  apply hK; clear hK K
  refine AW.cT rfl ?_
  refine AW.rT (by rfl) fun K hK => ?_
  simp -implicitDefEqProofs only [go_sem, ↓reduceIte, Nat.reduceAdd, Nat.reduceEqDiff, Nat.reduceLeDiff, reduceCtorEq, rm, hz, wr, List.set_cons_zero]
  apply hK; clear hK K
  rw [HH]
  refine AW.ghost (s' := ve1 (.mk 1 (v % 4294967296 - 2147483648) [] [] []) b) (Ghost.trans (Ghost.exH (l := 3) (i := 0) (j := 3) rfl rfl rfl) (Ghost.trans (Ghost.exH (l := 3) (i := 0) (j := 4) rfl rfl rfl) ?_)) ?_
  ·simp only [ve1, cellsT, Tr.kind, Tr.n, Tr.s, Tr.ents, Tr.rest, List.map_nil]
   refine Ghost.sub ?_ ?_ <;> simp -implicitDefEqProofs only [go_sem, ↓reduceIte, Nat.reduceEqDiff, reduceCtorEq, List.set_cons_zero, List.set_cons_succ, List.forall_mem_cons, List.not_mem_nil, false_implies, implies_true, and_self, List.all_cons, List.all_nil, Nat.reduceLT, labsInL, AV.labsIn]
   done
  exact AW.ret (one_end rfl)
 have e1 := beqf k1
 refine AW.rT (by rfl) fun K hK => ?_
 simp -implicitDefEqProofs only [go_sem, ↓reduceIte, Nat.reduceAdd, e1]
 apply hK; clear hK K
 refine AW.cF rfl ?_
 by_cases k2 : f.ty.kind = 2
 ·have e1 := eqb k2
  have HH : oneF l (subF S l d) f a = (.mk 1 (v - 2305843009213693952) [] [] [], b) := by rw [OF (by omega)]; unfold leafF; rw [if_neg k1, if_pos k2]
  have wr : IntKind.wrap .i64 (v - 2305843009213693952) = v - 2305843009213693952 := by rw [w64] <;> omega
  refine AW.rT (by rfl) fun K hK => ?_
  simp -implicitDefEqProofs only [go_sem, ↓reduceIte, Nat.reduceAdd, Nat.reduceEqDiff, e1]
  apply hK; clear hK K
  refine AW.cT rfl ?_
  refine AW.rT (by rfl) fun K hK => ?_
  simp -implicitDefEqProofs only [go_sem, ↓reduceIte, Nat.reduceAdd, Nat.reduceEqDiff, Nat.reduceLeDiff, reduceCtorEq, wr, List.set_cons_zero]
  apply hK; clear hK K
  rw [HH]
  refine AW.ghost (s' := ve1 (.mk 1 (v - 2305843009213693952) [] [] []) b) (Ghost.trans (Ghost.exH (l := 3) (i := 0) (j := 3) rfl rfl rfl) (Ghost.trans (Ghost.exH (l := 3) (i := 0) (j := 4) rfl rfl rfl) ?_)) ?_
  ·simp only [ve1, cellsT, Tr.kind, Tr.n, Tr.s, Tr.ents, Tr.rest, List.map_nil]
   refine Ghost.sub ?_ ?_ <;> simp -implicitDefEqProofs only [go_sem, ↓reduceIte, Nat.reduceEqDiff, reduceCtorEq, List.set_cons_zero, List.set_cons_succ, List.forall_mem_cons, List.not_mem_nil, false_implies, implies_true, and_self, List.all_cons, List.all_nil, Nat.reduceLT, labsInL, AV.labsIn]
   done
  exact AW.ret (one_end rfl)
 have e2 := beqf k2
 refine AW.rT (by rfl) fun K hK => ?_
 simp -implicitDefEqProofs only [go_sem, ↓reduceIte, Nat.reduceAdd, Nat.reduceEqDiff, e2]
 apply hK; clear hK K
 refine AW.cF rfl ?_
 by_cases k3 : f.ty.kind = 3
 ·have e1 := eqb k3
  have HH : oneF l (subF S l d) f a = (.mk 1 (v % 2) [] [] [], b) := by rw [OF (by omega)]; unfold leafF; rw [if_neg k1, if_neg k2, if_pos k3]
  have rm : v.tmod 2 = v % 2 := Int.tmod_eq_emod_of_nonneg np1
  have hz : ((2 : Int) = 0) = False := by simp
  have wr : IntKind.wrap .i64 (v % 2) = v % 2 := by rw [w64] <;> omega
  refine AW.rT (by rfl) fun K hK => ?_
  simp -implicitDefEqProofs only [go_sem, ↓reduceIte, Nat.reduceAdd, Nat.reduceEqDiff, e1]
  apply hK; clear hK K
  refine AW.cT rfl ?_
  refine AW.rT (by rfl) fun K hK => ?_
  simp -implicitDefEqProofs only [go_sem, ↓reduceIte, Nat.reduceAdd, Nat.reduceEqDiff, Nat.reduceLeDiff, reduceCtorEq, rm, hz, List.set_cons_zero]
  apply hK; clear hK K
  rw [HH]
  refine AW.ghost (s' := ve1 (.mk 1 (v % 2) [] [] []) b) (Ghost.trans (Ghost.exH (l := 3) (i := 0) (j := 3) rfl rfl rfl) (Ghost.trans (Ghost.exH (l := 3) (i := 0) (j := 4) rfl rfl rfl) ?_)) ?_
  ·simp only [ve1, cellsT, Tr.kind, Tr.n, Tr.s, Tr.ents, Tr.rest, List.map_nil]
   refine Ghost.sub ?_ ?_ <;> simp -implicitDefEqProofs only [go_sem, ↓reduceIte, Nat.reduceEqDiff, reduceCtorEq, List.set_cons_zero, List.set_cons_succ, List.forall_mem_cons, List.not_mem_nil, false_implies, implies_true, and_self, List.all_cons, List.all_nil, Nat.reduceLT, labsInL, AV.labsIn]
   done
  exact AW.ret (one_end rfl)
 have e3 := beqf k3
 refine AW.rT (by rfl) fun K hK => ?_
 simp -implicitDefEqProofs only [go_sem, ↓reduceIte, Nat.reduceAdd, Nat.reduceEqDiff, e3]
 apply hK; clear hK K
 refine AW.cF rfl ?_
 by_cases k6 : f.ty.kind = 6
 ·have e1 := eqb k6
  have HH : oneF l (subF S l d) f a = (.mk 1 (v % 5) [] [] [], b) := by rw [OF (by omega)]; unfold leafF; rw [if_neg k1, if_neg k2, if_neg k3, if_pos k6]
  have rm : v.tmod 5 = v % 5 := Int.tmod_eq_emod_of_nonneg np1
  have hz : ((5 : Int) = 0) = False := by simp
  have wr : IntKind.wrap .i64 (v % 5) = v % 5 := by rw [w64] <;> omega
  refine AW.rT (by rfl) fun K hK => ?_
  simp -implicitDefEqProofs only [go_sem, ↓reduceIte, Nat.reduceAdd, Nat.reduceEqDiff, e1]
  apply hK; clear hK K
  refine AW.cT rfl ?_
  refine AW.rT (by rfl) fun K hK => ?_
  simp -implicitDefEqProofs only [go_sem, ↓reduceIte, Nat.reduceAdd, Nat.reduceEqDiff, Nat.reduceLeDiff, reduceCtorEq, rm, hz, List.set_cons_zero]
  apply hK; clear hK K
  rw [HH]
  refine AW.ghost (s' := ve1 (.mk 1 (v % 5) [] [] []) b) (Ghost.trans (Ghost.exH (l := 3) (i := 0) (j := 3) rfl rfl rfl) (Ghost.trans (Ghost.exH (l := 3) (i := 0) (j := 4) rfl rfl rfl) ?_)) ?_
  ·simp only [ve1, cellsT, Tr.kind, Tr.n, Tr.s, Tr.ents, Tr.rest, List.map_nil]
   refine Ghost.sub ?_ ?_ <;> simp -implicitDefEqProofs only [go_sem, ↓reduceIte, Nat.reduceEqDiff, reduceCtorEq, List.set_cons_zero, List.set_cons_succ, List.forall_mem_cons, List.not_mem_nil, false_implies, implies_true, and_self, List.all_cons, List.all_nil, Nat.reduceLT, labsInL, AV.labsIn]
   done
  exact AW.ret (one_end rfl)
 have e6 := beqf k6
 refine AW.rT (by rfl) fun K hK => ?_
 simp -implicitDefEqProofs only [go_sem, ↓reduceIte, Nat.reduceAdd, Nat.reduceEqDiff, e6]
 apply hK; clear hK K
 refine AW.cF rfl ?_
 have kt : ∀ (c : Nat), v % 6 = (c : Int) → leafF f.ty.kind v = .mk 2 0 (grN.take ([0, 1, 2, 4, 6, 7].getD c 0)) [] [] := fun c hcv => by
  unfold leafF cutF
  rw [if_neg k1, if_neg k2, if_neg k3, if_neg k6, hcv]
  rfl
 refine AW.cut (fun b' : Bool => vr9 S f l d v b b') (fun b' => b' = decide (f.ty.kind ≠ 7)) ?_ fun b' hb' => ?_
 ·by_cases k7 : f.ty.kind = 7
  ·have e4 := beqf (show f.ty.kind ≠ 4 by omega)
   have e5 := beqf (show f.ty.kind ≠ 5 by omega)
   refine AW.rT (by rfl) fun K hK => ?_
   simp -implicitDefEqProofs only [go_sem, ↓reduceIte, Nat.reduceAdd, Nat.reduceEqDiff, e4]
   apply hK; clear hK K
   refine AW.cF rfl ?_
   refine AW.rE (by rfl) fun K hK => ?_
   simp -implicitDefEqProofs only [go_sem, ↓reduceIte, Nat.reduceAdd, Nat.reduceEqDiff, e5]
   apply hK; clear hK K
   simp only [andThen]
   refine ⟨false, by simp [k7], ?_⟩
   simp only [vr9, cellsSc, cellsFd]
   refine Ghost.sub ?_ ?_ <;> simp -implicitDefEqProofs only [go_sem, ↓reduceIte, Nat.reduceEqDiff, reduceCtorEq, List.forall_mem_cons, List.not_mem_nil, false_implies, implies_true, and_self, List.all_cons, List.all_nil, Nat.reduceLT, labsInL, AV.labsIn]
   done
  by_cases k4 : f.ty.kind = 4
  ·have e4 := eqb k4
   refine AW.rT (by rfl) fun K hK => ?_
   simp -implicitDefEqProofs only [go_sem, ↓reduceIte, Nat.reduceAdd, Nat.reduceEqDiff, e4]
   apply hK; clear hK K
   refine AW.cT rfl ?_
   refine AW.skip ?_
   simp only [andThen]
   refine ⟨true, by simp [k7], ?_⟩
   simp only [vr9, cellsSc, cellsFd]
   refine Ghost.sub ?_ ?_ <;> simp -implicitDefEqProofs only [go_sem, ↓reduceIte, Nat.reduceEqDiff, reduceCtorEq, List.forall_mem_cons, List.not_mem_nil, false_implies, implies_true, and_self, List.all_cons, List.all_nil, Nat.reduceLT, labsInL, AV.labsIn]
   done
  ·have e4 := beqf k4
   have e5 := eqb (show f.ty.kind = 5 by omega)
   refine AW.rT (by rfl) fun K hK => ?_
   simp -implicitDefEqProofs only [go_sem, ↓reduceIte, Nat.reduceAdd, Nat.reduceEqDiff, e4]
   apply hK; clear hK K
   refine AW.cF rfl ?_
   refine AW.rE (by rfl) fun K hK => ?_
   simp -implicitDefEqProofs only [go_sem, ↓reduceIte, Nat.reduceAdd, Nat.reduceEqDiff, e5]
   apply hK; clear hK K
   simp only [andThen]
   refine ⟨true, by simp [k7], ?_⟩
   simp only [vr9, cellsSc, cellsFd]
   refine Ghost.sub ?_ ?_ <;> simp -implicitDefEqProofs only [go_sem, ↓reduceIte, Nat.reduceEqDiff, reduceCtorEq, List.forall_mem_cons, List.not_mem_nil, false_implies, implies_true, and_self, List.all_cons, List.all_nil, Nat.reduceLT, labsInL, AV.labsIn]
   done
 simp only [vr9, cellsSc, cellsFd]
 by_cases k7 : f.ty.kind = 7
 ·have hb : b' = false := by rw [hb']; simp [k7]
  subst hb
  obtain ⟨q, rfl, hd4, FT, hM⟩ := hd k7
  have CT := FT f.ty.name b (by omega) hM
  have OO : oneF l (subF S l (q + 1)) f a = fitF S l q f.ty.name b := by rw [O7 k7]; rfl
  rw [OO]
  have wa : IntKind.wrap .i64 (((5 - (q + 1) : Nat) : Int) + 1) = ((5 - q : Nat) : Int) := by rw [w64] <;> omega
  refine AW.cF rfl ?_
  refine AW.skip ?_
  simp only [andThen, inBlk]
  refine AW.rR (SeqR.ev 8 (by rfl) (by decide) ?_)
  simp -implicitDefEqProofs only [go_sem, ↓reduceIte, Nat.reduceAdd, Nat.reduceEqDiff, Nat.reduceLeDiff, reduceCtorEq, wa]
  generalize (fitF S l q f.ty.name b).1 = tr at CT
  generalize (fitF S l q f.ty.name b).2 = b2 at CT
  rw [encTr_eq tr] at CT
  refine SeqR.call (fun k => k) rfl rfl CT ⟨?_, rfl, ?_, rfl, rfl, rfl, rfl, rfl, rfl⟩ ?_
  ·simp -implicitDefEqProofs only [go_sem, ↓reduceIte, Nat.reduceEqDiff, argD, encSc]
  ·simp only [atH]
   simp -implicitDefEqProofs only [go_sem, ↓reduceIte, List.forall_mem_cons, List.not_mem_nil, false_implies, implies_true]
   first | done | decide
  simp only [atH, AV.ren]
  refine SeqR.ev 1 (by rfl) (by decide) ?_
  simp -implicitDefEqProofs only [go_sem, ↓reduceIte, Nat.reduceAdd, Nat.reduceEqDiff, Nat.reduceLeDiff, reduceCtorEq, lift2, goneU, newU, List.map_cons, List.map_nil, putH, Nat.reduceLT]
  refine SeqR.last rfl ?_
  refine AW.ghost (s' := ve1 tr b2) ?_ (AW.ret (one_end rfl))
  simp only [ve1, cellsT]
  refine Ghost.sub ?_ ?_ <;> simp -implicitDefEqProofs only [go_sem, ↓reduceIte, Nat.reduceEqDiff, reduceCtorEq, List.forall_mem_cons, List.not_mem_nil, false_implies, implies_true, and_self, List.all_cons, List.all_nil, Nat.reduceLT, labsInL, AV.labsIn]
  done
 have hb : b' = true := by rw [hb']; simp [k7]
 subst hb
 have rm : v.tmod 6 = v % 6 := Int.tmod_eq_emod_of_nonneg np1
 have hz : ((6 : Int) = 0) = False := by simp
 refine AW.cT rfl ?_
 rw [OF (by omega)]
 have h6 : v % 6 = 0 ∨ v % 6 = 1 ∨ v % 6 = 2 ∨ v % 6 = 3 ∨ v % 6 = 4 ∨ v % 6 = 5 := by omega
 rcases h6 with w0 | w0 | w0 | w0 | w0 | w0
 ·rw [kt 0 w0]
  rw [w0] at rm
  have wq : IntKind.wrap .i64 0 = 0 := by decide
  refine AW.rT (by rfl) fun K hK => ?_
  simp -implicitDefEqProofs only [go_sem, ↓reduceIte, Nat.reduceAdd, Nat.reduceMul, Nat.reduceEqDiff, Nat.reduceLeDiff, reduceCtorEq, Int.reduceToNat, rm, hz]
  refine ⟨by decide, by decide, ?_⟩
  apply hK; clear hK K
  refine AW.ghost (s' := ve1 (.mk 2 0 (grN.take ([0, 1, 2, 4, 6, 7].getD 0 0)) [] []) b) (Ghost.trans (Ghost.exH (l := 3) (i := 0) (j := 3) rfl rfl rfl) (Ghost.trans (Ghost.exH (l := 3) (i := 0) (j := 4) rfl rfl rfl) ?_)) ?_
  ·simp only [ve1, cellsT, Tr.kind, Tr.n, Tr.s, Tr.ents, Tr.rest, List.map_nil]
   refine Ghost.sub ?_ ?_ <;> simp -implicitDefEqProofs only [go_sem, ↓reduceIte, Nat.reduceEqDiff, reduceCtorEq, List.set_cons_zero, List.set_cons_succ, List.forall_mem_cons, List.not_mem_nil, false_implies, implies_true, and_self, List.all_cons, List.all_nil, Nat.reduceLT, labsInL, AV.labsIn]
   all_goals first | rfl | skip
  exact AW.ret (one_end rfl)
 ·rw [kt 1 w0]
  rw [w0] at rm
  have wq : IntKind.wrap .i64 1 = 1 := by decide
  refine AW.rT (by rfl) fun K hK => ?_
  simp -implicitDefEqProofs only [go_sem, ↓reduceIte, Nat.reduceAdd, Nat.reduceMul, Nat.reduceEqDiff, Nat.reduceLeDiff, reduceCtorEq, Int.reduceToNat, rm, hz]
  refine ⟨by decide, by decide, ?_⟩
  apply hK; clear hK K
  refine AW.ghost (s' := ve1 (.mk 2 0 (grN.take ([0, 1, 2, 4, 6, 7].getD 1 0)) [] []) b) (Ghost.trans (Ghost.exH (l := 3) (i := 0) (j := 3) rfl rfl rfl) (Ghost.trans (Ghost.exH (l := 3) (i := 0) (j := 4) rfl rfl rfl) ?_)) ?_
  ·simp only [ve1, cellsT, Tr.kind, Tr.n, Tr.s, Tr.ents, Tr.rest, List.map_nil]
   refine Ghost.sub ?_ ?_ <;> simp -implicitDefEqProofs only [go_sem, ↓reduceIte, Nat.reduceEqDiff, reduceCtorEq, List.set_cons_zero, List.set_cons_succ, List.forall_mem_cons, List.not_mem_nil, false_implies, implies_true, and_self, List.all_cons, List.all_nil, Nat.reduceLT, labsInL, AV.labsIn]
   all_goals first | rfl | skip
  exact AW.ret (one_end rfl)
 ·rw [kt 2 w0]
  rw [w0] at rm
  have wq : IntKind.wrap .i64 2 = 2 := by decide
  refine AW.rT (by rfl) fun K hK => ?_
  simp -implicitDefEqProofs only [go_sem, ↓reduceIte, Nat.reduceAdd, Nat.reduceMul, Nat.reduceEqDiff, Nat.reduceLeDiff, reduceCtorEq, Int.reduceToNat, rm, hz]
  refine ⟨by decide, by decide, ?_⟩
  apply hK; clear hK K
  refine AW.ghost (s' := ve1 (.mk 2 0 (grN.take ([0, 1, 2, 4, 6, 7].getD 2 0)) [] []) b) (Ghost.trans (Ghost.exH (l := 3) (i := 0) (j := 3) rfl rfl rfl) (Ghost.trans (Ghost.exH (l := 3) (i := 0) (j := 4) rfl rfl rfl) ?_)) ?_
  ·simp only [ve1, cellsT, Tr.kind, Tr.n, Tr.s, Tr.ents, Tr.rest, List.map_nil]
   refine Ghost.sub ?_ ?_ <;> simp -implicitDefEqProofs only [go_sem, ↓reduceIte, Nat.reduceEqDiff, reduceCtorEq, List.set_cons_zero, List.set_cons_succ, List.forall_mem_cons, List.not_mem_nil, false_implies, implies_true, and_self, List.all_cons, List.all_nil, Nat.reduceLT, labsInL, AV.labsIn]
   all_goals first | rfl | skip
  exact AW.ret (one_end rfl)
 ·rw [kt 3 w0]
  rw [w0] at rm
  have wq : IntKind.wrap .i64 3 = 3 := by decide
  refine AW.rT (by rfl) fun K hK => ?_
  simp -implicitDefEqProofs only [go_sem, ↓reduceIte, Nat.reduceAdd, Nat.reduceMul, Nat.reduceEqDiff, Nat.reduceLeDiff, reduceCtorEq, Int.reduceToNat, rm, hz]
  refine ⟨by decide, by decide, ?_⟩
  apply hK; clear hK K
  refine AW.ghost (s' := ve1 (.mk 2 0 (grN.take ([0, 1, 2, 4, 6, 7].getD 3 0)) [] []) b) (Ghost.trans (Ghost.exH (l := 3) (i := 0) (j := 3) rfl rfl rfl) (Ghost.trans (Ghost.exH (l := 3) (i := 0) (j := 4) rfl rfl rfl) ?_)) ?_
  ·simp only [ve1, cellsT, Tr.kind, Tr.n, Tr.s, Tr.ents, Tr.rest, List.map_nil]
   refine Ghost.sub ?_ ?_ <;> simp -implicitDefEqProofs only [go_sem, ↓reduceIte, Nat.reduceEqDiff, reduceCtorEq, List.set_cons_zero, List.set_cons_succ, List.forall_mem_cons, List.not_mem_nil, false_implies, implies_true, and_self, List.all_cons, List.all_nil, Nat.reduceLT, labsInL, AV.labsIn]
   all_goals first | rfl | skip
  exact AW.ret (one_end rfl)
 ·rw [kt 4 w0]
  rw [w0] at rm
  have wq : IntKind.wrap .i64 4 = 4 := by decide
  refine AW.rT (by rfl) fun K hK => ?_
  simp -implicitDefEqProofs only [go_sem, ↓reduceIte, Nat.reduceAdd, Nat.reduceMul, Nat.reduceEqDiff, Nat.reduceLeDiff, reduceCtorEq, Int.reduceToNat, rm, hz]
  refine ⟨by decide, by decide, ?_⟩
  apply hK; clear hK K
  refine AW.ghost (s' := ve1 (.mk 2 0 (grN.take ([0, 1, 2, 4, 6, 7].getD 4 0)) [] []) b) (Ghost.trans (Ghost.exH (l := 3) (i := 0) (j := 3) rfl rfl rfl) (Ghost.trans (Ghost.exH (l := 3) (i := 0) (j := 4) rfl rfl rfl) ?_)) ?_
  ·simp only [ve1, cellsT, Tr.kind, Tr.n, Tr.s, Tr.ents, Tr.rest, List.map_nil]
   refine Ghost.sub ?_ ?_ <;> simp -implicitDefEqProofs only [go_sem, ↓reduceIte, Nat.reduceEqDiff, reduceCtorEq, List.set_cons_zero, List.set_cons_succ, List.forall_mem_cons, List.not_mem_nil, false_implies, implies_true, and_self, List.all_cons, List.all_nil, Nat.reduceLT, labsInL, AV.labsIn]
   all_goals first | rfl | skip
  exact AW.ret (one_end rfl)
 ·rw [kt 5 w0]
  rw [w0] at rm
  have wq : IntKind.wrap .i64 5 = 5 := by decide
  refine AW.rT (by rfl) fun K hK => ?_
  simp -implicitDefEqProofs only [go_sem, ↓reduceIte, Nat.reduceAdd, Nat.reduceMul, Nat.reduceEqDiff, Nat.reduceLeDiff, reduceCtorEq, Int.reduceToNat, rm, hz]
  refine ⟨by decide, by decide, ?_⟩
  apply hK; clear hK K
  refine AW.ghost (s' := ve1 (.mk 2 0 (grN.take ([0, 1, 2, 4, 6, 7].getD 5 0)) [] []) b) (Ghost.trans (Ghost.exH (l := 3) (i := 0) (j := 3) rfl rfl rfl) (Ghost.trans (Ghost.exH (l := 3) (i := 0) (j := 4) rfl rfl rfl) ?_)) ?_
  ·simp only [ve1, cellsT, Tr.kind, Tr.n, Tr.s, Tr.ents, Tr.rest, List.map_nil]
   refine Ghost.sub ?_ ?_ <;> simp -implicitDefEqProofs only [go_sem, ↓reduceIte, Nat.reduceEqDiff, reduceCtorEq, List.set_cons_zero, List.set_cons_succ, List.forall_mem_cons, List.not_mem_nil, false_implies, implies_true, and_self, List.all_cons, List.all_nil, Nat.reduceLT, labsInL, AV.labsIn]
   all_goals first | rfl | skip
  exact AW.ret (one_end rfl)
end Go.Aw.T
namespace Go.Aw.T
open Go.Proofs Go.RowKit
def fb (S : Sc) (m : Ms) (l : List Int) (d : Nat) (tag : Nat) (es : List (Int × List Tr)) (b : Nat) (L : List (Nat × AV)) (H : List (Nat × Blk)) (n : Nat) : St :=
 ⟨ofL ((2, .p (.slice (l.map encI))) :: (3, .ptr 0 0 0) :: (4, .p (.int .i64 ((5 - d : Nat) : Int))) :: (5, .ptr 1 0 0) :: (10, .ptr 2 0 0) :: (11, .ptr 3 0 0) :: (12, .ptr 4 0 0) :: (14, .p (.int .i64 (tag : Int))) :: L),
 ofH ((0, .row 1 [[.p (.int .i64 (b : Int))]]) :: (1, .row 4 [cellsSc S]) :: (2, .row 5 [[.p (.int .i64 0), .p (.int .i64 0), .p (.str []), .ex [], .ex []]]) :: (3, .row 5 [[.p (.int .i64 3), .p (.int .i64 0), .p (.str []), .own 5, .ex []]]) :: (4, .row 3 [cellsMs m]) :: (5, .row 2 (liftE (es.map encEn))) :: H), n⟩
def fe (t : Tr) (b : Nat) : St := ⟨ofL [(3, .ptr 0 0 0), (10, .ptr 2 0 0), (11, .ptr 3 0 0)], ofH [(0, .row 1 [[.p (.int .i64 (b : Int))]]), (2, .row 5 [[.p (.int .i64 0), .p (.int .i64 0), .p (.str []), .ex [], .ex []]]), (3, .row 5 [cellsT t])], 4⟩
def fc (es : List (Int × List Tr)) (b : Nat) : St := ⟨ofL [(3, .ptr 0 0 0), (10, .ptr 2 0 0), (11, .ptr 3 0 0)], ofH [(0, .row 1 [[.p (.int .i64 (b : Int))]]), (2, .row 5 [[.p (.int .i64 0), .p (.int .i64 0), .p (.str []), .ex [], .ex []]]), (3, .row 5 [[.p (.int .i64 3), .p (.int .i64 0), .p (.str []), .own 5, .ex []]]), (5, .row 2 (liftE (es.map encEn)))], 6⟩
theorem tags_len {m : Ms} {l : List Int} {sub : List UInt8 → Nat → Tr × Nat} {ok : Bool} {a : Nat} : ∀ n, (itS (tagF m l sub ok) n ([], a)).1.length ≤ n
 | 0 => by simp [itS]
 | n + 1 => by
  have g := tags_len (m := m) (l := l) (sub := sub) (ok := ok) (a := a) n
  rw [itS]
  generalize itS (tagF m l sub ok) n ([], a) = x at g
  unfold tagF
  repeat' split
  all_goals (try simp only [List.length_append, List.length_cons, List.length_nil]); omega
def fz (t : Tr) (b : Nat) : St := ⟨ofL [(3, .ptr 0 0 0), (10, .ptr 2 0 0)], ofH [(0, .row 1 [[.p (.int .i64 (b : Int))]]), (2, .row 5 [cellsT t])], 4⟩
theorem fit_end {args : List AV} {t : Tr} {a b : Nat} (h : args[3]? = some (.ptr 0 0 0)) : EndD Tryd.prog #[ResultVar.cell 10 39] args (atH a) 1 [0] (.p (.agg (encTr t))) (atH b) 0 [3] .ret (fz t b) := by
 refine ⟨fun k => k, [.p (.agg (encTr t))], ⟨?_, trivial⟩, rfl, rfl, ?_, ?_, ?_⟩
 ·simp only [fz, cellsT, encTr_eq]
  simp -implicitDefEqProofs only [go_sem, ↓reduceIte, Nat.reduceAdd, Nat.reduceEqDiff, Nat.reduceLeDiff, reduceCtorEq]
  done
 ·simp only [atH, fz]
  simp -implicitDefEqProofs only [go_sem, ↓reduceIte, List.forall_mem_cons, List.not_mem_nil, false_implies, implies_true]
  first | done | decide
 ·simp [atH]
 ·exact at_root h rfl
theorem law00_fit (S : Sc) (hS : SizS S) (FO : ∀ k, (msOf S k).2 = true → FldsOK S (msOf S k).1) (l : List Int) (hl : l.length ≤ 200) : ∀ d, d ≤ 4 → FitOK S l d := by
 intro d
 induction d using Nat.strongRecOn with
 | _ d ih =>
 intro hd k a ha hk
 have hm := siz_of hS k
 have hF := FO k hk
 have C2 : PFn Tryd.prog 55 [.agg (encSc S), .str k] (.tuple [.agg (encMs (msOf S k).1), .bool (msOf S k).2]) := ref07_Message S k hS.msgs
 rw [fitF_eq]
 generalize (msOf S k).1 = m at C2 hm hF
 generalize (msOf S k).2 = mb at C2
 have CF : ∀ g, PFn Tryd.prog 27 [.agg (encMs m), .int .i64 g] (.tuple [.agg (encFd (fldOf m g).1), .bool (fldOf m g).2]) := fun g => ref07_Field m g hm
 simp only [encSc, encMs] at C2
 simp only [encMs, encFd] at CF
 have hok : (d != 0) = decide (d ≠ 0) := by cases d <;> rfl
 generalize hsub : subF S l d = sub
 generalize hokd : (d != 0) = ok
 have TL := fun n => tags_len (m := m) (l := l) (sub := sub) (ok := ok) (a := a) n
 refine DFn.of [3] Tryd.func60 rfl (by decide) Tryd.ntmps60 Tryd.results60 (Nat.le_of_ble_eq_true rfl) (by simp) fun val => ?_
 simp only [avT, atH]
 refine AW.rT (by rfl) fun K hK => ?_
 simp -implicitDefEqProofs only [go_sem, Nat.reduceAdd, encSc]
 apply hK; clear hK K
 refine AW.rT (by rfl) fun K hK => ?_
 simp -implicitDefEqProofs only [go_sem, ↓reduceIte, Nat.reduceAdd, Nat.reduceEqDiff, Nat.reduceLeDiff]
 apply hK; clear hK K
 refine AW.rT (by rfl) fun K hK => ?_
 simp -implicitDefEqProofs only [go_sem, ↓reduceIte, Nat.reduceAdd, Nat.reduceEqDiff, Nat.reduceLeDiff]
 refine ⟨.pure _, C2, ?_⟩
 try simp -implicitDefEqProofs only [go_sem, ↓reduceIte, Nat.reduceAdd, Nat.reduceEqDiff, Nat.reduceLeDiff]
 apply hK; clear hK K
 refine AW.cut (fun _ : Unit => fc (itS (tagF m l sub ok) 500 ([], a)).1 (itS (tagF m l sub ok) 500 ([], a)).2) (fun _ => True) ?_ fun _ _ => ?_
 rotate_left
 ·generalize itS (tagF m l sub ok) 500 ([], a) = x
  obtain ⟨es, b⟩ := x
  refine AW.ghost (s' := fe (.mk 3 0 [] es []) b) (Ghost.trans (Ghost.freeze (lb := 5) (ps := es.map encEn) rfl (unlift_liftE _)) (Ghost.trans (Ghost.exH (l := 3) (i := 0) (j := 4) rfl rfl rfl) ?_)) ?_
  ·simp only [fc, fe, cellsT, Tr.kind, Tr.n, Tr.s, Tr.ents, Tr.rest, List.map_nil]
   refine Ghost.sub ?_ ?_ <;> simp -implicitDefEqProofs only [go_sem, ↓reduceIte, Nat.reduceEqDiff, reduceCtorEq, thaw, thaw1, Option.map_some, List.map_cons, List.map_nil, List.set_cons_zero, List.set_cons_succ, List.forall_mem_cons, List.not_mem_nil, false_implies, implies_true, and_self, List.all_cons, List.all_nil, Nat.reduceLT, labsInL, AV.labsIn]
   done
  generalize Tr.mk 3 0 [] es [] = tr
  simp only [fe, cellsT]
  refine AW.rT (by rfl) fun K hK => ?_
  simp -implicitDefEqProofs only [go_sem, ↓reduceIte, Nat.reduceAdd, Nat.reduceEqDiff, Nat.reduceLeDiff, reduceCtorEq, List.set_cons_zero]
  apply hK; clear hK K
  refine AW.ghost (s' := fz tr b) ?_ (AW.ret (fit_end rfl))
  simp only [fz, cellsT]
  refine Ghost.sub ?_ ?_ <;> simp -implicitDefEqProofs only [go_sem, ↓reduceIte, Nat.reduceEqDiff, reduceCtorEq, List.forall_mem_cons, List.not_mem_nil, false_implies, implies_true, and_self, List.all_cons, List.all_nil, Nat.reduceLT, labsInL, AV.labsIn]
  done
 refine AW.rT (by rfl) fun K hK => ?_
 simp -implicitDefEqProofs only [go_sem, Nat.reduceAdd]
 apply hK; clear hK K
 refine AW.block ?_
 refine AW.loop (fun i : Nat => fb S m l d (i + 1) (itS (tagF m l sub ok) i ([], a)).1 (itS (tagF m l sub ok) i ([], a)).2 [] [] 6) (fun i => i ≤ 500) (fun i => 500 - i) 0 ?_ (by simp) fun i hi => ?_
 ·refine Ghost.trans (Ghost.nilH (l := 4) (i := 0) (j := 3) (sz' := 2) rfl rfl rfl) ?_
  simp only [fb, cellsSc, cellsMs, itS]
  refine Ghost.ent (fun l => if l = 3 then 4 else if l = 4 then 12 else if l = 5 then 16 else l) ?_ ?_ ?_ <;> simp -implicitDefEqProofs only [go_sem, ↓reduceIte, Nat.reduceEqDiff, reduceCtorEq, List.map_nil, liftE_nil, List.set_cons_zero, List.set_cons_succ, List.forall_mem_cons, List.not_mem_nil, false_implies, implies_true, and_self, List.all_cons, List.all_nil, Nat.reduceLT, labsInL, AV.labsIn]
  all_goals first | rfl | skip
 refine AW.seq ?_
 have TLi := TL i
 have E0 := fun h : 150 ≤ (itS (tagF m l sub ok) i ([], a)).2 => itS_end h (500 - i)
 rw [show i + (500 - i) = 500 by omega] at E0
 have NX : itS (tagF m l sub ok) (i + 1) ([], a) = tagF m l sub ok i (itS (tagF m l sub ok) i ([], a)) := rfl
 by_cases h5 : i < 500
 case neg =>
  have hi' : i = 500 := by omega
  subst hi'
  generalize itS (tagF m l sub ok) 500 ([], a) = x
  obtain ⟨es, b⟩ := x
  simp only [fb, cellsSc, cellsMs]
  have b1 : (((500 + 1 : Nat) : Int) ≤ 500) = False := eq_false (by decide)
  refine AW.rT (by rfl) fun K hK => ?_
  simp -implicitDefEqProofs only [go_sem, ↓reduceIte, Nat.reduceAdd, Nat.reduceEqDiff, b1]
  apply hK; clear hK K
  refine AW.cF rfl ?_
  refine AW.exit ?_
  simp only [andThen, inBlk, ↓reduceIte]
  refine ⟨(), trivial, ?_⟩
  simp only [fc]
  refine Ghost.sub ?_ ?_ <;> simp -implicitDefEqProofs only [go_sem, ↓reduceIte, Nat.reduceEqDiff, reduceCtorEq, List.forall_mem_cons, List.not_mem_nil, false_implies, implies_true, and_self, labsIn_lift, List.all_cons, List.all_nil, Nat.reduceLT, labsInL, AV.labsIn]
  done
 have b1 : (((i + 1 : Nat) : Int) ≤ 500) = True := eq_true (by omega)
 by_cases h150 : 150 ≤ (itS (tagF m l sub ok) i ([], a)).2
 ·rw [E0 h150]
  generalize itS (tagF m l sub ok) i ([], a) = x at h150
  obtain ⟨es, b⟩ := x
  simp only at h150
  simp only [fb, cellsSc, cellsMs]
  have b2 : ((b : Int) < 150) = False := eq_false (by omega)
  refine AW.rT (by rfl) fun K hK => ?_
  simp -implicitDefEqProofs only [go_sem, ↓reduceIte, Nat.reduceAdd, Nat.reduceEqDiff, b1, b2]
  apply hK; clear hK K
  refine AW.cF rfl ?_
  refine AW.exit ?_
  simp only [andThen, inBlk, ↓reduceIte]
  refine ⟨(), trivial, ?_⟩
  simp only [fc]
  refine Ghost.sub ?_ ?_ <;> simp -implicitDefEqProofs only [go_sem, ↓reduceIte, Nat.reduceEqDiff, reduceCtorEq, List.forall_mem_cons, List.not_mem_nil, false_implies, implies_true, and_self, labsIn_lift, List.all_cons, List.all_nil, Nat.reduceLT, labsInL, AV.labsIn]
  done
 have w1 : IntKind.wrap .i64 (((i + 1 : Nat) : Int) + 1) = ((i + 1 + 1 : Nat) : Int) := by rw [w64] <;> omega
 have nextI : ∀ s' : St, Ghost ⟨109, [3], val⟩ s' (fb S m l d (i + 1 + 1) (tagF m l sub ok i (itS (tagF m l sub ok) i ([], a))).1 (tagF m l sub ok i (itS (tagF m l sub ok) i ([], a))).2 [] [] 6) → ∃ y : Nat, y ≤ 500 ∧ 500 - y < 500 - i ∧ Ghost ⟨109, [3], val⟩ s' (fb S m l d (y + 1) (itS (tagF m l sub ok) y ([], a)).1 (itS (tagF m l sub ok) y ([], a)).2 [] [] 6) := fun s' g => ⟨i + 1, by omega, by omega, by rw [NX]; exact g⟩
 have TF : tagF m l sub ok i (itS (tagF m l sub ok) i ([], a)) = _ := rfl
 generalize itS (tagF m l sub ok) i ([], a) = x at *
 obtain ⟨es, b⟩ := x
 simp only at h150 TLi
 have b2 : ((b : Int) < 150) = True := eq_true (by omega)
 have C1 := CF ((i + 1 : Nat) : Int)
 have hF1 := hF ((i + 1 : Nat) : Int)
 have TF : tagF m l sub ok i (es, b) = if (fldOf m ((i + 1 : Nat) : Int)).2 = false then (es, b) else
  if (nextF l b).1 % 3 = 0 then (es, (nextF l b).2) else if (fldOf m ((i + 1 : Nat) : Int)).1.ty.kind = 7 ∧ ok = false then (es, (nextF l b).2) else
  if (treesF l sub (fldOf m ((i + 1 : Nat) : Int)).1 (nextF l b).2).1 = [] then (es, (treesF l sub (fldOf m ((i + 1 : Nat) : Int)).1 (nextF l b).2).2) else
  (es ++ [(((i + 1 : Nat) : Int), (treesF l sub (fldOf m ((i + 1 : Nat) : Int)).1 (nextF l b).2).1)], (treesF l sub (fldOf m ((i + 1 : Nat) : Int)).1 (nextF l b).2).2) := by
  unfold tagF
  rw [if_neg (by simpa using h150)]
  rfl
 rcases hfo : fldOf m ((i + 1 : Nat) : Int) with ⟨f, fok⟩
 rw [hfo] at C1 hF1 TF
 simp only at C1 hF1 TF
 simp only [fb, cellsSc, cellsMs]
 refine AW.rT (by rfl) fun K hK => ?_
 simp -implicitDefEqProofs only [go_sem, ↓reduceIte, Nat.reduceAdd, Nat.reduceEqDiff, b1, b2]
 apply hK; clear hK K
 refine AW.cT rfl ?_
 refine AW.skip ?_
 simp only [andThen]
 refine AW.seq ?_
 refine AW.block ?_
 refine AW.rT (by rfl) fun K hK => ?_
 simp -implicitDefEqProofs only [go_sem, ↓reduceIte, Nat.reduceAdd, Nat.reduceEqDiff, Nat.reduceLeDiff, reduceCtorEq]
 refine ⟨.pure _, C1, ?_⟩
 try simp -implicitDefEqProofs only [go_sem, ↓reduceIte, Nat.reduceAdd, Nat.reduceEqDiff, Nat.reduceLeDiff]
 apply hK; clear hK K
 have np := nextF_pos l b
 have CN := law00_next l b (by omega) hl
 refine AW.cut (fun _ : Unit => fb S m l d (i + 1) es (nextF l b).2 [(15, .ptr 6 0 0)] [(6, .row 5 [cellsFd f])] 7) (fun _ => fok = true ∧ ¬ (nextF l b).1 % 3 = 0 ∧ ¬ (f.ty.kind = 7 ∧ ok = false)) ?_ fun _ hj => ?_
 ·cases fok with
  | false =>
   rw [if_pos rfl] at TF
   refine AW.rT (by rfl) fun K hK => ?_
   simp -implicitDefEqProofs only [go_sem, ↓reduceIte, Nat.reduceAdd, Nat.reduceEqDiff]
   apply hK; clear hK K
   refine AW.cT rfl ?_
   refine AW.exit ?_
   simp only [andThen, inBlk, ↓reduceIte]
   refine AW.rE (by rfl) fun K hK => ?_
   simp -implicitDefEqProofs only [go_sem, ↓reduceIte, Nat.reduceAdd, Nat.reduceEqDiff, w1]
   apply hK; clear hK K
   refine nextI _ ?_
   rw [TF]
   simp only [fb, cellsSc, cellsMs]
   refine Ghost.sub ?_ ?_ <;> simp -implicitDefEqProofs only [go_sem, ↓reduceIte, Nat.reduceEqDiff, reduceCtorEq, List.forall_mem_cons, List.not_mem_nil, false_implies, implies_true, and_self, labsIn_lift, List.all_cons, List.all_nil, Nat.reduceLT, labsInL, AV.labsIn]
   done
  | true =>
  rw [if_neg (by simp)] at TF
  have rm : (nextF l b).1.tmod 3 = (nextF l b).1 % 3 := Int.tmod_eq_emod_of_nonneg np.1
  have hz : ((3 : Int) = 0) = False := by simp
  have wm : IntKind.wrap .i64 ((nextF l b).1 % 3) = (nextF l b).1 % 3 := by rw [w64] <;> omega
  generalize (nextF l b).1 = v at CN rm wm TF np
  generalize (nextF l b).2 = b' at CN TF np
  by_cases h3 : v % 3 = 0
  ·have b3 := eqb h3
   rw [if_pos h3] at TF
   refine AW.rT (by rfl) fun K hK => ?_
   simp -implicitDefEqProofs only [go_sem, ↓reduceIte, Nat.reduceAdd, Nat.reduceEqDiff, reduceCtorEq]
   refine ⟨.lend [none, some 0] [.v (.slice (l.map encI)), .ptr 0 0 1 [[.int .i64 (b : Int)]]] [none, some (.row 1 [[.int .i64 (b' : Int)]])] (.int .i64 v), ⟨CN, rfl, ?_⟩, ?_⟩
   ·simp -implicitDefEqProofs only [go_sem, ↓reduceIte, Nat.reduceEqDiff, reduceCtorEq, liftE_cons, liftE_nil, List.map_cons, List.map_nil, and_self]
   simp -implicitDefEqProofs only [go_sem, ↓reduceIte, Nat.reduceAdd, Nat.reduceEqDiff, liftE_cons, liftE_nil, List.map_cons, List.map_nil, rm, hz, b3]
   apply hK; clear hK K
   refine AW.cT rfl ?_
   refine AW.exit ?_
   simp only [andThen, inBlk, ↓reduceIte]
   refine AW.rE (by rfl) fun K hK => ?_
   simp -implicitDefEqProofs only [go_sem, ↓reduceIte, Nat.reduceAdd, Nat.reduceEqDiff, w1]
   apply hK; clear hK K
   refine nextI _ ?_
   rw [TF]
   simp only [fb, cellsSc, cellsMs]
   refine Ghost.sub ?_ ?_ <;> simp -implicitDefEqProofs only [go_sem, ↓reduceIte, Nat.reduceEqDiff, reduceCtorEq, List.forall_mem_cons, List.not_mem_nil, false_implies, implies_true, and_self, labsIn_lift, List.all_cons, List.all_nil, Nat.reduceLT, labsInL, AV.labsIn]
   done
  have b3 := beqf h3
  rw [if_neg h3] at TF
  by_cases h7 : f.ty.kind = 7
  ·have b7 := eqb h7
   by_cases hd0 : d = 0
   ·have hok0 : ok = false := by rw [← hokd, hd0]; rfl
    have bd : (((5 - d : Nat) : Int) ≥ 5) = True := eq_true (by omega)
    rw [if_pos ⟨h7, hok0⟩] at TF
    refine AW.rT (by rfl) fun K hK => ?_
    simp -implicitDefEqProofs only [go_sem, ↓reduceIte, Nat.reduceAdd, Nat.reduceEqDiff, reduceCtorEq]
    refine ⟨.lend [none, some 0] [.v (.slice (l.map encI)), .ptr 0 0 1 [[.int .i64 (b : Int)]]] [none, some (.row 1 [[.int .i64 (b' : Int)]])] (.int .i64 v), ⟨CN, rfl, ?_⟩, ?_⟩
    ·simp -implicitDefEqProofs only [go_sem, ↓reduceIte, Nat.reduceEqDiff, reduceCtorEq, liftE_cons, liftE_nil, List.map_cons, List.map_nil, and_self]
    simp -implicitDefEqProofs only [go_sem, ↓reduceIte, Nat.reduceAdd, Nat.reduceEqDiff, reduceCtorEq, liftE_cons, liftE_nil, List.map_cons, List.map_nil, rm, hz, b3, b7, bd]
    apply hK; clear hK K
    refine AW.cT rfl ?_
    refine AW.exit ?_
    simp only [andThen, inBlk, ↓reduceIte]
    refine AW.rE (by rfl) fun K hK => ?_
    simp -implicitDefEqProofs only [go_sem, ↓reduceIte, Nat.reduceAdd, Nat.reduceEqDiff, w1]
    apply hK; clear hK K
    refine nextI _ ?_
    rw [TF]
    simp only [fb, cellsSc, cellsMs]
    refine Ghost.sub ?_ ?_ <;> simp -implicitDefEqProofs only [go_sem, ↓reduceIte, Nat.reduceEqDiff, reduceCtorEq, List.forall_mem_cons, List.not_mem_nil, false_implies, implies_true, and_self, labsIn_lift, List.all_cons, List.all_nil, Nat.reduceLT, labsInL, AV.labsIn]
    done
   ·have hok0 : ok = true := by rw [← hokd]; simpa using hd0
    have bd : (((5 - d : Nat) : Int) ≥ 5) = False := eq_false (by omega)
    refine AW.rT (by rfl) fun K hK => ?_
    simp -implicitDefEqProofs only [go_sem, ↓reduceIte, Nat.reduceAdd, Nat.reduceEqDiff, reduceCtorEq]
    refine ⟨.lend [none, some 0] [.v (.slice (l.map encI)), .ptr 0 0 1 [[.int .i64 (b : Int)]]] [none, some (.row 1 [[.int .i64 (b' : Int)]])] (.int .i64 v), ⟨CN, rfl, ?_⟩, ?_⟩
    ·simp -implicitDefEqProofs only [go_sem, ↓reduceIte, Nat.reduceEqDiff, reduceCtorEq, liftE_cons, liftE_nil, List.map_cons, List.map_nil, and_self]
    simp -implicitDefEqProofs only [go_sem, ↓reduceIte, Nat.reduceAdd, Nat.reduceEqDiff, reduceCtorEq, liftE_cons, liftE_nil, List.map_cons, List.map_nil, rm, hz, b3, b7, bd]
    apply hK; clear hK K
    refine AW.cF rfl ?_
    refine AW.skip ?_
    simp only [andThen]
    refine ⟨(), ⟨trivial, h3, by rintro ⟨_, q⟩; rw [hok0] at q; cases q⟩, ?_⟩
    simp only [fb, cellsSc, cellsMs, cellsFd]
    refine Ghost.ent (fun l => if l = 6 then 20 else l) ?_ ?_ ?_ <;> simp -implicitDefEqProofs only [go_sem, ↓reduceIte, Nat.reduceEqDiff, reduceCtorEq, List.forall_mem_cons, List.not_mem_nil, false_implies, implies_true, and_self, map_renL_lift, labsIn_lift, List.all_cons, List.all_nil, Nat.reduceLT, labsInL, AV.labsIn]
    all_goals first | rfl | skip
  ·have b7 := beqf h7
   refine AW.rT (by rfl) fun K hK => ?_
   simp -implicitDefEqProofs only [go_sem, ↓reduceIte, Nat.reduceAdd, Nat.reduceEqDiff, reduceCtorEq]
   refine ⟨.lend [none, some 0] [.v (.slice (l.map encI)), .ptr 0 0 1 [[.int .i64 (b : Int)]]] [none, some (.row 1 [[.int .i64 (b' : Int)]])] (.int .i64 v), ⟨CN, rfl, ?_⟩, ?_⟩
   ·simp -implicitDefEqProofs only [go_sem, ↓reduceIte, Nat.reduceEqDiff, reduceCtorEq, liftE_cons, liftE_nil, List.map_cons, List.map_nil, and_self]
   simp -implicitDefEqProofs only [go_sem, ↓reduceIte, Nat.reduceAdd, Nat.reduceEqDiff, reduceCtorEq, liftE_cons, liftE_nil, List.map_cons, List.map_nil, rm, hz, b3, b7]
   apply hK; clear hK K
   refine AW.cF rfl ?_
   refine AW.skip ?_
   simp only [andThen]
   refine ⟨(), ⟨trivial, h3, fun q => h7 q.1⟩, ?_⟩
   simp only [fb, cellsSc, cellsMs, cellsFd]
   refine Ghost.ent (fun l => if l = 6 then 20 else l) ?_ ?_ ?_ <;> simp -implicitDefEqProofs only [go_sem, ↓reduceIte, Nat.reduceEqDiff, reduceCtorEq, List.forall_mem_cons, List.not_mem_nil, false_implies, implies_true, and_self, map_renL_lift, labsIn_lift, List.all_cons, List.all_nil, Nat.reduceLT, labsInL, AV.labsIn]
   all_goals first | rfl | skip
 obtain ⟨rfl, hj3, hj7⟩ := hj
 rw [if_neg (by simp), if_neg hj3, if_neg hj7] at TF
 obtain ⟨⟨k1, k7⟩, km⟩ := hF1 rfl
 generalize (nextF l b).2 = b' at TF np
 simp only [fb, cellsSc, cellsMs, cellsFd]
 refine AW.rT (by rfl) fun K hK => ?_
 simp -implicitDefEqProofs only [go_sem, Nat.reduceAdd]
 apply hK; clear hK K
 refine AW.cut (fun _ : Unit => fb S m l d (i + 1) es (cntF l f b').2 [(15, .ptr 6 0 0), (17, .p (.int .i64 ((cntF l f b').1 : Int)))] [(6, .row 5 [cellsFd f])] 7) (fun _ => True) ?_ fun _ _ => ?_
 ·by_cases hb3 : f.label = 3
  ·have b3 := eqb hb3
   have np2 := nextF_pos l b'
   have CN2 := law00_next l b' (by omega) hl
   have e1 : cntF l f b' = (1 + ((nextF l b').1 % 3).toNat, (nextF l b').2) := by unfold cntF; rw [if_pos hb3]
   rw [e1]
   have rm : (nextF l b').1.tmod 3 = (nextF l b').1 % 3 := Int.tmod_eq_emod_of_nonneg np2.1
   have hz : ((3 : Int) = 0) = False := by simp
   have wm : IntKind.wrap .i64 ((nextF l b').1 % 3) = (nextF l b').1 % 3 := by rw [w64] <;> omega
   have wn : IntKind.wrap .i64 (1 + (nextF l b').1 % 3) = ((1 + ((nextF l b').1 % 3).toNat : Nat) : Int) := by rw [w64] <;> omega
   refine AW.rT (by rfl) fun K hK => ?_
   simp -implicitDefEqProofs only [go_sem, ↓reduceIte, Nat.reduceAdd, Nat.reduceEqDiff, reduceCtorEq, b3]
   apply hK; clear hK K
   refine AW.cT rfl ?_
   refine AW.rE (by rfl) fun K hK => ?_
   simp -implicitDefEqProofs only [go_sem, ↓reduceIte, Nat.reduceAdd, Nat.reduceEqDiff]
   refine ⟨.lend [none, some 0] [.v (.slice (l.map encI)), .ptr 0 0 1 [[.int .i64 (b' : Int)]]] [none, some (.row 1 [[.int .i64 ((nextF l b').2 : Int)]])] (.int .i64 (nextF l b').1), ⟨CN2, rfl, ?_⟩, ?_⟩
   ·simp -implicitDefEqProofs only [go_sem, ↓reduceIte, Nat.reduceEqDiff, liftE_cons, liftE_nil, List.map_cons, List.map_nil, and_self]
   simp -implicitDefEqProofs only [go_sem, ↓reduceIte, Nat.reduceAdd, liftE_cons, liftE_nil, List.map_cons, List.map_nil, rm, hz, wn]
   apply hK; clear hK K
   simp only [andThen]
   refine ⟨(), trivial, ?_⟩
   simp only [fb, cellsSc, cellsMs, cellsFd]
   refine Ghost.sub ?_ ?_ <;> simp -implicitDefEqProofs only [go_sem, ↓reduceIte, Nat.reduceEqDiff, reduceCtorEq, List.forall_mem_cons, List.not_mem_nil, false_implies, implies_true, and_self, labsIn_lift, List.all_cons, List.all_nil, Nat.reduceLT, labsInL, AV.labsIn]
   done
  ·have b3 := beqf hb3
   have e1 : cntF l f b' = (1, b') := by unfold cntF; rw [if_neg hb3]
   rw [e1]
   refine AW.rT (by rfl) fun K hK => ?_
   simp -implicitDefEqProofs only [go_sem, ↓reduceIte, Nat.reduceAdd, Nat.reduceEqDiff, reduceCtorEq, b3]
   apply hK; clear hK K
   refine AW.cF rfl ?_
   refine AW.skip ?_
   simp only [andThen]
   refine ⟨(), trivial, ?_⟩
   simp only [fb, cellsSc, cellsMs, cellsFd]
   refine Ghost.sub ?_ ?_ <;> simp -implicitDefEqProofs only [go_sem, ↓reduceIte, Nat.reduceEqDiff, reduceCtorEq, List.forall_mem_cons, List.not_mem_nil, false_implies, implies_true, and_self, labsIn_lift, List.all_cons, List.all_nil, Nat.reduceLT, labsInL, AV.labsIn]
   all_goals first | rfl | simp
 have cn := cntF_le l f b'
 have RG := reps_good (S := S) (l := l) (sub := sub) (f := f) (d := d)
 have RA := reps_at (l := l) (sub := sub) (f := f) (hsub ▸ sub_at S l d) ([], (cntF l f b').2)
 have TE : treesF l sub f b' = itS (fun _ => repF l sub f) (cntF l f b').1 ([], (cntF l f b').2) := rfl
 generalize (cntF l f b').1 = c at cn TE
 generalize (cntF l f b').2 = b3 at cn TE RA
 obtain ⟨cn1, cn2, cn3, cn4, cn5⟩ := cn
 simp only at RA
 simp only [fb, cellsSc, cellsMs, cellsFd]
 refine AW.rT (by rfl) fun K hK => ?_
 simp -implicitDefEqProofs only [go_sem, ↓reduceIte, Nat.reduceAdd, Nat.reduceEqDiff, Nat.reduceLeDiff]
 apply hK; clear hK K
 refine AW.seq ?_
 refine AW.rT (by rfl) fun K hK => ?_
 simp -implicitDefEqProofs only [go_sem, Nat.reduceAdd]
 apply hK; clear hK K
 refine AW.block ?_
 refine AW.loop (fun j : Nat => fb S m l d (i + 1) es (itS (fun _ => repF l sub f) j ([], b3)).2 [(15, .ptr 6 0 0), (17, .p (.int .i64 (c : Int))), (18, .ptr 7 0 0), (19, .p (.int .i64 (j : Int)))] [(6, .row 5 [cellsFd f]), (7, .row 2 [[.p (.int .i64 ((i + 1 : Nat) : Int)), .own 8]]), (8, .row 5 (liftE ((itS (fun _ => repF l sub f) j ([], b3)).1.map encTr)))] 9) (fun j => j ≤ c ∧ (itS (fun _ => repF l sub f) j ([], b3)).1.length ≤ j) (fun j => c - j) 0 ?_ (by simp [itS]) fun j hj => ?_
 ·refine Ghost.trans (Ghost.nilH (l := 9) (i := 0) (j := 1) (sz' := 5) rfl rfl rfl) ?_
  simp only [fb, cellsSc, cellsMs, cellsFd, itS]
  refine Ghost.ent (fun l => if l = 7 then 9 else if l = 8 then 12 else l) ?_ ?_ ?_ <;> simp -implicitDefEqProofs only [go_sem, ↓reduceIte, Nat.reduceEqDiff, reduceCtorEq, List.map_nil, liftE_nil, List.set_cons_zero, List.set_cons_succ, List.forall_mem_cons, List.not_mem_nil, false_implies, implies_true, and_self, map_renL_lift, labsIn_lift, List.all_cons, List.all_nil, Nat.reduceLT, labsInL, AV.labsIn]
  all_goals first | rfl | skip
 obtain ⟨hj1, hj2⟩ := hj
 have RAj := RA j
 have NJ : itS (fun _ => repF l sub f) (j + 1) ([], b3) = repF l sub f (itS (fun _ => repF l sub f) j ([], b3)) := rfl
 have wj : IntKind.wrap .i64 ((j : Int) + 1) = ((j + 1 : Nat) : Int) := by rw [w64] <;> omega
 refine AW.seq ?_
 by_cases hjc : j < c
 case neg =>
  have hj' : j = c := by omega
  subst hj'
  rw [← TE]
  rw [← TE] at hj2
  generalize treesF l sub f b' = y at hj2 TF
  obtain ⟨ts, bb⟩ := y
  simp only at hj2
  have hc2 : ((j : Int) < (j : Int)) = False := eq_false (by omega)
  simp only [fb, cellsSc, cellsMs, cellsFd]
  refine AW.rT (by rfl) fun K hK => ?_
  simp -implicitDefEqProofs only [go_sem, ↓reduceIte, Nat.reduceAdd, Nat.reduceEqDiff, hc2]
  apply hK; clear hK K
  refine AW.cF rfl ?_
  refine AW.exit ?_
  simp only [andThen, inBlk, ↓reduceIte]
  refine AW.ghost (s' := fb S m l d (i + 1) es bb [(18, .ptr 7 0 0)] [(7, .row 2 [[.p (.int .i64 ((i + 1 : Nat) : Int)), .p (.slice (ts.map encTr))]])] 8) (Ghost.trans (Ghost.freeze (lb := 8) (ps := ts.map encTr) rfl (unlift_liftE _)) ?_) ?_
  ·simp only [fb, cellsSc, cellsMs]
   refine Ghost.sub ?_ ?_ <;> simp -implicitDefEqProofs only [go_sem, ↓reduceIte, Nat.reduceEqDiff, reduceCtorEq, thaw, thaw1, Option.map_some, List.map_cons, List.map_nil, thaw_lift, List.forall_mem_cons, List.not_mem_nil, false_implies, implies_true, and_self, labsIn_lift, List.all_cons, List.all_nil, Nat.reduceLT, labsInL, AV.labsIn]
   done
  simp only [fb, cellsSc, cellsMs]
  by_cases h0 : ts = []
  ·subst h0
   rw [if_pos rfl] at TF
   refine AW.rT (by rfl) fun K hK => ?_
   simp -implicitDefEqProofs only [go_sem, ↓reduceIte, Nat.reduceAdd, Nat.reduceEqDiff, reduceCtorEq]
   apply hK; clear hK K
   refine AW.cF rfl ?_
   refine AW.skip ?_
   simp only [andThen, inBlk]
   refine AW.rE (by rfl) fun K hK => ?_
   simp -implicitDefEqProofs only [go_sem, ↓reduceIte, Nat.reduceAdd, Nat.reduceEqDiff, w1]
   apply hK; clear hK K
   refine nextI _ ?_
   rw [TF]
   simp only [fb, cellsSc, cellsMs]
   refine Ghost.sub ?_ ?_ <;> simp -implicitDefEqProofs only [go_sem, ↓reduceIte, Nat.reduceEqDiff, reduceCtorEq, List.forall_mem_cons, List.not_mem_nil, false_implies, implies_true, and_self, labsIn_lift, List.all_cons, List.all_nil, Nat.reduceLT, labsInL, AV.labsIn]
   done
  ·have hp := List.length_pos_iff.2 h0
   have g1 : ((ts.length : Int) > 0) = True := eq_true (by omega)
   rw [if_neg h0] at TF
   refine AW.rT (by rfl) fun K hK => ?_
   simp -implicitDefEqProofs only [go_sem, ↓reduceIte, Nat.reduceAdd, Nat.reduceEqDiff, reduceCtorEq, g1, List.length_map]
   apply hK; clear hK K
   refine AW.cT rfl ?_
   refine AW.rE (by rfl) fun K hK => ?_
   simp -implicitDefEqProofs only [go_sem, ↓reduceIte, Nat.reduceAdd, Nat.reduceMul, Nat.reduceEqDiff, Nat.reduceLeDiff, reduceCtorEq]
   refine ⟨⟨by simp, by simp [oneAll, AV.one, PV.one], by simp⟩, by simp [liftE_length]; omega, ?_⟩
   try simp -implicitDefEqProofs only [go_sem, ↓reduceIte, Nat.reduceAdd, Nat.reduceMul, Nat.reduceEqDiff, Nat.reduceLeDiff, reduceCtorEq, Int.reduceToNat]
   apply hK; clear hK K
   simp only [andThen, inBlk]
   have e8 : liftE (es.map encEn) ++ [[AV.p (.int .i64 ((i + 1 : Nat) : Int)), .p (.slice (ts.map encTr))]] = liftE ((es ++ [(((i + 1 : Nat) : Int), ts)]).map encEn) := by
    simp [liftE, encEn]
   refine AW.rE (by rfl) fun K hK => ?_
   simp -implicitDefEqProofs only [go_sem, ↓reduceIte, Nat.reduceAdd, Nat.reduceEqDiff, w1]
   apply hK; clear hK K
   refine nextI _ ?_
   rw [TF]
   simp only [fb, cellsSc, cellsMs]
   rw [← e8]
   refine Ghost.ent (fun l => if l = 5 then 16 else l) ?_ ?_ ?_ <;> simp -implicitDefEqProofs only [go_sem, ↓reduceIte, Nat.reduceEqDiff, reduceCtorEq, List.forall_mem_cons, List.not_mem_nil, false_implies, implies_true, and_self, map_renL_lift, labsIn_lift, List.all_append, List.all_cons, List.all_nil, List.map_append, Nat.reduceLT, labsInL, AV.labsIn]
   all_goals first | rfl | skip
 generalize itS (fun _ => repF l sub f) j ([], b3) = y at *
 obtain ⟨ts, bb⟩ := y
 simp only at hj2 RAj
 have hc2 : ((j : Int) < (c : Int)) = True := eq_true (by omega)
 have CO := law00_one S l hl f d bb (by omega) k1 k7 fun h => by
  have h0 : d ≠ 0 := fun q => hj7 ⟨h, by rw [← hokd, q]; rfl⟩
  exact ⟨d - 1, by omega, hd, ih (d - 1) (by omega) (by omega), km h⟩
 rw [hsub] at CO
 have RF : repF l sub f (ts, bb) = (if f.label ≠ 1 ∨ zeroV (oneF l sub f bb).1 = false then ts ++ [(oneF l sub f bb).1] else ts, (oneF l sub f bb).2) := rfl
 rw [RF] at NJ
 generalize oneF l sub f bb = z at CO NJ
 obtain ⟨tr, b4⟩ := z
 simp only at CO NJ
 have CZ := ref10_Zero tr
 rw [encTr_eq tr] at CO CZ
 simp only [fb, cellsSc, cellsMs, cellsFd]
 refine AW.rT (by rfl) fun K hK => ?_
 simp -implicitDefEqProofs only [go_sem, ↓reduceIte, Nat.reduceAdd, Nat.reduceEqDiff, hc2]
 apply hK; clear hK K
 refine AW.cT rfl ?_
 refine AW.skip ?_
 simp only [andThen]
 refine AW.seq ?_
 refine AW.block ?_
 refine AW.rR (SeqR.ev 5 (by rfl) (by decide) ?_)
 simp -implicitDefEqProofs only [go_sem, ↓reduceIte, Nat.reduceAdd, Nat.reduceEqDiff, Nat.reduceLeDiff, reduceCtorEq]
 refine SeqR.call (fun k => k) rfl rfl CO ⟨?_, rfl, ?_, rfl, rfl, rfl, rfl, rfl, rfl⟩ ?_
 ·simp -implicitDefEqProofs only [go_sem, ↓reduceIte, Nat.reduceEqDiff, argD, encSc, encFd]
 ·simp only [atH]
  simp -implicitDefEqProofs only [go_sem, ↓reduceIte, List.forall_mem_cons, List.not_mem_nil, false_implies, implies_true]
  first | done | decide
 simp only [atH, AV.ren]
 refine SeqR.ev 2 (by rfl) (by decide) ?_
 simp -implicitDefEqProofs only [go_sem, ↓reduceIte, Nat.reduceAdd, Nat.reduceEqDiff, Nat.reduceLeDiff, lift2, goneU, newU, List.map_cons, List.map_nil, putH, Nat.reduceLT]
 refine SeqR.last rfl ?_
 refine AW.ghost (s' := fb S m l d (i + 1) es b4 [(15, .ptr 6 0 0), (17, .p (.int .i64 (c : Int))), (18, .ptr 7 0 0), (19, .p (.int .i64 (j : Int))), (20, .ptr 9 0 0)] [(6, .row 5 [cellsFd f]), (7, .row 2 [[.p (.int .i64 ((i + 1 : Nat) : Int)), .own 8]]), (8, .row 5 (liftE (ts.map encTr))), (9, .row 5 [cellsT tr])] 10) ?_ ?_
 ·simp only [fb, cellsSc, cellsMs, cellsFd, cellsT]
  refine Ghost.ent (fun l => if l = 9 then 17 else l) ?_ ?_ ?_ <;> simp -implicitDefEqProofs only [go_sem, ↓reduceIte, Nat.reduceEqDiff, reduceCtorEq, List.forall_mem_cons, List.not_mem_nil, false_implies, implies_true, and_self, map_renL_lift, labsIn_lift, List.all_cons, List.all_nil, Nat.reduceLT, labsInL, AV.labsIn]
  all_goals first | rfl | skip
 simp only [fb, cellsSc, cellsMs, cellsFd, cellsT]
 have nextJ : ∀ (q : List Tr) (s' : St), itS (fun _ => repF l sub f) (j + 1) ([], b3) = (q, b4) → q.length ≤ j + 1 → Ghost ⟨109, [3], val⟩ s' (fb S m l d (i + 1) es b4 [(15, .ptr 6 0 0), (17, .p (.int .i64 (c : Int))), (18, .ptr 7 0 0), (19, .p (.int .i64 ((j + 1 : Nat) : Int)))] [(6, .row 5 [cellsFd f]), (7, .row 2 [[.p (.int .i64 ((i + 1 : Nat) : Int)), .own 8]]), (8, .row 5 (liftE (q.map encTr)))] 9) →
   ∃ y : Nat, (y ≤ c ∧ (itS (fun _ => repF l sub f) y ([], b3)).1.length ≤ y) ∧ c - y < c - j ∧ Ghost ⟨109, [3], val⟩ s' (fb S m l d (i + 1) es (itS (fun _ => repF l sub f) y ([], b3)).2 [(15, .ptr 6 0 0), (17, .p (.int .i64 (c : Int))), (18, .ptr 7 0 0), (19, .p (.int .i64 (y : Int)))] [(6, .row 5 [cellsFd f]), (7, .row 2 [[.p (.int .i64 ((i + 1 : Nat) : Int)), .own 8]]), (8, .row 5 (liftE ((itS (fun _ => repF l sub f) y ([], b3)).1.map encTr)))] 9) :=
  fun q s' e hq g => ⟨j + 1, ⟨by omega, by rw [e]; exact hq⟩, by omega, by rw [e]; exact g⟩
 have app : liftE (ts.map encTr) ++ [[AV.p (.int .i64 tr.kind), .p (.int .i64 tr.n), .p (.str tr.s), .p (.slice (tr.ents.map encEn)), .p (.slice (tr.rest.map encRaw))]] = liftE ((ts ++ [tr]).map encTr) := by
  simp [liftE, encTr_eq tr]
 by_cases hb1 : f.label = 1
 case neg =>
  have b1 : (f.label != 1) = true := by simpa using hb1
  rw [if_pos (.inl hb1)] at NJ
  refine AW.rT (by rfl) fun K hK => ?_
  simp -implicitDefEqProofs only [go_sem, ↓reduceIte, Nat.reduceAdd, Nat.reduceEqDiff, reduceCtorEq, b1]
  apply hK; clear hK K
  refine AW.cT rfl ?_
  refine AW.rE (by rfl) fun K hK => ?_
  simp -implicitDefEqProofs only [go_sem, ↓reduceIte, Nat.reduceAdd, Nat.reduceMul, Nat.reduceEqDiff, Nat.reduceLeDiff, reduceCtorEq]
  refine ⟨⟨by simp, by simp [oneAll, AV.one, PV.one], by simp⟩, by simp [liftE_length]; omega, ?_⟩
  try simp -implicitDefEqProofs only [go_sem, ↓reduceIte, Nat.reduceAdd, Nat.reduceMul, Nat.reduceEqDiff, Nat.reduceLeDiff, reduceCtorEq, Int.reduceToNat]
  apply hK; clear hK K
  simp only [andThen, inBlk]
  refine AW.rE (by rfl) fun K hK => ?_
  simp -implicitDefEqProofs only [go_sem, ↓reduceIte, Nat.reduceAdd, Nat.reduceEqDiff, wj]
  apply hK; clear hK K
  refine nextJ _ _ NJ (by simp; omega) ?_
  simp only [fb, cellsSc, cellsMs, cellsFd]
  rw [← app]
  refine Ghost.ent (fun l => if l = 8 then 22 else l) ?_ ?_ ?_ <;> simp -implicitDefEqProofs only [go_sem, ↓reduceIte, Nat.reduceEqDiff, reduceCtorEq, List.forall_mem_cons, List.not_mem_nil, false_implies, implies_true, and_self, map_renL_lift, labsIn_lift, List.all_append, List.all_cons, List.all_nil, List.map_append, Nat.reduceLT, labsInL, AV.labsIn]
  all_goals first | rfl | skip
 have b1 : (f.label != 1) = false := by simp [hb1]
 cases hz : zeroV tr with
 | false =>
  rw [hz] at CZ
  rw [if_pos (.inr hz)] at NJ
  refine AW.rT (by rfl) fun K hK => ?_
  simp -implicitDefEqProofs only [go_sem, ↓reduceIte, Nat.reduceAdd, Nat.reduceEqDiff, Nat.reduceLeDiff, reduceCtorEq, b1]
  refine ⟨.pure _, CZ, ?_⟩
  try simp -implicitDefEqProofs only [go_sem, ↓reduceIte, Nat.reduceAdd, Nat.reduceEqDiff]
  apply hK; clear hK K
  refine AW.cT rfl ?_
  refine AW.rE (by rfl) fun K hK => ?_
  simp -implicitDefEqProofs only [go_sem, ↓reduceIte, Nat.reduceAdd, Nat.reduceMul, Nat.reduceEqDiff, Nat.reduceLeDiff, reduceCtorEq]
  refine ⟨⟨by simp, by simp [oneAll, AV.one, PV.one], by simp⟩, by simp [liftE_length]; omega, ?_⟩
  try simp -implicitDefEqProofs only [go_sem, ↓reduceIte, Nat.reduceAdd, Nat.reduceMul, Nat.reduceEqDiff, Nat.reduceLeDiff, reduceCtorEq, Int.reduceToNat]
  apply hK; clear hK K
  simp only [andThen, inBlk]
  refine AW.rE (by rfl) fun K hK => ?_
  simp -implicitDefEqProofs only [go_sem, ↓reduceIte, Nat.reduceAdd, Nat.reduceEqDiff, wj]
  apply hK; clear hK K
  refine nextJ _ _ NJ (by simp; omega) ?_
  simp only [fb, cellsSc, cellsMs, cellsFd]
  rw [← app]
  refine Ghost.ent (fun l => if l = 8 then 22 else l) ?_ ?_ ?_ <;> simp -implicitDefEqProofs only [go_sem, ↓reduceIte, Nat.reduceEqDiff, reduceCtorEq, List.forall_mem_cons, List.not_mem_nil, false_implies, implies_true, and_self, map_renL_lift, labsIn_lift, List.all_append, List.all_cons, List.all_nil, List.map_append, Nat.reduceLT, labsInL, AV.labsIn]
  all_goals first | rfl | skip
 | true =>
  rw [hz] at CZ
  rw [if_neg (by rintro (q | q); exact q hb1; rw [hz] at q; cases q)] at NJ
  refine AW.rT (by rfl) fun K hK => ?_
  simp -implicitDefEqProofs only [go_sem, ↓reduceIte, Nat.reduceAdd, Nat.reduceEqDiff, Nat.reduceLeDiff, reduceCtorEq, b1]
  refine ⟨.pure _, CZ, ?_⟩
  try simp -implicitDefEqProofs only [go_sem, ↓reduceIte, Nat.reduceAdd, Nat.reduceEqDiff]
  apply hK; clear hK K
  refine AW.cF rfl ?_
  refine AW.skip ?_
  simp only [andThen, inBlk]
  refine AW.rE (by rfl) fun K hK => ?_
  simp -implicitDefEqProofs only [go_sem, ↓reduceIte, Nat.reduceAdd, Nat.reduceEqDiff, wj]
  apply hK; clear hK K
  refine nextJ _ _ NJ (by omega) ?_
  simp only [fb, cellsSc, cellsMs, cellsFd]
  refine Ghost.sub ?_ ?_ <;> simp -implicitDefEqProofs only [go_sem, ↓reduceIte, Nat.reduceEqDiff, reduceCtorEq, List.forall_mem_cons, List.not_mem_nil, false_implies, implies_true, and_self, labsIn_lift, List.all_cons, List.all_nil, Nat.reduceLT, labsInL, AV.labsIn]
  done
end Go.Aw.T
namespace Go.Aw.T
open Go.Proofs Go.RowKit
def fitB (S : Sc) (k : List UInt8) (l : List Int) : Tr := (fitF S l 4 k 0).1
theorem law00_Fit (S : Sc) (hS : SizS S) (FO : ∀ k, (msOf S k).2 = true → FldsOK S (msOf S k).1) (l : List Int) (hl : l.length ≤ 200) (k : List UInt8) (hk : (msOf S k).2 = true) : PFn Tryd.prog 23 [.agg (encSc S), .str k, .slice (l.map encI)] (.agg (encTr (fitB S k l))) := by
 have CT := law00_fit S hS FO l hl 4 (by omega) k 0 (by omega) hk
 refine PFn.of Tryd.func23 rfl (by decide) Tryd.ntmps23 Tryd.results23 (Nat.le_of_ble_eq_true rfl) ?_
 unfold fitB
 generalize (fitF S l 4 k 0).1 = tr at CT
 generalize (fitF S l 4 k 0).2 = b at CT
 have e1 : ((5 - 4 : Nat) : Int) = 1 := rfl
 rw [e1, encTr_eq tr] at CT
 simp only [argsT]
 refine AW.rT (by rfl) fun K hK => ?_
 simp -implicitDefEqProofs only [go_sem, Nat.reduceAdd, encSc]
 apply hK; clear hK K
 refine AW.rT (by rfl) fun K hK => ?_
 simp -implicitDefEqProofs only [go_sem, Nat.reduceAdd, Nat.reduceLeDiff]
 apply hK; clear hK K
 refine AW.rR (SeqR.ev 3 (by rfl) (by decide) ?_)
 simp -implicitDefEqProofs only [go_sem, ↓reduceIte, Nat.reduceAdd, Nat.reduceEqDiff, Nat.reduceLeDiff, reduceCtorEq]
 refine SeqR.call (fun k => 2) rfl rfl CT ⟨?_, rfl, ?_, rfl, rfl, rfl, rfl, rfl, rfl⟩ ?_
 ·simp -implicitDefEqProofs only [go_sem, ↓reduceIte, Nat.reduceEqDiff, argD, encSc]
  done
 ·simp only [atH]
  simp -implicitDefEqProofs only [go_sem, List.forall_mem_cons, List.not_mem_nil, false_implies, implies_true]
  exact ⟨rfl, by decide⟩
 simp only [atH, AV.ren]
 refine SeqR.ev 1 (by rfl) (by decide) ?_
 simp -implicitDefEqProofs only [go_sem, ↓reduceIte, Nat.reduceAdd, Nat.reduceEqDiff, Nat.reduceLeDiff, lift2, goneU, newU, List.map_cons, List.map_nil, putH, Nat.reduceLT]
 refine SeqR.last rfl ?_
 refine AW.ret ?_
 simp -implicitDefEqProofs only [go_sem, ↓reduceIte, Nat.reduceAdd, Nat.reduceEqDiff, Nat.reduceLeDiff, encTr_eq]
 done
end Go.Aw.T
namespace Go.Aw.T
open Go.Proofs Go.RowKit
structure FitT (S : Sc) (m : Ms) (t : Tr) : Prop where
 ms : msOf S m.name = (m, true)
 good : GoodM S m 5 t
 ok : okT t = true
 valid : validV S m.name t = 0
theorem fit_t {S : Sc} (h0 : checkC S = 0) {q : Nat} {m : Ms} (hq : S.msgs[q]? = some m) (l : List Int) : FitT S m (fitB S m.name l) := by
 have R := right_of h0
 have hm : msOf S m.name = (m, true) := (R.msg q m hq).1
 have G := fit_good (flds_all R) l 4 m.name 0 (by rw [hm])
 rw [hm] at G
 have ho : okT (fitB S m.name l) = true := by
  unfold okT
  have := G.deep 101
  rw [Bool.and_eq_true, decide_eq_true_eq]
  exact ⟨by unfold fitB; omega, G.right⟩
 refine ⟨hm, G, ho, ?_⟩
 unfold validV
 rw [if_neg (by simp [h0]), hm, if_neg (by simp), if_neg]
 ·exact G.msg
 ·rintro (a | a)
  ·exact a G.kind
  ·rw [ho] at a; cases a
end Go.Aw.T
namespace Go.Aw.T
open Go.Proofs
end Go.Aw.T
namespace Go.Aw.T
open Go.Proofs
theorem prM_kind (S : Sc) (m : Ms) (t : Tr) : (prM S m t).kind = 3 ∧ (prM S m t).rest = [] ∧ (prM S m t).ents = prE S m t.ents ∧ (prM S m t).n = 0 ∧ (prM S m t).s = [] := by
 rw [prM_mk]
 exact ⟨rfl, rfl, rfl, rfl, rfl⟩
end Go.Aw.T
namespace Go.Aw.T
open Go.Proofs
theorem oneL_all' {S : Sc} {f : Fd} : ∀ {l : List Tr}, oneL S f l = 0 → ∀ x ∈ l, oneV S f x = 0
 | [], _, x, hx => by cases hx
 | a :: l, h, x, hx => by
  rw [oneL_cons] at h
  obtain ⟨h1, h2⟩ := orE_eq.1 h
  rcases List.mem_cons.1 hx with rfl | hx
  ·exact h1
  ·exact oneL_all' h2 x hx
theorem entV_all' {S : Sc} {m : Ms} : ∀ {es : List (Int × List Tr)}, entV S m es = 0 → ∀ e ∈ es, (fldOf m e.1).2 = true ∧ ((fldOf m e.1).1.label ≠ 3 → e.2.length ≤ 1) ∧ ∀ x ∈ e.2, oneV S (fldOf m e.1).1 x = 0
 | [], _, e, he => by cases he
 | (g, l) :: es, h, e, he => by
  rw [entV] at h
  split at h
  ·cases h
  rename_i h1
  split at h
  ·cases h
  rename_i h2
  obtain ⟨h3, h4⟩ := orE_eq.1 h
  rcases List.mem_cons.1 he with rfl | he
  ·refine ⟨by simpa using h1, fun a => ?_, oneL_all' h3⟩
   rcases Nat.lt_or_ge 1 l.length with q | q
   ·exact absurd ⟨a, q⟩ h2
   ·exact q
  ·exact entV_all' h4 e he
theorem of_fit {y : Ty} {t : Tr} (h : fitV y t = 0) : t.kind = kdV y ∧ (t.kind = 1 → numV y t.n = true) ∧ (y.kind = 4 → valS t.s = true) := by
 unfold fitV at h
 split at h
 ·cases h
 rename_i h1
 split at h
 ·cases h
 rename_i h2
 split at h
 ·cases h
 rename_i h3
 refine ⟨by simpa using h1, fun a => ?_, fun a => ?_⟩
 ·cases hq : numV y t.n
  ·exact absurd ⟨a, hq⟩ h2
  ·rfl
 ·cases hq : valS t.s
  ·exact absurd ⟨a, hq⟩ h3
  ·rfl
theorem prM_keeps (S : Sc) (FO : ∀ k, (msOf S k).2 = true → FldsOK S (msOf S k).1) : ∀ (t : Tr) (m : Ms), FldsOK S m → rightT t = true → t.kind = 3 → msgV S m t = 0 → bareT t = t → prM S m t = t := by
 intro t
 induction h : SizeOf.sizeOf t using Nat.strongRecOn generalizing t with
 | _ sz ih =>
 subst h
 intro m hF hr hk hm hb
 have rt := hr
 rw [rightT_mk, if_neg (by rw [hk]; decide), if_neg (by rw [hk]; decide), if_pos hk] at rt
 simp only [Bool.and_eq_true, decide_eq_true_eq] at rt
 have rE := right_ent hr
 rw [msgV_mk] at hm
 have hent := entV_all' (orE_eq.1 hm).1
 have hbe : ∀ e ∈ t.ents, ∀ x ∈ e.2, bareT x = x := fun e he x hx => by
  have hb' := congrArg Tr.ents hb
  rw [bare_ents] at hb'
  have key : ∀ l : List (Int × List Tr), l.map (fun e => (e.1, e.2.map bareT)) = l → ∀ e ∈ l, ∀ x ∈ e.2, bareT x = x := fun l => by
   induction l with
   | nil => intro _ e he; cases he
   | cons a l ihl =>
    intro h2 e he x hx
    rw [List.map_cons] at h2
    injection h2 with h3 h4
    rcases List.mem_cons.1 he with rfl | he
    ·have h5 := congrArg Prod.snd h3
     simp only at h5
     have : ∀ r : List Tr, r.map bareT = r → ∀ x ∈ r, bareT x = x := fun r => by
      induction r with
      | nil => intro _ x hx; cases hx
      | cons b r ihr =>
       intro h6 x hx
       rw [List.map_cons] at h6
       injection h6 with h7 h8
       rcases List.mem_cons.1 hx with rfl | hx
       ·exact h7
       ·exact ihr h8 x hx
     exact this _ h5 x hx
    ·exact ihl h4 e he x hx
  exact key t.ents hb' e he x hx
 have hrest : t.rest = [] := by
  have := congrArg Tr.rest hb
  rw [(bare_kind t).2.2.2] at this
  exact this.symm
 have ents : prE S m t.ents = t.ents := by
  have key : ∀ es : List (Int × List Tr), (∀ e ∈ es, e ∈ t.ents) → prE S m es = es := fun es => by
   induction es with
   | nil => intro _; rw [prE]
   | cons e es ihe =>
    intro hin
    rw [prE_cons, ihe fun e he => hin e (List.mem_cons_of_mem _ he)]
    have he := hin e List.mem_cons_self
    obtain ⟨f1, f2, f3⟩ := hent e he
    obtain ⟨⟨q1, q7⟩, qm⟩ := hF e.1 f1
    have r1 := rE e he
    have hEP : entP S m e = [e] := by
     have one : ∀ x ∈ e.2, fitV (fldOf m e.1).1.ty x = 0 := fun x hx => by
      have := f3 x hx
      unfold oneV at this
      exact (orE_eq.1 this).1
     have hall : e.2.all (pfit (fldOf m e.1).1.ty) = true := List.all_eq_true.2 fun x hx => by
      obtain ⟨c1, c2, c3⟩ := of_fit (one x hx)
      unfold kdV at c1
      by_cases a1 : (fldOf m e.1).1.ty.kind = 1 ∨ (fldOf m e.1).1.ty.kind = 2
      ·rw [if_pos (by omega)] at c1
       unfold pfit; rw [if_pos a1]; simpa using c1
      by_cases a3 : (fldOf m e.1).1.ty.kind = 3 ∨ (fldOf m e.1).1.ty.kind = 6
      ·rw [if_pos (by omega)] at c1
       unfold pfit; rw [if_neg a1, if_pos a3]; simp [c1, c2 c1]
      rw [if_neg (by omega)] at c1
      by_cases a4 : (fldOf m e.1).1.ty.kind = 4
      ·rw [if_pos (by omega)] at c1
       unfold pfit; rw [if_neg a1, if_neg a3, if_pos a4]; simp [c1, c3 a4]
      by_cases a5 : (fldOf m e.1).1.ty.kind = 5
      ·rw [if_pos (by omega)] at c1
       unfold pfit; rw [if_neg a1, if_neg a3, if_neg a4, if_pos a5]; simpa using c1
      ·rw [if_neg (by omega)] at c1
       unfold pfit; rw [if_neg a1, if_neg a3, if_neg a4, if_neg a5]; simpa using c1
     have hsel : selL (fldOf m e.1).1 e.2 = e.2 := by
      unfold selL
      split
      ·rfl
      ·rename_i hl3
       have := f2 hl3
       rw [show e.2.length - 1 = 0 by omega, List.drop_zero]
     have hpr : e.2.map (pr1 S (fldOf m e.1).1) = e.2 := by
      conv => rhs; rw [← List.map_id e.2]
      refine List.map_congr_left fun x hx => ?_
      obtain ⟨c1, c2, c3⟩ := of_fit (one x hx)
      simp only [id_eq]
      unfold pr1
      split
      ·rename_i a1
       have kx : x.kind = 1 := by rw [c1]; unfold kdV; rw [if_pos (by omega)]
       have nv := c2 kx
       unfold numV at nv
       rw [if_pos a1] at nv
       simp only [decide_eq_true_eq] at nv
       have : clampV x.n = x.n := by unfold clampV; rw [if_neg (by omega), if_neg (by omega)]
       rw [this]
       cases x; rfl
      split
      ·rename_i a7
       have kx : x.kind = 3 := by rw [c1]; unfold kdV; rw [if_neg (by omega), if_neg (by omega)]
       have mv := f3 x hx
       unfold oneV at mv
       have mv := (orE_eq.1 (orE_eq.1 mv).2).1
       rw [if_pos a7] at mv
       obtain ⟨i, hi⟩ := List.getElem?_of_mem he
       obtain ⟨j, hj⟩ := List.getElem?_of_mem hx
       exact ih _ (size_ent hi hj) x rfl _ (FO _ (qm a7)) (r1.2 x hx) kx mv (hbe e he x hx)
      ·rfl
     have hkeep : keepL (fldOf m e.1).1 e.2 = true := by
      unfold keepL
      by_cases a : (fldOf m e.1).1.label = 1
      ·rw [show ((fldOf m e.1).1.label != 1) = false by simp [a], Bool.false_or]
       have hl := r1.1
       cases hq : e.2 with
       | nil => rw [hq] at hl; simp at hl
       | cons y ys =>
        have mv := f3 y (by rw [hq]; exact List.mem_cons_self)
        unfold oneV at mv
        have mz := (orE_eq.1 (orE_eq.1 mv).2).2
        cases hz : zeroV y with
        | false => simp [hz]
        | true => rw [if_pos ⟨a, hz⟩] at mz; cases mz
      ·rw [show ((fldOf m e.1).1.label != 1) = true by simpa using a, Bool.true_or]
     have hfp : fieldP S (fldOf m e.1).1 e.2 = (e.2, true) := by unfold fieldP; rw [if_neg (by simp [hall]), hsel, hpr, hkeep]
     unfold entP
     rw [hfp, if_pos ⟨f1, rfl⟩]
    rw [hEP]
    rfl
  exact key t.ents fun e h => h
 rw [prM_mk, ents]
 cases t with
 | mk k n s es r =>
  simp only [Tr.kind, Tr.n, Tr.s, Tr.ents, Tr.rest] at *
  rw [hk, rt.1.1.1, rt.1.1.2, hrest]
end Go.Aw.T
namespace Go.Aw.T
open Go.Proofs Go.RowKit
end Go.Aw.T
namespace Go.Aw.T
open Go.Proofs Go.RowKit
end Go.Aw.T
namespace Go.Aw.T
open Go.Proofs
theorem raws_len (l : List Raw) : ∀ e ∈ liftE (l.map encRaw), e.length = 4 := liftE_len fun e he => by
 obtain ⟨x, _, rfl⟩ := List.mem_map.1 he
 rfl
theorem raws_one (l : List Raw) : ∀ e ∈ liftE (l.map encRaw), oneAll e = true := liftE_one fun e he p hp => by
 obtain ⟨x, _, rfl⟩ := List.mem_map.1 he
 simp [encRaw] at hp
 rcases hp with rfl | rfl | rfl | rfl <;> rfl
theorem right_sub : ∀ {l : List Tr} {c : Int}, rightTs l c = true → ∀ x ∈ l, rightT x = true := by
 intro l
 induction l with
 | nil => intro c _ x h; cases h
 | cons y l ih =>
  intro c h x hx
  rw [rightTs] at h
  split at h
  ·cases h
  ·split at h
   ·rename_i hy
    rcases List.mem_cons.1 hx with rfl | hx
    ·exact hy
    ·exact ih h x hx
   ·cases h
theorem right_ents : ∀ {es : List (Int × List Tr)} {last : Int}, rightE es last = true → ∀ e ∈ es, ∀ x ∈ e.2, rightT x = true := by
 intro es
 induction es with
 | nil => intro c _ x h; cases h
 | cons y es ih =>
  intro last h e he
  obtain ⟨a, l⟩ := y
  rw [rightE] at h
  split at h
  ·cases h
  ·split at h
   ·rename_i hy
    rcases List.mem_cons.1 he with rfl | he
    ·exact right_sub hy
    ·exact ih h e he
   ·cases h
theorem right_kinds {t : Tr} (h : rightT t = true) : (t.kind = 1 ∧ t = .mk 1 t.n [] [] []) ∨ (t.kind = 2 ∧ t = .mk 2 0 t.s [] []) ∨ (t.kind = 3 ∧ t.n = 0 ∧ t.s = [] ∧ rightE t.ents 0 = true ∧ restT t.ents t.rest = true) := by
 obtain ⟨k, n, s, es, rest⟩ := t
 rw [rightT] at h
 simp only [Tr.kind, Tr.n, Tr.s, Tr.ents, Tr.rest]
 by_cases h1 : k = 1
 ·rw [if_pos h1] at h
  simp at h
  obtain ⟨⟨rfl, rfl⟩, rfl⟩ := h
  exact .inl ⟨h1, by rw [h1]⟩
 rw [if_neg h1] at h
 by_cases h2 : k = 2
 ·rw [if_pos h2] at h
  simp at h
  obtain ⟨⟨rfl, rfl⟩, rfl⟩ := h
  exact .inr (.inl ⟨h2, by rw [h2]⟩)
 rw [if_neg h2] at h
 by_cases h3 : k = 3
 ·rw [if_pos h3] at h
  simp at h
  exact .inr (.inr ⟨h3, h.1.1.1, h.1.1.2, h.1.2, h.2⟩)
 ·rw [if_neg h3] at h
  cases h
end Go.Aw.T
namespace Go.Aw.T
open Go.Proofs Go.RowKit
theorem fm_congr {α β : Type} {f g : α → List β} : ∀ {l : List α}, (∀ x ∈ l, f x = g x) → l.flatMap f = l.flatMap g
 | [], _ => rfl
 | x :: l, h => by
  rw [List.flatMap_cons, List.flatMap_cons, h x (List.mem_cons_self ..), fm_congr fun y hy => h y (List.mem_cons_of_mem _ hy)]
def tagsN : Nat → Int → List Int
 | 0, _ => []
 | n + 1, t => t :: tagsN n (t + 1)
theorem tagsN_mem : ∀ {n : Nat} {t u : Int}, u ∈ tagsN n t → t ≤ u ∧ u < t + n
 | 0, t, u, h => by cases h
 | n + 1, t, u, h => by
  rw [tagsN] at h
  rcases List.mem_cons.1 h with rfl | h
  ·exact ⟨Int.le_refl _, by push_cast; omega⟩
  ·have := tagsN_mem h
   push_cast
   omega
def Pref (l L : List Pr) : Prop := ∀ (i : Nat) q, l[i]? = some q → L[i]? = some q
theorem pref_app {l L : List Pr} (h : Pref l L) : ∃ r, L = l ++ r := by
 refine ⟨L.drop l.length, ?_⟩
 have : L.take l.length = l := by
  apply List.ext_getElem?
  intro i
  rw [List.getElem?_take]
  split
  ·rename_i hi
   have := h i _ (List.getElem?_eq_getElem hi)
   rw [this, List.getElem?_eq_getElem hi]
  ·rename_i hi
   rw [List.getElem?_eq_none (by omega)]
 conv => lhs; rw [← List.take_append_drop l.length L, this]
theorem place_pref {l L : List Pr} {p : Pr} (h : Pref (addP l p) L) : placeP L p = placeP l p := by
 obtain ⟨r, rfl⟩ := pref_app h
 unfold addP placeP
 split
 ·rename_i hc
  rw [List.contains_iff_mem] at hc
  have := (place_yes hc).1
  unfold placeP at this
  rw [List.findIdx_append, if_pos this]
 ·rename_i hc
  rw [List.contains_iff_mem] at hc
  have h1 := place_no hc
  unfold placeP at h1
  have h2 : (l ++ [p]).findIdx (fun x => x == p) = l.length := by
   rw [List.findIdx_append, if_neg (by omega)]
   simp
  rw [List.findIdx_append, if_pos (by rw [h2]; simp), h2, h1]
theorem stepO_pref {mo mn : Ms} {t : Int} {l L : List Pr} (h : Pref (stepLs mo mn t l) L) : stepO mo mn t l = stepO mo mn t L := by
 unfold stepO
 split
 ·rename_i h1
  split
  ·rename_i h2
   have hb : intoB mo mn t = true := by unfold intoB; simp [h1, h2]
   unfold stepLs at h
   rw [if_pos hb] at h
   rw [place_pref h]
  ·rfl
 ·rfl
theorem steps_final {mo mn : Ms} {L : List Pr} : ∀ (n : Nat) (t : Int) (l : List Pr), Pref (stepsP mo mn n t l).2 L → (stepsP mo mn n t l).1 = (tagsN n t).flatMap fun u => (stepO mo mn u L).toList
 | 0, t, l, h => rfl
 | n + 1, t, l, h => by
  rw [stepsP] at h ⊢
  simp only at h ⊢
  rw [tagsN, List.flatMap_cons, steps_final n (t + 1) _ h, stepO_pref (l := l) (L := L) fun i q hq => h i q (pref_stepsP mo mn n (t + 1) _ i q hq)]
theorem steps_into {mo mn : Ms} : ∀ (n : Nat) (t : Int) (l : List Pr) (u : Int), t ≤ u → u < t + n → intoB mo mn u = true → pairO mo mn u ∈ (stepsP mo mn n t l).2
 | 0, t, l, u, h1, h2, _ => by simp at h2; omega
 | n + 1, t, l, u, h1, h2, h3 => by
  rw [stepsP]
  simp only
  by_cases hu : u = t
  ·subst hu
   have : pairO mo mn u ∈ stepLs mo mn u l := by
    unfold stepLs
    rw [if_pos h3]
    exact mem_addP.2 (.inr rfl)
   obtain ⟨i, hi⟩ := List.getElem?_of_mem this
   exact List.mem_of_getElem? (pref_stepsP mo mn n (u + 1) _ i _ hi)
  ·exact steps_into n (t + 1) _ u (by omega) (by push_cast at h2; omega) h3
def stepsOf (S U : Sc) (p : Pr) (L : List Pr) : List Stp := (tagsN 500 1).flatMap fun u => (stepO (msgOf S p.o) (msgOf U p.n) u L).toList
def ProgOK (S U : Sc) (P : List (List Stp)) (L : List Pr) : Prop := ∀ (j : Nat) p, L[j]? = some p → P[j]? = some (stepsOf S U p L) ∧ ∀ u, 1 ≤ u → u ≤ 500 → intoB (msgOf S p.o) (msgOf U p.n) u = true → pairO (msgOf S p.o) (msgOf U p.n) u ∈ L
theorem make_at {S U : Sc} : ∀ (n i : Nat) (l : List Pr), 101 ≤ n + i → (makeL S U n i l).length ≤ 100 → ∀ (j : Nat) p, i ≤ j → (makeL S U n i l)[j]? = some p → (makeP S U n i l)[j - i]? = some (stepsOf S U p (makeL S U n i l)) ∧
  ∀ u, 1 ≤ u → u ≤ 500 → intoB (msgOf S p.o) (msgOf U p.n) u = true → pairO (msgOf S p.o) (msgOf U p.n) u ∈ makeL S U n i l
 | 0, i, l, hn, hl, j, p, hj, hp => by
  have := (List.getElem?_eq_some_iff.1 hp).1
  omega
 | n + 1, i, l, hn, hl, j, p, hj, hp => by
  rw [makeL] at hp hl ⊢
  rw [makeP]
  cases hq : l[i]? with
  | none =>
   rw [hq] at hp
   simp only at hp
   have := (List.getElem?_eq_some_iff.1 hp).1
   have := List.getElem?_eq_none_iff.1 hq
   omega
  | some q =>
   rw [hq] at hp hl
   simp only at hp hl ⊢
   by_cases hij : j = i
   ·subst hij
    have pf := pref_makeL S U n (j + 1) (stepsP (msgOf S q.o) (msgOf U q.n) 500 1 l).2
    have e : p = q := by
     have := pf j q (pref_stepsP _ _ 500 1 l j q hq)
     rw [hp] at this
     injection this
    subst e
    refine ⟨?_, fun u h1 h2 h3 => ?_⟩
    ·rw [Nat.sub_self, List.getElem?_cons_zero, steps_final 500 1 l pf]
     rfl
    ·obtain ⟨k, hk⟩ := List.getElem?_of_mem (steps_into 500 1 l u h1 (by omega) h3)
     exact List.mem_of_getElem? (pf k _ hk)
   ·have ih := make_at n (i + 1) _ (by omega) hl j p (by omega) hp
    rw [show j - i = (j - (i + 1)) + 1 by omega, List.getElem?_cons_succ]
    exact ih
theorem make_ok {S U : Sc} {a b : List UInt8} (hS : checkC S = 0) (hU : checkC U = 0) (ha : hasM S a = true) (hb : hasM U b = true) : ∃ L, L[0]? = some ⟨a, b⟩ ∧ PairsOK S U L ∧ ProgOK S U (makeP S U 101 0 [⟨a, b⟩]) L := by
 have RS := right_of hS
 have RU := right_of hU
 have ok : PairsOK S U [⟨a, b⟩] := ⟨fun p hp => by simp at hp; subst hp; exact ⟨ha, hb⟩, by simp⟩
 have ok' := makeL_ok RS RU 101 0 [⟨a, b⟩] ok
 have h100 := pairs_len ok' RS.len.2.1 RU.len.2.1
 refine ⟨makeL S U 101 0 [⟨a, b⟩], pref_makeL S U 101 0 _ 0 _ rfl, ok', fun j p hp => ?_⟩
 exact make_at 101 0 [⟨a, b⟩] (by omega) h100 j p (Nat.zero_le _) hp
def CmpI (S U : Sc) (I : Pr → Prop) : Prop := ∀ p, I p → hasM S p.o = true ∧ hasM U p.n = true ∧ ∀ t, (fldOf (msgOf S p.o) t).2 = true → (fldOf (msgOf U p.n) t).2 = true →
 (fldOf (msgOf S p.o) t).1.label = (fldOf (msgOf U p.n) t).1.label ∧
 ((fldOf (msgOf S p.o) t).1.ty.kind = (fldOf (msgOf U p.n) t).1.ty.kind ∨ ((fldOf (msgOf S p.o) t).1.ty.kind = 1 ∧ (fldOf (msgOf U p.n) t).1.ty.kind = 2) ∨ ((fldOf (msgOf S p.o) t).1.ty.kind = 2 ∧ (fldOf (msgOf U p.n) t).1.ty.kind = 1)) ∧
 ((fldOf (msgOf S p.o) t).1.ty.kind = 7 → (fldOf (msgOf U p.n) t).1.ty.kind = 7 → I ⟨(fldOf (msgOf S p.o) t).1.ty.name, (fldOf (msgOf U p.n) t).1.ty.name⟩)
theorem rightE_all : ∀ {es : List (Int × List Tr)} {last : Int}, rightE es last = true → es.Pairwise (fun a b => a.1 < b.1) ∧ ∀ e ∈ es, last < e.1 ∧ e.1 ≤ 500 ∧ 1 ≤ e.2.length ∧ e.2.length ≤ 64 ∧ rightTs e.2 (headK e.2) = true
 | [], _, _ => ⟨List.Pairwise.nil, fun e he => by cases he⟩
 | (g, l) :: es, last, h => by
  rw [rightE] at h
  split at h
  ·cases h
  rename_i h1
  split at h
  ·rename_i h2
   obtain ⟨a, b⟩ := rightE_all h
   refine ⟨List.pairwise_cons.2 ⟨fun e he => (b e he).1, a⟩, fun e he => ?_⟩
   rcases List.mem_cons.1 he with rfl | he
   ·exact ⟨by simp only; omega, by simp only; omega, by simp only; omega, by simp only; omega, h2⟩
   ·have := b e he
    exact ⟨by omega, this.2⟩
  ·cases h
theorem sweep {β : Type} (h : Int × List Tr → List β) : ∀ (n : Nat) (t : Int) (es : List (Int × List Tr)), es.Pairwise (fun a b => a.1 < b.1) → (∀ e ∈ es, t ≤ e.1 ∧ e.1 < t + n) →
  (tagsN n t).flatMap (fun u => (es.find? (fun e => e.1 == u)).toList.flatMap h) = es.flatMap h
 | 0, t, [], _, _ => rfl
 | 0, t, e :: es, _, hb => by
  have := hb e (List.mem_cons_self ..)
  simp at this
  omega
 | n + 1, t, [], _, _ => by
  simp
 | n + 1, t, e :: es, hp, hb => by
  obtain ⟨p1, p2⟩ := List.pairwise_cons.1 hp
  have he := hb e (List.mem_cons_self ..)
  rw [tagsN, List.flatMap_cons]
  by_cases ht : e.1 = t
  ·have e1 : (e.1 == t) = true := by simpa using ht
   have ih := sweep h n (t + 1) es p2 fun x hx => by
    have := p1 x hx
    have := (hb x (List.mem_cons_of_mem _ hx)).2
    push_cast at this
    omega
   rw [List.find?_cons, e1]
   simp only [Option.toList_some, List.flatMap_cons, List.flatMap_nil, List.append_nil]
   congr 1
   rw [← ih]
   refine fm_congr fun u hu => ?_
   have := (tagsN_mem hu).1
   have e2 : (e.1 == u) = false := by
    rw [beq_eq_false_iff_ne]
    omega
   rw [List.find?_cons, e2]
  ·have e1 : (e :: es).find? (fun x => x.1 == t) = none := by
    rw [List.find?_eq_none]
    intro x hx
    have hlt : t < x.1 := by
     rcases List.mem_cons.1 hx with rfl | hx
     ·omega
     ·have := p1 x hx
      omega
    simp only [beq_iff_eq]
    omega
   rw [e1]
   simp only [Option.toList_none, List.flatMap_nil, List.nil_append]
   refine sweep h n (t + 1) (e :: es) hp fun x hx => ?_
   have hx2 := (hb x hx).2
   push_cast at hx2
   refine ⟨?_, by omega⟩
   rcases List.mem_cons.1 hx with rfl | hx
   ·omega
   ·have := p1 x hx
    omega
def entG (P : List (List Stp)) (s : Stp) (l : List Tr) : List (Int × List Tr) := if (stepF P s l).isEmpty = true then [] else [(s.tag, stepF P s l)]
theorem stepF_nil (P : List (List Stp)) (s : Stp) : stepF P s [] = [] := by
 have h1 : kindOK s [] = true := by
  unfold kindOK
  split
  ·rfl
  ·split <;> rfl
 have h2 : lastL s ([] : List Tr) = [] := by
  unfold lastL
  split <;> rfl
 unfold stepF
 rw [h1, h2, if_neg (by simp), if_neg (by simp)]
 rfl
theorem ent_at {P : List (List Stp)} {mo mn : Ms} {u : Int} {L : List Pr} {es : List (Int × List Tr)} :
  (stepO mo mn u L).toList.flatMap (entF P es) = (es.find? (fun e => e.1 == u)).toList.flatMap fun e => (stepO mo mn e.1 L).toList.flatMap fun s => entG P s e.2 := by
 cases hs : stepO mo mn u L with
 | none =>
  cases hf : es.find? (fun e => e.1 == u) with
  | none => rfl
  | some e =>
   have : e.1 = u := by simpa using List.find?_some hf
   simp only [Option.toList_some, Option.toList_none, List.flatMap_cons, List.flatMap_nil, List.append_nil]
   rw [this, hs]
   rfl
 | some s =>
  have ht := (stepO_sub hs).1
  simp only [Option.toList_some, List.flatMap_cons, List.flatMap_nil, List.append_nil]
  cases hf : es.find? (fun e => e.1 == u) with
  | none =>
   have hg : getG es s.tag = [] := by unfold getG; rw [ht, hf]
   unfold entF
   rw [hg, stepF_nil]
   rfl
  | some e =>
   have he : e.1 = u := by simpa using List.find?_some hf
   have hg : getG es s.tag = e.2 := by unfold getG; rw [ht, hf]
   simp only [Option.toList_some, List.flatMap_cons, List.flatMap_nil, List.append_nil]
   rw [he, hs]
   simp only [Option.toList_some, List.flatMap_cons, List.flatMap_nil, List.append_nil]
   unfold entF entG
   rw [hg]
theorem zero_msg (U : Sc) (m : Ms) (x : Tr) : zeroV (prM U m x) = (prM U m x).ents.isEmpty := by
 obtain ⟨a, b, c, d, e⟩ := prM_kind U m x
 unfold zeroV
 rw [a, b, d, e]
 cases (prM U m x).ents <;> simp
theorem pfit_like {y z : Ty} {t : Tr} (h1 : 1 ≤ y.kind) (h7 : y.kind ≤ 7) (hk : t.kind = kdV y) (hn : t.kind = 1 → numV y t.n = true) (hs : y.kind = 4 → valS t.s = true)
  (h : y.kind = z.kind ∨ (y.kind = 1 ∧ z.kind = 2) ∨ (y.kind = 2 ∧ z.kind = 1)) : pfit z t = true := by
 unfold kdV at hk
 unfold pfit
 by_cases a : z.kind = 1 ∨ z.kind = 2
 ·rw [if_pos a, hk, if_pos (by omega)]
  rfl
 rw [if_neg a]
 have e : y.kind = z.kind := by omega
 by_cases b : z.kind = 3 ∨ z.kind = 6
 ·rw [if_pos (by omega)] at hk
  have : numV z t.n = true := by
   rw [← hn hk]
   unfold numV
   rw [e]
  rw [if_pos b, this, hk]
  rfl
 rw [if_neg b]
 by_cases c : z.kind = 4
 ·rw [if_neg (by omega), if_pos (by omega)] at hk
  rw [if_pos c, hs (by omega), hk]
  rfl
 rw [if_neg c]
 by_cases d : z.kind = 5
 ·rw [if_neg (by omega), if_pos (by omega)] at hk
  rw [if_pos d, hk]
  rfl
 ·rw [if_neg (by omega), if_neg (by omega)] at hk
  rw [if_neg d, hk]
  rfl
theorem clamp_id {n : Int} (h : -2147483648 ≤ n ∧ n ≤ 2147483647) : clampV n = n := by
 unfold clampV
 rw [if_neg (by omega), if_neg (by omega)]
theorem clamp_zero {n : Int} (h : clampV n = 0) : n = 0 := by
 unfold clampV at h
 split at h
 ·omega
 ·split at h <;> omega
theorem one_of {S : Sc} {f : Fd} {x : Tr} (h : oneV S f x = 0) : x.kind = kdV f.ty ∧ (x.kind = 1 → numV f.ty x.n = true) ∧ (f.ty.kind = 4 → valS x.s = true) ∧ (f.ty.kind = 7 → msgV S (msOf S f.ty.name).1 x = 0) ∧ (f.label = 1 → zeroV x = false) := by
 unfold oneV at h
 rw [orE_eq, orE_eq] at h
 obtain ⟨a, b, c⟩ := h
 obtain ⟨a1, a2, a3⟩ := of_fit a
 refine ⟨a1, a2, a3, fun k => ?_, fun k => ?_⟩
 ·rw [if_pos k] at b
  exact b
 ·cases hz : zeroV x with
  | false => rfl
  | true =>
   rw [if_pos ⟨k, hz⟩] at c
   cases c
theorem selL_one {f : Fd} {l : List Tr} (h : f.label ≠ 3 → l.length ≤ 1) (h1 : 1 ≤ l.length) : selL f l = l := by
 unfold selL
 split
 ·rfl
 ·rename_i h3
  have := h h3
  rw [show l.length - 1 = 0 by omega]
  rfl
theorem lastL_one {α : Type} {s : Stp} {l : List α} (h : s.op = 4 → l.length ≤ 1) (h1 : 1 ≤ l.length) : lastL s l = l := by
 unfold lastL
 split
 ·rename_i h4
  have := h h4
  rw [show l.length - 1 = 0 by omega]
  rfl
 ·rfl
theorem map_id' {α : Type} {f : α → α} : ∀ {l : List α}, (∀ x ∈ l, f x = x) → l.map f = l
 | [], _ => rfl
 | x :: l, h => by rw [List.map_cons, h x (List.mem_cons_self ..), map_id' fun y hy => h y (List.mem_cons_of_mem _ hy)]
theorem size_in {t x : Tr} {e : Int × List Tr} (he : e ∈ t.ents) (hx : x ∈ e.2) : SizeOf.sizeOf x < SizeOf.sizeOf t := by
 obtain ⟨i, hi⟩ := List.getElem?_of_mem he
 obtain ⟨j, hj⟩ := List.getElem?_of_mem hx
 exact size_ent hi hj
theorem run_sees {S U : Sc} {P : List (List Stp)} {L : List Pr} {I : Pr → Prop} (RS : RightS S) (RU : RightS U) (PO : ProgOK S U P L) (CI : CmpI S U I) :
  ∀ (v : Tr) (j : Nat) (p : Pr), L[j]? = some p → I p → v.kind = 3 → rightT v = true → msgV S (msgOf S p.o) v = 0 → runF P v (j : Int) = prM U (msgOf U p.n) v := by
 intro v
 induction h : SizeOf.sizeOf v using Nat.strongRecOn generalizing v with
 | _ sz ih =>
 subst h
 intro j p hp hI hk hr hv
 obtain ⟨hP, hin⟩ := PO j p hp
 obtain ⟨c1, c2, c3⟩ := CI p hI
 rw [runF_eq, prM_mk, prE_flat]
 have e0 : partO P (j : Int) = stepsOf S U p L := by
  unfold partO
  rw [Int.toNat_natCast, List.getD_eq_getElem?_getD, hP]
  rfl
 rw [e0]
 unfold stepsOf
 rw [List.flatMap_assoc]
 have e1 : (tagsN 500 1).flatMap (fun u => (stepO (msgOf S p.o) (msgOf U p.n) u L).toList.flatMap (entF P v.ents)) = (tagsN 500 1).flatMap (fun u => (v.ents.find? (fun e => e.1 == u)).toList.flatMap fun e => (stepO (msgOf S p.o) (msgOf U p.n) e.1 L).toList.flatMap fun s => entG P s e.2) :=
  fm_congr fun u _ => ent_at
 have hre : rightE v.ents 0 = true := by
  rcases right_kinds hr with ⟨a, _⟩ | ⟨a, _⟩ | ⟨_, _, _, a, _⟩
  ·omega
  ·omega
  ·exact a
 obtain ⟨r1, r2⟩ := rightE_all hre
 rw [e1, sweep _ 500 1 v.ents r1 fun e he => by
  have := r2 e he
  omega]
 congr 1
 refine fm_congr fun e he => ?_
 obtain ⟨b1, b2, b3, b4, b5⟩ := r2 e he
 rw [msgV_mk, orE_eq] at hv
 obtain ⟨v1, v2, v3⟩ := entV_all' hv.1 e he
 have hrx := (right_ent hr e he).2
 have hF := flds_ok RS (msgOf_mem c1).1
 have HF := hF e.1 v1
 have CC := c3 e.1 v1
 have hin' := hin e.1 (by omega) (by omega)
 unfold entP
 unfold stepO
 have q1 : fOf (msgOf S p.o) e.1 = fldOf (msgOf S p.o) e.1 := rfl
 have q2 : fOf (msgOf U p.n) e.1 = fldOf (msgOf U p.n) e.1 := rfl
 unfold intoB pairO at hin'
 rw [q1, q2] at hin' ⊢
 unfold pairO
 rw [q1, q2]
 obtain ⟨k1, k7⟩ := HF.1
 have one := fun x hx => one_of (v3 x hx)
 generalize (fldOf (msgOf S p.o) e.1) = ff at *
 generalize (fldOf (msgOf U p.n) e.1) = gg at *
 obtain ⟨f, fb⟩ := ff
 obtain ⟨g, gb⟩ := gg
 simp only at *
 subst v1
 cases gb with
 | false =>
  rw [if_neg (by simp), if_neg (by simp)]
  rfl
 | true =>
 obtain ⟨d1, d2, d3⟩ := CC rfl
 have allp : e.2.all (pfit g.ty) = true := by
  rw [List.all_eq_true]
  intro x hx
  obtain ⟨o1, o2, o3, _⟩ := one x hx
  exact pfit_like k1 k7 o1 o2 o3 d2
 have sel : selL g e.2 = e.2 := selL_one (fun h => v2 (by rw [d1]; exact h)) b3
 have FP : fieldP U g e.2 = (e.2.map (pr1 U g), keepL g (e.2.map (pr1 U g))) := by
  unfold fieldP
  rw [if_neg (by simp [allp]), sel]
 rw [FP, if_pos ⟨rfl, rfl, d1⟩]
 simp only [true_and]
 have ne : e.2 ≠ [] := by
  intro h
  rw [h] at b3
  simp at b3
 by_cases s7 : f.ty.kind = 7 ∧ g.ty.kind = 7
 ·rw [if_pos s7]
  have hin'' := hin' (by simp [d1, s7])
  obtain ⟨pl1, pl2⟩ := place_yes hin''
  have Iq := d3 s7.1 s7.2
  simp only [Option.toList_some, List.flatMap_cons, List.flatMap_nil, List.append_nil]
  have IH := fun x hx => ih _ (size_in he hx) x rfl (placeP L ⟨f.ty.name, g.ty.name⟩) _ pl2 Iq (by
   have := (one x hx).1
   unfold kdV at this
   rw [if_neg (by omega), if_neg (by omega)] at this
   exact this) (hrx x hx) ((one x hx).2.2.2.1 s7.1)
  simp only at IH
  have k3 : ∀ x ∈ e.2, x.kind = 3 := fun x hx => by
   have := (one x hx).1
   unfold kdV at this
   rw [if_neg (by omega), if_neg (by omega)] at this
   exact this
  have mp : e.2.map (pr1 U g) = e.2.map (prM U (msgOf U g.ty.name)) := by
   refine List.map_congr_left fun x hx => ?_
   unfold pr1
   rw [if_neg (by omega), if_pos s7.2]
   rfl
  have all3 : e.2.all (fun t => decide (t.kind = 3)) = true := by
   rw [List.all_eq_true]
   intro x hx
   rw [k3 x hx]
   rfl
  have rm : ∀ s : Stp, s.op = 3 ∨ s.op = 4 → s.sub = (placeP L ⟨f.ty.name, g.ty.name⟩ : Int) → e.2.map (run1F P s) = e.2.map (prM U (msgOf U g.ty.name)) := fun s h34 hsub => by
   refine List.map_congr_left fun x hx => ?_
   unfold run1F
   rw [if_neg (by omega), if_pos h34, hsub]
   exact IH x hx
  rw [mp]
  by_cases l1 : f.label = 1
  ·rw [if_pos l1]
   have len1 : e.2.length = 1 := by
    have := v2 (by omega)
    omega
   obtain ⟨x, hx⟩ : ∃ x, e.2 = [x] := by
    match hq : e.2, len1 with
    | [x], _ => exact ⟨x, rfl⟩
   have SF : stepF P ⟨4, e.1, placeP L ⟨f.ty.name, g.ty.name⟩⟩ e.2 = if (prM U (msgOf U g.ty.name) x).ents.isEmpty = true then [] else [prM U (msgOf U g.ty.name) x] := by
    unfold stepF
    have kO : kindOK ⟨4, e.1, placeP L ⟨f.ty.name, g.ty.name⟩⟩ e.2 = true := by
     unfold kindOK
     rw [if_neg (by simp), if_pos (.inr rfl)]
     exact all3
    rw [kO, if_neg (by simp), lastL_one (fun _ => by omega) b3, rm ⟨4, e.1, placeP L ⟨f.ty.name, g.ty.name⟩⟩ (.inr rfl) rfl, hx]
    simp
   unfold entG
   rw [SF]
   unfold keepL
   have g1 : g.label = 1 := by omega
   rw [g1, hx]
   simp only [List.map_cons, List.map_nil, List.head?_cons, Option.any_some, zero_msg]
   cases (prM U (msgOf U g.ty.name) x).ents.isEmpty <;> simp
  ·rw [if_neg l1]
   have SF : stepF P ⟨3, e.1, placeP L ⟨f.ty.name, g.ty.name⟩⟩ e.2 = e.2.map (prM U (msgOf U g.ty.name)) := by
    unfold stepF
    have kO : kindOK ⟨3, e.1, placeP L ⟨f.ty.name, g.ty.name⟩⟩ e.2 = true := by
     unfold kindOK
     rw [if_neg (by simp), if_pos (.inl rfl)]
     exact all3
    rw [kO, if_neg (by simp), if_neg (by simp), lastL_one (fun h => by simp at h) b3, rm ⟨3, e.1, placeP L ⟨f.ty.name, g.ty.name⟩⟩ (.inl rfl) rfl]
   unfold entG
   rw [SF]
   unfold keepL
   have g1 : (g.label != 1) = true := by
    rw [← d1]
    simpa using l1
   rw [g1, Bool.true_or, if_pos rfl, if_neg (by simp [ne])]
 ·rw [if_neg s7]
  by_cases s2 : f.ty.kind = 2 ∧ g.ty.kind = 1
  ·rw [if_pos s2]
   simp only [Option.toList_some, List.flatMap_cons, List.flatMap_nil, List.append_nil]
   have mp : e.2.map (pr1 U g) = e.2.map clampT := by
    refine List.map_congr_left fun x hx => ?_
    unfold pr1
    rw [if_pos s2.2]
    rfl
   have SF : stepF P ⟨2, e.1, 0⟩ e.2 = e.2.map clampT := by
    unfold stepF
    have kO : kindOK ⟨2, e.1, 0⟩ e.2 = true := by
     unfold kindOK
     rw [if_pos rfl, List.all_eq_true]
     intro x hx
     have := (one x hx).1
     unfold kdV at this
     rw [if_pos (by omega)] at this
     rw [this]
     rfl
    rw [kO, if_neg (by simp), if_neg (by simp), lastL_one (fun h => by simp at h) b3]
    rfl
   have kp : keepL g (e.2.map (pr1 U g)) = true := by
    rw [mp]
    unfold keepL
    by_cases l1 : g.label = 1
    ·rw [l1]
     simp only [bne_self_eq_false, Bool.false_or, Bool.not_eq_true']
     cases hq : e.2 with
     | nil => rfl
     | cons x l =>
      simp only [List.map_cons, List.head?_cons, Option.any_some]
      have hxm : x ∈ e.2 := by rw [hq]; exact List.mem_cons_self ..
      obtain ⟨o1, o2, o3, o4, o5⟩ := one x hxm
      have hz := o5 (by omega)
      cases hzz : zeroV (clampT x) with
      | false => rfl
      | true =>
       exfalso
       unfold zeroV clampT at hzz
       rw [decide_eq_true_eq] at hzz
       simp only [Tr.kind, Tr.n, Tr.s, Tr.ents, Tr.rest] at hzz
       have : zeroV x = true := by
        unfold zeroV
        rw [decide_eq_true_eq]
        exact ⟨hzz.1, hzz.2.1, clamp_zero hzz.2.2.1, hzz.2.2.2⟩
       rw [hz] at this
       cases this
    ·have : (g.label != 1) = true := by simpa using l1
     rw [this, Bool.true_or]
   rw [kp, if_pos rfl, mp]
   unfold entG
   rw [SF, if_neg (by simp [ne])]
  ·rw [if_neg s2, if_pos (by omega)]
   simp only [Option.toList_some, List.flatMap_cons, List.flatMap_nil, List.append_nil]
   have mp : e.2.map (pr1 U g) = e.2 := by
    refine map_id' fun x hx => ?_
    obtain ⟨o1, o2, o3, o4, o5⟩ := one x hx
    unfold pr1
    by_cases g1 : g.ty.kind = 1
    ·have f1 : f.ty.kind = 1 := by omega
     unfold kdV at o1
     rw [if_pos (by omega)] at o1
     have := o2 o1
     unfold numV at this
     rw [if_pos f1, decide_eq_true_eq] at this
     rw [if_pos g1, clamp_id this]
     cases x
     rfl
    ·rw [if_neg g1, if_neg (by omega)]
   have SF : stepF P ⟨1, e.1, 0⟩ e.2 = e.2 := by
    unfold stepF
    have kO : kindOK ⟨1, e.1, 0⟩ e.2 = true := by
     unfold kindOK
     rw [if_neg (by simp), if_neg (by simp)]
    rw [kO, if_neg (by simp), if_neg (by simp), lastL_one (fun h => by simp at h) b3]
    refine map_id' fun x hx => ?_
    unfold run1F
    rw [if_neg (by simp), if_neg (by simp)]
   have kp : keepL g (e.2.map (pr1 U g)) = true := by
    rw [mp]
    unfold keepL
    by_cases l1 : g.label = 1
    ·rw [l1]
     simp only [bne_self_eq_false, Bool.false_or, Bool.not_eq_true']
     cases hq : e.2 with
     | nil => rfl
     | cons x l =>
      have hxm : x ∈ e.2 := by rw [hq]; exact List.mem_cons_self ..
      exact (one x hxm).2.2.2.2 (by omega)
    ·have : (g.label != 1) = true := by simpa using l1
     rw [this, Bool.true_or]
   rw [kp, if_pos rfl, mp]
   unfold entG
   rw [SF, if_neg (by simp [ne])]
end Go.Aw.T
namespace Go.Aw.T
open Go.Proofs Go.RowKit
theorem cmp_self {S : Sc} (R : RightS S) : CmpI S S (fun p => p.o = p.n ∧ hasM S p.o = true) := by
 rintro ⟨a, b⟩ ⟨h1, h2⟩
 simp only at h1 h2
 subst h1
 refine ⟨h2, h2, fun t q1 q2 => ⟨rfl, .inl rfl, fun k _ => ⟨rfl, ?_⟩⟩⟩
 exact kind7 R (msgOf_mem h2).1 (fld_mem q1).1 k
theorem made_run {S U : Sc} {a b : List UInt8} {I : Pr → Prop} (hS : checkC S = 0) (hU : checkC U = 0) (CI : CmpI S U I) (hI : I ⟨a, b⟩) {v : Tr} (hk : v.kind = 3) (ho : okT v = true) (hv : msgV S (msgOf S a) v = 0) :
  runP (makeP S U 101 0 [⟨a, b⟩]) v = (prM U (msgOf U b) v, 0) := by
 obtain ⟨c1, c2, _⟩ := CI _ hI
 obtain ⟨pb, _⟩ := make_prog hS hU c1 c2
 obtain ⟨L, h0, _, PO⟩ := make_ok hS hU c1 c2
 unfold runP
 rw [if_neg (by rw [pb, ho, hk]; simp)]
 rw [show (0 : Int) = ((0 : Nat) : Int) from rfl, run_sees (right_of hS) (right_of hU) PO CI v 0 _ h0 hI hk (ok_right ho) hv]
theorem makeR_ok {S U : Sc} {a b : List UInt8} (hS : checkC S = 0) (hU : checkC U = 0) (ha : hasM S a = true) (hb : hasM U b = true) : makeR S U a b = (makeP S U 101 0 [⟨a, b⟩], 0) := by
 unfold makeR
 rw [if_pos ⟨hS, hU⟩, if_pos ⟨ha, hb⟩]
end Go.Aw.T
namespace Go.Aw.T
open Go.Proofs Go.RowKit
inductive In0 where
 | none | num (n : Int) | str (s : List UInt8) | node (cs : List PV)
def encIn : In0 → PV
 | .none => .cst .nilIface
 | .num n => .iface 225 (.int .i64 n)
 | .str s => .iface 226 (.str s)
 | .node cs => .iface 179 (.box cs 0)
theorem value_Num (n : Int) : PFn Tryd.prog 152 [.int .i64 n] (.agg [encIn (.num n)]) := by
 refine PFn.of Tryd.func152 rfl (by decide) Tryd.ntmps152 Tryd.results152 (Nat.le_of_ble_eq_true rfl) ?_
 simp only [argsT]
 refine AW.rT (by rfl) fun K hK => ?_
 simp -implicitDefEqProofs only [go_sem]
 apply hK; clear hK K
 refine AW.rT (by rfl) fun K hK => ?_
 simp -implicitDefEqProofs only [go_sem, ↓reduceIte, Nat.reduceAdd, Nat.reduceEqDiff, Nat.reduceLeDiff, reduceCtorEq]
 apply hK; clear hK K
 refine AW.ret ?_
 simp -implicitDefEqProofs only [go_sem, ↓reduceIte, Nat.reduceEqDiff, Nat.reduceLeDiff]
 rfl
theorem value_Str (s : List UInt8) : PFn Tryd.prog 153 [.str s] (.agg [encIn (.str s)]) := by
 refine PFn.of Tryd.func153 rfl (by decide) Tryd.ntmps153 Tryd.results153 (Nat.le_of_ble_eq_true rfl) ?_
 simp only [argsT]
 refine AW.rT (by rfl) fun K hK => ?_
 simp -implicitDefEqProofs only [go_sem]
 apply hK; clear hK K
 refine AW.rT (by rfl) fun K hK => ?_
 simp -implicitDefEqProofs only [go_sem, ↓reduceIte, Nat.reduceAdd, Nat.reduceEqDiff, Nat.reduceLeDiff, reduceCtorEq]
 apply hK; clear hK K
 refine AW.ret ?_
 simp -implicitDefEqProofs only [go_sem, ↓reduceIte, Nat.reduceEqDiff, Nat.reduceLeDiff]
 rfl
def asNum : In0 → Int × Bool
 | .num n => (n, true)
 | _ => (0, false)
theorem value_AsNum (x : In0) : PFn Tryd.prog 161 [.agg [encIn x]] (.tuple [.int .i64 (asNum x).1, .bool (asNum x).2]) := by
 refine PFn.of Tryd.func161 rfl (by decide) Tryd.ntmps161 Tryd.results161 (Nat.le_of_ble_eq_true rfl) ?_
 simp only [argsT]
 cases x
 all_goals
  simp only [encIn]
  refine AW.rT (by rfl) fun K hK => ?_
  simp -implicitDefEqProofs only [go_sem, Nat.reduceAdd]
  apply hK; clear hK K
  refine AW.rT (by rfl) fun K hK => ?_
  simp -implicitDefEqProofs only [go_sem, ↓reduceIte, Nat.reduceAdd, Nat.reduceEqDiff]
  apply hK; clear hK K
  refine AW.rT (by rfl) fun K hK => ?_
  simp -implicitDefEqProofs only [go_sem, ↓reduceIte, Nat.reduceAdd, Nat.reduceEqDiff]
  apply hK; clear hK K
  refine AW.ret ?_
  simp -implicitDefEqProofs only [go_sem, ↓reduceIte, Nat.reduceEqDiff]
 all_goals rfl
def asNode : In0 → PV × Bool
 | .node cs => (.box cs 0, true)
 | _ => (.cst (.pointer none), false)
theorem value_AsNode (x : In0) : PFn Tryd.prog 162 [.agg [encIn x]] (.tuple [(asNode x).1, .bool (asNode x).2]) := by
 refine PFn.of Tryd.func162 rfl (by decide) Tryd.ntmps162 Tryd.results162 (Nat.le_of_ble_eq_true rfl) ?_
 simp only [argsT]
 cases x
 all_goals
  simp only [encIn]
  refine AW.rT (by rfl) fun K hK => ?_
  simp -implicitDefEqProofs only [go_sem, Nat.reduceAdd]
  apply hK; clear hK K
  refine AW.rT (by rfl) fun K hK => ?_
  simp -implicitDefEqProofs only [go_sem, ↓reduceIte, Nat.reduceAdd, Nat.reduceEqDiff]
  apply hK; clear hK K
  refine AW.rT (by rfl) fun K hK => ?_
  simp -implicitDefEqProofs only [go_sem, ↓reduceIte, Nat.reduceAdd, Nat.reduceEqDiff]
  apply hK; clear hK K
  refine AW.ret ?_
  simp -implicitDefEqProofs only [go_sem, ↓reduceIte, Nat.reduceEqDiff]
 all_goals rfl
theorem value_MustNode (cs : List PV) : PFn Tryd.prog 116 [.agg [encIn (.node cs)]] (.box cs 0) := by
 refine PFn.of Tryd.func116 rfl (by decide) Tryd.ntmps116 Tryd.results116 (Nat.le_of_ble_eq_true rfl) ?_
 simp only [argsT, encIn]
 refine AW.rT (by rfl) fun K hK => ?_
 simp -implicitDefEqProofs only [go_sem, Nat.reduceAdd]
 apply hK; clear hK K
 refine AW.rT (by rfl) fun K hK => ?_
 simp -implicitDefEqProofs only [go_sem, ↓reduceIte, Nat.reduceAdd, Nat.reduceEqDiff]
 apply hK; clear hK K
 refine AW.ret ?_
 simp -implicitDefEqProofs only [go_sem]
theorem rep_in {w : World} {I : Nat → Prop} {v : Value} {x : In0} (h : rep w I v (.agg [encIn x])) : ∃ u, v = .agg #[u] ∧ rep w I u (encIn x) := by
 cases h with
 | agg hs hr =>
  rename_i vs
  have h1 : vs.size = 1 := by rw [hs]; rfl
  refine ⟨vs[0], ?_, hr 0 _ _ (Array.getElem?_eq_getElem (by omega)) rfl⟩
  congr 1
  apply Array.ext
  ·exact h1
  ·intro i hi hi'
   have : i = 0 := by omega
   subst this
   rfl
theorem Fr.alloc {w0 w : World} {X : Nat → Prop} (h : Fr w0 X w) (o : Obj) : Fr w0 X (w.alloc o) := by
 have e : ∀ b, b < w0.heap.size → (w.alloc o).heap[b]? = w.heap[b]? := fun b hb => by
  have := h.size
  show (w.heap.push o)[b]? = _
  rw [Array.getElem?_push, if_neg (by omega)]
 refine ⟨h.os, h.tape, h.output, ?_, fun b hb hx => (e b hb).trans (h.block b hb hx), h.step fun b cur et p hb hc => ⟨cur, et, p, by rw [e b hb]; exact hc, rfl⟩⟩
 show _ ≤ (w.heap.push o).size
 have := h.size
 simp; omega
theorem meth99 (u : Value) (w : World) : (method (Tryd.prog.types.size + Made.depth) 225 u "concordat/value.kind").run Tryd.prog w = .ok (181, u) w := by kernel_rfl
theorem meth101 (u : Value) (w : World) : (method (Tryd.prog.types.size + Made.depth) 226 u "concordat/value.kind").run Tryd.prog w = .ok (182, u) w := by kernel_rfl
theorem meth66 (u : Value) (w : World) : (method (Tryd.prog.types.size + Made.depth) 179 u "concordat/value.kind").run Tryd.prog w = .ok (180, u) w := by kernel_rfl
def kindIn : In0 → Int
 | .none => 0
 | .num _ => 1
 | .str _ => 2
 | .node _ => 3
theorem num_kind (u : Value) (w : World) : Calls Tryd.prog 181 #[u] w fun e w' => e = .returned (.int .i64 1) ∧ w' = w := by
 go_enter Tryd.func181, Tryd.ntmps181
 go_wp2
 simp [bodyPost, results, Tryd.results181]
theorem kind_num (u : Value) (w : World) : Calls Tryd.prog 159 #[.agg #[.iface 225 u]] w fun e w' => e = .returned (.int .i64 1) ∧ Fr w (fun _ => False) w' := by
 have hm : ∀ (u : Value) (w : World), (callMethod (.iface 225 u) "concordat/value.kind" #[]).run Tryd.prog w = .ok (.enter 181 #[u]) w := fun u w => by
  simp only [callMethod, Sem.run_bind, run_program, Result.andThen_ok, meth99]
  kernel_rfl
 go_enter Tryd.func159, Tryd.ntmps159
 go_wp2
 refine (num_kind u _).mono ?_
 rintro e w' ⟨rfl, rfl⟩
 go_wp2
 exact ⟨rfl, .int .i64 1, by simp [results, Tryd.results159], rfl, Fr.alloc (Fr.refl w _) _⟩
theorem str_kind (u : Value) (w : World) : Calls Tryd.prog 182 #[u] w fun e w' => e = .returned (.int .i64 2) ∧ w' = w := by
 go_enter Tryd.func182, Tryd.ntmps182
 go_wp2
 simp [bodyPost, results, Tryd.results182]
theorem kind_str (u : Value) (w : World) : Calls Tryd.prog 159 #[.agg #[.iface 226 u]] w fun e w' => e = .returned (.int .i64 2) ∧ Fr w (fun _ => False) w' := by
 have hm : ∀ (u : Value) (w : World), (callMethod (.iface 226 u) "concordat/value.kind" #[]).run Tryd.prog w = .ok (.enter 182 #[u]) w := fun u w => by
  simp only [callMethod, Sem.run_bind, run_program, Result.andThen_ok, meth101]
  kernel_rfl
 go_enter Tryd.func159, Tryd.ntmps159
 go_wp2
 refine (str_kind u _).mono ?_
 rintro e w' ⟨rfl, rfl⟩
 go_wp2
 exact ⟨rfl, .int .i64 2, by simp [results, Tryd.results159], rfl, Fr.alloc (Fr.refl w _) _⟩
theorem node_kind (u : Value) (w : World) : Calls Tryd.prog 180 #[u] w fun e w' => e = .returned (.int .i64 3) ∧ w' = w := by
 go_enter Tryd.func180, Tryd.ntmps180
 go_wp2
 simp [bodyPost, results, Tryd.results180]
theorem kind_node (u : Value) (w : World) : Calls Tryd.prog 159 #[.agg #[.iface 179 u]] w fun e w' => e = .returned (.int .i64 3) ∧ Fr w (fun _ => False) w' := by
 have hm : ∀ (u : Value) (w : World), (callMethod (.iface 179 u) "concordat/value.kind" #[]).run Tryd.prog w = .ok (.enter 180 #[u]) w := fun u w => by
  simp only [callMethod, Sem.run_bind, run_program, Result.andThen_ok, meth66]
  kernel_rfl
 go_enter Tryd.func159, Tryd.ntmps159
 go_wp2
 refine (node_kind u _).mono ?_
 rintro e w' ⟨rfl, rfl⟩
 go_wp2
 exact ⟨rfl, .int .i64 3, by simp [results, Tryd.results159], rfl, Fr.alloc (Fr.refl w _) _⟩
theorem kind_none (w : World) : Calls Tryd.prog 159 #[.agg #[.nilIface]] w fun e w' => e = .returned (.int .i64 0) ∧ Fr w (fun _ => False) w' := by
 go_enter Tryd.func159, Tryd.ntmps159
 go_wp2
 exact ⟨rfl, .int .i64 0, by simp [results, Tryd.results159], rfl, Fr.alloc (Fr.refl w _) _⟩
theorem value_Kind (x : In0) : PFn Tryd.prog 159 [.agg [encIn x]] (.int .i64 (kindIn x)) := by
 refine ⟨by kernel_rfl, fun w I vals hs hr hI _ => ?_⟩
 have hs1 : vals.size = 1 := by rw [hs]; rfl
 have h0 := hr 0 _ _ (Array.getElem?_eq_getElem (by omega)) rfl
 obtain ⟨u, hu, hru⟩ := rep_in h0
 have hv : vals = #[.agg #[u]] := by
  apply Array.ext
  ·exact hs1
  ·intro i hi hi'
   have : i = 0 := by omega
   subst this
   exact hu
 subst hv
 have fin : ∀ {k : Int}, k = kindIn x → (Calls Tryd.prog 159 #[.agg #[u]] w fun e w' => e = Ending.returned (.int .i64 k) ∧ Fr w (fun _ => False) w') → _ := fun hk hc => hc.mono fun e w' ⟨he, hf⟩ => (⟨_, he, hf, by rw [hk]; exact .int .i64 _⟩ : ∃ v, e = Ending.returned v ∧ Fr w (fun _ => False) w' ∧ rep w' (fun g => I g ∨ (w.heap.size ≤ g ∧ g < w'.heap.size)) v (.int .i64 (kindIn x)))
 cases x with
 | none => cases hru; exact fin rfl (kind_none w)
 | num n => cases hru with | iface _ h => exact fin rfl (kind_num _ w)
 | str n => cases hru with | iface _ h => exact fin rfl (kind_str _ w)
 | node n => cases hru with | iface _ h => exact fin rfl (kind_node _ w)
def leafT : In0 → Tr
 | .none => .mk 0 0 [] [] []
 | .num n => .mk 1 n [] [] []
 | .str s => .mk 2 0 s [] []
 | .node _ => .mk 3 0 [] [] []
theorem value_Tree_leaf (x : In0) (hx : ∀ cs, x ≠ .node cs) : PFn Tryd.prog 156 [.agg [encIn x]] (.agg (encTr (leafT x))) := by
 refine PFn.of Tryd.func156 rfl (by decide) Tryd.ntmps156 Tryd.results156 (Nat.le_of_ble_eq_true rfl) ?_
 simp only [argsT]
 cases x with
 | node cs => exact absurd rfl (hx cs)
 | num n =>
  simp only [encIn]
  refine AW.rT (by rfl) fun K hK => ?_
  simp -implicitDefEqProofs only [go_sem, Nat.reduceAdd]
  apply hK; clear hK K
  refine AW.rT (by rfl) fun K hK => ?_
  simp -implicitDefEqProofs only [go_sem, ↓reduceIte, Nat.reduceAdd, Nat.reduceEqDiff, Nat.reduceLeDiff, reduceCtorEq]
  refine ⟨.pure _, value_Kind (.num n), ?_⟩
  try simp -implicitDefEqProofs only [go_sem, ↓reduceIte, Nat.reduceAdd, Nat.reduceEqDiff, Nat.reduceLeDiff, kindIn]
  apply hK; clear hK K
  refine AW.seq ?_
  refine AW.rT (by rfl) fun K hK => ?_
  simp -implicitDefEqProofs only [go_sem, ↓reduceIte, Nat.reduceAdd, Nat.reduceEqDiff, reduceCtorEq]
  apply hK; clear hK K
  refine AW.block ?_
  refine AW.rT (by rfl) fun K hK => ?_
  simp -implicitDefEqProofs only [go_sem, ↓reduceIte, Nat.reduceAdd, Nat.reduceEqDiff]
  apply hK; clear hK K
  refine AW.cond _ (by simp -implicitDefEqProofs only [go_sem, ↓reduceIte, Nat.reduceEqDiff]; rfl) (fun hc => ?_) (fun hc => ?_)
  ·refine AW.rT (by rfl) fun K hK => ?_
   simp -implicitDefEqProofs only [go_sem, Nat.reduceAdd]
   apply hK; clear hK K
   refine AW.rE (by rfl) fun K hK => ?_
   simp -implicitDefEqProofs only [go_sem, ↓reduceIte, Nat.reduceAdd, Nat.reduceEqDiff, Nat.reduceLeDiff]
   apply hK; clear hK K
   simp only [andThen, inBlk]
   refine AW.rT (by rfl) fun K hK => ?_
   simp -implicitDefEqProofs only [go_sem, ↓reduceIte, Nat.reduceAdd, Nat.reduceEqDiff, Nat.reduceLeDiff]
   apply hK; clear hK K
   refine AW.ret ?_
   simp -implicitDefEqProofs only [go_sem, ↓reduceIte, Nat.reduceAdd, Nat.reduceEqDiff, Nat.reduceLeDiff, encTr_eq, leafT]
   rfl
  ·simp at hc
 | str s =>
  simp only [encIn]
  refine AW.rT (by rfl) fun K hK => ?_
  simp -implicitDefEqProofs only [go_sem, Nat.reduceAdd]
  apply hK; clear hK K
  refine AW.rT (by rfl) fun K hK => ?_
  simp -implicitDefEqProofs only [go_sem, ↓reduceIte, Nat.reduceAdd, Nat.reduceEqDiff, Nat.reduceLeDiff, reduceCtorEq]
  refine ⟨.pure _, value_Kind (.str s), ?_⟩
  try simp -implicitDefEqProofs only [go_sem, ↓reduceIte, Nat.reduceAdd, Nat.reduceEqDiff, Nat.reduceLeDiff, kindIn]
  apply hK; clear hK K
  refine AW.seq ?_
  refine AW.rT (by rfl) fun K hK => ?_
  simp -implicitDefEqProofs only [go_sem, ↓reduceIte, Nat.reduceAdd, Nat.reduceEqDiff, reduceCtorEq]
  apply hK; clear hK K
  refine AW.block ?_
  refine AW.rT (by rfl) fun K hK => ?_
  simp -implicitDefEqProofs only [go_sem, ↓reduceIte, Nat.reduceAdd, Nat.reduceEqDiff]
  apply hK; clear hK K
  refine AW.cF rfl ?_
  refine AW.rT (by rfl) fun K hK => ?_
  simp -implicitDefEqProofs only [go_sem, ↓reduceIte, Nat.reduceAdd, Nat.reduceEqDiff]
  apply hK; clear hK K
  refine AW.cond _ (by simp -implicitDefEqProofs only [go_sem, ↓reduceIte, Nat.reduceEqDiff]; rfl) (fun hc => ?_) (fun hc => ?_)
  ·refine AW.rT (by rfl) fun K hK => ?_
   simp -implicitDefEqProofs only [go_sem, Nat.reduceAdd]
   apply hK; clear hK K
   refine AW.rE (by rfl) fun K hK => ?_
   simp -implicitDefEqProofs only [go_sem, ↓reduceIte, Nat.reduceAdd, Nat.reduceEqDiff, Nat.reduceLeDiff]
   apply hK; clear hK K
   simp only [andThen, inBlk]
   refine AW.rT (by rfl) fun K hK => ?_
   simp -implicitDefEqProofs only [go_sem, ↓reduceIte, Nat.reduceAdd, Nat.reduceEqDiff, Nat.reduceLeDiff]
   apply hK; clear hK K
   refine AW.ret ?_
   simp -implicitDefEqProofs only [go_sem, ↓reduceIte, Nat.reduceAdd, Nat.reduceEqDiff, Nat.reduceLeDiff, encTr_eq, leafT]
   rfl
  ·simp at hc
 | none =>
  simp only [encIn]
  refine AW.rT (by rfl) fun K hK => ?_
  simp -implicitDefEqProofs only [go_sem, Nat.reduceAdd]
  apply hK; clear hK K
  refine AW.rT (by rfl) fun K hK => ?_
  simp -implicitDefEqProofs only [go_sem, ↓reduceIte, Nat.reduceAdd, Nat.reduceEqDiff, Nat.reduceLeDiff, reduceCtorEq]
  refine ⟨.pure _, value_Kind .none, ?_⟩
  try simp -implicitDefEqProofs only [go_sem, ↓reduceIte, Nat.reduceAdd, Nat.reduceEqDiff, Nat.reduceLeDiff, kindIn]
  apply hK; clear hK K
  refine AW.seq ?_
  refine AW.rT (by rfl) fun K hK => ?_
  simp -implicitDefEqProofs only [go_sem, ↓reduceIte, Nat.reduceAdd, Nat.reduceEqDiff, reduceCtorEq]
  apply hK; clear hK K
  refine AW.block ?_
  refine AW.rT (by rfl) fun K hK => ?_
  simp -implicitDefEqProofs only [go_sem, ↓reduceIte, Nat.reduceAdd, Nat.reduceEqDiff]
  apply hK; clear hK K
  refine AW.cF rfl ?_
  refine AW.rT (by rfl) fun K hK => ?_
  simp -implicitDefEqProofs only [go_sem, ↓reduceIte, Nat.reduceAdd, Nat.reduceEqDiff]
  apply hK; clear hK K
  refine AW.cF rfl ?_
  refine AW.rT (by rfl) fun K hK => ?_
  simp -implicitDefEqProofs only [go_sem, ↓reduceIte, Nat.reduceAdd, Nat.reduceEqDiff]
  apply hK; clear hK K
  refine AW.cF rfl ?_
  refine AW.skip ?_
  simp only [andThen, inBlk]
  refine AW.rT (by rfl) fun K hK => ?_
  simp -implicitDefEqProofs only [go_sem, ↓reduceIte, Nat.reduceAdd, Nat.reduceEqDiff, Nat.reduceLeDiff]
  apply hK; clear hK K
  refine AW.ret ?_
  simp -implicitDefEqProofs only [go_sem, ↓reduceIte, Nat.reduceAdd, Nat.reduceEqDiff, Nat.reduceLeDiff, encTr_eq, leafT]
  rfl
theorem clone_Raws (l : List Raw) (hl : l.length ≤ 1000000) : PFn Tryd.prog 154 [.slice (l.map encRaw)] (.slice (l.map encRaw)) := by
 refine PFn.of Tryd.func154 rfl (by decide) Tryd.ntmps154 Tryd.results154 (Nat.le_of_ble_eq_true rfl) ?_
 simp only [argsT]
 have g0 := raws_len l
 have g1 := raws_one l
 have g2 : l = [] ∨ ∃ x r, l = x :: r := by cases l <;> simp
 refine AW.rT (by rfl) fun K hK => ?_
 simp -implicitDefEqProofs only [go_sem]
 apply hK; clear hK K
 refine AW.seq ?_
 rcases g2 with rfl | ⟨x, r, rfl⟩
 ·refine AW.nilSplit (t := 0) rfl fun a n => ?_
  refine AW.rT (by rfl) fun K hK => ?_
  simp -implicitDefEqProofs only [go_sem, ↓reduceIte, Nat.reduceAdd]
  refine ⟨_, eqP_nil Tryd.underlying37 a n, ?_⟩
  simp only [boolE]
  try simp -implicitDefEqProofs only [go_sem, Nat.reduceAdd]
  apply hK; clear hK K
  cases a with
  | none =>
   refine AW.cond _ (by simp -implicitDefEqProofs only [go_sem]; rfl) (fun hc => ?_) (fun hc => ?_)
   ·refine AW.rT (by rfl) fun K hK => ?_
    simp -implicitDefEqProofs only [go_sem, Nat.reduceAdd]
    apply hK; clear hK K
    refine AW.ret ?_
    simp -implicitDefEqProofs only [go_sem]
   ·simp at hc
  | some a =>
   refine AW.cF rfl ?_
   refine AW.skip ?_
   simp only [andThen]
   refine AW.ghost (s' := ⟨ofL [(0, .p (.slice [])), (2, .ex [])], ofH [], 0⟩) (Ghost.trans (Ghost.unNil (t := 0) (n := n) (a := some a) rfl) ?_) ?_
   ·refine Ghost.sub ?_ ?_ <;> simp -implicitDefEqProofs only [go_sem, ↓reduceIte, Nat.reduceEqDiff, reduceCtorEq, List.forall_mem_cons, List.not_mem_nil, false_implies, implies_true, and_self, AV.labsIn]
   refine AW.rT (by rfl) fun K hK => ?_
   simp -implicitDefEqProofs only [go_sem, ↓reduceIte, Nat.reduceAdd, Nat.reduceMul, Nat.reduceEqDiff, Nat.reduceLeDiff, reduceCtorEq]
   refine ⟨⟨by simp, by simp, by simp⟩, by decide, ?_⟩
   apply hK; clear hK K
   refine AW.ret ?_
   simp -implicitDefEqProofs only [go_sem]
 ·refine AW.rT (by rfl) fun K hK => ?_
  simp -implicitDefEqProofs only [go_sem, ↓reduceIte, Nat.reduceAdd, reduceCtorEq]
  refine ⟨_, eqP_some Tryd.underlying37 _ _, ?_⟩
  try simp -implicitDefEqProofs only [go_sem, Nat.reduceAdd]
  apply hK; clear hK K
  refine AW.cF rfl ?_
  refine AW.skip ?_
  simp only [andThen]
  refine AW.ghost (s' := ⟨ofL [(0, .p (.slice ((x :: r).map encRaw))), (2, .ex [])], ofH [], 0⟩) ?_ ?_
  ·refine Ghost.sub ?_ ?_ <;> simp -implicitDefEqProofs only [go_sem, ↓reduceIte, Nat.reduceEqDiff, reduceCtorEq, List.forall_mem_cons, List.not_mem_nil, false_implies, implies_true, and_self, AV.labsIn]
  refine AW.rT (by rfl) fun K hK => ?_
  simp -implicitDefEqProofs only [go_sem, ↓reduceIte, Nat.reduceAdd, Nat.reduceMul, Nat.reduceEqDiff, Nat.reduceLeDiff, reduceCtorEq]
  refine ⟨⟨g0, g1, by simp⟩, by simp [liftE_length]; simp at hl; omega, ?_⟩
  apply hK; clear hK K
  refine AW.ret ?_
  simp -implicitDefEqProofs only [go_sem]
mutual
/-- What a value keeps that is made of a tree. -/
def encV : Tr → PV
 | .mk k n s es rest => if k = 1 then .iface 225 (.int .i64 n) else if k = 2 then .iface 226 (.str s) else .iface 179 (.box [.slice (encVes es), .slice (rest.map encRaw)] 0)
def encVes : List (Int × List Tr) → List (List PV)
 | [] => []
 | (t, l) :: r => [.int .i64 t, .slice (encVs l)] :: encVes r
def encVs : List Tr → List (List PV)
 | [] => []
 | x :: l => [encV x] :: encVs l
end
def encV1 (t : Tr) : List PV := [encV t]
def encVn (e : Int × List Tr) : List PV := [.int .i64 e.1, .slice (e.2.map encV1)]
theorem encVs_map : ∀ l : List Tr, encVs l = l.map encV1
 | [] => by simp [encVs]
 | x :: l => by rw [encVs, encVs_map l]; rfl
theorem encVes_map : ∀ l : List (Int × List Tr), encVes l = l.map encVn
 | [] => by simp [encVes]
 | (t, l) :: r => by rw [encVes, encVes_map r, encVs_map]; rfl
theorem encV_eq (t : Tr) : encV t = if t.kind = 1 then .iface 225 (.int .i64 t.n) else if t.kind = 2 then .iface 226 (.str t.s) else .iface 179 (.box [.slice (t.ents.map encVn), .slice (t.rest.map encRaw)] 0) := by
 cases t
 rw [encV, encVes_map]; rfl
theorem encV_one (t : Tr) : (encV t).one = true := by
 rw [encV_eq]
 split
 ·rfl
 ·split <;> rfl
theorem vals_len (l : List Tr) : ∀ e ∈ liftE (l.map encV1), e.length = 1 := liftE_len fun e he => by
 obtain ⟨x, _, rfl⟩ := List.mem_map.1 he
 rfl
theorem vals_one (l : List Tr) : ∀ e ∈ liftE (l.map encV1), oneAll e = true := liftE_one fun e he p hp => by
 obtain ⟨x, _, rfl⟩ := List.mem_map.1 he
 simp [encV1] at hp
 subst hp
 exact encV_one x
theorem clone_Vals (l : List Tr) (hl : l.length ≤ 1000000) : PFn Tryd.prog 155 [.slice (l.map encV1)] (.slice (l.map encV1)) := by
 refine PFn.of Tryd.func155 rfl (by decide) Tryd.ntmps155 Tryd.results155 (Nat.le_of_ble_eq_true rfl) ?_
 simp only [argsT]
 have g0 := vals_len l
 have g1 := vals_one l
 have g2 : l = [] ∨ ∃ x r, l = x :: r := by cases l <;> simp
 refine AW.rT (by rfl) fun K hK => ?_
 simp -implicitDefEqProofs only [go_sem]
 apply hK; clear hK K
 refine AW.seq ?_
 rcases g2 with rfl | ⟨x, r, rfl⟩
 ·refine AW.nilSplit (t := 0) rfl fun a n => ?_
  refine AW.rT (by rfl) fun K hK => ?_
  simp -implicitDefEqProofs only [go_sem, ↓reduceIte, Nat.reduceAdd]
  refine ⟨_, eqP_nil Tryd.underlying201 a n, ?_⟩
  simp only [boolE]
  try simp -implicitDefEqProofs only [go_sem, Nat.reduceAdd]
  apply hK; clear hK K
  cases a with
  | none =>
   refine AW.cond _ (by simp -implicitDefEqProofs only [go_sem]; rfl) (fun hc => ?_) (fun hc => ?_)
   ·refine AW.rT (by rfl) fun K hK => ?_
    simp -implicitDefEqProofs only [go_sem, Nat.reduceAdd]
    apply hK; clear hK K
    refine AW.ret ?_
    simp -implicitDefEqProofs only [go_sem]
   ·simp at hc
  | some a =>
   refine AW.cF rfl ?_
   refine AW.skip ?_
   simp only [andThen]
   refine AW.ghost (s' := ⟨ofL [(0, .p (.slice [])), (2, .ex [])], ofH [], 0⟩) (Ghost.trans (Ghost.unNil (t := 0) (n := n) (a := some a) rfl) ?_) ?_
   ·refine Ghost.sub ?_ ?_ <;> simp -implicitDefEqProofs only [go_sem, ↓reduceIte, Nat.reduceEqDiff, reduceCtorEq, List.forall_mem_cons, List.not_mem_nil, false_implies, implies_true, and_self, AV.labsIn]
   refine AW.rT (by rfl) fun K hK => ?_
   simp -implicitDefEqProofs only [go_sem, ↓reduceIte, Nat.reduceAdd, Nat.reduceMul, Nat.reduceEqDiff, Nat.reduceLeDiff, reduceCtorEq]
   refine ⟨⟨by simp, by simp, by simp⟩, by decide, ?_⟩
   apply hK; clear hK K
   refine AW.ret ?_
   simp -implicitDefEqProofs only [go_sem]
 ·refine AW.rT (by rfl) fun K hK => ?_
  simp -implicitDefEqProofs only [go_sem, ↓reduceIte, Nat.reduceAdd, reduceCtorEq]
  refine ⟨_, eqP_some Tryd.underlying201 _ _, ?_⟩
  try simp -implicitDefEqProofs only [go_sem, Nat.reduceAdd]
  apply hK; clear hK K
  refine AW.cF rfl ?_
  refine AW.skip ?_
  simp only [andThen]
  refine AW.ghost (s' := ⟨ofL [(0, .p (.slice ((x :: r).map encV1))), (2, .ex [])], ofH [], 0⟩) ?_ ?_
  ·refine Ghost.sub ?_ ?_ <;> simp -implicitDefEqProofs only [go_sem, ↓reduceIte, Nat.reduceEqDiff, reduceCtorEq, List.forall_mem_cons, List.not_mem_nil, false_implies, implies_true, and_self, AV.labsIn]
  refine AW.rT (by rfl) fun K hK => ?_
  simp -implicitDefEqProofs only [go_sem, ↓reduceIte, Nat.reduceAdd, Nat.reduceMul, Nat.reduceEqDiff, Nat.reduceLeDiff, reduceCtorEq]
  refine ⟨⟨g0, g1, by simp⟩, by simp [liftE_length]; simp at hl; omega, ?_⟩
  apply hK; clear hK K
  refine AW.ret ?_
  simp -implicitDefEqProofs only [go_sem]
def mx (t : Tr) (i : Nat) : St := ⟨ofL [(2, .ptr 1 0 0), (3, .ptr 2 0 0), (27, .p (.slice (t.ents.map encEn))), (28, .p (.int .i64 (t.ents.length : Int))), (29, .p (.int .i64 (i : Int)))],
 ofH [(1, .row 1 [[.p (.cst .nilIface)]]), (2, .row 2 [[.own 3, .p (.slice (t.rest.map encRaw))]]), (3, .row 2 (liftE ((t.ents.take i).map encVn)))], 4⟩
def my (t : Tr) (i : Nat) (e : Int × List Tr) (k : Nat) : St := ⟨ofL [(2, .ptr 1 0 0), (3, .ptr 2 0 0), (27, .p (.slice (t.ents.map encEn))), (28, .p (.int .i64 (t.ents.length : Int))), (29, .p (.int .i64 (i : Int))), (6, .ptr 4 0 0), (37, .p (.slice (e.2.map encTr))), (38, .p (.int .i64 (e.2.length : Int))), (39, .p (.int .i64 (k : Int)))],
 ofH [(1, .row 1 [[.p (.cst .nilIface)]]), (2, .row 2 [[.own 3, .p (.slice (t.rest.map encRaw))]]), (3, .row 2 (liftE ((t.ents.take i).map encVn))), (4, .row 2 [[.p (.int .i64 e.1), .own 5]]), (5, .row 1 (liftE ((e.2.take k).map encV1)))], 6⟩
def mz (t : Tr) (i : Nat) (e : Int × List Tr) : St := ⟨ofL [(2, .ptr 1 0 0), (3, .ptr 2 0 0), (27, .p (.slice (t.ents.map encEn))), (28, .p (.int .i64 (t.ents.length : Int))), (29, .p (.int .i64 (i : Int))), (6, .ptr 4 0 0)],
 ofH [(1, .row 1 [[.p (.cst .nilIface)]]), (2, .row 2 [[.own 3, .p (.slice (t.rest.map encRaw))]]), (3, .row 2 (liftE ((t.ents.take i).map encVn))), (4, .row 2 [[.p (.int .i64 e.1), .p (.slice (e.2.map encV1))]])], 5⟩
def mw (t : Tr) : St := ⟨ofL [(2, .ptr 1 0 0), (3, .ptr 2 0 0)],
 ofH [(1, .row 1 [[.p (.cst .nilIface)]]), (2, .row 2 (liftE [[.slice (t.ents.map encVn), .slice (t.rest.map encRaw)]]))], 3⟩
def mv (t : Tr) : St := ⟨ofL [(2, .ptr 1 0 0), (3, .p (.box [.slice (t.ents.map encVn), .slice (t.rest.map encRaw)] 0))],
 ofH [(1, .row 1 [[.p (.cst .nilIface)]])], 3⟩
theorem value_made : ∀ (t : Tr), lensT t = true → PFn Tryd.prog 140 [.agg (encTr t)] (.agg [encV t]) := by
 intro t
 induction h : SizeOf.sizeOf t using Nat.strongRecOn generalizing t with
 | _ sz ih =>
 subst h
 intro hlt
 obtain ⟨la1, la2, la3⟩ := lensT_mk hlt
 have eV := encV_eq t
 refine PFn.of Tryd.func140 rfl (by decide) Tryd.ntmps140 Tryd.results140 (Nat.le_of_ble_eq_true rfl) ?_
 simp only [argsT]
 refine AW.rT (by rfl) fun K hK => ?_
 simp -implicitDefEqProofs only [go_sem, Nat.reduceAdd, encTr_eq]
 apply hK; clear hK K
 refine AW.seq ?_
 refine AW.rT (by rfl) fun K hK => ?_
 simp -implicitDefEqProofs only [go_sem, ↓reduceIte, Nat.reduceAdd, Nat.reduceEqDiff, reduceCtorEq]
 apply hK; clear hK K
 refine AW.block ?_
 by_cases c1 : t.kind = 1
 ·have b1 : (t.kind == 1) = true := by simpa using c1
  rw [if_pos c1] at eV
  refine AW.rT (by rfl) fun K hK => ?_
  simp -implicitDefEqProofs only [go_sem, ↓reduceIte, Nat.reduceAdd, b1]
  apply hK; clear hK K
  refine AW.cT rfl ?_
  refine AW.rT (by rfl) fun K hK => ?_
  simp -implicitDefEqProofs only [go_sem, ↓reduceIte, Nat.reduceAdd, Nat.reduceEqDiff, reduceCtorEq]
  refine ⟨.pure _, value_Num t.n, ?_⟩
  try simp -implicitDefEqProofs only [go_sem, ↓reduceIte, Nat.reduceAdd, Nat.reduceEqDiff, Nat.reduceLeDiff, encIn]
  apply hK; clear hK K
  refine AW.ret ?_
  simp -implicitDefEqProofs only [go_sem, ↓reduceIte, Nat.reduceEqDiff, Nat.reduceLeDiff, eV]
 have b1 : (t.kind == 1) = false := beqf c1
 rw [if_neg c1] at eV
 refine AW.rT (by rfl) fun K hK => ?_
 simp -implicitDefEqProofs only [go_sem, ↓reduceIte, Nat.reduceAdd, b1]
 apply hK; clear hK K
 refine AW.cF rfl ?_
 by_cases c2 : t.kind = 2
 ·have b2 : (t.kind == 2) = true := by simpa using c2
  rw [if_pos c2] at eV
  refine AW.rT (by rfl) fun K hK => ?_
  simp -implicitDefEqProofs only [go_sem, ↓reduceIte, Nat.reduceAdd, Nat.reduceEqDiff, b2]
  apply hK; clear hK K
  refine AW.cT rfl ?_
  refine AW.rT (by rfl) fun K hK => ?_
  simp -implicitDefEqProofs only [go_sem, ↓reduceIte, Nat.reduceAdd, Nat.reduceEqDiff, reduceCtorEq]
  refine ⟨.pure _, value_Str t.s, ?_⟩
  try simp -implicitDefEqProofs only [go_sem, ↓reduceIte, Nat.reduceAdd, Nat.reduceEqDiff, Nat.reduceLeDiff, encIn]
  apply hK; clear hK K
  refine AW.ret ?_
  simp -implicitDefEqProofs only [go_sem, ↓reduceIte, Nat.reduceEqDiff, Nat.reduceLeDiff, eV]
 have b2 : (t.kind == 2) = false := beqf c2
 rw [if_neg c2] at eV
 refine AW.rT (by rfl) fun K hK => ?_
 simp -implicitDefEqProofs only [go_sem, ↓reduceIte, Nat.reduceAdd, Nat.reduceEqDiff, b2]
 apply hK; clear hK K
 refine AW.cF rfl ?_
 refine AW.skip ?_
 simp only [andThen, inBlk]
 refine AW.rT (by rfl) fun K hK => ?_
 simp -implicitDefEqProofs only [go_sem, ↓reduceIte, Nat.reduceAdd, Nat.reduceEqDiff, reduceCtorEq]
 refine ⟨.pure _, clone_Raws t.rest (by omega), ?_⟩
 try simp -implicitDefEqProofs only [go_sem, ↓reduceIte, Nat.reduceAdd, Nat.reduceLeDiff]
 apply hK; clear hK K
 refine AW.seq ?_
 refine AW.rT (by rfl) fun K hK => ?_
 simp -implicitDefEqProofs only [go_sem, ↓reduceIte, Nat.reduceAdd, Nat.reduceEqDiff, reduceCtorEq, List.length_map]
 apply hK; clear hK K
 refine AW.block ?_
 refine AW.loop (mx t) (fun i => i ≤ t.ents.length) (fun i => t.ents.length - i) 0 ?_ (by simp) fun i hi => ?_
 ·refine Ghost.trans (Ghost.nilH (l := 12) (i := 0) (j := 0) (sz' := 2) rfl rfl rfl) ?_
  simp only [mx]
  refine Ghost.ent (fun l => if l = 2 then 12 else if l = 3 then 18 else l) ?_ ?_ ?_ <;> simp -implicitDefEqProofs only [go_sem, ↓reduceIte, Nat.reduceEqDiff, List.take_zero, List.map_nil, liftE_nil, List.set_cons_zero, List.forall_mem_cons, List.not_mem_nil, false_implies, implies_true, and_self, List.all_cons, List.all_nil, Nat.reduceLT, labsInL, AV.labsIn]
  rfl
 simp only [mx]
 by_cases hil : i < t.ents.length
 case neg =>
  have hc1 : ((i : Int) < (t.ents.length : Int)) = False := by simp; omega
  have hi' : i = t.ents.length := by omega
  subst hi'
  refine AW.rT (by rfl) fun K hK => ?_
  simp -implicitDefEqProofs only [go_sem, ↓reduceIte, Nat.reduceAdd, Nat.reduceEqDiff, hc1]
  apply hK; clear hK K
  refine AW.seq ?_
  refine AW.cF rfl ?_
  refine AW.exit ?_
  simp only [andThen, inBlk, ↓reduceIte]
  refine AW.ghost (s' := mw t) (Ghost.trans (Ghost.freeze (lb := 3) (ps := (t.ents.take t.ents.length).map encVn) rfl (unlift_liftE _)) ?_) ?_
  ·simp only [mw]
   refine Ghost.sub ?_ ?_ <;> simp -implicitDefEqProofs only [go_sem, ↓reduceIte, Nat.reduceEqDiff, thaw, thaw1, Option.map_some, List.take_length, List.map_cons, List.map_nil, liftE_cons, liftE_nil, List.forall_mem_cons, List.not_mem_nil, false_implies, implies_true, and_self, List.all_cons, List.all_nil, Nat.reduceLT, labsInL, AV.labsIn]
  simp only [mw]
  refine AW.ghost (s' := mv t) (Ghost.trans (Ghost.freezeP (lb := 2) (ps := [[.slice (t.ents.map encVn), .slice (t.rest.map encRaw)]]) rfl (unlift_liftE _)) ?_) ?_
  ·simp only [mv]
   refine Ghost.sub ?_ ?_ <;> simp -implicitDefEqProofs only [go_sem, ↓reduceIte, Nat.reduceEqDiff, thawP, thawP1, Option.map_some, List.map_cons, List.map_nil, List.forall_mem_cons, List.not_mem_nil, false_implies, implies_true, and_self, List.all_cons, List.all_nil, Nat.reduceLT, labsInL, AV.labsIn]
  simp only [mv]
  refine AW.rT (by rfl) fun K hK => ?_
  simp -implicitDefEqProofs only [go_sem, ↓reduceIte, Nat.reduceAdd, Nat.reduceEqDiff, Nat.reduceLeDiff]
  apply hK; clear hK K
  refine AW.ret ?_
  simp -implicitDefEqProofs only [go_sem, ↓reduceIte, Nat.reduceEqDiff, Nat.reduceLeDiff, eV]
 obtain ⟨e, he⟩ : ∃ e, t.ents[i]? = some e := ⟨_, List.getElem?_eq_getElem hil⟩
 have ⟨he1, he2, he3⟩ := at_map' encEn he
 have ⟨le1, le2⟩ := lensE_at la3 he
 have hc1 : ((i : Int) < (t.ents.length : Int)) = True := by simp; omega
 refine AW.rT (by rfl) fun K hK => ?_
 simp -implicitDefEqProofs only [go_sem, ↓reduceIte, Nat.reduceAdd, Nat.reduceEqDiff, hc1]
 apply hK; clear hK K
 refine AW.seq ?_
 refine AW.cT rfl ?_
 refine AW.skip ?_
 simp only [andThen]
 refine AW.seq ?_
 refine AW.block ?_
 refine AW.rT (by rfl) fun K hK => ?_
 simp -implicitDefEqProofs only [go_sem, ↓reduceIte, Nat.reduceAdd, Nat.reduceEqDiff, Nat.reduceLeDiff, he1, he3, hc1, encEn, List.length_map]
 apply hK; clear hK K
 refine AW.rT (by rfl) fun K hK => ?_
 simp -implicitDefEqProofs only [go_sem, ↓reduceIte, Nat.reduceAdd, Nat.reduceEqDiff, Nat.reduceLeDiff]
 apply hK; clear hK K
 refine AW.seq ?_
 refine AW.rT (by rfl) fun K hK => ?_
 simp -implicitDefEqProofs only [go_sem, ↓reduceIte, Nat.reduceAdd, Nat.reduceEqDiff, List.length_map]
 apply hK; clear hK K
 refine AW.block ?_
 refine AW.loop (my t i e) (fun k => k ≤ e.2.length) (fun k => e.2.length - k) 0 ?_ (by simp) fun k hk => ?_
 ·refine Ghost.trans (Ghost.nilH (l := 12) (i := 0) (j := 1) (sz' := 1) rfl rfl rfl) ?_
  simp only [my]
  refine Ghost.ent (fun l => if l = 4 then 12 else if l = 5 then 18 else l) ?_ ?_ ?_ <;> simp -implicitDefEqProofs only [go_sem, ↓reduceIte, Nat.reduceEqDiff, List.take_zero, List.map_nil, liftE_nil, List.set_cons_zero, List.set_cons_succ, List.forall_mem_cons, List.not_mem_nil, false_implies, implies_true, and_self, map_renL_lift, labsIn_lift, List.all_cons, List.all_nil, Nat.reduceLT, labsInL, AV.labsIn]
  rfl
 simp only [my]
 by_cases hkl : k < e.2.length
 ·obtain ⟨x, hx⟩ : ∃ x, e.2[k]? = some x := ⟨_, List.getElem?_eq_getElem hkl⟩
  have ⟨hx1, hx2, hx3⟩ := at_map' encTr hx
  have hc2 : ((k : Int) < (e.2.length : Int)) = True := by simp; omega
  have IH := ih _ (size_ent he hx) x rfl (lensTs_at le2 hx)
  rw [encTr_eq] at IH
  have eo := encV_one x
  refine AW.rT (by rfl) fun K hK => ?_
  simp -implicitDefEqProofs only [go_sem, ↓reduceIte, Nat.reduceAdd, Nat.reduceEqDiff, hc2]
  apply hK; clear hK K
  refine AW.seq ?_
  refine AW.cT rfl ?_
  refine AW.skip ?_
  simp only [andThen]
  refine AW.seq ?_
  refine AW.block ?_
  refine AW.rT (by rfl) fun K hK => ?_
  simp -implicitDefEqProofs only [go_sem, ↓reduceIte, Nat.reduceAdd, Nat.reduceEqDiff, Nat.reduceLeDiff, hc2, hx1, hx3, encTr_eq, List.length_map]
  apply hK; clear hK K
  refine AW.dE mixed (by rfl) (by decide +kernel) fun K hK => ?_
  simp -implicitDefEqProofs only [go_sem, ↓reduceIte, Nat.reduceAdd, Nat.reduceEqDiff, Nat.reduceLeDiff]
  refine ⟨.pure _, IH, ?_⟩
  try simp -implicitDefEqProofs only [go_sem, ↓reduceIte, Nat.reduceAdd, Nat.reduceMul, Nat.reduceEqDiff, Nat.reduceLeDiff, reduceCtorEq]
  refine ⟨encV_one x, ⟨by simp, by simp [oneAll, AV.one, eo], by simp⟩, by simp [liftE_length]; omega, by decide +kernel, ?_⟩
  apply hK; clear hK K
  have w1 : IntKind.wrap .i64 ((k : Int) + 1) = ((k + 1 : Nat) : Int) := by rw [w64] <;> omega
  have e7 : liftE ((e.2.take k).map encV1) ++ [[AV.p (encV x)]] = liftE ((e.2.take (k + 1)).map encV1) := by
   rw [List.take_add_one, hx]
   simp [liftE, encV1]
  refine AW.rE (by rfl) fun K hK => ?_
  simp -implicitDefEqProofs only [go_sem, ↓reduceIte, Nat.reduceAdd, Nat.reduceEqDiff, w1]
  apply hK; clear hK K
  refine ⟨k + 1, by omega, by omega, ?_⟩
  refine Ghost.ent (fun l => if l = 5 then 16 else l) ?_ ?_ ?_ <;> simp -implicitDefEqProofs only [go_sem, ↓reduceIte, Nat.reduceEqDiff, e7, List.forall_mem_cons, List.not_mem_nil, false_implies, implies_true, and_self, map_renL_lift, labsIn_lift, List.all_cons, List.all_nil, Nat.reduceLT, labsInL, AV.labsIn]
 ·have hc2 : ((k : Int) < (e.2.length : Int)) = False := by simp; omega
  have hk' : k = e.2.length := by omega
  subst hk'
  refine AW.rT (by rfl) fun K hK => ?_
  simp -implicitDefEqProofs only [go_sem, ↓reduceIte, Nat.reduceAdd, Nat.reduceEqDiff, hc2]
  apply hK; clear hK K
  refine AW.seq ?_
  refine AW.cF rfl ?_
  refine AW.exit ?_
  simp only [andThen, inBlk, ↓reduceIte]
  refine AW.ghost (s' := mz t i e) (Ghost.trans (Ghost.freeze (lb := 5) (ps := (e.2.take e.2.length).map encV1) rfl (unlift_liftE _)) ?_) ?_
  ·simp only [mz]
   refine Ghost.sub ?_ ?_ <;> simp -implicitDefEqProofs only [go_sem, ↓reduceIte, Nat.reduceEqDiff, thaw, thaw1, Option.map_some, List.take_length, List.map_cons, List.map_nil, thaw_lift, List.forall_mem_cons, List.not_mem_nil, false_implies, implies_true, and_self, labsIn_lift, List.all_cons, List.all_nil, Nat.reduceLT, labsInL, AV.labsIn]
  simp only [mz]
  refine AW.dE mixed (by rfl) (by decide +kernel) fun K hK => ?_
  simp -implicitDefEqProofs only [go_sem, ↓reduceIte, Nat.reduceAdd, Nat.reduceMul, Nat.reduceEqDiff, Nat.reduceLeDiff, reduceCtorEq]
  refine ⟨⟨by simp, by simp [oneAll, AV.one, PV.one], by simp⟩, by simp [liftE_length]; omega, by decide +kernel, ?_⟩
  apply hK; clear hK K
  have w1 : IntKind.wrap .i64 ((i : Int) + 1) = ((i + 1 : Nat) : Int) := by rw [w64] <;> omega
  have e8 : liftE ((t.ents.take i).map encVn) ++ [[AV.p (.int .i64 e.1), .p (.slice (e.2.map encV1))]] = liftE ((t.ents.take (i + 1)).map encVn) := by
   rw [List.take_add_one, he]
   simp [liftE, encVn]
  refine AW.rE (by rfl) fun K hK => ?_
  simp -implicitDefEqProofs only [go_sem, ↓reduceIte, Nat.reduceAdd, Nat.reduceEqDiff, w1]
  apply hK; clear hK K
  refine ⟨i + 1, by omega, by omega, ?_⟩
  refine Ghost.ent (fun l => if l = 3 then 12 else l) ?_ ?_ ?_ <;> simp -implicitDefEqProofs only [go_sem, ↓reduceIte, Nat.reduceEqDiff, e8, List.forall_mem_cons, List.not_mem_nil, false_implies, implies_true, and_self, map_renL_lift, labsIn_lift, List.all_cons, List.all_nil, Nat.reduceLT, labsInL, AV.labsIn]
def ofV (t : Tr) : PV := if okT t = true then encV t else .cst .nilIface
theorem value_Of (t : Tr) (hlt : lensT t = true) : PFn Tryd.prog 114 [.agg (encTr t)] (.tuple [.agg [ofV t], .bool (okT t)]) := by
 have E1 := value_Check t hlt
 have E2 := value_made t hlt
 rw [encTr_eq] at E1 E2
 refine PFn.of Tryd.func114 rfl (by decide) Tryd.ntmps114 Tryd.results114 (Nat.le_of_ble_eq_true rfl) ?_
 simp only [argsT]
 refine AW.rT (by rfl) fun K hK => ?_
 simp -implicitDefEqProofs only [go_sem, Nat.reduceAdd, encTr_eq]
 apply hK; clear hK K
 refine AW.seq ?_
 cases hk : okT t with
 | false =>
  have eo : ofV t = .cst .nilIface := by rw [ofV, hk]; rfl
  rw [hk] at E1
  refine AW.rT (by rfl) fun K hK => ?_
  simp -implicitDefEqProofs only [go_sem, ↓reduceIte, Nat.reduceAdd, Nat.reduceEqDiff, Nat.reduceLeDiff, reduceCtorEq]
  refine ⟨.pure _, E1, ?_⟩
  try simp -implicitDefEqProofs only [go_sem, Nat.reduceAdd]
  apply hK; clear hK K
  refine AW.cond _ (by simp -implicitDefEqProofs only [go_sem]; rfl) (fun hc => ?_) (fun hc => ?_)
  ·refine AW.rT (by rfl) fun K hK => ?_
   simp -implicitDefEqProofs only [go_sem, ↓reduceIte, Nat.reduceAdd, Nat.reduceEqDiff, Nat.reduceLeDiff]
   apply hK; clear hK K
   refine AW.ret ?_
   simp -implicitDefEqProofs only [go_sem, ↓reduceIte, Nat.reduceEqDiff, Nat.reduceLeDiff, eo]
  ·simp at hc
 | true =>
  have eo : ofV t = encV t := by rw [ofV, hk]; rfl
  rw [hk] at E1
  refine AW.rT (by rfl) fun K hK => ?_
  simp -implicitDefEqProofs only [go_sem, ↓reduceIte, Nat.reduceAdd, Nat.reduceEqDiff, Nat.reduceLeDiff, reduceCtorEq]
  refine ⟨.pure _, E1, ?_⟩
  try simp -implicitDefEqProofs only [go_sem, Nat.reduceAdd]
  apply hK; clear hK K
  refine AW.cF rfl ?_
  refine AW.skip ?_
  simp only [andThen]
  refine AW.rT (by rfl) fun K hK => ?_
  simp -implicitDefEqProofs only [go_sem, ↓reduceIte, Nat.reduceAdd, Nat.reduceEqDiff, Nat.reduceLeDiff, reduceCtorEq]
  refine ⟨.pure _, E2, ?_⟩
  try simp -implicitDefEqProofs only [go_sem, ↓reduceIte, Nat.reduceAdd, Nat.reduceEqDiff, Nat.reduceLeDiff]
  refine ⟨encV_one t, ?_⟩
  apply hK; clear hK K
  refine AW.ret ?_
  simp -implicitDefEqProofs only [go_sem, ↓reduceIte, Nat.reduceEqDiff, Nat.reduceLeDiff, eo]
def ndV (t : Tr) : List PV := [.slice (t.ents.map encVn), .slice (t.rest.map encRaw)]
theorem node_Rest (t : Tr) (hl : t.rest.length ≤ 1000000) : PFn Tryd.prog 160 [.box (ndV t) 0] (.slice (t.rest.map encRaw)) := by
 refine PFn.of Tryd.func160 rfl (by decide) Tryd.ntmps160 Tryd.results160 (Nat.le_of_ble_eq_true rfl) ?_
 simp only [argsT, ndV]
 refine AW.rT (by rfl) fun K hK => ?_
 simp -implicitDefEqProofs only [go_sem]
 apply hK; clear hK K
 refine AW.rT (by rfl) fun K hK => ?_
 simp -implicitDefEqProofs only [go_sem, ↓reduceIte, Nat.reduceAdd, reduceCtorEq]
 refine ⟨.pure _, clone_Raws t.rest hl, ?_⟩
 try simp -implicitDefEqProofs only [go_sem, Nat.reduceAdd]
 apply hK; clear hK K
 refine AW.ret ?_
 simp -implicitDefEqProofs only [go_sem]
def px (t : Tr) (i : Nat) : St := ⟨ofL [(2, .ptr 1 0 0), (3, .ptr 2 0 0), (36, .p (.slice (t.ents.map encVn))), (37, .p (.int .i64 (t.ents.length : Int))), (38, .p (.int .i64 (i : Int)))],
 ofH [(1, .row 5 [[.p (.int .i64 0), .p (.int .i64 0), .p (.str []), .ex [], .ex []]]), (2, .row 5 [[.p (.int .i64 3), .p (.int .i64 0), .p (.str []), .own 3, .p (.slice (t.rest.map encRaw))]]), (3, .row 2 (liftE ((t.ents.take i).map encEn)))], 4⟩
def py (t : Tr) (i : Nat) (e : Int × List Tr) (k : Nat) : St := ⟨ofL [(2, .ptr 1 0 0), (3, .ptr 2 0 0), (36, .p (.slice (t.ents.map encVn))), (37, .p (.int .i64 (t.ents.length : Int))), (38, .p (.int .i64 (i : Int))), (9, .ptr 4 0 0), (46, .p (.slice (e.2.map encV1))), (47, .p (.int .i64 (e.2.length : Int))), (48, .p (.int .i64 (k : Int)))],
 ofH [(1, .row 5 [[.p (.int .i64 0), .p (.int .i64 0), .p (.str []), .ex [], .ex []]]), (2, .row 5 [[.p (.int .i64 3), .p (.int .i64 0), .p (.str []), .own 3, .p (.slice (t.rest.map encRaw))]]), (3, .row 2 (liftE ((t.ents.take i).map encEn))),
  (4, .row 2 [[.p (.int .i64 e.1), .own 5]]), (5, .row 5 (liftE ((e.2.take k).map encTr)))], 6⟩
def pz (t : Tr) (i : Nat) (e : Int × List Tr) : St := ⟨ofL [(2, .ptr 1 0 0), (3, .ptr 2 0 0), (36, .p (.slice (t.ents.map encVn))), (37, .p (.int .i64 (t.ents.length : Int))), (38, .p (.int .i64 (i : Int))), (9, .ptr 4 0 0)],
 ofH [(1, .row 5 [[.p (.int .i64 0), .p (.int .i64 0), .p (.str []), .ex [], .ex []]]), (2, .row 5 [[.p (.int .i64 3), .p (.int .i64 0), .p (.str []), .own 3, .p (.slice (t.rest.map encRaw))]]), (3, .row 2 (liftE ((t.ents.take i).map encEn))),
  (4, .row 2 [[.p (.int .i64 e.1), .p (.slice (e.2.map encTr))]])], 5⟩
def pw (t : Tr) : St := ⟨ofL [(2, .ptr 1 0 0), (3, .ptr 2 0 0)],
 ofH [(1, .row 5 [[.p (.int .i64 0), .p (.int .i64 0), .p (.str []), .ex [], .ex []]]), (2, .row 5 [[.p (.int .i64 3), .p (.int .i64 0), .p (.str []), .p (.slice (t.ents.map encEn)), .p (.slice (t.rest.map encRaw))]])], 3⟩
theorem value_Tree : ∀ (t : Tr), lensT t = true → rightT t = true → PFn Tryd.prog 156 [.agg [encV t]] (.agg (encTr t)) := by
 intro t
 induction h : SizeOf.sizeOf t using Nat.strongRecOn generalizing t with
 | _ sz ih =>
 subst h
 intro hlt hr
 obtain ⟨la1, la2, la3⟩ := lensT_mk hlt
 have eV := encV_eq t
 rcases right_kinds hr with ⟨hk, ht⟩ | ⟨hk, ht⟩ | ⟨hk, hn, hs, hre, _⟩
 ·have := value_Tree_leaf (.num t.n) (by intro cs h; cases h)
  rw [if_pos hk] at eV
  rw [eV]
  rw [leafT, ← ht] at this
  exact this
 ·have := value_Tree_leaf (.str t.s) (by intro cs h; cases h)
  rw [if_neg (by omega), if_pos hk] at eV
  rw [eV]
  rw [leafT, ← ht] at this
  exact this
 rw [if_neg (by omega), if_neg (by omega)] at eV
 have hre' := right_ents hre
 have R1 := node_Rest t (by omega)
 simp only [ndV] at R1
 rw [eV]
 refine PFn.of Tryd.func156 rfl (by decide) Tryd.ntmps156 Tryd.results156 (Nat.le_of_ble_eq_true rfl) ?_
 simp only [argsT]
 refine AW.rT (by rfl) fun K hK => ?_
 simp -implicitDefEqProofs only [go_sem, Nat.reduceAdd]
 apply hK; clear hK K
 refine AW.rT (by rfl) fun K hK => ?_
 simp -implicitDefEqProofs only [go_sem, ↓reduceIte, Nat.reduceAdd, Nat.reduceEqDiff, Nat.reduceLeDiff, reduceCtorEq]
 refine ⟨.pure _, value_Kind (.node (ndV t)), ?_⟩
 try simp -implicitDefEqProofs only [go_sem, ↓reduceIte, Nat.reduceAdd, Nat.reduceEqDiff, Nat.reduceLeDiff, kindIn]
 apply hK; clear hK K
 refine AW.seq ?_
 refine AW.rT (by rfl) fun K hK => ?_
 simp -implicitDefEqProofs only [go_sem, ↓reduceIte, Nat.reduceAdd, Nat.reduceEqDiff, reduceCtorEq]
 apply hK; clear hK K
 refine AW.block ?_
 refine AW.rT (by rfl) fun K hK => ?_
 simp -implicitDefEqProofs only [go_sem, ↓reduceIte, Nat.reduceAdd, Nat.reduceEqDiff]
 apply hK; clear hK K
 refine AW.cF rfl ?_
 refine AW.rT (by rfl) fun K hK => ?_
 simp -implicitDefEqProofs only [go_sem, ↓reduceIte, Nat.reduceAdd, Nat.reduceEqDiff]
 apply hK; clear hK K
 refine AW.cF rfl ?_
 refine AW.rT (by rfl) fun K hK => ?_
 simp -implicitDefEqProofs only [go_sem, ↓reduceIte, Nat.reduceAdd, Nat.reduceEqDiff]
 apply hK; clear hK K
 refine AW.cT rfl ?_
 refine AW.rT (by rfl) fun K hK => ?_
 simp -implicitDefEqProofs only [go_sem, Nat.reduceAdd]
 apply hK; clear hK K
 refine AW.rT (by rfl) fun K hK => ?_
 simp -implicitDefEqProofs only [go_sem, Nat.reduceAdd]
 refine ⟨.pure _, R1, ?_⟩
 try simp -implicitDefEqProofs only [go_sem, ↓reduceIte, Nat.reduceAdd, Nat.reduceEqDiff, Nat.reduceLeDiff]
 apply hK; clear hK K
 refine AW.rT (by rfl) fun K hK => ?_
 simp -implicitDefEqProofs only [go_sem, ↓reduceIte, Nat.reduceAdd, Nat.reduceEqDiff, List.length_map]
 apply hK; clear hK K
 refine AW.block ?_
 refine AW.loop (px t) (fun i => i ≤ t.ents.length) (fun i => t.ents.length - i) 0 ?_ (by simp) fun i hi => ?_
 ·refine Ghost.trans (Ghost.nilH (l := 5) (i := 0) (j := 3) (sz' := 2) rfl rfl rfl) ?_
  simp only [px]
  refine Ghost.ent (fun l => if l = 2 then 5 else if l = 3 then 29 else l) ?_ ?_ ?_ <;> simp -implicitDefEqProofs only [go_sem, ↓reduceIte, Nat.reduceEqDiff, List.take_zero, List.map_nil, liftE_nil, List.set_cons_zero, List.set_cons_succ, List.forall_mem_cons, List.not_mem_nil, false_implies, implies_true, and_self, List.all_cons, List.all_nil, Nat.reduceLT, labsInL, AV.labsIn]
  rfl
 simp only [px]
 by_cases hil : i < t.ents.length
 case neg =>
  have hc1 : ((i : Int) < (t.ents.length : Int)) = False := by simp; omega
  have hi' : i = t.ents.length := by omega
  subst hi'
  refine AW.rT (by rfl) fun K hK => ?_
  simp -implicitDefEqProofs only [go_sem, ↓reduceIte, Nat.reduceAdd, Nat.reduceEqDiff, hc1]
  apply hK; clear hK K
  refine AW.seq ?_
  refine AW.cF rfl ?_
  refine AW.exit ?_
  simp only [andThen, inBlk, ↓reduceIte]
  refine AW.ghost (s' := pw t) (Ghost.trans (Ghost.freeze (lb := 3) (ps := (t.ents.take t.ents.length).map encEn) rfl (unlift_liftE _)) ?_) ?_
  ·simp only [pw]
   refine Ghost.sub ?_ ?_ <;> simp -implicitDefEqProofs only [go_sem, ↓reduceIte, Nat.reduceEqDiff, thaw, thaw1, Option.map_some, List.take_length, List.map_cons, List.map_nil, List.forall_mem_cons, List.not_mem_nil, false_implies, implies_true, and_self, List.all_cons, List.all_nil, Nat.reduceLT, labsInL, AV.labsIn]
  simp only [pw]
  refine AW.rT (by rfl) fun K hK => ?_
  simp -implicitDefEqProofs only [go_sem, ↓reduceIte, Nat.reduceAdd, Nat.reduceEqDiff, Nat.reduceLeDiff]
  apply hK; clear hK K
  refine AW.ret ?_
  simp -implicitDefEqProofs only [go_sem, ↓reduceIte, Nat.reduceAdd, Nat.reduceEqDiff, Nat.reduceLeDiff, encTr_eq]
  rw [hk, hn, hs]
 obtain ⟨e, he⟩ : ∃ e, t.ents[i]? = some e := ⟨_, List.getElem?_eq_getElem hil⟩
 have ⟨he1, he2, he3⟩ := at_map' encVn he
 have ⟨le1, le2⟩ := lensE_at la3 he
 have hc1 : ((i : Int) < (t.ents.length : Int)) = True := by simp; omega
 refine AW.rT (by rfl) fun K hK => ?_
 simp -implicitDefEqProofs only [go_sem, ↓reduceIte, Nat.reduceAdd, Nat.reduceEqDiff, hc1]
 apply hK; clear hK K
 refine AW.seq ?_
 refine AW.cT rfl ?_
 refine AW.skip ?_
 simp only [andThen]
 refine AW.seq ?_
 refine AW.block ?_
 refine AW.rT (by rfl) fun K hK => ?_
 simp -implicitDefEqProofs only [go_sem, ↓reduceIte, Nat.reduceAdd, Nat.reduceEqDiff, Nat.reduceLeDiff, he1, he3, hc1, encVn, List.length_map]
 apply hK; clear hK K
 refine AW.rT (by rfl) fun K hK => ?_
 simp -implicitDefEqProofs only [go_sem, ↓reduceIte, Nat.reduceAdd, Nat.reduceEqDiff, Nat.reduceLeDiff]
 apply hK; clear hK K
 refine AW.seq ?_
 refine AW.rT (by rfl) fun K hK => ?_
 simp -implicitDefEqProofs only [go_sem, ↓reduceIte, Nat.reduceAdd, Nat.reduceEqDiff, List.length_map]
 apply hK; clear hK K
 refine AW.block ?_
 refine AW.loop (py t i e) (fun k => k ≤ e.2.length) (fun k => e.2.length - k) 0 ?_ (by simp) fun k hkk => ?_
 ·refine Ghost.trans (Ghost.nilH (l := 12) (i := 0) (j := 1) (sz' := 5) rfl rfl rfl) ?_
  simp only [py]
  refine Ghost.ent (fun l => if l = 4 then 12 else if l = 5 then 18 else l) ?_ ?_ ?_ <;> simp -implicitDefEqProofs only [go_sem, ↓reduceIte, Nat.reduceEqDiff, List.take_zero, List.map_nil, liftE_nil, List.set_cons_zero, List.set_cons_succ, List.forall_mem_cons, List.not_mem_nil, false_implies, implies_true, and_self, map_renL_lift, labsIn_lift, List.all_cons, List.all_nil, Nat.reduceLT, labsInL, AV.labsIn]
  rfl
 simp only [py]
 by_cases hkl : k < e.2.length
 ·obtain ⟨x, hx⟩ : ∃ x, e.2[k]? = some x := ⟨_, List.getElem?_eq_getElem hkl⟩
  have ⟨hx1, hx2, hx3⟩ := at_map' encV1 hx
  have hc2 : ((k : Int) < (e.2.length : Int)) = True := by simp; omega
  have IH := ih _ (size_ent he hx) x rfl (lensTs_at le2 hx) (hre' e (List.mem_of_getElem? he) x (List.mem_of_getElem? hx))
  rw [encTr_eq] at IH
  have eo := encV_one x
  refine AW.rT (by rfl) fun K hK => ?_
  simp -implicitDefEqProofs only [go_sem, ↓reduceIte, Nat.reduceAdd, Nat.reduceEqDiff, hc2]
  apply hK; clear hK K
  refine AW.seq ?_
  refine AW.cT rfl ?_
  refine AW.skip ?_
  simp only [andThen]
  refine AW.seq ?_
  refine AW.block ?_
  refine AW.rT (by rfl) fun K hK => ?_
  simp -implicitDefEqProofs only [go_sem, ↓reduceIte, Nat.reduceAdd, Nat.reduceEqDiff, Nat.reduceLeDiff, hc2, hx1, hx3, encV1, List.length_map]
  refine ⟨encV_one x, ?_⟩
  apply hK; clear hK K
  refine AW.dE mixed (by rfl) (by decide +kernel) fun K hK => ?_
  simp -implicitDefEqProofs only [go_sem, ↓reduceIte, Nat.reduceAdd, Nat.reduceEqDiff, Nat.reduceLeDiff]
  refine ⟨.pure _, IH, ?_⟩
  try simp -implicitDefEqProofs only [go_sem, ↓reduceIte, Nat.reduceAdd, Nat.reduceMul, Nat.reduceEqDiff, Nat.reduceLeDiff, reduceCtorEq]
  refine ⟨⟨by simp, by simp [oneAll, AV.one, PV.one], by simp⟩, by simp [liftE_length]; omega, by decide +kernel, ?_⟩
  apply hK; clear hK K
  have w1 : IntKind.wrap .i64 ((k : Int) + 1) = ((k + 1 : Nat) : Int) := by rw [w64] <;> omega
  have e7 : liftE ((e.2.take k).map encTr) ++ [[AV.p (.int .i64 x.kind), .p (.int .i64 x.n), .p (.str x.s), .p (.slice (x.ents.map encEn)), .p (.slice (x.rest.map encRaw))]] = liftE ((e.2.take (k + 1)).map encTr) := by
   rw [List.take_add_one, hx]
   simp [liftE, encTr_eq]
  refine AW.rE (by rfl) fun K hK => ?_
  simp -implicitDefEqProofs only [go_sem, ↓reduceIte, Nat.reduceAdd, Nat.reduceEqDiff, w1]
  apply hK; clear hK K
  refine ⟨k + 1, by omega, by omega, ?_⟩
  refine Ghost.ent (fun l => if l = 5 then 16 else l) ?_ ?_ ?_ <;> simp -implicitDefEqProofs only [go_sem, ↓reduceIte, Nat.reduceEqDiff, e7, List.forall_mem_cons, List.not_mem_nil, false_implies, implies_true, and_self, map_renL_lift, labsIn_lift, List.all_cons, List.all_nil, Nat.reduceLT, labsInL, AV.labsIn]
 ·have hc2 : ((k : Int) < (e.2.length : Int)) = False := by simp; omega
  have hk' : k = e.2.length := by omega
  subst hk'
  refine AW.rT (by rfl) fun K hK => ?_
  simp -implicitDefEqProofs only [go_sem, ↓reduceIte, Nat.reduceAdd, Nat.reduceEqDiff, hc2]
  apply hK; clear hK K
  refine AW.seq ?_
  refine AW.cF rfl ?_
  refine AW.exit ?_
  simp only [andThen, inBlk, ↓reduceIte]
  refine AW.ghost (s' := pz t i e) (Ghost.trans (Ghost.freeze (lb := 5) (ps := (e.2.take e.2.length).map encTr) rfl (unlift_liftE _)) ?_) ?_
  ·simp only [pz]
   refine Ghost.sub ?_ ?_ <;> simp -implicitDefEqProofs only [go_sem, ↓reduceIte, Nat.reduceEqDiff, thaw, thaw1, Option.map_some, List.take_length, List.map_cons, List.map_nil, thaw_lift, List.forall_mem_cons, List.not_mem_nil, false_implies, implies_true, and_self, labsIn_lift, List.all_cons, List.all_nil, Nat.reduceLT, labsInL, AV.labsIn]
  simp only [pz]
  refine AW.rE (by rfl) fun K hK => ?_
  simp -implicitDefEqProofs only [go_sem, ↓reduceIte, Nat.reduceAdd, Nat.reduceMul, Nat.reduceEqDiff, Nat.reduceLeDiff, reduceCtorEq]
  refine ⟨⟨by simp, by simp [oneAll, AV.one, PV.one], by simp⟩, by simp [liftE_length]; omega, ?_⟩
  apply hK; clear hK K
  simp only [andThen, inBlk]
  have w1 : IntKind.wrap .i64 ((i : Int) + 1) = ((i + 1 : Nat) : Int) := by rw [w64] <;> omega
  have e8 : liftE ((t.ents.take i).map encEn) ++ [[AV.p (.int .i64 e.1), .p (.slice (e.2.map encTr))]] = liftE ((t.ents.take (i + 1)).map encEn) := by
   rw [List.take_add_one, he]
   simp [liftE, encEn]
  refine AW.rE (by rfl) fun K hK => ?_
  simp -implicitDefEqProofs only [go_sem, ↓reduceIte, Nat.reduceAdd, Nat.reduceEqDiff, w1]
  apply hK; clear hK K
  refine ⟨i + 1, by omega, by omega, ?_⟩
  refine Ghost.ent (fun l => if l = 3 then 9 else l) ?_ ?_ ?_ <;> simp -implicitDefEqProofs only [go_sem, ↓reduceIte, Nat.reduceEqDiff, e8, List.forall_mem_cons, List.not_mem_nil, false_implies, implies_true, and_self, map_renL_lift, labsIn_lift, List.all_cons, List.all_nil, Nat.reduceLT, labsInL, AV.labsIn]
def getE (es : List (Int × List Tr)) (g : Int) : List Tr := match es.find? (fun e => e.1 == g) with | some e => e.2 | none => []
theorem find_at {es : List (Int × List Tr)} {i : Nat} {e : Int × List Tr} {g : Int} (h : es[i]? = some e) (ha : (es.take i).all (fun e => e.1 != g) = true) (hg : e.1 = g) : getE es g = e.2 := by
 have e0 : es = es.take i ++ (e :: es.drop (i + 1)) := by
  rw [← (List.getElem?_eq_some_iff.1 h).2, ← List.drop_eq_getElem_cons, List.take_append_drop]
 have : es.find? (fun e => e.1 == g) = some e := by
  rw [e0, List.find?_append, List.find?_eq_none.2 (by
   intro x hx
   have := List.all_eq_true.1 ha x hx
   simpa using this)]
  simp [hg]
 rw [getE, this]
theorem find_not {es : List (Int × List Tr)} {g : Int} (ha : es.all (fun e => e.1 != g) = true) : getE es g = [] := by
 have : es.find? (fun e => e.1 == g) = none := by
  rw [List.find?_eq_none]
  intro x hx
  have := List.all_eq_true.1 ha x hx
  simpa using this
 rw [getE, this]
def gg (t : Tr) (g : Int) (i : Nat) : St := ⟨ofL [(1, .p (.int .i64 g)), (10, .p (.slice (t.ents.map encVn))), (11, .p (.int .i64 (t.ents.length : Int))), (12, .p (.int .i64 (i : Int)))], ofH [], 0⟩
theorem node_Get (t : Tr) (hlt : lensT t = true) (g : Int) : PFn Tryd.prog 141 [.box (ndV t) 0, .int .i64 g] (.slice ((getE t.ents g).map encV1)) := by
 obtain ⟨la1, la2, la3⟩ := lensT_mk hlt
 refine PFn.of Tryd.func141 rfl (by decide) Tryd.ntmps141 Tryd.results141 (Nat.le_of_ble_eq_true rfl) ?_
 simp only [argsT, ndV]
 refine AW.rT (by rfl) fun K hK => ?_
 simp -implicitDefEqProofs only [go_sem]
 apply hK; clear hK K
 refine AW.seq ?_
 refine AW.rT (by rfl) fun K hK => ?_
 simp -implicitDefEqProofs only [go_sem, ↓reduceIte, Nat.reduceAdd, reduceCtorEq, List.length_map]
 apply hK; clear hK K
 refine AW.block ?_
 refine AW.loop (gg t g) (fun i => i ≤ t.ents.length ∧ (t.ents.take i).all (fun e => e.1 != g) = true) (fun i => t.ents.length - i) 0 ?_ (by simp) fun i hi => ?_
 ·simp only [gg]
  refine Ghost.sub ?_ ?_ <;> simp -implicitDefEqProofs only [go_sem, ↓reduceIte, Nat.reduceEqDiff, reduceCtorEq, List.forall_mem_cons, List.not_mem_nil, false_implies, implies_true, and_self, AV.labsIn]
  rfl
 obtain ⟨g1, g2⟩ := hi
 simp only [gg]
 by_cases hil : i < t.ents.length
 case neg =>
  have hc1 : ((i : Int) < (t.ents.length : Int)) = False := by simp; omega
  have hi' : i = t.ents.length := by omega
  subst hi'
  rw [List.take_length] at g2
  refine AW.rT (by rfl) fun K hK => ?_
  simp -implicitDefEqProofs only [go_sem, ↓reduceIte, Nat.reduceEqDiff, hc1]
  apply hK; clear hK K
  refine AW.seq ?_
  refine AW.cF rfl ?_
  refine AW.exit ?_
  simp only [andThen, inBlk, ↓reduceIte]
  refine AW.rT (by rfl) fun K hK => ?_
  simp -implicitDefEqProofs only [go_sem, Nat.reduceAdd]
  apply hK; clear hK K
  refine AW.ret ?_
  simp -implicitDefEqProofs only [go_sem]
  rw [find_not g2]
  rfl
 obtain ⟨e, he⟩ : ∃ e, t.ents[i]? = some e := ⟨_, List.getElem?_eq_getElem hil⟩
 have ⟨he1, he2, he3⟩ := at_map' encVn he
 have ⟨le1, le2⟩ := lensE_at la3 he
 have hc1 : ((i : Int) < (t.ents.length : Int)) = True := by simp; omega
 refine AW.rT (by rfl) fun K hK => ?_
 simp -implicitDefEqProofs only [go_sem, ↓reduceIte, Nat.reduceEqDiff, hc1]
 apply hK; clear hK K
 refine AW.seq ?_
 refine AW.cT rfl ?_
 refine AW.skip ?_
 simp only [andThen]
 refine AW.seq ?_
 refine AW.block ?_
 refine AW.rT (by rfl) fun K hK => ?_
 simp -implicitDefEqProofs only [go_sem, ↓reduceIte, Nat.reduceAdd, Nat.reduceEqDiff, Nat.reduceLeDiff, he1, he3, hc1, encVn, List.length_map]
 apply hK; clear hK K
 by_cases hg : e.1 = g
 ·have b1 : (e.1 == g) = true := by simpa using hg
  have GG := find_at he g2 hg
  refine AW.rT (by rfl) fun K hK => ?_
  simp -implicitDefEqProofs only [go_sem, ↓reduceIte, Nat.reduceAdd, Nat.reduceEqDiff, b1]
  apply hK; clear hK K
  refine AW.cT rfl ?_
  refine AW.rT (by rfl) fun K hK => ?_
  simp -implicitDefEqProofs only [go_sem, ↓reduceIte, Nat.reduceAdd, Nat.reduceEqDiff]
  refine ⟨.pure _, clone_Vals e.2 (by omega), ?_⟩
  try simp -implicitDefEqProofs only [go_sem, Nat.reduceAdd]
  apply hK; clear hK K
  refine AW.ret ?_
  simp -implicitDefEqProofs only [go_sem, GG]
 ·have b1 : (e.1 == g) = false := beqf hg
  refine AW.rT (by rfl) fun K hK => ?_
  simp -implicitDefEqProofs only [go_sem, ↓reduceIte, Nat.reduceAdd, Nat.reduceEqDiff, b1]
  apply hK; clear hK K
  refine AW.cF rfl ?_
  refine AW.skip ?_
  simp only [andThen, inBlk]
  have w1 : IntKind.wrap .i64 ((i : Int) + 1) = ((i + 1 : Nat) : Int) := by rw [w64] <;> omega
  refine AW.rE (by rfl) fun K hK => ?_
  simp -implicitDefEqProofs only [go_sem, ↓reduceIte, Nat.reduceAdd, Nat.reduceEqDiff, w1]
  apply hK; clear hK K
  refine ⟨i + 1, ⟨by omega, all_next he g2 (by simpa using hg)⟩, by omega, ?_⟩
  refine Ghost.sub ?_ ?_ <;> simp -implicitDefEqProofs only [go_sem, ↓reduceIte, Nat.reduceEqDiff, List.forall_mem_cons, List.not_mem_nil, false_implies, implies_true, and_self, AV.labsIn]
def inV (t : Tr) : In0 := if t.kind = 1 then .num t.n else if t.kind = 2 then .str t.s else .node (ndV t)
theorem encIn_inV (t : Tr) : encIn (inV t) = encV t := by
 rw [inV, encV_eq]
 split
 ·rfl
 ·split <;> rfl
end Go.Aw.T
namespace Go.Aw.T
open Go.Proofs
def keptJ : In0 → PV
 | .none => .cst .nilIface
 | .num n => .iface 3 (.int .i64 n)
 | .str _ => .cst .nilIface
 | .node cs => .iface 179 (.box cs 0)
theorem interp_kept (x : In0) : PFn Tryd.prog 157 [.agg [encIn x]] (keptJ x) := by
 have A1 := value_AsNum x
 have A2 := value_AsNode x
 refine PFn.of Tryd.func157 rfl (by decide) Tryd.ntmps157 Tryd.results157 (Nat.le_of_ble_eq_true rfl) ?_
 simp only [argsT]
 cases x with
 | num n =>
  simp only [encIn, asNum] at A1 ⊢
  refine AW.rT (by rfl) fun K hK => ?_
  simp -implicitDefEqProofs only [go_sem, Nat.reduceAdd]
  apply hK; clear hK K
  refine AW.seq ?_
  refine AW.rT (by rfl) fun K hK => ?_
  simp -implicitDefEqProofs only [go_sem, ↓reduceIte, Nat.reduceAdd, Nat.reduceEqDiff, Nat.reduceLeDiff]
  refine ⟨.pure _, A1, ?_⟩
  try simp -implicitDefEqProofs only [go_sem, ↓reduceIte, Nat.reduceAdd, Nat.reduceEqDiff]
  apply hK; clear hK K
  refine AW.rT (by rfl) fun K hK => ?_
  simp -implicitDefEqProofs only [go_sem, Nat.reduceAdd]
  apply hK; clear hK K
  refine AW.cT rfl ?_
  refine AW.rT (by rfl) fun K hK => ?_
  simp -implicitDefEqProofs only [go_sem, ↓reduceIte, Nat.reduceAdd, Nat.reduceEqDiff]
  apply hK; clear hK K
  refine AW.ret ?_
  simp -implicitDefEqProofs only [go_sem, keptJ]
 | node cs =>
  simp only [encIn, asNum, asNode] at A1 A2 ⊢
  refine AW.rT (by rfl) fun K hK => ?_
  simp -implicitDefEqProofs only [go_sem, Nat.reduceAdd]
  apply hK; clear hK K
  refine AW.seq ?_
  refine AW.rT (by rfl) fun K hK => ?_
  simp -implicitDefEqProofs only [go_sem, ↓reduceIte, Nat.reduceAdd, Nat.reduceEqDiff, Nat.reduceLeDiff]
  refine ⟨.pure _, A1, ?_⟩
  try simp -implicitDefEqProofs only [go_sem, ↓reduceIte, Nat.reduceAdd, Nat.reduceEqDiff]
  apply hK; clear hK K
  refine AW.rT (by rfl) fun K hK => ?_
  simp -implicitDefEqProofs only [go_sem, Nat.reduceAdd]
  apply hK; clear hK K
  refine AW.cF rfl ?_
  refine AW.skip ?_
  simp only [andThen]
  refine AW.seq ?_
  refine AW.rT (by rfl) fun K hK => ?_
  simp -implicitDefEqProofs only [go_sem, ↓reduceIte, Nat.reduceAdd, Nat.reduceEqDiff, Nat.reduceLeDiff]
  refine ⟨.pure _, A2, ?_⟩
  try simp -implicitDefEqProofs only [go_sem, ↓reduceIte, Nat.reduceAdd, Nat.reduceEqDiff]
  apply hK; clear hK K
  refine AW.rT (by rfl) fun K hK => ?_
  simp -implicitDefEqProofs only [go_sem, Nat.reduceAdd]
  apply hK; clear hK K
  refine AW.cT rfl ?_
  refine AW.rT (by rfl) fun K hK => ?_
  simp -implicitDefEqProofs only [go_sem, ↓reduceIte, Nat.reduceAdd, Nat.reduceEqDiff]
  apply hK; clear hK K
  refine AW.ret ?_
  simp -implicitDefEqProofs only [go_sem, keptJ]
 | none =>
  simp only [encIn, asNum, asNode] at A1 A2 ⊢
  refine AW.rT (by rfl) fun K hK => ?_
  simp -implicitDefEqProofs only [go_sem, Nat.reduceAdd]
  apply hK; clear hK K
  refine AW.seq ?_
  refine AW.rT (by rfl) fun K hK => ?_
  simp -implicitDefEqProofs only [go_sem, ↓reduceIte, Nat.reduceAdd, Nat.reduceEqDiff, Nat.reduceLeDiff]
  refine ⟨.pure _, A1, ?_⟩
  try simp -implicitDefEqProofs only [go_sem, ↓reduceIte, Nat.reduceAdd, Nat.reduceEqDiff]
  apply hK; clear hK K
  refine AW.rT (by rfl) fun K hK => ?_
  simp -implicitDefEqProofs only [go_sem, Nat.reduceAdd]
  apply hK; clear hK K
  refine AW.cF rfl ?_
  refine AW.skip ?_
  simp only [andThen]
  refine AW.seq ?_
  refine AW.rT (by rfl) fun K hK => ?_
  simp -implicitDefEqProofs only [go_sem, ↓reduceIte, Nat.reduceAdd, Nat.reduceEqDiff, Nat.reduceLeDiff]
  refine ⟨.pure _, A2, ?_⟩
  try simp -implicitDefEqProofs only [go_sem, ↓reduceIte, Nat.reduceAdd, Nat.reduceEqDiff]
  apply hK; clear hK K
  refine AW.rT (by rfl) fun K hK => ?_
  simp -implicitDefEqProofs only [go_sem, Nat.reduceAdd]
  apply hK; clear hK K
  refine AW.cF rfl ?_
  refine AW.skip ?_
  simp only [andThen]
  refine AW.rT (by rfl) fun K hK => ?_
  simp -implicitDefEqProofs only [go_sem, Nat.reduceAdd]
  apply hK; clear hK K
  refine AW.ret ?_
  simp -implicitDefEqProofs only [go_sem, keptJ]
 | str s =>
  simp only [encIn, asNum, asNode] at A1 A2 ⊢
  refine AW.rT (by rfl) fun K hK => ?_
  simp -implicitDefEqProofs only [go_sem, Nat.reduceAdd]
  apply hK; clear hK K
  refine AW.seq ?_
  refine AW.rT (by rfl) fun K hK => ?_
  simp -implicitDefEqProofs only [go_sem, ↓reduceIte, Nat.reduceAdd, Nat.reduceEqDiff, Nat.reduceLeDiff]
  refine ⟨.pure _, A1, ?_⟩
  try simp -implicitDefEqProofs only [go_sem, ↓reduceIte, Nat.reduceAdd, Nat.reduceEqDiff]
  apply hK; clear hK K
  refine AW.rT (by rfl) fun K hK => ?_
  simp -implicitDefEqProofs only [go_sem, Nat.reduceAdd]
  apply hK; clear hK K
  refine AW.cF rfl ?_
  refine AW.skip ?_
  simp only [andThen]
  refine AW.seq ?_
  refine AW.rT (by rfl) fun K hK => ?_
  simp -implicitDefEqProofs only [go_sem, ↓reduceIte, Nat.reduceAdd, Nat.reduceEqDiff, Nat.reduceLeDiff]
  refine ⟨.pure _, A2, ?_⟩
  try simp -implicitDefEqProofs only [go_sem, ↓reduceIte, Nat.reduceAdd, Nat.reduceEqDiff]
  apply hK; clear hK K
  refine AW.rT (by rfl) fun K hK => ?_
  simp -implicitDefEqProofs only [go_sem, Nat.reduceAdd]
  apply hK; clear hK K
  refine AW.cF rfl ?_
  refine AW.skip ?_
  simp only [andThen]
  refine AW.rT (by rfl) fun K hK => ?_
  simp -implicitDefEqProofs only [go_sem, Nat.reduceAdd]
  apply hK; clear hK K
  refine AW.ret ?_
  simp -implicitDefEqProofs only [go_sem, keptJ]
end Go.Aw.T
namespace Go.Aw.T
open Go.Proofs
theorem project_Clamp (n : Int) : PFn Tryd.prog 46 [.int .i64 n] (.int .i64 (clampV n)) := by
 refine PFn.of Tryd.func46 rfl (by decide) Tryd.ntmps46 Tryd.results46 (Nat.le_of_ble_eq_true rfl) ?_
 simp only [argsT]
 refine AW.rT (by rfl) fun K hK => ?_
 simp -implicitDefEqProofs only [go_sem]
 apply hK; clear hK K
 refine AW.rT (by rfl) fun K hK => ?_
 simp -implicitDefEqProofs only [go_sem, ↓reduceIte, Nat.reduceAdd, reduceCtorEq]
 try simp -implicitDefEqProofs only [go_sem, ↓reduceIte, Nat.reduceAdd, Nat.reduceMul, Nat.reduceEqDiff, Nat.reduceLeDiff, reduceCtorEq, Int.reduceToNat]
 apply hK; clear hK K
 refine AW.ret ?_
 simp -implicitDefEqProofs only [go_sem]
 congr 1
 unfold clampV
 repeat' split
 all_goals omega
end Go.Aw.T
namespace Go.Aw.T
open Go.Proofs Go.RowKit
def memR (P : List (List Stp)) (a : Int) : List (Nat × Blk) := [(0, .row 2 [[.p (.slice (P.map encPt)), .p (.int .i64 a)]])]
theorem mem_root {s : St} {args : List AV} {P : List (List Stp)} {a b : Int} (h : args[0]? = some (.ptr 0 0 0)) (hs : s.T 0 = some (.ptr 0 0 0)) : ∀ l ∈ ([0] : List Nat), l < 1 ∧ rootOK s args (memR P a) (memR P b) [0] (fun k => k) l := by
 intro k hk
 simp only [List.mem_singleton] at hk
 subst hk
 exact ⟨by decide, .inl ⟨0, 0, 0, 2, _, _, by simp, h, hs, rfl, rfl, rfl, by decide⟩⟩
def PartOK (P : List (List Stp)) (t : Tr) : Prop := ∀ (i : Nat) (a : Int), i < P.length → IntKind.wrap .i64 a = a → DFn Tryd.prog 115 [.ptr 0 0 0, .p (.int .i64 (i : Int)), .p (.box (ndV t) 0)] (memR P a) 1 [0] (.p (.agg (encTr (runF P t (i : Int))))) (memR P (IntKind.wrap .i64 (a + (lookF P t (i : Int) : Nat)))) 0
def lk1 (P : List (List Stp)) (s : Stp) (x : Tr) : Nat := if s.op = 3 ∨ s.op = 4 then lookF P x s.sub else 0
theorem sum_zero : ∀ (l : List Tr), (l.map fun _ => 0).sum = 0
 | [] => rfl
 | x :: l => by rw [List.map_cons, List.sum_cons, sum_zero l]
theorem lookS_yes {P : List (List Stp)} {s : Stp} {l : List Tr} (h : kindOK s l = true) : lookS P s l = ((lastL s l).map (lk1 P s)).sum := by
 unfold lookS
 by_cases h3 : s.op = 3 ∨ s.op = 4
 ·rw [if_pos ⟨h3, h⟩]
  congr 2
  funext x
  unfold lk1
  rw [if_pos h3]
 ·rw [if_neg (fun q => h3 q.1)]
  have : (fun x => lk1 P s x) = fun _ => 0 := by
   funext x
   unfold lk1
   rw [if_neg h3]
  rw [show lk1 P s = fun _ => 0 from this, sum_zero]
theorem lookS_no {P : List (List Stp)} {s : Stp} {l : List Tr} (h : kindOK s l = false) : lookS P s l = 0 := by
 unfold lookS
 rw [if_neg (by rw [h]; simp)]
theorem wrap_wrap (a : Int) : IntKind.wrap .i64 (IntKind.wrap .i64 a) = IntKind.wrap .i64 a := by
 have := wrap_more a 0
 simpa using this
theorem wrap_nat (a : Int) (n m : Nat) : IntKind.wrap .i64 (IntKind.wrap .i64 (a + (n : Int)) + (m : Int)) = IntKind.wrap .i64 (a + ((n + m : Nat) : Int)) := by
 rw [wrap_more]
 congr 1
 push_cast
 omega
def se (P : List (List Stp)) (r : List Tr) (b : Int) : St := ⟨ofL [(0, .ptr 0 0 0), (6, .p (.slice (r.map encTr)))], ofH [(0, .row 2 [[.p (.slice (P.map encPt)), .p (.int .i64 b)]])], 1⟩
theorem step_end {P : List (List Stp)} {args : List AV} {r : List Tr} {a b : Int} (h : args[0]? = some (.ptr 0 0 0)) : EndD Tryd.prog #[ResultVar.tmp 6] args (memR P a) 1 [0] (.p (.slice (r.map encTr))) (memR P b) 0 [0] .ret (se P r b) := by
 refine ⟨fun k => k, [.p (.slice (r.map encTr))], ⟨?_, trivial⟩, rfl, rfl, ?_, ?_, ?_⟩
 ·simp only [se]
  simp -implicitDefEqProofs only [go_sem, ↓reduceIte, reduceCtorEq]
  done
 ·simp only [memR, se]
  simp -implicitDefEqProofs only [go_sem, ↓reduceIte, List.forall_mem_cons, List.not_mem_nil, false_implies, implies_true]
  first | done | decide
 ·simp [memR]
 ·exact mem_root h rfl
def ys (s : Stp) (P : List (List Stp)) (b : Int) (L : List (Nat × AV)) (H : List (Nat × Blk)) (n : Nat) : St := ⟨ofL ((0, .ptr 0 0 0) :: (4, .ptr 1 0 0) :: L), ofH ((0, .row 2 [[.p (.slice (P.map encPt)), .p (.int .i64 b)]]) :: (1, .row 3 [[.p (.int .i64 s.op), .p (.int .i64 s.tag), .p (.int .i64 s.sub)]]) :: H), n⟩
def ysA (q : List Tr) (j : Nat) : List (Nat × AV) := [(7, .own 2), (24, .p (.slice (q.map encV1))), (25, .p (.int .i64 (q.length : Int))), (26, .p (.int .i64 (j : Int)))]
theorem interp_step (P : List (List Stp)) (s : Stp) (l : List Tr) (c : Int) (h1 : 1 ≤ s.op) (h4 : s.op ≤ 4) (hsub : s.op = 3 ∨ s.op = 4 → ∃ k : Nat, s.sub = (k : Int) ∧ k < P.length) (hl1 : 1 ≤ l.length) (hl : l.length ≤ 1000)
  (hx : ∀ x ∈ l, lensT x = true ∧ rightT x = true ∧ x.kind = c) (IH : ∀ x ∈ l, PartOK P x) (a : Int) (ha : IntKind.wrap .i64 a = a) :
  DFn Tryd.prog 142 [.ptr 0 0 0, .p (.agg (encSt s)), .p (.slice (l.map encV1))] (memR P a) 1 [0] (.p (.slice ((stepF P s l).map encTr))) (memR P (IntKind.wrap .i64 (a + (lookS P s l : Nat)))) 0 := by
 refine DFn.of [0] Tryd.func142 rfl (by decide) Tryd.ntmps142 Tryd.results142 (Nat.le_of_ble_eq_true rfl) (by simp) fun val => ?_
 simp only [avT, memR]
 refine AW.rT (by rfl) fun K hK => ?_
 simp -implicitDefEqProofs only [go_sem, ↓reduceIte, Nat.reduceAdd, encSt]
 apply hK; clear hK K
 refine AW.rT (by rfl) fun K hK => ?_
 simp -implicitDefEqProofs only [go_sem, Nat.reduceAdd]
 apply hK; clear hK K
 obtain ⟨sl1, sl2, sl3⟩ := lastL_len s l
 refine AW.cut (fun _ : Unit => ys s P a [(7, .ex []), (2, .p (.slice ((lastL s l).map encV1)))] [] 2) (fun _ => True) ?_ fun _ _ => ?_
 ·by_cases o4 : s.op = 4
  ·have b4 := eqb o4
   have e : lastL s l = l.drop (l.length - 1) := by unfold lastL; rw [if_pos o4]
   have ws : IntKind.wrap .i64 ((l.length : Int) - 1) = ((l.length - 1 : Nat) : Int) := by rw [w64] <;> omega
   rw [e]
   refine AW.rT (by rfl) fun K hK => ?_
   simp -implicitDefEqProofs only [go_sem, ↓reduceIte, Nat.reduceAdd, Nat.reduceEqDiff, b4]
   apply hK; clear hK K
   refine AW.cT rfl ?_
   refine AW.rE (by rfl) fun K hK => ?_
   simp -implicitDefEqProofs only [go_sem, ↓reduceIte, Nat.reduceAdd, Nat.reduceEqDiff, reduceCtorEq, ws, List.length_map]
   refine ⟨fun y hy => by
    obtain ⟨x, _, rfl⟩ := List.mem_map.1 hy
    rfl, by simp, ⟨by omega, by omega, by omega⟩, ?_⟩
   apply hK; clear hK K
   simp only [andThen]
   refine ⟨(), trivial, ?_⟩
   try simp only [ys]
   have tk : List.take l.length (l.map encV1) = l.map encV1 := List.take_of_length_le (by simp)
   refine Ghost.sub ?_ ?_ <;> simp -implicitDefEqProofs only [go_sem, ↓reduceIte, Nat.reduceEqDiff, reduceCtorEq, List.map_drop, tk, List.forall_mem_cons, List.not_mem_nil, false_implies, implies_true, and_self, List.all_cons, List.all_nil, Nat.reduceLT, labsInL, AV.labsIn]
   done
  ·have b4 := beqf o4
   have e : lastL s l = l := by unfold lastL; rw [if_neg o4]
   rw [e]
   refine AW.rT (by rfl) fun K hK => ?_
   simp -implicitDefEqProofs only [go_sem, ↓reduceIte, Nat.reduceAdd, Nat.reduceEqDiff, b4]
   apply hK; clear hK K
   refine AW.cF rfl ?_
   refine AW.skip ?_
   simp only [andThen]
   refine ⟨(), trivial, ?_⟩
   try simp only [ys]
   refine Ghost.sub ?_ ?_ <;> simp -implicitDefEqProofs only [go_sem, ↓reduceIte, Nat.reduceEqDiff, reduceCtorEq, List.forall_mem_cons, List.not_mem_nil, false_implies, implies_true, and_self, List.all_cons, List.all_nil, Nat.reduceLT, labsInL, AV.labsIn]
   done
 have qx : ∀ x ∈ lastL s l, lensT x = true ∧ rightT x = true ∧ x.kind = c ∧ PartOK P x := fun x h => ⟨(hx x (lastL_mem h)).1, (hx x (lastL_mem h)).2.1, (hx x (lastL_mem h)).2.2, IH x (lastL_mem h)⟩
 have LY := @lookS_yes P s l
 have LN := @lookS_no P s l
 have SF : stepF P s l = if kindOK s l = false then [] else if s.op = 4 ∧ ((lastL s l).map (run1F P s)).any (fun y => y.ents.isEmpty) = true then [] else (lastL s l).map (run1F P s) := rfl
 have KO : kindOK s l = if s.op = 2 then decide (c = 1) else if s.op = 3 ∨ s.op = 4 then decide (c = 3) else true := by
  have al : ∀ k : Int, l.all (fun t => decide (t.kind = k)) = decide (c = k) := fun k => by
   by_cases hk : c = k
   ·rw [decide_eq_true hk, List.all_eq_true]
    intro x h
    rw [(hx x h).2.2, decide_eq_true hk]
   ·rw [decide_eq_false hk, List.all_eq_false]
    obtain ⟨x, hxx⟩ : ∃ x, l[0]? = some x := ⟨_, List.getElem?_eq_getElem (by omega)⟩
    refine ⟨x, List.mem_of_getElem? hxx, ?_⟩
    rw [(hx x (List.mem_of_getElem? hxx)).2.2, decide_eq_false hk]
    simp
  unfold kindOK
  rw [al, al]
 generalize kindOK s l = ko at *
 generalize lookS P s l = lks at *
 generalize stepF P s l = sf at *
 generalize lastL s l = q at *
 have q1 := sl2 hl1
 simp only [ys]
 refine AW.seq ?_
 refine AW.rT (by rfl) fun K hK => ?_
 simp -implicitDefEqProofs only [go_sem, ↓reduceIte, Nat.reduceAdd, Nat.reduceEqDiff, reduceCtorEq, List.length_map]
 apply hK; clear hK K
 refine AW.block ?_
 refine AW.loop (fun j : Nat => ys s P (IntKind.wrap .i64 (a + (((q.take j).map (lk1 P s)).sum : Nat))) (ysA q j) [(2, .row 5 (liftE (((q.map (run1F P s)).take j).map encTr)))] 3) (fun j => j ≤ q.length ∧ (1 ≤ j → sf = q.map (run1F P s) ∧ ko = true)) (fun j => q.length - j) 0 ?_ (by simp) fun j hj => ?_
 ·refine Ghost.trans (Ghost.nil (t := 7) (sz := 5) rfl) ?_
  rw [show IntKind.wrap .i64 (a + ((((q.take 0).map (lk1 P s)).sum : Nat) : Int)) = a by simpa using ha]
  simp only [ys, ysA]
  refine Ghost.ent (fun l => if l = 2 then 5 else l) ?_ ?_ ?_ <;> simp -implicitDefEqProofs only [go_sem, ↓reduceIte, Nat.reduceEqDiff, reduceCtorEq, List.take_zero, List.map_nil, liftE_nil, List.forall_mem_cons, List.not_mem_nil, false_implies, implies_true, and_self, List.all_cons, List.all_nil, Nat.reduceLT, labsInL, AV.labsIn]
  all_goals first | rfl | skip
 obtain ⟨hj1, hj2⟩ := hj
 by_cases hjl : j < q.length
 case neg =>
  have hj' : j = q.length := by omega
  subst hj'
  obtain ⟨e1, e2⟩ := hj2 q1
  rw [LY e2, e1]
  rw [List.take_length, List.take_of_length_le (by simp)]
  generalize q.map (run1F P s) = ps
  generalize IntKind.wrap .i64 (a + (((q.map (lk1 P s)).sum : Nat) : Int)) = b
  have hc1 : ((q.length : Int) < (q.length : Int)) = False := eq_false (by omega)
  simp only [ys, ysA]
  refine AW.rT (by rfl) fun K hK => ?_
  simp -implicitDefEqProofs only [go_sem, ↓reduceIte, Nat.reduceAdd, Nat.reduceEqDiff, reduceCtorEq, hc1]
  apply hK; clear hK K
  refine AW.seq ?_
  refine AW.cF rfl ?_
  refine AW.exit ?_
  simp only [andThen, inBlk, ↓reduceIte]
  refine AW.ghost (s' := ys s P b [(7, .p (.slice (ps.map encTr)))] [] 2) (Ghost.trans (Ghost.freeze (lb := 2) (ps := ps.map encTr) rfl (unlift_liftE _)) ?_) ?_
  ·simp only [ys]
   refine Ghost.sub ?_ ?_ <;> simp -implicitDefEqProofs only [go_sem, ↓reduceIte, Nat.reduceEqDiff, reduceCtorEq, thaw, thaw1, Option.map_some, List.map_cons, List.map_nil, List.forall_mem_cons, List.not_mem_nil, false_implies, implies_true, and_self, List.all_cons, List.all_nil, Nat.reduceLT, labsInL, AV.labsIn]
   done
  simp only [ys]
  refine AW.rT (by rfl) fun K hK => ?_
  simp -implicitDefEqProofs only [go_sem, ↓reduceIte, Nat.reduceAdd, Nat.reduceEqDiff, reduceCtorEq]
  apply hK; clear hK K
  refine AW.ghost (s' := se P ps b) ?_ (AW.ret (step_end rfl))
  simp only [se]
  refine Ghost.sub ?_ ?_ <;> simp -implicitDefEqProofs only [go_sem, ↓reduceIte, reduceCtorEq, List.forall_mem_cons, List.not_mem_nil, false_implies, implies_true, and_self, List.all_cons, List.all_nil, Nat.reduceLT, labsInL, AV.labsIn]
  done
 obtain ⟨x, hxj⟩ : ∃ x, q[j]? = some x := ⟨_, List.getElem?_eq_getElem hjl⟩
 obtain ⟨x1, x2, x3, x4⟩ := qx x (List.mem_of_getElem? hxj)
 have ⟨hx1, hx2, hx3⟩ := at_map' encV1 hxj
 have hc1 : ((j : Int) < (q.length : Int)) = True := eq_true (by omega)
 have VT := value_Tree x x1 x2
 have KJ := interp_kept (inV x)
 rw [encIn_inV] at KJ
 rw [encTr_eq] at VT
 have w1 : IntKind.wrap .i64 ((j : Int) + 1) = ((j + 1 : Nat) : Int) := by rw [w64] <;> omega
 have BN : IntKind.wrap .i64 (a + ((((q.take (j + 1)).map (lk1 P s)).sum : Nat) : Int)) = IntKind.wrap .i64 (IntKind.wrap .i64 (a + ((((q.take j).map (lk1 P s)).sum : Nat) : Int)) + ((lk1 P s x : Nat) : Int)) := by
  rw [wrap_nat, List.take_add_one, hxj]
  simp
 have wb : IntKind.wrap .i64 (IntKind.wrap .i64 (a + ((((q.take j).map (lk1 P s)).sum : Nat) : Int))) = IntKind.wrap .i64 (a + ((((q.take j).map (lk1 P s)).sum : Nat) : Int)) := wrap_wrap _
 generalize hb : IntKind.wrap .i64 (a + ((((q.take j).map (lk1 P s)).sum : Nat) : Int)) = b at BN wb
 simp only [ys, ysA]
 refine AW.rT (by rfl) fun K hK => ?_
 simp -implicitDefEqProofs only [go_sem, ↓reduceIte, Nat.reduceAdd, Nat.reduceEqDiff, reduceCtorEq, hc1]
 apply hK; clear hK K
 refine AW.seq ?_
 refine AW.cT rfl ?_
 refine AW.skip ?_
 simp only [andThen]
 refine AW.seq ?_
 refine AW.block ?_
 refine AW.rT (by rfl) fun K hK => ?_
 simp -implicitDefEqProofs only [go_sem, ↓reduceIte, Nat.reduceAdd, Nat.reduceEqDiff, Nat.reduceLeDiff, reduceCtorEq, hc1, hx1, hx3, encV1, List.length_map]
 refine ⟨encV_one x, ?_⟩
 apply hK; clear hK K
 have eo := encV_one x
 refine AW.rT (by rfl) fun K hK => ?_
 simp -implicitDefEqProofs only [go_sem, Nat.reduceAdd, Nat.reduceLeDiff]
 refine ⟨.pure _, VT, ?_⟩
 try simp -implicitDefEqProofs only [go_sem, ↓reduceIte, Nat.reduceAdd, Nat.reduceEqDiff, Nat.reduceLeDiff]
 apply hK; clear hK K
 generalize hQs : ((q.map (run1F P s)).take j).map encTr = Qs at *
 refine AW.ghost (s' := ys s P b (ysA q j ++ [(9, .ptr 3 0 0), (10, .ptr 4 0 0)]) [(2, .row 5 (liftE Qs)), (3, .row 1 [[.p (encV x)]]), (4, .row 5 [cellsT x])] 5) ?_ ?_
 ·simp only [ys, ysA, cellsT, List.cons_append, List.nil_append]
  refine Ghost.ent (fun l => if l = 3 then 6 else if l = 4 then 10 else l) ?_ ?_ ?_ <;> simp -implicitDefEqProofs only [go_sem, ↓reduceIte, Nat.reduceEqDiff, reduceCtorEq, List.forall_mem_cons, List.not_mem_nil, false_implies, implies_true, and_self, map_renL_lift, labsIn_lift, List.all_cons, List.all_nil, Nat.reduceLT, labsInL, AV.labsIn]
  all_goals first | rfl | skip
 refine AW.cut (fun _ : Unit => ys s P (IntKind.wrap .i64 (a + ((((q.take (j + 1)).map (lk1 P s)).sum : Nat) : Int))) (ysA q j ++ [(10, .ptr 4 0 0)]) [(2, .row 5 (liftE Qs)), (4, .row 5 [cellsT (run1F P s x)])] 5) (fun _ => sf = q.map (run1F P s) ∧ ko = true) ?_ fun _ hfin => ?_
 ·rw [BN]
  simp only [ys, ysA, cellsT, List.cons_append, List.nil_append]
  by_cases o1 : s.op = 1
  ·have e2 := beqf (show s.op ≠ 2 by omega)
   have e3 := beqf (show s.op ≠ 3 by omega)
   have e4 := beqf (show s.op ≠ 4 by omega)
   have LK : lk1 P s x = 0 := by unfold lk1; rw [if_neg (by omega)]
   have R1 : run1F P s x = x := by unfold run1F; rw [if_neg (by omega), if_neg (by omega)]
   have KT : ko = true := by rw [KO, if_neg (by omega), if_neg (by omega)]
   rw [LK, R1, show IntKind.wrap .i64 (b + ((0 : Nat) : Int)) = b by simpa using wb]
   generalize keptJ (inV x) = r at KJ
   refine AW.rT (by rfl) fun K hK => ?_
   simp -implicitDefEqProofs only [go_sem, ↓reduceIte, Nat.reduceAdd, Nat.reduceEqDiff, Nat.reduceLeDiff, reduceCtorEq]
   refine ⟨.pure _, KJ, ?_⟩
   try simp -implicitDefEqProofs only [go_sem, Nat.reduceAdd]
   apply hK; clear hK K
   refine AW.rT (by rfl) fun K hK => ?_
   simp -implicitDefEqProofs only [go_sem, ↓reduceIte, Nat.reduceAdd, Nat.reduceEqDiff, reduceCtorEq]
   apply hK; clear hK K
   refine AW.block ?_
   refine AW.rT (by rfl) fun K hK => ?_
   simp -implicitDefEqProofs only [go_sem, ↓reduceIte, Nat.reduceAdd, e2]
   apply hK; clear hK K
   refine AW.cF rfl ?_
   refine AW.seq ?_
   refine AW.rT (by rfl) fun K hK => ?_
   simp -implicitDefEqProofs only [go_sem, ↓reduceIte, Nat.reduceAdd, Nat.reduceEqDiff, e3]
   apply hK; clear hK K
   refine AW.cF rfl ?_
   refine AW.rE (by rfl) fun K hK => ?_
   simp -implicitDefEqProofs only [go_sem, ↓reduceIte, Nat.reduceAdd, Nat.reduceEqDiff, e4]
   apply hK; clear hK K
   simp only [andThen]
   refine AW.cF rfl ?_
   refine AW.skip ?_
   simp only [andThen, inBlk]
   refine ⟨(), ⟨by rw [SF, KT, if_neg (by simp), if_neg (by omega)], KT⟩, ?_⟩
   refine Ghost.sub ?_ ?_ <;> simp -implicitDefEqProofs only [go_sem, ↓reduceIte, Nat.reduceEqDiff, reduceCtorEq, List.forall_mem_cons, List.not_mem_nil, false_implies, implies_true, and_self, labsIn_lift, List.all_cons, List.all_nil, Nat.reduceLT, labsInL, AV.labsIn]
   done
  have kinds : x.kind = 1 ∨ x.kind = 2 ∨ x.kind = 3 := by
   rcases right_kinds x2 with ⟨k, _⟩ | ⟨k, _⟩ | ⟨k, _⟩ <;> omega
  have KJ2 : x.kind = 2 → keptJ (inV x) = .cst .nilIface := fun k => by unfold inV; rw [if_neg (by omega), if_pos k]; rfl
  have KJ1 : x.kind = 1 → keptJ (inV x) = .iface 3 (.int .i64 x.n) := fun k => by unfold inV; rw [if_pos k]; rfl
  have KJ3 : x.kind = 3 → keptJ (inV x) = .iface 179 (.box (ndV x) 0) := fun k => by unfold inV; rw [if_neg (by omega), if_neg (by omega)]; rfl
  by_cases o2 : s.op = 2
  ·have e2 := eqb o2
   have LK : lk1 P s x = 0 := by unfold lk1; rw [if_neg (by omega)]
   rw [LK, show IntKind.wrap .i64 (b + ((0 : Nat) : Int)) = b by simpa using wb]
   by_cases k1 : x.kind = 1
   ·have R1 : run1F P s x = clampT x := by unfold run1F; rw [if_pos o2]
    have KT : ko = true := by rw [KO, if_pos o2, decide_eq_true (by omega)]
    rw [KJ1 k1] at KJ
    have CC := project_Clamp x.n
    rw [R1]
    refine AW.rT (by rfl) fun K hK => ?_
    simp -implicitDefEqProofs only [go_sem, ↓reduceIte, Nat.reduceAdd, Nat.reduceEqDiff, Nat.reduceLeDiff, reduceCtorEq]
    refine ⟨.pure _, KJ, ?_⟩
    try simp -implicitDefEqProofs only [go_sem, Nat.reduceAdd]
    apply hK; clear hK K
    refine AW.rT (by rfl) fun K hK => ?_
    simp -implicitDefEqProofs only [go_sem, ↓reduceIte, Nat.reduceAdd, Nat.reduceEqDiff, reduceCtorEq]
    apply hK; clear hK K
    refine AW.block ?_
    refine AW.rT (by rfl) fun K hK => ?_
    simp -implicitDefEqProofs only [go_sem, ↓reduceIte, Nat.reduceAdd, e2]
    apply hK; clear hK K
    refine AW.cT rfl ?_
    refine AW.rT (by rfl) fun K hK => ?_
    simp -implicitDefEqProofs only [go_sem, ↓reduceIte, Nat.reduceAdd, Nat.reduceEqDiff]
    apply hK; clear hK K
    refine AW.seq ?_
    refine AW.rT (by rfl) fun K hK => ?_
    simp -implicitDefEqProofs only [go_sem, Nat.reduceAdd]
    apply hK; clear hK K
    refine AW.cF rfl ?_
    refine AW.skip ?_
    simp only [andThen]
    refine AW.rE (by rfl) fun K hK => ?_
    simp -implicitDefEqProofs only [go_sem, ↓reduceIte, Nat.reduceAdd, Nat.reduceEqDiff]
    refine ⟨.pure _, CC, ?_⟩
    try simp -implicitDefEqProofs only [go_sem, ↓reduceIte, Nat.reduceAdd, Nat.reduceEqDiff, Nat.reduceLeDiff, reduceCtorEq]
    apply hK; clear hK K
    simp only [andThen, inBlk]
    refine ⟨(), ⟨by rw [SF, KT, if_neg (by simp), if_neg (by omega)], KT⟩, ?_⟩
    simp only [clampT, Tr.kind, Tr.n, Tr.s, Tr.ents, Tr.rest]
    refine Ghost.sub ?_ ?_ <;> simp -implicitDefEqProofs only [go_sem, ↓reduceIte, Nat.reduceEqDiff, reduceCtorEq, List.forall_mem_cons, List.not_mem_nil, false_implies, implies_true, and_self, labsIn_lift, List.all_cons, List.all_nil, Nat.reduceLT, labsInL, AV.labsIn]
    done
   ·have KT : ko = false := by rw [KO, if_pos o2, decide_eq_false (by omega)]
    have S0 : sf = [] := by rw [SF, if_pos KT]
    have j0 : j = 0 := by
     rcases Nat.eq_zero_or_pos j with h | h
     ·exact h
     ·have := (hj2 h).2
      rw [KT] at this
      cases this
    have BA : b = IntKind.wrap .i64 (a + (lks : Int)) := by
     rw [LN KT, ← hb, j0]
     simp
    rw [S0, ← BA]
    rcases (show x.kind = 2 ∨ x.kind = 3 by omega) with k | k
    ·rw [KJ2 k] at KJ
     refine AW.rT (by rfl) fun K hK => ?_
     simp -implicitDefEqProofs only [go_sem, ↓reduceIte, Nat.reduceAdd, Nat.reduceEqDiff, Nat.reduceLeDiff, reduceCtorEq]
     refine ⟨.pure _, KJ, ?_⟩
     try simp -implicitDefEqProofs only [go_sem, Nat.reduceAdd]
     apply hK; clear hK K
     refine AW.rT (by rfl) fun K hK => ?_
     simp -implicitDefEqProofs only [go_sem, ↓reduceIte, Nat.reduceAdd, Nat.reduceEqDiff, reduceCtorEq]
     apply hK; clear hK K
     refine AW.block ?_
     refine AW.rT (by rfl) fun K hK => ?_
     simp -implicitDefEqProofs only [go_sem, ↓reduceIte, Nat.reduceAdd, e2]
     apply hK; clear hK K
     refine AW.cT rfl ?_
     refine AW.rT (by rfl) fun K hK => ?_
     simp -implicitDefEqProofs only [go_sem, ↓reduceIte, Nat.reduceAdd, Nat.reduceEqDiff]
     apply hK; clear hK K
     refine AW.seq ?_
     refine AW.rT (by rfl) fun K hK => ?_
     simp -implicitDefEqProofs only [go_sem, Nat.reduceAdd]
     apply hK; clear hK K
     refine AW.cT rfl ?_
     refine AW.rT (by rfl) fun K hK => ?_
     simp -implicitDefEqProofs only [go_sem, Nat.reduceAdd]
     apply hK; clear hK K
     refine AW.ghost (s' := se P [] b) (Ghost.trans (Ghost.exP (t := 6) (es := []) rfl) ?_) (AW.ret (step_end rfl))
     simp only [se, List.map_nil]
     refine Ghost.sub ?_ ?_ <;> simp -implicitDefEqProofs only [go_sem, ↓reduceIte, reduceCtorEq, List.forall_mem_cons, List.not_mem_nil, false_implies, implies_true, and_self, List.all_cons, List.all_nil, Nat.reduceLT, labsInL, AV.labsIn]
     done
    ·rw [KJ3 k] at KJ
     refine AW.rT (by rfl) fun K hK => ?_
     simp -implicitDefEqProofs only [go_sem, ↓reduceIte, Nat.reduceAdd, Nat.reduceEqDiff, Nat.reduceLeDiff, reduceCtorEq]
     refine ⟨.pure _, KJ, ?_⟩
     try simp -implicitDefEqProofs only [go_sem, Nat.reduceAdd]
     apply hK; clear hK K
     refine AW.rT (by rfl) fun K hK => ?_
     simp -implicitDefEqProofs only [go_sem, ↓reduceIte, Nat.reduceAdd, Nat.reduceEqDiff, reduceCtorEq]
     apply hK; clear hK K
     refine AW.block ?_
     refine AW.rT (by rfl) fun K hK => ?_
     simp -implicitDefEqProofs only [go_sem, ↓reduceIte, Nat.reduceAdd, e2]
     apply hK; clear hK K
     refine AW.cT rfl ?_
     refine AW.rT (by rfl) fun K hK => ?_
     simp -implicitDefEqProofs only [go_sem, ↓reduceIte, Nat.reduceAdd, Nat.reduceEqDiff]
     apply hK; clear hK K
     refine AW.seq ?_
     refine AW.rT (by rfl) fun K hK => ?_
     simp -implicitDefEqProofs only [go_sem, Nat.reduceAdd]
     apply hK; clear hK K
     refine AW.cT rfl ?_
     refine AW.rT (by rfl) fun K hK => ?_
     simp -implicitDefEqProofs only [go_sem, Nat.reduceAdd]
     apply hK; clear hK K
     refine AW.ghost (s' := se P [] b) (Ghost.trans (Ghost.exP (t := 6) (es := []) rfl) ?_) (AW.ret (step_end rfl))
     simp only [se, List.map_nil]
     refine Ghost.sub ?_ ?_ <;> simp -implicitDefEqProofs only [go_sem, ↓reduceIte, reduceCtorEq, List.forall_mem_cons, List.not_mem_nil, false_implies, implies_true, and_self, List.all_cons, List.all_nil, Nat.reduceLT, labsInL, AV.labsIn]
     done
  have e2 := beqf o2
  have o34 : s.op = 3 ∨ s.op = 4 := by omega
  obtain ⟨k, hsk, hkl⟩ := hsub o34
  have LK : lk1 P s x = lookF P x (k : Int) := by unfold lk1; rw [if_pos o34, hsk]
  have R1 : run1F P s x = runF P x (k : Int) := by unfold run1F; rw [if_neg o2, if_pos o34, hsk]
  by_cases k3 : x.kind = 3
  ·have KT : ko = true := by rw [KO, if_neg o2, if_pos o34, decide_eq_true (by omega)]
   rw [KJ3 k3] at KJ
   have PT := x4 k b hkl wb
   rw [LK, R1]
   rw [LK] at BN
   generalize hz : runF P x (k : Int) = z at PT R1
   generalize lookF P x (k : Int) = n at PT BN LK
   rw [encTr_eq, ← hsk] at PT
   refine AW.rT (by rfl) fun K hK => ?_
   simp -implicitDefEqProofs only [go_sem, ↓reduceIte, Nat.reduceAdd, Nat.reduceEqDiff, Nat.reduceLeDiff, reduceCtorEq]
   refine ⟨.pure _, KJ, ?_⟩
   try simp -implicitDefEqProofs only [go_sem, Nat.reduceAdd]
   apply hK; clear hK K
   refine AW.rT (by rfl) fun K hK => ?_
   simp -implicitDefEqProofs only [go_sem, ↓reduceIte, Nat.reduceAdd, Nat.reduceEqDiff, reduceCtorEq]
   apply hK; clear hK K
   refine AW.block ?_
   refine AW.rT (by rfl) fun K hK => ?_
   simp -implicitDefEqProofs only [go_sem, ↓reduceIte, Nat.reduceAdd, e2]
   apply hK; clear hK K
   refine AW.cF rfl ?_
   refine AW.cut (fun _ : Unit => ys s P b (ysA q j ++ [(10, .ptr 4 0 0), (11, .p (.iface 179 (.box (ndV x) 0))), (48, .p (.bool true))]) [(2, .row 5 (liftE Qs)), (4, .row 5 [cellsT x])] 5) (fun _ => True) ?_ fun _ _ => ?_
   ·by_cases o3 : s.op = 3
    ·have e3 := eqb o3
     refine AW.rT (by rfl) fun K hK => ?_
     simp -implicitDefEqProofs only [go_sem, ↓reduceIte, Nat.reduceAdd, Nat.reduceEqDiff, e3]
     apply hK; clear hK K
     refine AW.cT rfl ?_
     refine AW.skip ?_
     simp only [andThen]
     refine ⟨(), trivial, ?_⟩
     simp only [ys, ysA, cellsT, List.cons_append, List.nil_append]
     refine Ghost.sub ?_ ?_ <;> simp -implicitDefEqProofs only [go_sem, ↓reduceIte, Nat.reduceEqDiff, reduceCtorEq, List.forall_mem_cons, List.not_mem_nil, false_implies, implies_true, and_self, labsIn_lift, List.all_cons, List.all_nil, Nat.reduceLT, labsInL, AV.labsIn]
     done
    ·have e3 := beqf o3
     have e4 := eqb (show s.op = 4 by omega)
     refine AW.rT (by rfl) fun K hK => ?_
     simp -implicitDefEqProofs only [go_sem, ↓reduceIte, Nat.reduceAdd, Nat.reduceEqDiff, e3]
     apply hK; clear hK K
     refine AW.cF rfl ?_
     refine AW.rE (by rfl) fun K hK => ?_
     simp -implicitDefEqProofs only [go_sem, ↓reduceIte, Nat.reduceAdd, Nat.reduceEqDiff, e4]
     apply hK; clear hK K
     simp only [andThen]
     refine ⟨(), trivial, ?_⟩
     simp only [ys, ysA, cellsT, List.cons_append, List.nil_append]
     refine Ghost.sub ?_ ?_ <;> simp -implicitDefEqProofs only [go_sem, ↓reduceIte, Nat.reduceEqDiff, reduceCtorEq, List.forall_mem_cons, List.not_mem_nil, false_implies, implies_true, and_self, labsIn_lift, List.all_cons, List.all_nil, Nat.reduceLT, labsInL, AV.labsIn]
     done
   simp only [ys, ysA, cellsT, List.cons_append, List.nil_append]
   refine AW.cT rfl ?_
   refine AW.rT (by rfl) fun K hK => ?_
   simp -implicitDefEqProofs only [go_sem, ↓reduceIte, Nat.reduceAdd, Nat.reduceEqDiff, reduceCtorEq]
   apply hK; clear hK K
   refine AW.seq ?_
   refine AW.rT (by rfl) fun K hK => ?_
   simp -implicitDefEqProofs only [go_sem, Nat.reduceAdd]
   apply hK; clear hK K
   refine AW.cF rfl ?_
   refine AW.skip ?_
   simp only [andThen]
   refine AW.rR (SeqR.ev 4 (by rfl) (by decide) ?_)
   simp -implicitDefEqProofs only [go_sem, ↓reduceIte, Nat.reduceAdd, Nat.reduceEqDiff, reduceCtorEq]
   refine SeqR.call (fun k => k) rfl rfl PT ⟨?_, rfl, ?_, rfl, rfl, rfl, rfl, rfl, rfl⟩ ?_
   ·simp -implicitDefEqProofs only [go_sem, ↓reduceIte, Nat.reduceEqDiff, argD]
   ·simp only [memR]
    simp -implicitDefEqProofs only [go_sem, ↓reduceIte, List.forall_mem_cons, List.not_mem_nil, false_implies, implies_true]
    first | done | decide
   simp only [memR, AV.ren]
   refine SeqR.ev 1 (by rfl) (by decide) ?_
   simp -implicitDefEqProofs only [go_sem, ↓reduceIte, Nat.reduceAdd, Nat.reduceEqDiff, Nat.reduceLeDiff, reduceCtorEq, lift2, goneU, newU, List.map_cons, List.map_nil, putH, Nat.reduceLT]
   refine SeqR.last rfl ?_
   refine AW.ghost (s' := ys s P (IntKind.wrap .i64 (b + (n : Int))) (ysA q j ++ [(10, .ptr 4 0 0)]) [(2, .row 5 (liftE Qs)), (4, .row 5 [cellsT z])] 5) ?_ ?_
   ·simp only [ys, ysA, cellsT, List.cons_append, List.nil_append]
    refine Ghost.sub ?_ ?_ <;> simp -implicitDefEqProofs only [go_sem, ↓reduceIte, Nat.reduceEqDiff, reduceCtorEq, List.forall_mem_cons, List.not_mem_nil, false_implies, implies_true, and_self, labsIn_lift, List.all_cons, List.all_nil, Nat.reduceLT, labsInL, AV.labsIn]
    done
   simp only [ys, ysA, cellsT, List.cons_append, List.nil_append]
   by_cases o4 : s.op = 4
   ·have e4 := eqb o4
    have ql := sl3 o4
    have j0 : j = 0 := by omega
    have qq : q = [x] := by
     have : q.length = 1 := by omega
     match q, this, hxj with
     | [y], _, hxj =>
      rw [j0] at hxj
      injection hxj with h
      rw [h]
    have AN : ((q.map (run1F P s)).any fun y => y.ents.isEmpty) = z.ents.isEmpty := by
     rw [qq, List.map_cons, List.map_nil, R1]
     simp
    have zl : ((z.ents.length : Int) == 0) = z.ents.isEmpty := by
     cases z.ents with
     | nil => rfl
     | cons y l => simp; omega
    rw [AN] at SF
    cases hem : z.ents.isEmpty with
    | true =>
     have S0 : sf = [] := by rw [SF, KT, if_neg (by simp), if_pos ⟨o4, hem⟩]
     have BA : IntKind.wrap .i64 (b + (n : Int)) = IntKind.wrap .i64 (a + (lks : Int)) := by
      rw [LY KT, ← BN, j0]
      rw [qq]
      rfl
     rw [S0, ← BA]
     rw [hem] at zl
     refine AW.rT (by rfl) fun K hK => ?_
     simp -implicitDefEqProofs only [go_sem, ↓reduceIte, Nat.reduceAdd, Nat.reduceEqDiff, reduceCtorEq, e4, List.length_map, zl]
     apply hK; clear hK K
     refine AW.cT rfl ?_
     refine AW.rT (by rfl) fun K hK => ?_
     simp -implicitDefEqProofs only [go_sem, Nat.reduceAdd]
     apply hK; clear hK K
     refine AW.ghost (s' := se P [] (IntKind.wrap .i64 (b + (n : Int)))) (Ghost.trans (Ghost.exP (t := 6) (es := []) rfl) ?_) (AW.ret (step_end rfl))
     simp only [se, List.map_nil]
     refine Ghost.sub ?_ ?_ <;> simp -implicitDefEqProofs only [go_sem, ↓reduceIte, reduceCtorEq, List.forall_mem_cons, List.not_mem_nil, false_implies, implies_true, and_self, List.all_cons, List.all_nil, Nat.reduceLT, labsInL, AV.labsIn]
     done
    | false =>
     rw [hem] at zl
     refine AW.rT (by rfl) fun K hK => ?_
     simp -implicitDefEqProofs only [go_sem, ↓reduceIte, Nat.reduceAdd, Nat.reduceEqDiff, reduceCtorEq, e4, List.length_map, zl]
     apply hK; clear hK K
     refine AW.cF rfl ?_
     refine AW.skip ?_
     simp only [andThen, inBlk]
     refine ⟨(), ⟨by rw [SF, KT, if_neg (by simp), if_neg (by simp [hem])], KT⟩, ?_⟩
     show Ghost _ _ (ys s P (IntKind.wrap .i64 (b + (n : Int))) (ysA q j ++ [(10, .ptr 4 0 0)]) [(2, .row 5 (liftE Qs)), (4, .row 5 [cellsT z])] 5)
     simp only [ys, ysA, cellsT, List.cons_append, List.nil_append]
     refine Ghost.sub ?_ ?_ <;> simp -implicitDefEqProofs only [go_sem, ↓reduceIte, Nat.reduceEqDiff, reduceCtorEq, List.forall_mem_cons, List.not_mem_nil, false_implies, implies_true, and_self, labsIn_lift, List.all_cons, List.all_nil, Nat.reduceLT, labsInL, AV.labsIn]
     done
   ·have e4 := beqf o4
    refine AW.rT (by rfl) fun K hK => ?_
    simp -implicitDefEqProofs only [go_sem, ↓reduceIte, Nat.reduceAdd, Nat.reduceEqDiff, reduceCtorEq, e4]
    apply hK; clear hK K
    refine AW.cF rfl ?_
    refine AW.skip ?_
    simp only [andThen, inBlk]
    refine ⟨(), ⟨by rw [SF, KT, if_neg (by simp), if_neg (by simp [o4])], KT⟩, ?_⟩
    show Ghost _ _ (ys s P (IntKind.wrap .i64 (b + (n : Int))) (ysA q j ++ [(10, .ptr 4 0 0)]) [(2, .row 5 (liftE Qs)), (4, .row 5 [cellsT z])] 5)
    simp only [ys, ysA, cellsT, List.cons_append, List.nil_append]
    refine Ghost.sub ?_ ?_ <;> simp -implicitDefEqProofs only [go_sem, ↓reduceIte, Nat.reduceEqDiff, reduceCtorEq, List.forall_mem_cons, List.not_mem_nil, false_implies, implies_true, and_self, labsIn_lift, List.all_cons, List.all_nil, Nat.reduceLT, labsInL, AV.labsIn]
    done
  ·have KT : ko = false := by rw [KO, if_neg o2, if_pos o34, decide_eq_false (by omega)]
   have S0 : sf = [] := by rw [SF, if_pos KT]
   have j0 : j = 0 := by
    rcases Nat.eq_zero_or_pos j with h | h
    ·exact h
    ·have := (hj2 h).2
     rw [KT] at this
     cases this
   have BA : b = IntKind.wrap .i64 (a + (lks : Int)) := by
    rw [LN KT, ← hb, j0]
    simp
   rw [S0, ← BA]
   rcases (show x.kind = 1 ∨ x.kind = 2 by omega) with k' | k'
   ·rw [KJ1 k'] at KJ
    refine AW.rT (by rfl) fun K hK => ?_
    simp -implicitDefEqProofs only [go_sem, ↓reduceIte, Nat.reduceAdd, Nat.reduceEqDiff, Nat.reduceLeDiff, reduceCtorEq]
    refine ⟨.pure _, KJ, ?_⟩
    try simp -implicitDefEqProofs only [go_sem, Nat.reduceAdd]
    apply hK; clear hK K
    refine AW.rT (by rfl) fun K hK => ?_
    simp -implicitDefEqProofs only [go_sem, ↓reduceIte, Nat.reduceAdd, Nat.reduceEqDiff, reduceCtorEq]
    apply hK; clear hK K
    refine AW.block ?_
    refine AW.rT (by rfl) fun K hK => ?_
    simp -implicitDefEqProofs only [go_sem, ↓reduceIte, Nat.reduceAdd, e2]
    apply hK; clear hK K
    refine AW.cF rfl ?_
    refine AW.cut (fun _ : Unit => ys s P b (ysA q j ++ [(11, .p (.iface 3 (.int .i64 x.n))), (48, .p (.bool true))]) [] 5) (fun _ => True) ?_ fun _ _ => ?_
    ·by_cases o3 : s.op = 3
     ·have e3 := eqb o3
      refine AW.rT (by rfl) fun K hK => ?_
      simp -implicitDefEqProofs only [go_sem, ↓reduceIte, Nat.reduceAdd, Nat.reduceEqDiff, e3]
      apply hK; clear hK K
      refine AW.cT rfl ?_
      refine AW.skip ?_
      simp only [andThen]
      refine ⟨(), trivial, ?_⟩
      simp only [ys, ysA, List.cons_append, List.nil_append]
      refine Ghost.sub ?_ ?_ <;> simp -implicitDefEqProofs only [go_sem, ↓reduceIte, Nat.reduceEqDiff, reduceCtorEq, List.forall_mem_cons, List.not_mem_nil, false_implies, implies_true, and_self, List.all_cons, List.all_nil, Nat.reduceLT, labsInL, AV.labsIn]
      done
     ·have e3 := beqf o3
      have e4 := eqb (show s.op = 4 by omega)
      refine AW.rT (by rfl) fun K hK => ?_
      simp -implicitDefEqProofs only [go_sem, ↓reduceIte, Nat.reduceAdd, Nat.reduceEqDiff, e3]
      apply hK; clear hK K
      refine AW.cF rfl ?_
      refine AW.rE (by rfl) fun K hK => ?_
      simp -implicitDefEqProofs only [go_sem, ↓reduceIte, Nat.reduceAdd, Nat.reduceEqDiff, e4]
      apply hK; clear hK K
      simp only [andThen]
      refine ⟨(), trivial, ?_⟩
      simp only [ys, ysA, List.cons_append, List.nil_append]
      refine Ghost.sub ?_ ?_ <;> simp -implicitDefEqProofs only [go_sem, ↓reduceIte, Nat.reduceEqDiff, reduceCtorEq, List.forall_mem_cons, List.not_mem_nil, false_implies, implies_true, and_self, List.all_cons, List.all_nil, Nat.reduceLT, labsInL, AV.labsIn]
      done
    simp only [ys, ysA, List.cons_append, List.nil_append]
    refine AW.cT rfl ?_
    refine AW.rT (by rfl) fun K hK => ?_
    simp -implicitDefEqProofs only [go_sem, ↓reduceIte, Nat.reduceAdd, Nat.reduceEqDiff, reduceCtorEq]
    apply hK; clear hK K
    refine AW.seq ?_
    refine AW.rT (by rfl) fun K hK => ?_
    simp -implicitDefEqProofs only [go_sem, Nat.reduceAdd]
    apply hK; clear hK K
    refine AW.cT rfl ?_
    refine AW.rT (by rfl) fun K hK => ?_
    simp -implicitDefEqProofs only [go_sem, Nat.reduceAdd]
    apply hK; clear hK K
    refine AW.ghost (s' := se P [] b) (Ghost.trans (Ghost.exP (t := 6) (es := []) rfl) ?_) (AW.ret (step_end rfl))
    simp only [se, List.map_nil]
    refine Ghost.sub ?_ ?_ <;> simp -implicitDefEqProofs only [go_sem, ↓reduceIte, reduceCtorEq, List.forall_mem_cons, List.not_mem_nil, false_implies, implies_true, and_self, List.all_cons, List.all_nil, Nat.reduceLT, labsInL, AV.labsIn]
    done
   ·rw [KJ2 k'] at KJ
    refine AW.rT (by rfl) fun K hK => ?_
    simp -implicitDefEqProofs only [go_sem, ↓reduceIte, Nat.reduceAdd, Nat.reduceEqDiff, Nat.reduceLeDiff, reduceCtorEq]
    refine ⟨.pure _, KJ, ?_⟩
    try simp -implicitDefEqProofs only [go_sem, Nat.reduceAdd]
    apply hK; clear hK K
    refine AW.rT (by rfl) fun K hK => ?_
    simp -implicitDefEqProofs only [go_sem, ↓reduceIte, Nat.reduceAdd, Nat.reduceEqDiff, reduceCtorEq]
    apply hK; clear hK K
    refine AW.block ?_
    refine AW.rT (by rfl) fun K hK => ?_
    simp -implicitDefEqProofs only [go_sem, ↓reduceIte, Nat.reduceAdd, e2]
    apply hK; clear hK K
    refine AW.cF rfl ?_
    refine AW.cut (fun _ : Unit => ys s P b (ysA q j ++ [(11, .p (.cst .nilIface)), (48, .p (.bool true))]) [] 5) (fun _ => True) ?_ fun _ _ => ?_
    ·by_cases o3 : s.op = 3
     ·have e3 := eqb o3
      refine AW.rT (by rfl) fun K hK => ?_
      simp -implicitDefEqProofs only [go_sem, ↓reduceIte, Nat.reduceAdd, Nat.reduceEqDiff, e3]
      apply hK; clear hK K
      refine AW.cT rfl ?_
      refine AW.skip ?_
      simp only [andThen]
      refine ⟨(), trivial, ?_⟩
      simp only [ys, ysA, List.cons_append, List.nil_append]
      refine Ghost.sub ?_ ?_ <;> simp -implicitDefEqProofs only [go_sem, ↓reduceIte, Nat.reduceEqDiff, reduceCtorEq, List.forall_mem_cons, List.not_mem_nil, false_implies, implies_true, and_self, List.all_cons, List.all_nil, Nat.reduceLT, labsInL, AV.labsIn]
      done
     ·have e3 := beqf o3
      have e4 := eqb (show s.op = 4 by omega)
      refine AW.rT (by rfl) fun K hK => ?_
      simp -implicitDefEqProofs only [go_sem, ↓reduceIte, Nat.reduceAdd, Nat.reduceEqDiff, e3]
      apply hK; clear hK K
      refine AW.cF rfl ?_
      refine AW.rE (by rfl) fun K hK => ?_
      simp -implicitDefEqProofs only [go_sem, ↓reduceIte, Nat.reduceAdd, Nat.reduceEqDiff, e4]
      apply hK; clear hK K
      simp only [andThen]
      refine ⟨(), trivial, ?_⟩
      simp only [ys, ysA, List.cons_append, List.nil_append]
      refine Ghost.sub ?_ ?_ <;> simp -implicitDefEqProofs only [go_sem, ↓reduceIte, Nat.reduceEqDiff, reduceCtorEq, List.forall_mem_cons, List.not_mem_nil, false_implies, implies_true, and_self, List.all_cons, List.all_nil, Nat.reduceLT, labsInL, AV.labsIn]
      done
    simp only [ys, ysA, List.cons_append, List.nil_append]
    refine AW.cT rfl ?_
    refine AW.rT (by rfl) fun K hK => ?_
    simp -implicitDefEqProofs only [go_sem, ↓reduceIte, Nat.reduceAdd, Nat.reduceEqDiff, reduceCtorEq]
    apply hK; clear hK K
    refine AW.seq ?_
    refine AW.rT (by rfl) fun K hK => ?_
    simp -implicitDefEqProofs only [go_sem, Nat.reduceAdd]
    apply hK; clear hK K
    refine AW.cT rfl ?_
    refine AW.rT (by rfl) fun K hK => ?_
    simp -implicitDefEqProofs only [go_sem, Nat.reduceAdd]
    apply hK; clear hK K
    refine AW.ghost (s' := se P [] b) (Ghost.trans (Ghost.exP (t := 6) (es := []) rfl) ?_) (AW.ret (step_end rfl))
    simp only [se, List.map_nil]
    refine Ghost.sub ?_ ?_ <;> simp -implicitDefEqProofs only [go_sem, ↓reduceIte, reduceCtorEq, List.forall_mem_cons, List.not_mem_nil, false_implies, implies_true, and_self, List.all_cons, List.all_nil, Nat.reduceLT, labsInL, AV.labsIn]
    done
 obtain ⟨hf1, hf2⟩ := hfin
 have e7 : liftE Qs ++ [cellsT (run1F P s x)] = liftE (((q.map (run1F P s)).take (j + 1)).map encTr) := by
  rw [List.take_add_one, map_at hxj, ← hQs]
  simp [liftE, encTr_eq, cellsT]
 have rlen : (liftE Qs).length ≤ j := by rw [liftE_length, ← hQs, List.length_map, List.length_take]; omega
 generalize run1F P s x = z at e7
 generalize hb' : IntKind.wrap .i64 (a + ((((q.take (j + 1)).map (lk1 P s)).sum : Nat) : Int)) = b' at *
 simp only [cellsT] at e7
 simp only [ys, ysA, cellsT, List.cons_append, List.nil_append]
 refine AW.rE (by rfl) fun K hK => ?_
 simp -implicitDefEqProofs only [go_sem, ↓reduceIte, Nat.reduceAdd, Nat.reduceMul, Nat.reduceEqDiff, Nat.reduceLeDiff, reduceCtorEq]
 refine ⟨⟨by simp, by simp [oneAll, AV.one, PV.one], by simp⟩, by omega, ?_⟩
 try simp -implicitDefEqProofs only [go_sem, ↓reduceIte, Nat.reduceAdd, Nat.reduceMul, Nat.reduceEqDiff, Nat.reduceLeDiff, reduceCtorEq, Int.reduceToNat]
 apply hK; clear hK K
 simp only [andThen, inBlk]
 refine AW.rE (by rfl) fun K hK => ?_
 simp -implicitDefEqProofs only [go_sem, ↓reduceIte, Nat.reduceAdd, Nat.reduceEqDiff, reduceCtorEq, w1]
 apply hK; clear hK K
 refine ⟨j + 1, ⟨by omega, fun _ => ⟨hf1, hf2⟩⟩, by omega, ?_⟩
 show Ghost _ _ (ys s P (IntKind.wrap .i64 (a + ((((q.take (j + 1)).map (lk1 P s)).sum : Nat) : Int))) (ysA q (j + 1)) [(2, .row 5 (liftE (((q.map (run1F P s)).take (j + 1)).map encTr)))] 3)
 rw [hb', ← e7]
 simp only [ys, ysA]
 refine Ghost.ent (fun l => if l = 2 then 8 else l) ?_ ?_ ?_ <;> simp -implicitDefEqProofs only [go_sem, ↓reduceIte, Nat.reduceEqDiff, reduceCtorEq, List.forall_mem_cons, List.not_mem_nil, false_implies, implies_true, and_self, map_renL_lift, labsIn_lift, List.all_append, List.all_cons, List.all_nil, List.map_append, Nat.reduceLT, labsInL, AV.labsIn]
 all_goals first | rfl | skip
end Go.Aw.T
namespace Go.Aw.T
open Go.Proofs Go.RowKit
theorem lookS_nil (P : List (List Stp)) (s : Stp) : lookS P s [] = 0 := by
 unfold lookS lastL
 split
 ·split <;> rfl
 ·rfl
theorem stepF_none (P : List (List Stp)) (s : Stp) : stepF P s [] = [] := by
 have h1 : kindOK s [] = true := by
  unfold kindOK
  split
  ·rfl
  ·split <;> rfl
 have h2 : lastL s ([] : List Tr) = [] := by
  unfold lastL
  split <;> rfl
 unfold stepF
 rw [h1, h2, if_neg (by simp), if_neg (by simp)]
 rfl
theorem rightTs_kind : ∀ {l : List Tr} {c : Int}, rightTs l c = true → ∀ x ∈ l, x.kind = c ∧ rightT x = true
 | [], c, _, x, hx => by cases hx
 | y :: l, c, h, x, hx => by
  rw [rightTs] at h
  split at h
  ·cases h
  rename_i h1
  split at h
  ·rename_i h2
   rcases List.mem_cons.1 hx with rfl | hx
   ·exact ⟨by simpa using h1, h2⟩
   ·exact rightTs_kind h x hx
  ·cases h
theorem rightE_in : ∀ {es : List (Int × List Tr)} {last : Int}, rightE es last = true → ∀ e ∈ es, 1 ≤ e.2.length ∧ e.2.length ≤ 64 ∧ ∀ x ∈ e.2, x.kind = headK e.2 ∧ rightT x = true
 | [], _, _, e, he => by cases he
 | (g, l) :: es, last, h, e, he => by
  rw [rightE] at h
  split at h
  ·cases h
  rename_i h1
  split at h
  ·rename_i h2
   rcases List.mem_cons.1 he with rfl | he
   ·exact ⟨by simp only; omega, by simp only; omega, rightTs_kind h2⟩
   ·exact rightE_in h e he
  ·cases h
theorem getE_G (es : List (Int × List Tr)) (g : Int) : getE es g = getG es g := by
 unfold getE getG
 cases es.find? (fun e => e.1 == g) <;> rfl
theorem prog_step {P : List (List Stp)} (h : progB P = true) {x : List Stp} (hx : x ∈ P) {s : Stp} (hs : s ∈ x) : 1 ≤ s.op ∧ s.op ≤ 4 ∧ (s.op = 3 ∨ s.op = 4 → ∃ k : Nat, s.sub = (k : Int) ∧ k < P.length) := by
 unfold progB at h
 rw [Bool.and_eq_true, List.all_eq_true] at h
 have q := h.2 x hx
 have go : ∀ (l : List Stp) (last : Int), partB P.length last l = true → s ∈ l → ∃ la, stOK P.length la s = true := by
  intro l
  induction l with
  | nil => intro _ _ hh; cases hh
  | cons y l ih =>
   intro last hp hm
   rw [partB, Bool.and_eq_true] at hp
   rcases List.mem_cons.1 hm with rfl | hm
   ·exact ⟨last, hp.1⟩
   ·exact ih _ hp.2 hm
 obtain ⟨la, hl⟩ := go x 0 q hs
 unfold stOK at hl
 simp only [Bool.and_eq_true, Bool.or_eq_true, decide_eq_true_eq, beq_iff_eq] at hl
 obtain ⟨_, hl⟩ := hl
 refine ⟨by omega, by omega, fun h34 => ?_⟩
 have : 0 ≤ s.sub ∧ s.sub < (P.length : Int) := by
  rcases hl with ⟨a, _⟩ | ⟨_, a⟩
  ·omega
  ·exact a
 exact ⟨s.sub.toNat, by omega, by omega⟩
theorem part_len {n : Nat} : ∀ {l : List Stp} {last : Int}, partB n last l = true → last ≤ 500 → last + l.length ≤ 500
 | [], last, _, h => by simpa using h
 | s :: l, last, hp, h => by
  rw [partB, Bool.and_eq_true] at hp
  have q := hp.1
  unfold stOK at q
  rw [Bool.and_eq_true, decide_eq_true_eq] at q
  have := part_len hp.2 (by omega)
  rw [List.length_cons]
  push_cast
  omega
theorem prog_len {P : List (List Stp)} (h : progB P = true) {x : List Stp} (hx : x ∈ P) : x.length ≤ 500 := by
 unfold progB at h
 rw [Bool.and_eq_true, List.all_eq_true] at h
 have := part_len (h.2 x hx) (by omega)
 omega
def outP (P : List (List Stp)) (t : Tr) (x : List Stp) (k : Nat) : List (Int × List Tr) := (x.take k).flatMap (entF P t.ents)
def sumP (P : List (List Stp)) (t : Tr) (x : List Stp) (k : Nat) : Nat := ((x.take k).map fun s => 1 + lookS P s (getG t.ents s.tag)).sum
theorem outP_at {P : List (List Stp)} {t : Tr} {x : List Stp} {k : Nat} {s : Stp} (h : x[k]? = some s) : outP P t x (k + 1) = outP P t x k ++ entF P t.ents s := by
 unfold outP
 rw [List.take_add_one, h, List.flatMap_append]
 simp
theorem sumP_at {P : List (List Stp)} {t : Tr} {x : List Stp} {k : Nat} {s : Stp} (h : x[k]? = some s) : sumP P t x (k + 1) = sumP P t x k + (1 + lookS P s (getG t.ents s.tag)) := by
 unfold sumP
 rw [List.take_add_one, h, List.map_append, List.sum_append]
 simp
theorem outP_len (P : List (List Stp)) (t : Tr) (x : List Stp) (k : Nat) : (outP P t x k).length ≤ k := by
 unfold outP
 have : ∀ l : List Stp, (l.flatMap (entF P t.ents)).length ≤ l.length := fun l => by
  induction l with
  | nil => simp
  | cons s l ih =>
   rw [List.flatMap_cons, List.length_append, List.length_cons]
   have : (entF P t.ents s).length ≤ 1 := by
    unfold entF
    split <;> simp
   omega
 have := this (x.take k)
 rw [List.length_take] at this
 omega
def ype (P : List (List Stp)) (r : Tr) (b : Int) : St := ⟨ofL [(0, .ptr 0 0 0), (6, .ptr 1 0 0)], ofH [(0, .row 2 [[.p (.slice (P.map encPt)), .p (.int .i64 b)]]), (1, .row 5 [cellsT r])], 2⟩
theorem part_end {P : List (List Stp)} {args : List AV} {r : Tr} {a b : Int} (h : args[0]? = some (.ptr 0 0 0)) : EndD Tryd.prog #[ResultVar.cell 6 39] args (memR P a) 1 [0] (.p (.agg (encTr r))) (memR P b) 0 [0] .ret (ype P r b) := by
 refine ⟨fun k => k, [.p (.agg (encTr r))], ⟨?_, trivial⟩, rfl, rfl, ?_, ?_, ?_⟩
 ·simp only [ype, cellsT, encTr_eq]
  simp -implicitDefEqProofs only [go_sem, ↓reduceIte, Nat.reduceAdd, Nat.reduceLeDiff, reduceCtorEq]
  done
 ·simp only [memR, ype]
  simp -implicitDefEqProofs only [go_sem, ↓reduceIte, List.forall_mem_cons, List.not_mem_nil, false_implies, implies_true]
  first | done | decide
 ·simp [memR]
 ·exact mem_root h rfl
def yp (P : List (List Stp)) (t : Tr) (x : List Stp) (k : Nat) (es : List (Int × List Tr)) (b : Int) (L : List (Nat × AV)) (H : List (Nat × Blk)) (n : Nat) : St :=
 ⟨ofL ((0, .ptr 0 0 0) :: (2, .p (.box (ndV t) 0)) :: (6, .ptr 1 0 0) :: (7, .ptr 2 0 0) :: (20, .p (.slice (x.map encSt))) :: (21, .p (.int .i64 (x.length : Int))) :: (22, .p (.int .i64 (k : Int))) :: L),
 ofH ((0, .row 2 [[.p (.slice (P.map encPt)), .p (.int .i64 b)]]) :: (1, .row 5 [[.p (.int .i64 0), .p (.int .i64 0), .p (.str []), .ex [], .ex []]]) :: (2, .row 5 [[.p (.int .i64 3), .p (.int .i64 0), .p (.str []), .own 3, .ex []]]) :: (3, .row 2 (liftE (es.map encEn))) :: H), n⟩
def ypw (P : List (List Stp)) (es : List (Int × List Tr)) (b : Int) : St := ⟨ofL [(0, .ptr 0 0 0), (6, .ptr 1 0 0), (7, .ptr 2 0 0)], ofH [(0, .row 2 [[.p (.slice (P.map encPt)), .p (.int .i64 b)]]), (1, .row 5 [[.p (.int .i64 0), .p (.int .i64 0), .p (.str []), .ex [], .ex []]]), (2, .row 5 [[.p (.int .i64 3), .p (.int .i64 0), .p (.str []), .p (.slice (es.map encEn)), .p (.slice [])]])], 3⟩
theorem interp_part (P : List (List Stp)) (hP : progB P = true) : ∀ (t : Tr), lensT t = true → rightT t = true → PartOK P t := by
 intro t
 induction h : SizeOf.sizeOf t using Nat.strongRecOn generalizing t with
 | _ sz ih =>
 subst h
 intro hlt hrt i a hi ha
 obtain ⟨x, hx⟩ : ∃ x, P[i]? = some x := ⟨_, List.getElem?_eq_getElem hi⟩
 have hxm := List.mem_of_getElem? hx
 have hPO : partO P (i : Int) = x := by
  unfold partO
  rw [Int.toNat_natCast, List.getD_eq_getElem?_getD, hx]
  rfl
 have RF : runF P t (i : Int) = .mk 3 0 [] (outP P t x x.length) [] := by
  rw [runF_eq, hPO]
  unfold outP
  rw [List.take_length]
 have LF : lookF P t (i : Int) = sumP P t x x.length := by
  rw [lookF_eq, hPO]
  unfold sumP
  rw [List.take_length]
 rw [RF, LF]
 have hre : rightE t.ents 0 = true := by
  rcases right_kinds hrt with ⟨_, q⟩ | ⟨_, q⟩ | ⟨_, _, _, q, _⟩
  ·rw [q]
   show rightE [] 0 = true
   rw [rightE]
  ·rw [q]
   show rightE [] 0 = true
   rw [rightE]
  ·exact q
 obtain ⟨la1, la2, la3⟩ := lensT_mk hlt
 have OL := outP_len P t x
 have x500 := prog_len hP hxm
 refine DFn.of [0] Tryd.func115 rfl (by decide) Tryd.ntmps115 Tryd.results115 (Nat.le_of_ble_eq_true rfl) (by simp) fun val => ?_
 simp only [avT, memR]
 have ⟨hx1, hx2, hx3⟩ := at_map' encPt hx
 refine AW.rT (by rfl) fun K hK => ?_
 simp -implicitDefEqProofs only [go_sem, Nat.reduceAdd]
 apply hK; clear hK K
 refine AW.rT (by rfl) fun K hK => ?_
 simp -implicitDefEqProofs only [go_sem, ↓reduceIte, Nat.reduceAdd, Nat.reduceEqDiff, Nat.reduceLeDiff]
 apply hK; clear hK K
 refine AW.seq ?_
 have hi' : (i : Int) < (P.length : Int) := by omega
 refine AW.rT (by rfl) fun K hK => ?_
 simp -implicitDefEqProofs only [go_sem, ↓reduceIte, Nat.reduceAdd, Nat.reduceEqDiff, reduceCtorEq, hx1, hi', hx3, encPt, List.length_map]
 apply hK; clear hK K
 refine AW.block ?_
 refine AW.loop (fun k : Nat => yp P t x k (outP P t x k) (IntKind.wrap .i64 (a + (sumP P t x k : Nat))) [] [] 4) (fun k => k ≤ x.length) (fun k => x.length - k) 0 ?_ (by simp) fun k hk => ?_
 ·refine Ghost.trans (Ghost.nilH (l := 3) (i := 0) (j := 3) (sz' := 2) rfl rfl rfl) ?_
  rw [show IntKind.wrap .i64 (a + ((sumP P t x 0 : Nat) : Int)) = a by unfold sumP; simpa using ha, show outP P t x 0 = [] from rfl]
  simp only [yp]
  refine Ghost.ent (fun l => if l = 2 then 3 else if l = 3 then 15 else l) ?_ ?_ ?_ <;> simp -implicitDefEqProofs only [go_sem, ↓reduceIte, Nat.reduceEqDiff, reduceCtorEq, List.map_nil, liftE_nil, List.set_cons_zero, List.set_cons_succ, List.forall_mem_cons, List.not_mem_nil, false_implies, implies_true, and_self, List.all_cons, List.all_nil, Nat.reduceLT, labsInL, AV.labsIn]
  all_goals first | rfl | skip
 by_cases hkl : k < x.length
 case neg =>
  have hk' : k = x.length := by omega
  subst hk'
  generalize outP P t x x.length = es
  generalize IntKind.wrap .i64 (a + ((sumP P t x x.length : Nat) : Int)) = b
  have hc1 : ((x.length : Int) < (x.length : Int)) = False := eq_false (by omega)
  simp only [yp]
  refine AW.rT (by rfl) fun K hK => ?_
  simp -implicitDefEqProofs only [go_sem, ↓reduceIte, Nat.reduceAdd, Nat.reduceEqDiff, reduceCtorEq, hc1]
  apply hK; clear hK K
  refine AW.seq ?_
  refine AW.cF rfl ?_
  refine AW.exit ?_
  simp only [andThen, inBlk, ↓reduceIte]
  refine AW.ghost (s' := ypw P es b) (Ghost.trans (Ghost.freeze (lb := 3) (ps := es.map encEn) rfl (unlift_liftE _)) (Ghost.trans (Ghost.exH (l := 2) (i := 0) (j := 4) rfl rfl rfl) ?_)) ?_
  ·simp only [ypw]
   refine Ghost.sub ?_ ?_ <;> simp -implicitDefEqProofs only [go_sem, ↓reduceIte, Nat.reduceEqDiff, reduceCtorEq, thaw, thaw1, Option.map_some, List.map_cons, List.map_nil, List.set_cons_zero, List.set_cons_succ, List.forall_mem_cons, List.not_mem_nil, false_implies, implies_true, and_self, List.all_cons, List.all_nil, Nat.reduceLT, labsInL, AV.labsIn]
   done
  simp only [ypw]
  refine AW.rT (by rfl) fun K hK => ?_
  simp -implicitDefEqProofs only [go_sem, ↓reduceIte, Nat.reduceAdd, Nat.reduceEqDiff, Nat.reduceLeDiff, reduceCtorEq, List.set_cons_zero]
  apply hK; clear hK K
  refine AW.ghost (s' := ype P (.mk 3 0 [] es []) b) ?_ (AW.ret (part_end rfl))
  simp only [ype, cellsT, Tr.kind, Tr.n, Tr.s, Tr.ents, Tr.rest, List.map_nil]
  refine Ghost.sub ?_ ?_ <;> simp -implicitDefEqProofs only [go_sem, ↓reduceIte, Nat.reduceEqDiff, reduceCtorEq, List.forall_mem_cons, List.not_mem_nil, false_implies, implies_true, and_self, List.all_cons, List.all_nil, Nat.reduceLT, labsInL, AV.labsIn]
  done
 obtain ⟨s, hs⟩ : ∃ s, x[k]? = some s := ⟨_, List.getElem?_eq_getElem hkl⟩
 have hsm := List.mem_of_getElem? hs
 have ⟨hs1, hs2, hs3⟩ := at_map' encSt hs
 have hc1 : ((k : Int) < (x.length : Int)) = True := eq_true (by omega)
 have w1 : IntKind.wrap .i64 ((k : Int) + 1) = ((k + 1 : Nat) : Int) := by rw [w64] <;> omega
 obtain ⟨p1, p2, p3⟩ := prog_step hP hxm hsm
 have OA := outP_at (P := P) (t := t) hs
 have OLk := OL k
 have BN : IntKind.wrap .i64 (a + ((sumP P t x (k + 1) : Nat) : Int)) = IntKind.wrap .i64 (IntKind.wrap .i64 (IntKind.wrap .i64 (a + ((sumP P t x k : Nat) : Int)) + 1) + ((lookS P s (getG t.ents s.tag) : Nat) : Int)) := by
  rw [sumP_at hs, show (1 : Int) = ((1 : Nat) : Int) from rfl, wrap_nat, wrap_nat]
 have GC := getG_cases t.ents s.tag
 have CG := node_Get t hlt s.tag
 rw [getE_G] at CG
 have EF : entF P t.ents s = if (stepF P s (getG t.ents s.tag)).isEmpty = true then [] else [(s.tag, stepF P s (getG t.ents s.tag))] := rfl
 have nextK : ∀ (s' : St) (es : List (Int × List Tr)) (b : Int), outP P t x (k + 1) = es → IntKind.wrap .i64 (a + ((sumP P t x (k + 1) : Nat) : Int)) = b → Ghost ⟨58, [0], val⟩ s' (yp P t x (k + 1) es b [] [] 4) → ∃ y : Nat, y ≤ x.length ∧ x.length - y < x.length - k ∧ Ghost ⟨58, [0], val⟩ s' (yp P t x y (outP P t x y) (IntKind.wrap .i64 (a + ((sumP P t x y : Nat) : Int))) [] [] 4) :=
  fun s' es b h1 h2 g => ⟨k + 1, by omega, by omega, by rw [h1, h2]; exact g⟩
 generalize hb : IntKind.wrap .i64 (a + ((sumP P t x k : Nat) : Int)) = b at BN
 generalize hes : outP P t x k = es at OA OLk
 simp only [yp]
 refine AW.rT (by rfl) fun K hK => ?_
 simp -implicitDefEqProofs only [go_sem, ↓reduceIte, Nat.reduceAdd, Nat.reduceEqDiff, reduceCtorEq, hc1]
 apply hK; clear hK K
 refine AW.seq ?_
 refine AW.cT rfl ?_
 refine AW.skip ?_
 simp only [andThen]
 refine AW.seq ?_
 refine AW.block ?_
 refine AW.rT (by rfl) fun K hK => ?_
 simp -implicitDefEqProofs only [go_sem, ↓reduceIte, Nat.reduceAdd, Nat.reduceEqDiff, Nat.reduceLeDiff, reduceCtorEq, hs1, hs3, hc1, encSt, List.length_map]
 apply hK; clear hK K
 refine AW.rT (by rfl) fun K hK => ?_
 simp -implicitDefEqProofs only [go_sem, ↓reduceIte, Nat.reduceAdd, Nat.reduceEqDiff, Nat.reduceLeDiff, reduceCtorEq, List.set_cons_zero]
 apply hK; clear hK K
 refine AW.rT (by rfl) fun K hK => ?_
 simp -implicitDefEqProofs only [go_sem, ↓reduceIte, Nat.reduceAdd, Nat.reduceEqDiff, reduceCtorEq]
 refine ⟨.pure _, CG, ?_⟩
 try simp -implicitDefEqProofs only [go_sem, Nat.reduceAdd]
 apply hK; clear hK K
 refine AW.ghost (s' := yp P t x k es (IntKind.wrap .i64 (b + 1)) [(9, .ptr 4 0 0), (10, .p (.slice ((getG t.ents s.tag).map encV1)))] [(4, .row 3 [[.p (.int .i64 s.op), .p (.int .i64 s.tag), .p (.int .i64 s.sub)]])] 5) ?_ ?_
 ·simp only [yp]
  refine Ghost.ent (fun l => if l = 4 then 7 else l) ?_ ?_ ?_ <;> simp -implicitDefEqProofs only [go_sem, ↓reduceIte, Nat.reduceEqDiff, reduceCtorEq, List.forall_mem_cons, List.not_mem_nil, false_implies, implies_true, and_self, map_renL_lift, labsIn_lift, List.all_cons, List.all_nil, Nat.reduceLT, labsInL, AV.labsIn]
  all_goals first | rfl | skip
 simp only [yp]
 refine AW.seq ?_
 rcases GC with GC | ⟨e, he, heg, GC⟩
 ·rw [GC] at BN EF ⊢
  rw [stepF_none, if_pos (show ([] : List Tr).isEmpty = true from rfl)] at EF
  rw [lookS_nil] at BN
  have BN' : IntKind.wrap .i64 (a + ((sumP P t x (k + 1) : Nat) : Int)) = IntKind.wrap .i64 (b + 1) := by
   rw [BN]
   simpa using wrap_wrap (b + 1)
  rw [EF, List.append_nil] at OA
  refine AW.rT (by rfl) fun K hK => ?_
  simp -implicitDefEqProofs only [go_sem, ↓reduceIte, Nat.reduceAdd, Nat.reduceEqDiff, reduceCtorEq]
  apply hK; clear hK K
  refine AW.cT rfl ?_
  refine AW.exit ?_
  simp only [andThen, inBlk, ↓reduceIte]
  refine AW.rE (by rfl) fun K hK => ?_
  simp -implicitDefEqProofs only [go_sem, ↓reduceIte, Nat.reduceAdd, Nat.reduceEqDiff, reduceCtorEq, w1]
  apply hK; clear hK K
  refine nextK _ _ _ OA BN' ?_
  simp only [yp]
  refine Ghost.sub ?_ ?_ <;> simp -implicitDefEqProofs only [go_sem, ↓reduceIte, Nat.reduceEqDiff, reduceCtorEq, List.forall_mem_cons, List.not_mem_nil, false_implies, implies_true, and_self, labsIn_lift, List.all_cons, List.all_nil, Nat.reduceLT, labsInL, AV.labsIn]
  done
 obtain ⟨r1, r2, r3⟩ := rightE_in hre e he
 have hem := List.getElem?_of_mem he
 obtain ⟨ei, hei⟩ := hem
 have ⟨le1, le2⟩ := lensE_at la3 hei
 have ST := interp_step P s e.2 (headK e.2) p1 p2 p3 r1 le1 (fun y hy => by
  obtain ⟨yj, hyj⟩ := List.getElem?_of_mem hy
  exact ⟨lensTs_at le2 hyj, (r3 y hy).2, (r3 y hy).1⟩) (fun y hy => by
  obtain ⟨yj, hyj⟩ := List.getElem?_of_mem hy
  exact ih _ (size_ent hei hyj) y rfl (lensTs_at le2 hyj) (r3 y hy).2) (IntKind.wrap .i64 (b + 1)) (wrap_wrap _)
 rw [GC] at BN EF ⊢
 have z0 : ((e.2.length : Int) == 0) = false := by
  rw [beq_eq_false_iff_ne]
  omega
 generalize stepF P s e.2 = sf at ST EF
 generalize lookS P s e.2 = lk at ST BN
 simp only [encSt] at ST
 refine AW.rT (by rfl) fun K hK => ?_
 simp -implicitDefEqProofs only [go_sem, ↓reduceIte, Nat.reduceAdd, Nat.reduceEqDiff, reduceCtorEq, z0, List.length_map]
 apply hK; clear hK K
 refine AW.cF rfl ?_
 refine AW.skip ?_
 simp only [andThen]
 refine AW.rR (SeqR.ev 3 (by rfl) (by decide) ?_)
 simp -implicitDefEqProofs only [go_sem, ↓reduceIte, Nat.reduceAdd, Nat.reduceEqDiff, Nat.reduceLeDiff, reduceCtorEq]
 refine SeqR.call (fun k => k) rfl rfl ST ⟨?_, rfl, ?_, rfl, rfl, rfl, rfl, rfl, rfl⟩ ?_
 ·simp -implicitDefEqProofs only [go_sem, ↓reduceIte, Nat.reduceEqDiff, argD]
 ·simp only [memR]
  simp -implicitDefEqProofs only [go_sem, ↓reduceIte, List.forall_mem_cons, List.not_mem_nil, false_implies, implies_true]
  first | done | decide
 simp only [memR, AV.ren]
 refine SeqR.ev 1 (by rfl) (by decide) ?_
 simp -implicitDefEqProofs only [go_sem, ↓reduceIte, Nat.reduceAdd, lift2, goneU, newU, List.map_cons, List.map_nil, putH, Nat.reduceLT]
 refine SeqR.last rfl ?_
 rw [← BN]
 generalize hb' : IntKind.wrap .i64 (a + ((sumP P t x (k + 1) : Nat) : Int)) = b' at *
 refine AW.ghost (s' := yp P t x k es b' [(9, .ptr 4 0 0), (11, .p (.slice (sf.map encTr)))] [(4, .row 3 [[.p (.int .i64 s.op), .p (.int .i64 s.tag), .p (.int .i64 s.sub)]])] 5) ?_ ?_
 ·simp only [yp]
  refine Ghost.sub ?_ ?_ <;> simp -implicitDefEqProofs only [go_sem, ↓reduceIte, Nat.reduceEqDiff, reduceCtorEq, List.forall_mem_cons, List.not_mem_nil, false_implies, implies_true, and_self, labsIn_lift, List.all_cons, List.all_nil, Nat.reduceLT, labsInL, AV.labsIn]
  done
 simp only [yp]
 by_cases h0 : sf = []
 ·subst h0
  rw [if_pos (show ([] : List Tr).isEmpty = true from rfl)] at EF
  rw [EF, List.append_nil] at OA
  refine AW.rT (by rfl) fun K hK => ?_
  simp -implicitDefEqProofs only [go_sem, ↓reduceIte, Nat.reduceAdd, Nat.reduceEqDiff, reduceCtorEq]
  apply hK; clear hK K
  refine AW.cF rfl ?_
  refine AW.skip ?_
  simp only [andThen, inBlk]
  refine AW.rE (by rfl) fun K hK => ?_
  simp -implicitDefEqProofs only [go_sem, ↓reduceIte, Nat.reduceAdd, Nat.reduceEqDiff, reduceCtorEq, w1]
  apply hK; clear hK K
  refine nextK _ _ _ OA rfl ?_
  simp only [yp]
  refine Ghost.sub ?_ ?_ <;> simp -implicitDefEqProofs only [go_sem, ↓reduceIte, Nat.reduceEqDiff, reduceCtorEq, List.forall_mem_cons, List.not_mem_nil, false_implies, implies_true, and_self, labsIn_lift, List.all_cons, List.all_nil, Nat.reduceLT, labsInL, AV.labsIn]
  done
 ·have hp := List.length_pos_iff.2 h0
  have g1 : ((sf.length : Int) > 0) = True := eq_true (by omega)
  rw [if_neg (by simp [h0])] at EF
  rw [EF] at OA
  have e8 : liftE (es.map encEn) ++ [[AV.p (.int .i64 s.tag), .p (.slice (sf.map encTr))]] = liftE ((es ++ [(s.tag, sf)]).map encEn) := by
   simp [liftE, encEn]
  refine AW.rT (by rfl) fun K hK => ?_
  simp -implicitDefEqProofs only [go_sem, ↓reduceIte, Nat.reduceAdd, Nat.reduceEqDiff, reduceCtorEq, g1, List.length_map]
  apply hK; clear hK K
  refine AW.cT rfl ?_
  refine AW.rE (by rfl) fun K hK => ?_
  simp -implicitDefEqProofs only [go_sem, ↓reduceIte, Nat.reduceAdd, Nat.reduceMul, Nat.reduceEqDiff, Nat.reduceLeDiff, reduceCtorEq]
  refine ⟨⟨by simp, by simp [oneAll, AV.one, PV.one], by simp⟩, by simp [liftE_length]; omega, ?_⟩
  try simp -implicitDefEqProofs only [go_sem, ↓reduceIte, Nat.reduceAdd, Nat.reduceMul, Nat.reduceEqDiff, Nat.reduceLeDiff, reduceCtorEq, Int.reduceToNat]
  apply hK; clear hK K
  simp only [andThen, inBlk]
  refine AW.rE (by rfl) fun K hK => ?_
  simp -implicitDefEqProofs only [go_sem, ↓reduceIte, Nat.reduceAdd, Nat.reduceEqDiff, reduceCtorEq, w1]
  apply hK; clear hK K
  refine nextK _ _ _ OA rfl ?_
  simp only [yp]
  rw [← e8]
  refine Ghost.ent (fun l => if l = 3 then 15 else l) ?_ ?_ ?_ <;> simp -implicitDefEqProofs only [go_sem, ↓reduceIte, Nat.reduceEqDiff, reduceCtorEq, List.forall_mem_cons, List.not_mem_nil, false_implies, implies_true, and_self, map_renL_lift, labsIn_lift, List.all_append, List.all_cons, List.all_nil, List.map_append, Nat.reduceLT, labsInL, AV.labsIn]
  all_goals first | rfl | skip
end Go.Aw.T
