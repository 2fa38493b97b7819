/- The contract of a function to which something is lent. -/
import Derived.Test.YtmeplhcfjihafaaAwOFn
namespace Go.Aw
open Go.RowKit
variable {P : Program}
def laT : List LA → Nat → Nat → Option AV
  | [], _ => fun _ => none
  | a :: la, i => upd (laT la (i + 1)) i (some (a.av i))
def laH : List LA → Nat → Nat → Option Blk
  | [], _ => fun _ => none
  | .v _ :: la, i => laH la (i + 1)
  | .ptr _ _ sz es :: la, i => upd (laH la (i + 1)) i (some (.row sz (liftE es)))
  | .map es :: la, i => upd (laH la (i + 1)) i (some (.map (liftM es)))
def laPins : List LA → Nat → List Nat
  | [], _ => []
  | .v _ :: la, i => laPins la (i + 1)
  | _ :: la, i => i :: laPins la (i + 1)
theorem laT_at : ∀ (la : List LA) (i j : Nat), laT la i j = if j < i then none else (la[j - i]?).map (·.av j) := by
  intro la
  induction la with
  | nil => intro i j; simp [laT]
  | cons a la ih =>
    intro i j
    rw [laT]
    by_cases h : j = i
    · subst h; rw [upd_same, if_neg (by omega), Nat.sub_self]; rfl
    · rw [upd_ne _ _ h, ih]
      by_cases h2 : j < i
      · rw [if_pos (by omega), if_pos h2]
      · rw [if_neg (by omega), if_neg h2, show j - i = (j - (i + 1)) + 1 by omega, List.getElem?_cons_succ]
theorem laH_at : ∀ (la : List LA) (i j : Nat), laH la i j = if j < i then none else (la[j - i]?).bind fun a => a.lb.map LB.blk := by
  intro la
  induction la with
  | nil => intro i j; simp [laH]
  | cons a la ih =>
    intro i j
    have key : ∀ b, (a.lb = b) → laH (a :: la) i = (match b with | some b => upd (laH la (i + 1)) i (some b.blk) | none => laH la (i + 1)) := by
      rintro b rfl
      cases a <;> rfl
    rw [key _ rfl]
    by_cases h : j = i
    · subst h
      rw [if_neg (by omega), Nat.sub_self, List.getElem?_cons_zero, Option.bind_some]
      cases hlb : a.lb with
      | none => simp only; rw [ih, if_pos (by omega)]; rfl
      | some b => simp only; rw [upd_same]; rfl
    · have e : (match a.lb with | some b => upd (laH la (i + 1)) i (some b.blk) | none => laH la (i + 1)) j = laH la (i + 1) j := by
        cases a.lb with
        | none => rfl
        | some b => exact upd_ne _ _ h
      rw [e, ih]
      by_cases h2 : j < i
      · rw [if_pos (by omega), if_pos h2]
      · rw [if_neg (by omega), if_neg h2, show j - i = (j - (i + 1)) + 1 by omega, List.getElem?_cons_succ]
def lentEnd (s : St) : List LA → List (Option LB) → Nat → Prop
  | [], [], _ => True
  | .v _ :: la, none :: bs, j => lentEnd s la bs (j + 1)
  | .ptr i off sz es :: la, some (.row sz' es') :: bs, j => (∃ l, s.T j = some (.ptr l i off) ∧ s.H l = some (.row sz' (liftE es'))) ∧ (sz' = sz ∧ 0 < sz ∧ es'.length = es.length) ∧ lentEnd s la bs (j + 1)
  | .map _ :: la, some (.map es') :: bs, j => (∃ l, s.T j = some (.map l) ∧ s.H l = some (.map (liftM es'))) ∧ lentEnd s la bs (j + 1)
  | _, _, _ => False
def lentAt (s : St) (a : LA) (b : LB) (j : Nat) : Prop :=
  match a, b with
  | .ptr k off sz es, .row sz' es' => (∃ l, s.T j = some (.ptr l k off) ∧ s.H l = some (.row sz' (liftE es'))) ∧ sz' = sz ∧ 0 < sz ∧ es'.length = es.length
  | .map _, .map es' => ∃ l, s.T j = some (.map l) ∧ s.H l = some (.map (liftM es'))
  | _, _ => False
theorem lentEnd_spec {s : St} : ∀ {la : List LA} {bs : List (Option LB)} {i : Nat}, lentEnd s la bs i → bs.map Option.isSome = la.map (fun a => a.lb.isSome) ∧
    ∀ (j : Nat) b, bs[j]? = some (some b) → ∃ a, la[j]? = some a ∧ lentAt s a b (i + j) := by
  intro la
  induction la with
  | nil =>
    intro bs i h
    cases bs with
    | nil => exact ⟨rfl, fun j b h => by simp at h⟩
    | cons b bs => simp [lentEnd] at h
  | cons a la ih =>
    intro bs i h
    have step : ∀ {c : Option LB} {bs' : List (Option LB)}, lentEnd s la bs' (i + 1) → c.isSome = a.lb.isSome → (∀ b, c = some b → lentAt s a b i) → (c :: bs').map Option.isSome = (a :: la).map (fun a => a.lb.isSome) ∧ ∀ (j : Nat) b, (c :: bs')[j]? = some (some b) → ∃ a', (a :: la)[j]? = some a' ∧ lentAt s a' b (i + j) := by
      intro c bs' h1 h2 h3
      obtain ⟨q1, q2⟩ := ih h1
      refine ⟨by simp only [List.map_cons, h2, q1], fun j b hb => ?_⟩
      cases j with
      | zero => exact ⟨a, rfl, h3 b (by simpa using hb)⟩
      | succ j =>
        obtain ⟨a', r1, r2⟩ := q2 j b (by simpa using hb)
        refine ⟨a', by simpa using r1, ?_⟩
        rw [show i + (j + 1) = i + 1 + j by omega]
        exact r2
    cases bs with
    | nil => cases a <;> simp [lentEnd] at h
    | cons c bs =>
      cases a with
      | v x =>
        cases c with
        | none => exact step h rfl (fun b hb => by cases hb)
        | some b => simp [lentEnd] at h
      | ptr k off sz es =>
        cases c with
        | none => simp [lentEnd] at h
        | some b =>
          cases b with
          | row sz' es' =>
            obtain ⟨h1, h2, h3⟩ := h
            exact step h3 rfl (fun b hb => by injection hb with hb; subst hb; exact ⟨h1, h2⟩)
          | map es' => simp [lentEnd] at h
      | map es =>
        cases c with
        | none => simp [lentEnd] at h
        | some b =>
          cases b with
          | row sz' es' => simp [lentEnd] at h
          | map es' => exact step h.2 rfl (fun b hb => by injection hb with hb; subst hb; exact h.1)
theorem laPins_lt : ∀ {la : List LA} {i j : Nat}, j ∈ laPins la i → i ≤ j ∧ j < i + la.length := by
  intro la
  induction la with
  | nil => intro i j h; simp [laPins] at h
  | cons a la ih =>
    intro i j h
    cases a with
    | v x => have := ih (i := i + 1) h; simp; omega
    | ptr a b c d =>
      rcases List.mem_cons.1 h with h | h
      · subst h; simp
      · have := ih h; simp; omega
    | map es =>
      rcases List.mem_cons.1 h with h | h
      · subst h; simp
      · have := ih h; simp; omega
theorem laPins_mem : ∀ {la : List LA} {i j : Nat} {a : LA}, la[j]? = some a → a.lb.isSome = true → i + j ∈ laPins la i := by
  intro la
  induction la with
  | nil => intro i j a h; simp at h
  | cons b la ih =>
    intro i j a h hl
    cases j with
    | zero =>
      simp at h; subst h
      cases b with
      | v x => simp [LA.lb] at hl
      | ptr => simp [laPins]
      | map => simp [laPins]
    | succ j =>
      have := ih (i := i + 1) (by simpa using h) hl
      rw [show i + (j + 1) = i + 1 + j by omega]
      cases b with
      | v x => exact this
      | ptr => exact List.mem_cons_of_mem _ this
      | map => exact List.mem_cons_of_mem _ this
def EndL (P : Program) (rs : Array ResultVar) (la : List LA) (bs : List (Option LB)) (r : PV) : Exit → St → Prop
  | .normal, s | .ret, s => (resW P ⟨s.T, fun _ => none, s.nx⟩ rs.toList).map oneOr = some r ∧ lentEnd s la bs 0
  | _, _ => False
theorem LFn.of {f : FuncId} {fn : Func} {c : Code} {la : List LA} {bs : List (Option LB)} {r : PV} (hf : P.funcs[f]? = some fn) (hb : fn.body = some c) (hn : fn.name ≠ "runtime.NumGoroutine") {nt : Nat} (hnt : fn.ntmps = nt) {rs : Array ResultVar} (hrs : fn.results = rs) (hnt' : la.length ≤ nt)
    (hbs : bs.map Option.isSome = la.map (fun a => a.lb.isSome)) (h : ∀ val : Nat → Value, AW P ⟨nt, laPins la 0, val⟩ c ⟨laT la 0, laH la 0, la.length⟩ (EndL P rs la bs r)) : LFn P f la bs r := by
  subst hnt hrs
  refine ⟨by simp [enters, hf, hb, hn], hbs, fun w I σ vals hs hσ hr hH => ?_⟩
  refine calls_of_wp hf hb ?_
  have eH : laH la 0 = lendH la := by
    funext j
    rw [laH_at, if_neg (by omega), Nat.sub_zero]; rfl
  have at_ : ∀ i, i < vals.size → (vals ++ Array.replicate (fn.ntmps - vals.size) undef)[i]? = vals[i]? := fun i hi => by rw [Array.getElem?_append_left hi]
  have m : Matches ⟨fn.ntmps, laPins la 0, fun i => vals.getD i undef⟩ w (lentX σ (lendH la)) I ⟨laT la 0, laH la 0, la.length⟩ { tmps := vals ++ Array.replicate (fn.ntmps - vals.size) undef, defers := [] } w := by
    refine ⟨σ, I, hσ, rfl, (by simp; omega), fun i hi => ?_, by simp only; rw [eH]; exact hH, fun i x hx => ?_⟩
    · have hlt := (laPins_lt hi).2
      rw [Nat.zero_add, ← hs] at hlt
      simp only
      rw [at_ i hlt, Array.getD_eq_getD_getElem?, Array.getElem?_eq_getElem hlt]
      rfl
    · simp only at hx
      rw [laT_at, if_neg (by omega), Nat.sub_zero] at hx
      obtain ⟨a, ha, rfl⟩ := Option.map_eq_some_iff.1 hx
      have hi : i < vals.size := by rw [hs]; exact (List.getElem?_eq_some_iff.1 ha).1
      exact ⟨vals[i], by rw [at_ i hi, Array.getElem?_eq_getElem hi], hr i _ a (Array.getElem?_eq_getElem hi) ha⟩
  refine wp_mono (h _ w _ I _ w m) ?_
  rintro e a' w' ⟨s', ⟨σ', I', hn', m'⟩, q⟩
  have fin : ((resW P ⟨s'.T, fun _ => none, s'.nx⟩ fn.results.toList).map oneOr = some r ∧ lentEnd s' la bs 0) → a'.defers = [] ∧ ∃ v, (results fn a'.tmps).run P w' = .ok v w' ∧
      ∃ v' I', Ending.returned v = .returned v' ∧ HOK σ w' I' (outH bs) w (lentX σ (lendH la)) I ∧ rep w' I' v' r := by
    rintro ⟨q, hend⟩
    obtain ⟨l, hl, rfl⟩ := Option.map_eq_some_iff.1 q
    obtain ⟨_, spec⟩ := lentEnd_spec hend
    have m0 : Match ⟨fn.ntmps, laPins la 0, fun i => vals.getD i undef⟩ w (lentX σ (lendH la)) I σ' I' s'.T (fun _ => none) a' w' := ⟨m'.defers, m'.size, m'.pins, m'.heap.less (fun l b h => by cases h), m'.tmps⟩
    obtain ⟨vs, h1, h2, h3⟩ := run_results (s := ⟨s'.T, fun _ => none, s'.nx⟩) m0 (J := I') (fun _ h => h) (fun lb g sl q1 q2 q3 => absurd rfl q1) (hn' _ (Nat.le_refl _)) (resF a'.tmps) (fun t => rfl) (fun t ty => rfl) fn.results.toList l hl
    have hrun : (results fn a'.tmps).run P w' = .ok (if h : vs.length = 1 then vs[0] else .tuple vs.toArray) w' := by
      rw [results_eq, show fn.results = fn.results.toList.toArray by simp, List.mapM_toArray]
      simp only [Sem.run_bind, Sem.run_map, h1, Result.andThen_ok, Sem.run_pure, List.size_toArray, List.getElem_toArray]
    have slot : ∀ (j : Nat) b, bs[j]? = some (some b) → ∃ lb, σ' lb = σ j ∧ s'.H lb = some b.blk ∧ lendH la j ≠ none := fun j b hj => by
      obtain ⟨a, ha, hm⟩ := spec j b hj
      rw [Nat.zero_add] at hm
      have hjl : j < vals.size := by rw [hs]; exact (List.getElem?_eq_some_iff.1 ha).1
      have hv := hr j _ a (Array.getElem?_eq_getElem hjl) ha
      have pin : ∀ x, s'.T j = some x → a.lb.isSome = true → repA σ' w' I' vals[j] x := fun x hx hls => by
        have hp := m'.pins j (by have := laPins_mem (i := 0) ha hls; rwa [Nat.zero_add] at this)
        obtain ⟨u, hu, hru⟩ := m'.tmps j x hx
        rw [hp] at hu
        simp only [Option.some.injEq] at hu
        rw [Array.getD_eq_getD_getElem?, Array.getElem?_eq_getElem hjl] at hu
        simp only [Option.getD_some] at hu
        subst hu
        exact hru
      cases a with
      | v x => cases b <;> exact hm.elim
      | ptr k off sz es =>
        cases b with
        | map es' => exact hm.elim
        | row sz' es' =>
          obtain ⟨⟨lb, t1, t2⟩, rfl, hpos, hlen⟩ := hm
          have hv' := pin _ t1 rfl
          have hl0 : lendH la j = some (.row sz' (liftE es)) := by simp [lendH, ha, LA.lb, LB.blk]
          have b0 := hH.rows j _ hl0
          have b1 := m'.heap.rows lb _ t2
          simp only [LA.av] at hv
          generalize vals[j] = xv at hv hv'
          cases hv with
          | ptr s0 =>
            rename_i g n c sz0
            generalize hxe : Value.pointer (some ⟨g, k * sz0 + off, none⟩) = xv at hv'
            cases hv' with
            | ptr s1 =>
              rename_i g1 n1 c1 sz1
              injection hxe with hxe
              injection hxe with hxe
              injection hxe with hg _ _
              subst hg
              refine ⟨lb, ?_, t2, by rw [hl0]; simp⟩
              obtain ⟨cur0, et0, p0, e0, f0⟩ := cells_slot b0 s0
              obtain ⟨cur1, et1, p1, e1, f1⟩ := cells_slot b1 s1
              obtain ⟨cur2, et2, p2, e2, f2⟩ := m'.heap.fr.shape g cur0 et0 p0 e0
              rw [e1] at e2
              injection e2 with e2
              injection e2 with e2
              subst e2
              have n0 : n = es.length ∧ sz0 = sz' := by
                generalize he : liftE es = ls at b0
                cases b0 with
                | emp h => rw [s0] at h; cases h
                | row h => rw [s0] at h; injection h with h; injection h with _ h2 _ h4; subst he; exact ⟨by rw [h2]; simp [liftE], h4⟩
              have n1' : n1 = es'.length ∧ sz1 = sz' := by
                generalize he : liftE es' = ls at b1
                cases b1 with
                | emp h => rw [s1] at h; cases h
                | row h => rw [s1] at h; injection h with h; injection h with _ h2 _ h4; subst he; exact ⟨by rw [h2]; simp [liftE], h4⟩
              obtain ⟨rfl, rfl⟩ := n0
              obtain ⟨rfl, rfl⟩ := n1'
              have hc : c1 = c := Nat.eq_of_mul_eq_mul_right hpos (by rw [← f1, f2, f0])
              rw [s0, s1, hc, hlen]
      | map es =>
        cases b with
        | row sz' es' => exact hm.elim
        | map es' =>
          obtain ⟨lb, t1, t2⟩ := hm
          have hv' := pin _ t1 rfl
          simp only [LA.av] at hv
          generalize vals[j] = xv at hv hv'
          cases hv with
          | map s0 =>
            cases hv' with
            | map s1 => exact ⟨lb, by rw [s0, s1], t2, by simp [lendH, ha, LA.lb]⟩
    have outs : ∀ j b, outH bs j = some b → ∃ b', bs[j]? = some (some b') ∧ b = b'.blk := fun j b hj => by
      unfold outH at hj
      obtain ⟨c, q1, q2⟩ := Option.bind_eq_some_iff.1 hj
      obtain ⟨b', rfl, rfl⟩ := Option.map_eq_some_iff.1 q2
      exact ⟨b', q1, rfl⟩
    refine ⟨m'.defers, _, hrun, _, I', rfl, ⟨fun j b hj => ?_, fun j j' g s1 s2 q1 q2 => ?_, fun j g s1 q1 q2 q3 => ?_, m'.heap.imm, m'.heap.sub, m'.heap.fr⟩, ?_⟩
    · obtain ⟨b', q1, rfl⟩ := outs j b hj
      obtain ⟨lb, r1, r2, _⟩ := slot j b' q1
      exact blk_rel (fun s hs' => by rw [← r1]; exact hs') (m'.heap.rows lb _ r2)
    · obtain ⟨b1, hb1⟩ := Option.ne_none_iff_exists'.1 q1
      obtain ⟨b2, hb2⟩ := Option.ne_none_iff_exists'.1 q2
      obtain ⟨b1', r1, _⟩ := outs j b1 hb1
      obtain ⟨b2', r2, _⟩ := outs j' b2 hb2
      obtain ⟨_, _, _, t1⟩ := slot j b1' r1
      obtain ⟨_, _, _, t2⟩ := slot j' b2' r2
      exact hH.inj j j' g s1 s2 t1 t2
    · obtain ⟨b1, hb1⟩ := Option.ne_none_iff_exists'.1 q1
      obtain ⟨b1', r1, _⟩ := outs j b1 hb1
      obtain ⟨lb, t1, t2, t3⟩ := slot j b1' r1
      exact ⟨(m'.heap.mine lb g s1 (by rw [t2]; simp) (by rw [t1]; exact q2) q3).1, .inl ⟨j, s1, t3, q2, q3⟩⟩
    · by_cases h4 : vs.length = 1
      · rw [dif_pos h4]
        obtain ⟨p, rfl⟩ : ∃ p, l = [p] := List.length_eq_one_iff.1 (by omega)
        exact h3 0 _ p (List.getElem?_eq_getElem (by omega)) rfl
      · rw [dif_neg h4]
        have : oneOr l = .tuple l := by
          unfold oneOr
          split
          · exact absurd h2 h4
          · rfl
        rw [this]
        exact .tuple (by simpa using h2) (fun j u p q1 q2 => h3 j u p (by simpa using q1) q2)
  cases e with
  | normal => exact fin q
  | ret => exact fin q
  | exit _ => exact q.elim
  | goto _ => exact q.elim
  | panic _ => exact q.elim
  | outgrown => exact q.elim
end Go.Aw
