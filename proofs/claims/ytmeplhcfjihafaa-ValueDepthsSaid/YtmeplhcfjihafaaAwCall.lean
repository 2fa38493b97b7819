/- Calls of functions that only compute, all operations together, regions of operations in the order of the text, functions as a whole. -/
import Derived.Test.YtmeplhcfjihafaaAwIface
namespace Go.Aw
open Go.RowKit

/-- The function has a body that is entered. -/
def enters (P : Program) (f : FuncId) : Bool := match P.funcs[f]? with
  | some fn => fn.body.isSome && fn.name != "runtime.NumGoroutine"
  | none => false

/-- Called with arguments that stand for args, the function returns a value that stands for r; nothing that was there has turned. -/
def PFn (P : Program) (f : FuncId) (args : List PV) (r : PV) : Prop :=
  enters P f = true ∧ ∀ (w : World) (I : Nat → Prop) (vals : Array Value), vals.size = args.length → (∀ (j : Nat) u p, vals[j]? = some u → args[j]? = some p → rep w I u p) → (∀ g, I g → g < w.heap.size) →
    Calls P f vals w (fun e w' => ∃ v, e = .returned v ∧ Fr w (fun _ => False) w' ∧ rep w' (fun g => I g ∨ (w.heap.size ≤ g ∧ g < w'.heap.size)) v r)

def pure1 : AV → Option PV
  | .p x => some x
  | .ex es => some (.slice es)
  | .vw es _ => some (.slice es)
  | .fn f [] => some (.cst (.func (.func f) #[] #[]))
  | _ => none
def pureL : List AV → Option (List PV)
  | [] => some []
  | x :: l => match pure1 x, pureL l with | some y, some m => some (y :: m) | _, _ => none
def pureA : AV → Option PV
  | .agg cs => match pureL cs with | some ps => some (.agg ps) | none => none
  | x => pure1 x
/-- Elements without addresses. -/
def unlift : List (List AV) → Option (List (List PV))
  | [] => some []
  | e :: r => match pureL e, unlift r with | some p, some l => some (p :: l) | _, _ => none
/-- A row of the call's own that is handed on, to be read from now on; and its label. -/
def frzA (H : Nat → Option Blk) : AV → Option (PV × Nat)
  | .own l => match H l with
    | some (.row _ es) => match unlift es with | some ps => some (.slice ps, l) | none => none
    | _ => none
  | .ptr l i off => match H l with
    | some (.row _ es) => match es[i]? with
      | some e => match pureL e, unlift es with | some ps, some _ => some (.box ps off, l) | _, _ => none
      | none => none
    | _ => none
  | _ => none
def pureArgs (T : Nat → Option AV) (H : Nat → Option Blk) : List Operand → Option (List PV × List (Nat × Option Blk))
  | [] => some ([], [])
  | x :: l => match ev T x with
    | some v => match pureA v with
      | some y => match pureArgs T H l with | some (m, us) => some (y :: m, us) | none => none
      | none => match frzA H v with
        | some (y, lb) => match pureArgs T (upd H lb none) l with | some (m, us) => some (y :: m, (lb, none) :: us) | none => none
        | none => none
    | none => none

section
variable {P : Program} {o : Oper} {a : Act} {w : World} {σ : Lab} {I : Nat → Prop} {T : Nat → Option AV} {H : Nat → Option Blk} {w0 : World} {X I0 : Nat → Prop} {lab : Nat} {k : Eff → Prop}

theorem rep_front {ad : Option Addr} {m c n : Nat} {es more : List (List PV)} (hn : n = es.length) (hm : m = n + more.length) (hc : m ≤ c) (h : rep w I (.slice ad m c) (.slice (es ++ more))) : rep w I (.slice ad n c) (.slice es) := by
  generalize hx : es ++ more = xs at h
  cases h with
  | empty =>
    have : es = [] := (List.append_eq_nil_iff.1 hx).1
    subst this hn
    exact .empty _ _
  | slice b o _ _ sz _ us h1 h2 hs hI ho hcell hrep =>
    subst hx
    have up : ∀ i e, es[i]? = some e → (es ++ more)[i]? = some e := fun i e h => by
      rw [List.getElem?_append_left (List.getElem?_eq_some_iff.1 h).1]; exact h
    exact .slice b o n c sz es us hn (by omega) (fun e he => hs e (List.mem_append_left _ he)) hI (fun e he => ho e (List.mem_append_left _ he)) (fun i e j p q1 q2 => hcell i e j p (up i e q1) q2) fun i e j p q1 q2 => hrep i e j p (up i e q1) q2
theorem rep_pure1 {v : Value} {x : AV} {p : PV} (h : repA σ w I v x) (hp : pure1 x = some p) : rep w I v p := by
  unfold pure1 at hp
  split at hp
  · injection hp with hp; subst hp
    cases h with
    | p h => exact h
  · injection hp with hp; subst hp
    cases h with
    | ex hn h => exact h
  · injection hp with hp; subst hp
    cases h with
    | vw hn hm hc h => exact rep_front hn hm hc h
  · injection hp with hp; subst hp
    cases h with
    | fn f hs hr =>
      have : ∀ (vs : Array Value), vs.size = 0 → vs = #[] := fun vs h => Array.eq_empty_of_size_eq_zero h
      rw [this _ hs]
      exact .cst _
  · cases hp
theorem pureL_spec : ∀ {l : List AV} {m : List PV}, pureL l = some m → l.length = m.length ∧ ∀ (j : Nat) x p, l[j]? = some x → m[j]? = some p → pure1 x = some p := by
  intro l
  induction l with
  | nil => intro m h; simp only [pureL] at h; injection h with h; subst h; exact ⟨rfl, fun j x p h _ => by simp at h⟩
  | cons x l ih =>
    intro m h
    simp only [pureL] at h
    split at h
    · rename_i y m' hy hm
      injection h with h; subst h
      obtain ⟨h1, h2⟩ := ih hm
      refine ⟨by simp [h1], fun j z p q1 q2 => ?_⟩
      rcases j with _ | j
      · simp at q1 q2; subst q1 q2; exact hy
      · exact h2 j z p (by simpa using q1) (by simpa using q2)
    · cases h
theorem rep_pureA {v : Value} {x : AV} {p : PV} (h : repA σ w I v x) (hp : pureA x = some p) : rep w I v p := by
  unfold pureA at hp
  split at hp
  · split at hp
    · rename_i ps hps
      injection hp with hp; subst hp
      obtain ⟨h1, h2⟩ := pureL_spec hps
      cases h with
      | agg hs hr =>
        refine .agg (hs.trans h1) fun j u p q1 q2 => ?_
        have hj := (List.getElem?_eq_some_iff.1 q2).1
        rw [← h1] at hj
        exact rep_pure1 (hr j u _ q1 (List.getElem?_eq_getElem hj)) (h2 j _ p (List.getElem?_eq_getElem hj) q2)
    · cases hp
  · exact rep_pure1 h hp
theorem unlift_spec : ∀ {es : List (List AV)} {ps : List (List PV)}, unlift es = some ps → es.length = ps.length ∧ ∀ (i : Nat) e q, es[i]? = some e → ps[i]? = some q → pureL e = some q := by
  intro es
  induction es with
  | nil => intro ps h; simp only [unlift] at h; injection h with h; subst h; exact ⟨rfl, fun i e q h _ => by simp at h⟩
  | cons x l ih =>
    intro ps h
    simp only [unlift] at h
    split at h
    · rename_i y m' hy hm
      injection h with h; subst h
      obtain ⟨h1, h2⟩ := ih hm
      refine ⟨by simp [h1], fun j z p q1 q2 => ?_⟩
      rcases j with _ | j
      · simp at q1 q2; subst q1 q2; exact hy
      · exact h2 j z p (by simpa using q1) (by simpa using q2)
    · cases h
theorem pure1_one {x : AV} {p : PV} (h : pure1 x = some p) (hx : x.one = true) : p.one = true := by
  unfold pure1 at h
  split at h
  · injection h with h; subst h; exact hx
  · injection h with h; subst h; rfl
  · injection h with h; subst h; rfl
  · injection h with h; subst h; rfl
  · cases h

/-- A row of the call's own, read. -/
theorem rep_own {J : Nat → Prop} {l sz : Nat} {es : List (List AV)} {ps : List (List PV)} {v : Value} (hb : repB σ w I l (.row sz es)) (hv : repA σ w I v (.own l)) (hp : unlift es = some ps) (hg : ∀ g s, σ l = some s → s.block = some g → J g) (hI : ∀ b, I b → J b) : rep w J v (.slice ps) := by
  obtain ⟨hl, hcells⟩ := unlift_spec hp
  cases hb with
  | emp h' =>
    have : ps = [] := List.eq_nil_of_length_eq_zero (by rw [← hl]; rfl)
    subst this
    cases hv with
    | ownE hs => exact .empty _ _
    | own hs => rw [hs] at h'; cases h'
  | row h' hh hcur hc hs ho hr =>
    rename_i g0 c0 cur et
    cases hv with
    | ownE hs' => rw [hs'] at h'; cases h'
    | own hs' =>
      rename_i g n c szz
      rw [hs'] at h'
      injection h' with h'
      injection h' with e1 e2 e3 e4
      subst e1 e2 e3 e4
      have at_ : ∀ (i : Nat) q (j : Nat) p, ps[i]? = some q → q[j]? = some p → ∃ e x, es[i]? = some e ∧ e[j]? = some x ∧ pure1 x = some p := by
        intro i q j p h1 h2
        have hi : i < es.length := by rw [hl]; exact (List.getElem?_eq_some_iff.1 h1).1
        have he := List.getElem?_eq_getElem hi
        obtain ⟨k1, k2⟩ := pureL_spec (hcells i _ q he h1)
        have hj : j < (es[i]).length := by rw [k1]; exact (List.getElem?_eq_some_iff.1 h2).1
        exact ⟨_, _, he, List.getElem?_eq_getElem hj, k2 j _ p (List.getElem?_eq_getElem hj) h2⟩
      refine .slice g 0 _ _ szz ps (fun i j => (w.cell? ⟨g, i * szz + j, none⟩).getD undef) hl (by omega) (fun q hq => ?_) (hg _ _ hs' rfl) (fun q hq p hp' => ?_) (fun i q j p h1 h2 => ?_) (fun i q j p h1 h2 => ?_)
      · obtain ⟨i, hi, rfl⟩ := List.mem_iff_getElem.1 hq
        have hi' : i < es.length := by omega
        rw [← (pureL_spec (hcells i _ _ (List.getElem?_eq_getElem hi') (List.getElem?_eq_getElem hi))).1]
        exact hs _ (List.getElem_mem hi')
      · obtain ⟨i, hi, rfl⟩ := List.mem_iff_getElem.1 hq
        obtain ⟨j, hj, rfl⟩ := List.mem_iff_getElem.1 hp'
        obtain ⟨e, x, q1, q2, q3⟩ := at_ i _ j _ (List.getElem?_eq_getElem hi) (List.getElem?_eq_getElem hj)
        exact pure1_one q3 (ho e (List.mem_of_getElem? q1) x (List.mem_of_getElem? q2))
      · obtain ⟨e, x, q1, q2, q3⟩ := at_ i q j p h1 h2
        obtain ⟨u, hu, hru⟩ := hr i e j x q1 q2
        have : w.cell? ⟨g, i * szz + j, none⟩ = some u := by simp [World.cell?, hh, hu]
        rw [Nat.zero_add, this]
        rfl
      · obtain ⟨e, x, q1, q2, q3⟩ := at_ i q j p h1 h2
        obtain ⟨u, hu, hru⟩ := hr i e j x q1 q2
        have : w.cell? ⟨g, i * szz + j, none⟩ = some u := by simp [World.cell?, hh, hu]
        rw [this]
        exact (rep_pure1 hru q3).mono hI (fun _ _ => rfl)

theorem rep_frz {J : Nat → Prop} (h : HOK σ w I H w0 X I0) {v : Value} {x : AV} {p : PV} {lb : Nat} (hv : repA σ w I v x) (hp : frzA H x = some (p, lb)) (hg : ∀ g s, σ lb = some s → s.block = some g → J g) (hI : ∀ b, I b → J b) : rep w J v p ∧ H lb ≠ none := by
  unfold frzA at hp
  split at hp
  · rename_i l
    split at hp
    · rename_i sz es hH
      split at hp
      · rename_i ps hps
        simp only [Option.some.injEq, Prod.mk.injEq] at hp
        obtain ⟨rfl, rfl⟩ := hp
        exact ⟨rep_own (h.rows l _ hH) hv hps hg hI, by rw [hH]; simp⟩
      · cases hp
    · cases hp
  · rename_i l i off
    split at hp
    · rename_i sz es hH
      split at hp
      · rename_i e he
        split at hp
        · rename_i ps qs hps hqs
          simp only [Option.some.injEq, Prod.mk.injEq] at hp
          obtain ⟨rfl, rfl⟩ := hp
          refine ⟨?_, by rw [hH]; simp⟩
          obtain ⟨k1, k2⟩ := pureL_spec hps
          cases hv with
          | ptr hs =>
            rename_i g n c sz'
            have hb := h.rows l _ hH
            have hb' := hb
            cases hb with
            | emp h' => simp at he
            | row h' hh hcur hc hl ho hr =>
              have hs2 := hs
              rw [hs] at h'
              injection h' with h'
              injection h' with e1 e2 e3 e4
              subst e1 e2 e3 e4
              obtain ⟨_, hcell⟩ := row_cells hb' hs2 i e he
              have at_ : ∀ (j : Nat) p, ps[j]? = some p → ∃ x, e[j]? = some x ∧ pure1 x = some p := by
                intro j p h2
                have hj : j < e.length := by rw [k1]; exact (List.getElem?_eq_some_iff.1 h2).1
                exact ⟨_, List.getElem?_eq_getElem hj, k2 j _ p (List.getElem?_eq_getElem hj) h2⟩
              refine .box g (i * sz') off ps (fun j => (w.cell? ⟨g, i * sz' + j, none⟩).getD undef) (hg _ _ hs2 rfl) (fun p hp' => ?_) (fun j p h2 => ?_) (fun j p h2 => ?_)
              · obtain ⟨j, hj, rfl⟩ := List.mem_iff_getElem.1 hp'
                obtain ⟨x, q2, q3⟩ := at_ j _ (List.getElem?_eq_getElem hj)
                exact pure1_one q3 (ho e (List.mem_of_getElem? he) x (List.mem_of_getElem? q2))
              · obtain ⟨x, q2, q3⟩ := at_ j p h2
                obtain ⟨u, hu, hru⟩ := hcell j x q2
                rw [hu]; rfl
              · obtain ⟨x, q2, q3⟩ := at_ j p h2
                obtain ⟨u, hu, hru⟩ := hcell j x q2
                rw [hu]
                exact (rep_pure1 hru q3).mono hI (fun _ _ => rfl)
        · cases hp
      · cases hp
    · cases hp
  · cases hp

/-- The rows that are handed on are only read from now on. -/
theorem pureArgs_spec (hev : ∀ (I' : Nat → Prop), (∀ b, I b → I' b) → ∀ x v, ev T x = some v → repA σ w I' (a.eval x) v) : ∀ {l : List Operand} {H : Nat → Option Blk} {I1 : Nat → Prop} {m : List PV} {us : List (Nat × Option Blk)}, (∀ b, I b → I1 b) → HOK σ w I1 H w0 X I0 → pureArgs T H l = some (m, us) →
    ∃ I', (∀ b, I1 b → I' b) ∧ HOK σ w I' (putH H us) w0 X I0 ∧ l.length = m.length ∧ ∀ (j : Nat) x p, l[j]? = some x → m[j]? = some p → rep w I' (a.eval x) p := by
  intro l
  induction l with
  | nil =>
    intro H I1 m us hI hh h
    simp only [pureArgs] at h
    simp only [Option.some.injEq, Prod.mk.injEq] at h
    obtain ⟨rfl, rfl⟩ := h
    exact ⟨I1, fun _ h => h, hh, rfl, fun j x p h _ => by simp at h⟩
  | cons x l ih =>
    intro H I1 m us hI hh h
    simp only [pureArgs] at h
    split at h
    · rename_i v hv
      split at h
      · rename_i y hy
        split at h
        · rename_i m' us' hm
          simp only [Option.some.injEq, Prod.mk.injEq] at h
          obtain ⟨rfl, rfl⟩ := h
          obtain ⟨I', h1, h2, h3, h4⟩ := ih hI hh hm
          refine ⟨I', h1, h2, by simp [h3], fun j z p q1 q2 => ?_⟩
          rcases j with _ | j
          · simp at q1 q2; subst q1 q2
            exact rep_pureA (hev I' (fun b hb => h1 b (hI b hb)) x v hv) hy
          · exact h4 j z p (by simpa using q1) (by simpa using q2)
        · cases h
      · split at h
        · rename_i y lb hy
          split at h
          · rename_i m' us' hm
            simp only [Option.some.injEq, Prod.mk.injEq] at h
            obtain ⟨rfl, rfl⟩ := h
            have hvr := hev I1 hI x v hv
            have hn : H lb ≠ none := by
              have := rep_frz (J := fun _ => True) hh hvr hy (fun _ _ _ _ => trivial) (fun _ _ => trivial)
              exact this.2
            obtain ⟨b0, hb0⟩ := Option.ne_none_iff_exists'.1 hn
            obtain ⟨s, hs, hlt⟩ := (hh.rows lb b0 hb0).block
            have key : ∃ I2 : Nat → Prop, (∀ b, I1 b → I2 b) ∧ HOK σ w I2 (upd H lb none) w0 X I0 ∧ ∀ g s', σ lb = some s' → s'.block = some g → I2 g := by
              cases hsb : s.block with
              | none =>
                refine ⟨I1, fun _ h => h, hh.less fun l b hb => ?_, fun g s' q1 q2 => ?_⟩
                · by_cases hl : l = lb
                  · subst hl; rw [upd_same] at hb; cases hb
                  · rwa [upd_ne _ _ hl] at hb
                · rw [hs] at q1; injection q1 with q1; subst q1; rw [hsb] at q2; cases q2
              | some g =>
                refine ⟨_, fun _ h => .inl h, hh.freeze hn hs hsb, fun g' s' q1 q2 => ?_⟩
                rw [hs] at q1; injection q1 with q1; subst q1; rw [hsb] at q2; injection q2 with q2; exact .inr q2.symm
            obtain ⟨I2, k1, k2, k3⟩ := key
            obtain ⟨hr, _⟩ := rep_frz hh hvr hy k3 k1
            obtain ⟨I', h1, h2, h3, h4⟩ := ih (fun b hb => k1 b (hI b hb)) k2 hm
            refine ⟨I', fun b hb => h1 b (k1 b hb), h2, by simp [h3], fun j z p q1 q2 => ?_⟩
            rcases j with _ | j
            · simp at q1 q2; subst q1 q2
              exact hr.mono h1 (fun _ _ => rfl)
            · exact h4 j z p (by simpa using q1) (by simpa using q2)
          · cases h
        · cases h
    · cases h

/-- The caller's memory behind a call that turned nothing. -/
theorem HOK.called (h : HOK σ w I H w0 X I0) {w' : World} (hf : Fr w (fun _ => False) w') : HOK σ w' (fun g => I g ∨ (w.heap.size ≤ g ∧ g < w'.heap.size)) H w0 X I0 ∧ ∀ b, I b → w'.heap[b]? = w.heap[b]? := by
  have old : ∀ b, b < w.heap.size → w'.heap[b]? = w.heap[b]? := fun b hb => hf.block b hb (fun h => h)
  have hI : ∀ b, I b → w'.heap[b]? = w.heap[b]? := fun b hb => old b (h.imm b hb).1
  refine ⟨⟨fun l b hb => ?_, h.inj, fun l g s q1 q2 q3 => ?_, fun g hg => ?_, fun g hg => .inl (h.sub g hg), ⟨hf.os.trans h.fr.os, hf.tape.trans h.fr.tape, hf.output.trans h.fr.output, Nat.le_trans h.fr.size hf.size, fun b hb hx => ?_, h.fr.step fun b cur et p hb hc => hf.shape b cur et p hc⟩⟩, hI⟩
  · obtain ⟨s, hs', hlt⟩ := (h.rows l b hb).block
    refine (h.rows l b hb).mono (fun _ _ h => h) (fun _ h => .inl h) hI (fun g s' q1 q2 => old g ?_)
    rw [hs'] at q1
    injection q1 with q1
    subst q1
    exact hlt g q2
  · obtain ⟨a1, a2⟩ := h.mine l g s q1 q2 q3
    refine ⟨fun hg => ?_, a2⟩
    rcases hg with hg | hg
    · exact a1 hg
    · obtain ⟨b, hb⟩ := Option.ne_none_iff_exists'.1 q1
      obtain ⟨s', hs', hlt⟩ := (h.rows l b hb).block
      rw [q2] at hs'
      injection hs' with hs'
      subst hs'
      have := hlt g q3
      omega
  · have := hf.size
    rcases hg with hg | hg
    · exact ⟨by have := (h.imm g hg).1; omega, (h.imm g hg).2⟩
    · exact ⟨hg.2, .inr (.inr (by have := h.fr.size; omega))⟩
  · rw [old b (by have := h.fr.size; omega)]
    exact h.fr.block b hb hx

def only (l : Nat) (s : Slot) : Lab := fun l' => if l' = l then some s else none
/-- Called with arguments that stand for args, the function hands back a row that nobody else has; nothing that was there has turned. -/
def OFn (P : Program) (f : FuncId) (args : List PV) (sz : Nat) (es : List (List PV)) : Prop :=
  enters P f = true ∧ ∀ (w : World) (I : Nat → Prop) (vals : Array Value), vals.size = args.length → (∀ (j : Nat) u p, vals[j]? = some u → args[j]? = some p → rep w I u p) → (∀ g, I g → g < w.heap.size) →
    Calls P f vals w (fun e w' => ∃ v s, e = .returned v ∧ Fr w (fun _ => False) w' ∧ (∀ g, s.block = some g → w.heap.size ≤ g ∧ g < w'.heap.size) ∧
      repA (only 0 s) w' (fun g => I g ∨ (w.heap.size ≤ g ∧ g < w'.heap.size ∧ s.block ≠ some g)) v (.own 0) ∧
      repB (only 0 s) w' (fun g => I g ∨ (w.heap.size ≤ g ∧ g < w'.heap.size ∧ s.block ≠ some g)) 0 (.row sz (liftE es)))
theorem only_at {l : Nat} {s s' : Slot} (h : only l s l = some s') : s' = s := by
  unfold only at h; rw [if_pos rfl] at h; injection h with h; exact h.symm
theorem own_move {s : Slot} {σ : Lab} {w : World} {J : Nat → Prop} {v : Value} {lab : Nat} (hs : σ lab = some s) (h : repA (only 0 s) w J v (.own 0)) : repA σ w J v (.own lab) := by
  cases h with
  | ownE h => exact .ownE (by rw [hs, only_at h])
  | own h => exact .own (by rw [hs, only_at h])
theorem row_move {s : Slot} {σ : Lab} {w : World} {J : Nat → Prop} {lab sz : Nat} {es : List (List PV)} (hs : σ lab = some s) (h : repB (only 0 s) w J 0 (.row sz (liftE es))) : repB σ w J lab (.row sz (liftE es)) := by
  generalize he : liftE es = ls at h
  cases h with
  | emp h => exact .emp (by rw [hs, only_at h])
  | row h hg hcur hc hsz ho hr =>
    refine .row (by rw [hs, only_at h]) hg hcur hc hsz ho fun i e j x q1 q2 => ?_
    obtain ⟨u, hu, hru⟩ := hr i e j x q1 q2
    refine ⟨u, hu, ?_⟩
    subst he
    simp only [liftE, List.getElem?_map, Option.map_eq_some_iff] at q1
    obtain ⟨e', _, rfl⟩ := q1
    simp only [List.getElem?_map, Option.map_eq_some_iff] at q2
    obtain ⟨p, _, rfl⟩ := q2
    cases hru with
    | p h => exact .p h
def withL (σ : Lab) (lab : Nat) (s : Slot) : Lab := fun l => if l = lab then some s else σ l
theorem withL_at {σ : Lab} {lab : Nat} {s : Slot} : withL σ lab s lab = some s := by unfold withL; rw [if_pos rfl]
theorem withL_ne {σ : Lab} {lab l : Nat} {s : Slot} (h : l ≠ lab) : withL σ lab s l = σ l := by unfold withL; rw [if_neg h]
/-- The caller's memory behind a call that handed back a row. -/
theorem HOK.takes (h : HOK σ w I H w0 X I0) {w' : World} {s : Slot} {sz : Nat} {es : List (List PV)} (hf : Fr w (fun _ => False) w') (hlab : σ lab = none) (hb : ∀ g, s.block = some g → w.heap.size ≤ g ∧ g < w'.heap.size)
    (hr : repB (only 0 s) w' (fun g => I g ∨ (w.heap.size ≤ g ∧ g < w'.heap.size ∧ s.block ≠ some g)) 0 (.row sz (liftE es))) :
    HOK (withL σ lab s) w' (fun g => I g ∨ (w.heap.size ≤ g ∧ g < w'.heap.size ∧ s.block ≠ some g)) (upd H lab (some (.row sz (liftE es)))) w0 X I0 ∧ (∀ l s', σ l = some s' → withL σ lab s l = some s') ∧ ∀ b, I b → w'.heap[b]? = w.heap[b]? := by
  have oldb : ∀ b, b < w.heap.size → w'.heap[b]? = w.heap[b]? := fun b hb => hf.block b hb (fun h => h)
  have hI : ∀ b, I b → w'.heap[b]? = w.heap[b]? := fun b hb => oldb b (h.imm b hb).1
  have ext : ∀ l s', σ l = some s' → withL σ lab s l = some s' := fun l s' hs => by
    have : l ≠ lab := by rintro rfl; rw [hlab] at hs; cases hs
    rw [withL_ne this]; exact hs
  have blk : ∀ l g s', l ≠ lab → upd H lab (some (.row sz (liftE es))) l ≠ none → withL σ lab s l = some s' → s'.block = some g → g < w.heap.size := fun l g s' hl hn hs hg => by
    rw [upd_ne _ _ hl] at hn
    rw [withL_ne hl] at hs
    obtain ⟨b, hb⟩ := Option.ne_none_iff_exists'.1 hn
    obtain ⟨s'', hs'', hlt⟩ := (h.rows l b hb).block
    rw [hs] at hs''; injection hs'' with hs''; subst hs''
    exact hlt g hg
  refine ⟨⟨fun l b hb' => ?_, fun l l' g s1 s2 n1 n2 e1 e2 g1 g2 => ?_, fun l g s' q1 q2 q3 => ?_, fun g hg => ?_, fun g hg => .inl (h.sub g hg), ⟨hf.os.trans h.fr.os, hf.tape.trans h.fr.tape, hf.output.trans h.fr.output, Nat.le_trans h.fr.size hf.size, fun b hb hx => ?_, h.fr.step fun b cur et p hb hc => hf.shape b cur et p hc⟩⟩, ext, hI⟩
  · by_cases hl : l = lab
    · subst hl
      rw [upd_same] at hb'
      injection hb' with hb'
      subst hb'
      exact row_move withL_at hr
    · rw [upd_ne _ _ hl] at hb'
      obtain ⟨s', hs', hlt⟩ := (h.rows l b hb').block
      refine (h.rows l b hb').mono ext (fun _ h => .inl h) hI (fun g s'' q1 q2 => oldb g ?_)
      rw [hs'] at q1; injection q1 with q1; subst q1
      exact hlt g q2
  · by_cases hl : l = lab
    · by_cases hl' : l' = lab
      · rw [hl, hl']
      · subst hl
        rw [withL_at] at e1; injection e1 with e1; subst e1
        have := blk l' g s2 hl' n2 e2 g2
        have := (hb g g1).1
        omega
    · by_cases hl' : l' = lab
      · subst hl'
        rw [withL_at] at e2; injection e2 with e2; subst e2
        have := blk l g s1 hl n1 e1 g1
        have := (hb g g2).1
        omega
      · rw [upd_ne _ _ hl] at n1
        rw [upd_ne _ _ hl'] at n2
        rw [withL_ne hl] at e1
        rw [withL_ne hl'] at e2
        exact h.inj l l' g s1 s2 n1 n2 e1 e2 g1 g2
  · by_cases hl : l = lab
    · subst hl
      rw [withL_at] at q2; injection q2 with q2; subst q2
      have h3 := hb g q3
      refine ⟨fun hg => ?_, .inr (by have := h.fr.size; omega)⟩
      rcases hg with hg | ⟨_, _, hg⟩
      · have := (h.imm g hg).1; omega
      · exact hg q3
    · have hlt := blk l g s' hl q1 q2 q3
      rw [upd_ne _ _ hl] at q1
      rw [withL_ne hl] at q2
      obtain ⟨a1, a2⟩ := h.mine l g s' q1 q2 q3
      refine ⟨fun hg => ?_, a2⟩
      rcases hg with hg | hg
      · exact a1 hg
      · omega
  · have := hf.size
    rcases hg with hg | hg
    · exact ⟨by have := (h.imm g hg).1; omega, (h.imm g hg).2⟩
    · exact ⟨hg.2.1, .inr (.inr (by have := h.fr.size; omega))⟩
  · rw [oldb b (by have := h.fr.size; omega)]
    exact h.fr.block b hb hx


/-! ### What is lent to a call -/
inductive LA where
  | v (x : PV)
  | ptr (i off sz : Nat) (es : List (List PV))
  | map (es : List (PV × PV))
inductive LB where
  | row (sz : Nat) (es : List (List PV))
  | map (es : List (PV × PV))
def liftM (es : List (PV × PV)) : List (PV × AV) := es.map fun e => (e.1, .p e.2)
def LB.blk : LB → Blk
  | .row sz es => .row sz (liftE es)
  | .map es => .map (liftM es)
def LA.av (j : Nat) : LA → AV
  | .v x => .p x
  | .ptr i off _ _ => .ptr j i off
  | .map _ => .map j
def LA.lb : LA → Option LB
  | .v _ => none
  | .ptr _ _ sz es => some (.row sz es)
  | .map es => some (.map es)
def lendH (as : List LA) (j : Nat) : Option Blk := (as[j]?).bind fun a => a.lb.map LB.blk
def outH (bs : List (Option LB)) (j : Nat) : Option Blk := (bs[j]?).bind fun b => b.map LB.blk
def lentX (σ : Lab) (h : Nat → Option Blk) (g : Nat) : Prop := ∃ l s, h l ≠ none ∧ σ l = some s ∧ s.block = some g
/-- Called with arguments of which some are lent, the function returns a value that stands for r; what was lent reads as bs; nothing else has turned. -/
def LFn (P : Program) (f : FuncId) (as : List LA) (bs : List (Option LB)) (r : PV) : Prop :=
  enters P f = true ∧ bs.map Option.isSome = as.map (fun a => a.lb.isSome) ∧ ∀ (w : World) (I : Nat → Prop) (σ : Lab) (vals : Array Value), vals.size = as.length → (∀ l, as.length ≤ l → σ l = none) →
    (∀ (j : Nat) u a, vals[j]? = some u → as[j]? = some a → repA σ w I u (a.av j)) → HOK σ w I (lendH as) w (lentX σ (lendH as)) I →
    Calls P f vals w fun e w' => ∃ v I', e = .returned v ∧ HOK σ w' I' (outH bs) w (lentX σ (lendH as)) I ∧ rep w' I' v r
/-- The operands of a call, some of them lent by the labels ls. -/
def lendP (T : Nat → Option AV) (H : Nat → Option Blk) : List Operand → List LA → List (Option Nat) → Prop
  | [], [], [] => True
  | x :: xs, .v p :: as, none :: ls => (match ev T x with | some v => pureA v = some p | none => False) ∧ lendP T H xs as ls
  | x :: xs, .ptr i off sz es :: as, some l :: ls => ev T x = some (.ptr l i off) ∧ H l = some (.row sz (liftE es)) ∧ lendP T H xs as ls
  | x :: xs, .map es :: as, some l :: ls => ev T x = some (.map l) ∧ H l = some (.map (liftM es)) ∧ lendP T H xs as ls
  | _, _, _ => False
def lendU : List (Option Nat) → List (Option LB) → List (Nat × Option Blk)
  | some l :: ls, some b :: bs => (l, some b.blk) :: lendU ls bs
  | _ :: ls, _ :: bs => lendU ls bs
  | _, _ => []
def apartL : List (Option Nat) → Bool
  | [] => true
  | some l :: ls => !(ls.contains (some l)) && apartL ls
  | none :: ls => apartL ls
theorem apartL_inj : ∀ {ls : List (Option Nat)} {i j l : Nat}, apartL ls = true → ls[i]? = some (some l) → ls[j]? = some (some l) → i = j := by
  intro ls
  induction ls with
  | nil => intro i j l _ h; simp at h
  | cons x ls ih =>
    intro i j l h h1 h2
    have hin : ∀ {q : Nat}, ls[q]? = some (some l) → ls.contains (some l) = true := fun hq => by simpa using List.mem_of_getElem? hq
    cases x with
    | none =>
      cases i with
      | zero => simp at h1
      | succ i =>
        cases j with
        | zero => simp at h2
        | succ j => rw [ih (l := l) (i := i) (j := j) h (by simpa using h1) (by simpa using h2)]
    | some y =>
      simp only [apartL, Bool.and_eq_true] at h
      cases i with
      | zero =>
        simp at h1
        subst h1
        cases j with
        | zero => rfl
        | succ j => rw [hin (q := j) (by simpa using h2)] at h; simp at h
      | succ i =>
        cases j with
        | zero =>
          simp at h2
          subst h2
          rw [hin (q := i) (by simpa using h1)] at h
          simp at h
        | succ j => rw [ih (l := l) (i := i) (j := j) h.2 (by simpa using h1) (by simpa using h2)]
theorem lendP_spec {T : Nat → Option AV} {H : Nat → Option Blk} : ∀ {xs : List Operand} {as : List LA} {ls : List (Option Nat)}, lendP T H xs as ls → xs.length = as.length ∧ ls.length = as.length ∧
    ∀ (j : Nat) x a, xs[j]? = some x → as[j]? = some a → match a with
      | .v p => ls[j]? = some none ∧ ∃ v, ev T x = some v ∧ pureA v = some p
      | .ptr i off sz es => ∃ l, ls[j]? = some (some l) ∧ ev T x = some (.ptr l i off) ∧ H l = some (.row sz (liftE es))
      | .map es => ∃ l, ls[j]? = some (some l) ∧ ev T x = some (.map l) ∧ H l = some (.map (liftM es)) := by
  intro xs
  induction xs with
  | nil =>
    intro as ls h
    cases as with
    | nil => cases ls with
      | nil => exact ⟨rfl, rfl, fun j x a h => by simp at h⟩
      | cons => simp [lendP] at h
    | cons a as => cases a <;> simp [lendP] at h
  | cons x xs ih =>
    intro as ls h
    cases as with
    | nil => simp [lendP] at h
    | cons a as =>
      have step : ∀ {l : Option Nat} {ls' : List (Option Nat)}, ls = l :: ls' → lendP T H xs as ls' → (match a with
          | .v p => l = none ∧ ∃ v, ev T x = some v ∧ pureA v = some p
          | .ptr i off sz es => ∃ q, l = some q ∧ ev T x = some (.ptr q i off) ∧ H q = some (.row sz (liftE es))
          | .map es => ∃ q, l = some q ∧ ev T x = some (.map q) ∧ H q = some (.map (liftM es))) →
          (x :: xs).length = (a :: as).length ∧ ls.length = (a :: as).length ∧
          ∀ (j : Nat) y b, (x :: xs)[j]? = some y → (a :: as)[j]? = some b → match b with
            | .v p => ls[j]? = some none ∧ ∃ v, ev T y = some v ∧ pureA v = some p
            | .ptr i off sz es => ∃ l, ls[j]? = some (some l) ∧ ev T y = some (.ptr l i off) ∧ H l = some (.row sz (liftE es))
            | .map es => ∃ l, ls[j]? = some (some l) ∧ ev T y = some (.map l) ∧ H l = some (.map (liftM es)) := by
        rintro l ls' rfl hl ha
        obtain ⟨h1, h2, h3⟩ := ih hl
        refine ⟨by simp [h1], by simp [h2], fun j y b hy hb => ?_⟩
        cases j with
        | zero =>
          simp at hy hb
          subst hy; subst hb
          cases a with
          | v p => exact ⟨by simp [ha.1], ha.2⟩
          | ptr i off sz es => obtain ⟨q, q1, q2, q3⟩ := ha; exact ⟨q, by simp [q1], q2, q3⟩
          | map es => obtain ⟨q, q1, q2, q3⟩ := ha; exact ⟨q, by simp [q1], q2, q3⟩
        | succ j =>
          have := h3 j y b (by simpa using hy) (by simpa using hb)
          cases b with
          | v p => exact ⟨by simpa using this.1, this.2⟩
          | ptr i off sz es => obtain ⟨q, q1, q2, q3⟩ := this; exact ⟨q, by simpa using q1, q2, q3⟩
          | map es => obtain ⟨q, q1, q2, q3⟩ := this; exact ⟨q, by simpa using q1, q2, q3⟩
      cases ls with
      | nil => cases a <;> simp [lendP] at h
      | cons l ls =>
        cases a with
        | v p =>
          cases l with
          | some l => simp [lendP] at h
          | none =>
            simp only [lendP] at h
            refine step rfl h.2 ⟨rfl, ?_⟩
            have h1 := h.1
            split at h1
            · rename_i v hv; exact ⟨v, hv, h1⟩
            · exact h1.elim
        | ptr i off sz es =>
          cases l with
          | none => simp [lendP] at h
          | some l => simp only [lendP] at h; exact step rfl h.2.2 ⟨l, rfl, h.1, h.2.1⟩
        | map es =>
          cases l with
          | none => simp [lendP] at h
          | some l => simp only [lendP] at h; exact step rfl h.2.2 ⟨l, rfl, h.1, h.2.1⟩
theorem blk_rel {σ σ' : Lab} {w : World} {I : Nat → Prop} {l l' : Nat} {b : LB} (hl : ∀ s, σ l = some s → σ' l' = some s) (h : repB σ w I l b.blk) : repB σ' w I l' b.blk := by
  cases b with
  | row sz es =>
    simp only [LB.blk] at h ⊢
    generalize he : liftE es = ls at h
    cases h with
    | emp h => exact .emp (hl _ h)
    | row h hg hcur hc hsz ho hr =>
      refine .row (hl _ h) hg hcur hc hsz ho fun i e j x q1 q2 => ?_
      obtain ⟨u, hu, hru⟩ := hr i e j x q1 q2
      refine ⟨u, hu, ?_⟩
      subst he
      simp only [liftE, List.getElem?_map, Option.map_eq_some_iff] at q1
      obtain ⟨e', _, rfl⟩ := q1
      simp only [List.getElem?_map, Option.map_eq_some_iff] at q2
      obtain ⟨p, _, rfl⟩ := q2
      cases hru with
      | p h => exact .p h
  | map es =>
    simp only [LB.blk] at h ⊢
    generalize he : liftM es = ls at h
    cases h with
    | map h hg hn hr =>
      refine .map (hl _ h) hg hn fun i m e q1 q2 => ?_
      obtain ⟨r1, r2⟩ := hr i m e q1 q2
      refine ⟨r1, ?_⟩
      subst he
      simp only [liftM, List.getElem?_map, Option.map_eq_some_iff] at q2
      obtain ⟨e', _, rfl⟩ := q2
      generalize m.val = mv at r2 ⊢
      cases r2 with
      | p h => exact .p h
theorem lendU_out : ∀ {ls : List (Option Nat)} {bs : List (Option LB)} {H : Nat → Option Blk} {l : Nat}, (∀ j : Nat, ls[j]? ≠ some (some l)) → putH H (lendU ls bs) l = H l := by
  intro ls
  induction ls with
  | nil => intro bs H l _; cases bs <;> simp [lendU, putH]
  | cons x ls ih =>
    intro bs H l h
    have h' : ∀ j : Nat, ls[j]? ≠ some (some l) := fun j => by have := h (j + 1); simpa using this
    cases bs with
    | nil => cases x <;> simp [lendU, putH]
    | cons b bs =>
      cases x with
      | none => simp only [lendU]; exact ih h'
      | some y =>
        cases b with
        | none => simp only [lendU]; exact ih h'
        | some b =>
          simp only [lendU, putH]
          rw [ih h', upd_ne _ _ (by rintro rfl; exact h 0 rfl)]
theorem lendU_in : ∀ {ls : List (Option Nat)} {bs : List (Option LB)} {H : Nat → Option Blk} {l j : Nat} {b : LB}, apartL ls = true → ls[j]? = some (some l) → bs[j]? = some (some b) → putH H (lendU ls bs) l = some b.blk := by
  intro ls
  induction ls with
  | nil => intro bs H l j b _ h; simp at h
  | cons x ls ih =>
    intro bs H l j b ha h1 h2
    cases bs with
    | nil => simp at h2
    | cons c bs =>
      cases j with
      | zero =>
        simp at h1 h2
        subst h1 h2
        simp only [lendU, putH]
        rw [lendU_out fun q hq => by have := apartL_inj (i := 0) (j := q + 1) (l := l) ha rfl (by simpa using hq); omega]
        exact upd_same _ _ _
      | succ j =>
        have ha' : apartL ls = true := by
          cases x with
          | none => exact ha
          | some y => simp only [apartL, Bool.and_eq_true] at ha; exact ha.2
        have h1' : ls[j]? = some (some l) := by simpa using h1
        have h2' : bs[j]? = some (some b) := by simpa using h2
        cases x with
        | none => simp only [lendU]; exact ih ha' h1' h2'
        | some y => cases c with
          | none => simp only [lendU]; exact ih ha' h1' h2'
          | some c => simp only [lendU, putH]; exact ih ha' h1' h2'

inductive RV where
  | pure (r : PV)
  | own (sz : Nat) (es : List (List PV))
def GFn (P : Program) (f : FuncId) (args : List PV) : RV → Prop
  | .pure r => PFn P f args r
  | .own sz es => OFn P f args sz es
def RV.eff (lab : Nat) (us : List (Nat × Option Blk)) : RV → Eff
  | .pure r => ⟨some (.p r), us⟩
  | .own sz es => ⟨some (.own lab), us ++ [(lab, some (.row sz (liftE es)))]⟩
/-- Where rows or maps are handed on: they are given up to be read, or lent. -/
inductive RW where
  | pure (r : PV)
  | own (sz : Nat) (es : List (List PV))
  | lend (ls : List (Option Nat)) (as : List LA) (bs : List (Option LB)) (r : PV)
def WFn (P : Program) (f : FuncId) (ps : Option (List PV × List (Nat × Option Blk))) (T : Nat → Option AV) (H : Nat → Option Blk) (xs : List Operand) : RW → Prop
  | .pure r => match ps with | some (l, _) => PFn P f l r | none => False
  | .own sz es => match ps with | some (l, _) => OFn P f l sz es | none => False
  | .lend ls as bs r => LFn P f as bs r ∧ apartL ls = true ∧ lendP T H xs as ls
def RW.eff (lab : Nat) (ps : Option (List PV × List (Nat × Option Blk))) : RW → Eff
  | .pure r => match ps with | some (_, us) => ⟨some (.p r), us⟩ | none => ⟨none, []⟩
  | .own sz es => match ps with | some (_, us) => ⟨some (.own lab), us ++ [(lab, some (.row sz (liftE es)))]⟩ | none => ⟨none, []⟩
  | .lend ls _ bs r => ⟨some (.p r), lendU ls bs⟩
def fnOf : Option AV → Option FuncId
  | some (.fn g []) => some g
  | some (.p (.cst (.func (.func g) fs cs))) => if fs.toList = [] ∧ cs.toList = [] then some g else none
  | _ => none
def pcallW (P : Program) (lab : Nat) (f : Option AV) (T : Nat → Option AV) (H : Nat → Option Blk) (xs : List Operand) (k : Eff → Prop) : Prop :=
  match fnOf f with
  | some g => match pureArgs T H xs with
    | some (l, []) => ∃ r, GFn P g l r ∧ k (r.eff lab [])
    | ps => ∃ r, WFn P g ps T H xs r ∧ k (r.eff lab ps)
  | none => False

theorem run_enter {f : FuncId} (hf : enters P f = true) (args : Array Value) (w : World) : (callFunc f args).run P w = .ok (.enter f args) w := by
  unfold enters at hf
  split at hf
  · rename_i fn hfn
    simp only [Bool.and_eq_true, bne_iff_ne, ne_eq] at hf
    have h2 : fn.body.isNone = false := by
      cases hb : fn.body with
      | none => rw [hb] at hf; simp at hf
      | some _ => rfl
    have h3 : ¬ fn.body = none := by intro h; rw [h] at h2; cases h2
    simp [callFunc, hfn, hf.2, h3]
  · cases hf

theorem putH_snoc : ∀ (us : List (Nat × Option Blk)) (H : Nat → Option Blk) (l : Nat) (b : Option Blk), putH H (us ++ [(l, b)]) = upd (putH H us) l b := by
  intro us
  induction us with
  | nil => intro H l b; rfl
  | cons u us ih => intro H l b; obtain ⟨m, c⟩ := u; simp only [List.cons_append, putH]; exact ih _ _ _
/-- The caller's memory behind a call to which some of it was lent. -/
theorem HOK.lent (h : HOK σ w I H w0 X I0) {w' : World} {I' : Nat → Prop} {ls : List (Option Nat)} {as : List LA} {bs : List (Option LB)} {σ' : Lab} (ha : apartL ls = true) (hb : bs.map Option.isSome = as.map (fun a => a.lb.isSome)) (hll : ls.length = as.length)
    (hl : ∀ (j : Nat) a, as[j]? = some a → match a.lb with | none => ls[j]? = some none | some b => ∃ l, ls[j]? = some (some l) ∧ H l = some b.blk)
    (hσ : ∀ j l, ls[j]? = some (some l) → σ' j = σ l) (hh : HOK σ' w' I' (outH bs) w (lentX σ' (lendH as)) I) :
    HOK σ w' I' (putH H (lendU ls bs)) w0 X I0 ∧ ∀ b, I b → w'.heap[b]? = w.heap[b]? := by
  have lab_at : ∀ j l, ls[j]? = some (some l) → ∃ (a : LA) (b b' : LB), as[j]? = some a ∧ a.lb = some b ∧ H l = some b.blk ∧ bs[j]? = some (some b') := fun j l hj => by
    have hja : j < as.length := by rw [← hll]; exact (List.getElem?_eq_some_iff.1 hj).1
    obtain ⟨a, haj⟩ : ∃ a, as[j]? = some a := ⟨_, List.getElem?_eq_getElem hja⟩
    have h1 := hl j a haj
    have h2 := congrArg (fun l => l[j]?) hb
    simp only [List.getElem?_map, haj, Option.map_some] at h2
    cases hlb : a.lb with
    | none => rw [hlb] at h1; simp only at h1; rw [hj] at h1; simp at h1
    | some b =>
      rw [hlb] at h1 h2
      obtain ⟨l', q1, q2⟩ := h1
      rw [hj] at q1
      simp only [Option.some.injEq] at q1
      subst q1
      cases hbj : bs[j]? with
      | none => rw [hbj] at h2; simp at h2
      | some c =>
        rw [hbj] at h2
        cases c with
        | none => simp at h2
        | some b' => exact ⟨a, b, b', haj, hlb, q2, hbj⟩
  have xof : ∀ j l s g, ls[j]? = some (some l) → σ l = some s → s.block = some g → lentX σ' (lendH as) g := fun j l s g hj hs hg => by
    obtain ⟨a, b, b', q1, q2, q3, q4⟩ := lab_at j l hj
    exact ⟨j, s, by simp [lendH, q1, q2], by rw [hσ j l hj]; exact hs, hg⟩
  have ofx : ∀ g, lentX σ' (lendH as) g → ∃ j l s, ls[j]? = some (some l) ∧ H l ≠ none ∧ σ l = some s ∧ s.block = some g := fun g ⟨j, s, q1, q2, q3⟩ => by
    unfold lendH at q1
    cases haj : as[j]? with
    | none => rw [haj] at q1; simp at q1
    | some a =>
      rw [haj] at q1
      have h1 := hl j a haj
      cases hlb : a.lb with
      | none => rw [Option.bind_some, hlb] at q1; simp at q1
      | some b =>
        rw [hlb] at h1
        obtain ⟨l, r1, r2⟩ := h1
        exact ⟨j, l, s, r1, by rw [r2]; simp, by rw [← hσ j l r1]; exact q2, q3⟩
  have notI : ∀ j l s g, ls[j]? = some (some l) → σ l = some s → s.block = some g → ¬ I' g := fun j l s g hj hs hg => by
    obtain ⟨a, b, b', q1, q2, q3, q4⟩ := lab_at j l hj
    exact (hh.mine j g s (by simp [outH, q4]) (by rw [hσ j l hj]; exact hs) hg).1
  have blk : ∀ l g s, H l ≠ none → σ l = some s → s.block = some g → g < w.heap.size := fun l g s hn hs hg => by
    obtain ⟨b, hb⟩ := Option.ne_none_iff_exists'.1 hn
    obtain ⟨s', hs', hlt⟩ := (h.rows l b hb).block
    rw [hs] at hs'; injection hs' with hs'; subst hs'
    exact hlt g hg
  have same : ∀ b, I b → w'.heap[b]? = w.heap[b]? := fun b hb => by
    refine hh.fr.block b (h.imm b hb).1 fun hx => ?_
    obtain ⟨j, l, s, q1, q2, q3, q4⟩ := ofx b hx
    exact (h.mine l b s q2 q3 q4).1 hb
  have key : ∀ l, putH H (lendU ls bs) l ≠ none → H l ≠ none := fun l hn => by
    by_cases hx : ∃ j : Nat, ls[j]? = some (some l)
    · obtain ⟨j, hj⟩ := hx
      obtain ⟨a, b, b', q1, q2, q3, q4⟩ := lab_at j l hj
      rw [q3]; simp
    · rwa [lendU_out fun j hj => hx ⟨j, hj⟩] at hn
  have fresh : ∀ g, I' g → (I g ∨ w.heap.size ≤ g) := fun g hg => by
    rcases (hh.imm g hg).2 with q | q | q
    · exact .inl q
    · obtain ⟨j, l, s, q1, q2, q3, q4⟩ := ofx g q
      exact absurd hg (notI j l s g q1 q3 q4)
    · exact .inr q
  refine ⟨⟨fun l b hb' => ?_, fun l l' g s s' q1 q2 q3 q4 q5 q6 => h.inj l l' g s s' (key l q1) (key l' q2) q3 q4 q5 q6, fun l g s q1 q2 q3 => ?_, fun g hg => ?_, fun g hg => hh.sub g (h.sub g hg), ⟨hh.fr.os.trans h.fr.os, hh.fr.tape.trans h.fr.tape, hh.fr.output.trans h.fr.output, Nat.le_trans h.fr.size hh.fr.size, fun b hb hx => ?_, h.fr.step fun b cur et p hb hc => hh.fr.shape b cur et p hc⟩⟩, same⟩
  · by_cases hx : ∃ j : Nat, ls[j]? = some (some l)
    · obtain ⟨j, hj⟩ := hx
      obtain ⟨a, b0, b', q1, q2, q3, q4⟩ := lab_at j l hj
      rw [lendU_in ha hj q4] at hb'
      injection hb' with hb'
      subst hb'
      have hr := hh.rows j b'.blk (by simp [outH, q4])
      exact blk_rel (fun s hs => by rw [← hσ j l hj]; exact hs) hr
    · rw [lendU_out fun j hj => hx ⟨j, hj⟩] at hb'
      obtain ⟨s, hs, hlt⟩ := (h.rows l b hb').block
      refine (h.rows l b hb').mono (fun _ _ h => h) (fun g hg => hh.sub g hg) same (fun g s' q1 q2 => ?_)
      rw [hs] at q1; injection q1 with q1; subst q1
      refine hh.fr.block g (hlt g q2) fun hx' => ?_
      obtain ⟨j, l2, s2, r1, r2, r3, r4⟩ := ofx g hx'
      have := h.inj l l2 g s s2 (by rw [hb']; simp) r2 hs r3 q2 r4
      subst this
      exact hx ⟨j, r1⟩
  · have hn := key l q1
    obtain ⟨a1, a2⟩ := h.mine l g s hn q2 q3
    refine ⟨fun hg => ?_, a2⟩
    rcases fresh g hg with hg' | hg'
    · exact a1 hg'
    · have := blk l g s hn q2 q3; omega
  · refine ⟨(hh.imm g hg).1, ?_⟩
    rcases fresh g hg with hg' | hg'
    · exact (h.imm g hg').2
    · exact .inr (.inr (by have := h.fr.size; omega))
  · rw [hh.fr.block b (by have := h.fr.size; omega) fun hx' => ?_]
    · exact h.fr.block b hb hx
    · obtain ⟨j, l, s, r1, r2, r3, r4⟩ := ofx b hx'
      rcases (h.mine l b s r2 r3 r4).2 with q | q
      · exact hx q
      · omega
theorem fnOf_spec {σ : Lab} {w : World} {I : Nat → Prop} {v : Value} {x : AV} {g : FuncId} (h : fnOf (some x) = some g) (hr : repA σ w I v x) : v = .func (.func g) #[] #[] := by
  unfold fnOf at h
  split at h
  · rename_i g' hx
    injection hx with hx; subst hx
    injection h with h; subst h
    cases hr with
    | fn _ hs _ => rw [Array.eq_empty_of_size_eq_zero hs]
  · rename_i g' fs cs hx
    injection hx with hx; subst hx
    split at h
    · rename_i hc
      injection h with h; subst h
      have e : ∀ {xs : Array Value}, xs.toList = [] → xs = #[] := fun h => Array.ext' h
      cases hr with
      | p hr =>
      cases hr with
      | cst => rw [e hc.1, e hc.2]
    · cases h
  · cases h
theorem snd_pcall (h : In σ w I T H w0 X I0 a lab) {c : Call} {f : Operand} (ho : o.op = .call c) (hc : c.callee = .value f) (hk : pcallW P lab (ev T f) T H c.args.toList k) : Snd P o a w σ I H w0 X I0 lab k := by
  unfold pcallW at hk
  split at hk
  rotate_left
  · exact hk.elim
  rename_i g hf0
  obtain ⟨fx, hf⟩ : ∃ fx, ev T f = some fx := by
    cases hfe : ev T f with
    | none => rw [hfe] at hf0; simp [fnOf] at hf0
    | some fx => exact ⟨fx, rfl⟩
  rw [hf] at hf0
  have hfx := fnOf_spec hf0 (h.ev hf)
  have hrun : ∀ (hen : enters P g = true), (execOp a.eval o).run P w = .ok (.enter g (c.args.map a.eval)) w := fun hen => by
    simp only [execOp, ho, resolve, hc, hfx, Deferred.ofValue, Sem.run_bind, Sem.run_pure, Result.andThen_ok, invoke, Array.append_empty, Array.empty_append, run_enter hen]
  have main : ∀ l us, pureArgs T H c.args.toList = some (l, us) → ∀ r : RV, GFn P g l r → k (r.eff lab us) → Snd P o a w σ I H w0 X I0 lab k := by
    clear hk
    intro l us hl r hp hk
    obtain ⟨I1, i1, hh1, h1, h2⟩ := pureArgs_spec (a := a) (fun I' hI' x v hx => (h.ev hx).mono (fun _ _ h => h) hI' (fun _ _ => rfl)) (fun _ h => h) h.heap hl
    intro next Q hn
    have hrs : ∀ (j : Nat) u p, (c.args.map a.eval)[j]? = some u → l[j]? = some p → rep w I1 u p := fun j u p q1 q2 => by
      rw [Array.getElem?_map, Option.map_eq_some_iff] at q1
      obtain ⟨x, hx, rfl⟩ := q1
      exact h2 j x p (by simpa using hx) q2
    cases r with
    | pure r =>
      obtain ⟨hen, hp⟩ := hp
      have hargs := hp w I1 (c.args.map a.eval) (by simpa using h1) hrs (fun g hg => (hh1.imm g hg).1)
      unfold Oper.wp
      rw [hrun hen, Oper.upon_enter]
      refine hargs.mono fun e w' he => ?_
      obtain ⟨v, rfl, hfr, hrep⟩ := he
      obtain ⟨c1, c2⟩ := hh1.called hfr
      exact hn _ v w' σ _ hk ⟨c1, fun _ _ h => h, fun _ _ => rfl, fun _ h => .inl (i1 _ h), fun b hb => c2 b (i1 b hb), fun x hx => by injection hx with hx; subst hx; exact .p hrep⟩
    | own sz es =>
      obtain ⟨hen, hp⟩ := hp
      have hargs := hp w I1 (c.args.map a.eval) (by simpa using h1) hrs (fun g hg => (hh1.imm g hg).1)
      unfold Oper.wp
      rw [hrun hen, Oper.upon_enter]
      refine hargs.mono fun e w' he => ?_
      obtain ⟨v, s, rfl, hfr, hb, hra, hrb⟩ := he
      obtain ⟨c1, c2, c3⟩ := hh1.takes hfr h.lab hb hrb
      refine hn _ v w' (withL σ lab s) (fun g => I1 g ∨ (w.heap.size ≤ g ∧ g < w'.heap.size ∧ s.block ≠ some g)) hk ⟨?_, c2, fun l hl => withL_ne hl, fun _ h => .inl (i1 _ h), fun b hb => c3 b (i1 b hb), fun x hx => by injection hx with hx; subst hx; exact own_move withL_at hra⟩
      have e : putH H (RV.eff lab us (.own sz es)).upd = upd (putH H us) lab (some (.row sz (liftE es))) := putH_snoc us H _ _
      rw [e]
      exact c1
  split at hk
  · rename_i l hl
    obtain ⟨r, hp, hk⟩ := hk
    exact main l [] hl r hp hk
  · obtain ⟨r, hp, hk⟩ := hk
    cases r with
    | pure r =>
      simp only [WFn, RW.eff] at hp hk
      split at hp
      · rename_i l us hl
        rw [hl] at hk
        exact main l us hl (.pure r) hp hk
      · exact hp.elim
    | own sz es =>
      simp only [WFn, RW.eff] at hp hk
      split at hp
      · rename_i l us hl
        rw [hl] at hk
        exact main l us hl (.own sz es) hp hk
      · exact hp.elim
    | lend ls as bs r =>
      obtain ⟨⟨hen, hbs, hp⟩, hap, hlp⟩ := hp
      obtain ⟨p1, p2, p3⟩ := lendP_spec hlp
      intro next Q hn
      have arg : ∀ (j : Nat) a0, as[j]? = some a0 → ∃ x, c.args.toList[j]? = some x := fun j a0 hj => ⟨_, List.getElem?_eq_getElem (by rw [p1]; exact (List.getElem?_eq_some_iff.1 hj).1)⟩
      have hl : ∀ (j : Nat) a0, as[j]? = some a0 → match a0.lb with | none => ls[j]? = some none | some b => ∃ l, ls[j]? = some (some l) ∧ H l = some b.blk := fun j a0 hj => by
        obtain ⟨x, hx⟩ := arg j a0 hj
        have := p3 j x a0 hx hj
        cases a0 with
        | v p => exact this.1
        | ptr i off sz es => obtain ⟨l, q1, q2, q3⟩ := this; exact ⟨l, q1, q3⟩
        | map es => obtain ⟨l, q1, q2, q3⟩ := this; exact ⟨l, q1, q3⟩
      obtain ⟨σ', hσ'⟩ : ∃ σ' : Lab, ∀ j, σ' j = (ls[j]?).bind fun x => x.bind σ := ⟨fun j => (ls[j]?).bind fun x => x.bind σ, fun _ => rfl⟩
      have hσ : ∀ j l, ls[j]? = some (some l) → σ' j = σ l := fun j l hj => by rw [hσ', hj]; rfl
      have hlab : ∀ j b, lendH as j = some b → ∃ (l : Nat) (a0 : LA) (b' : LB), as[j]? = some a0 ∧ a0.lb = some b' ∧ b = b'.blk ∧ ls[j]? = some (some l) ∧ H l = some b := fun j b hj => by
        unfold lendH at hj
        obtain ⟨a0, q1, q2⟩ := Option.bind_eq_some_iff.1 hj
        obtain ⟨b', q3, rfl⟩ := Option.map_eq_some_iff.1 q2
        have := hl j a0 q1
        rw [q3] at this
        obtain ⟨l, r1, r2⟩ := this
        exact ⟨l, a0, b', q1, q3, rfl, r1, r2⟩
      have hH : HOK σ' w I (lendH as) w (lentX σ' (lendH as)) I := by
        refine ⟨fun j b hj => ?_, fun j j' g s s' n1 n2 e1 e2 g1 g2 => ?_, fun j g s n1 e1 g1 => ?_, fun g hg => ⟨(h.heap.imm g hg).1, .inl hg⟩, fun _ h => h, Fr.refl _ _⟩
        · obtain ⟨l, a0, b', q1, q2, rfl, q3, q4⟩ := hlab j b hj
          exact blk_rel (fun s hs => by rw [hσ j l q3]; exact hs) (h.heap.rows l _ q4)
        · obtain ⟨b1, hb1⟩ := Option.ne_none_iff_exists'.1 n1
          obtain ⟨b2, hb2⟩ := Option.ne_none_iff_exists'.1 n2
          obtain ⟨l, _, _, _, _, _, q3, q4⟩ := hlab j b1 hb1
          obtain ⟨l', _, _, _, _, _, q3', q4'⟩ := hlab j' b2 hb2
          rw [hσ j l q3] at e1
          rw [hσ j' l' q3'] at e2
          have := h.heap.inj l l' g s s' (by rw [q4]; simp) (by rw [q4']; simp) e1 e2 g1 g2
          subst this
          exact apartL_inj hap q3 q3'
        · obtain ⟨b1, hb1⟩ := Option.ne_none_iff_exists'.1 n1
          obtain ⟨l, _, _, _, _, _, q3, q4⟩ := hlab j b1 hb1
          refine ⟨?_, .inl ⟨j, s, n1, e1, g1⟩⟩
          rw [hσ j l q3] at e1
          exact (h.heap.mine l g s (by rw [q4]; simp) e1 g1).1
      have hargs := hp w I σ' (c.args.map a.eval) (by simpa using p1) (fun l hl => by rw [hσ', List.getElem?_eq_none (by omega)]; rfl) (fun j u a0 q1 q2 => by
        rw [Array.getElem?_map, Option.map_eq_some_iff] at q1
        obtain ⟨x, hx, rfl⟩ := q1
        have := p3 j x a0 (by simpa using hx) q2
        cases a0 with
        | v p =>
          obtain ⟨_, v, hv, hpv⟩ := this
          exact .p (rep_pureA (h.ev hv) hpv)
        | ptr i off sz es =>
          obtain ⟨l, r1, r2, r3⟩ := this
          have hr := h.ev r2
          generalize a.eval x = xv at hr
          cases hr with
          | ptr hs => exact .ptr (by rw [hσ j l r1]; exact hs)
        | map es =>
          obtain ⟨l, r1, r2, r3⟩ := this
          have hr := h.ev r2
          generalize a.eval x = xv at hr
          cases hr with
          | map hs => exact .map (by rw [hσ j l r1]; exact hs)) hH
      unfold Oper.wp
      rw [hrun hen, Oper.upon_enter]
      refine hargs.mono fun e w' he => ?_
      obtain ⟨v, I', rfl, hh, hrep⟩ := he
      obtain ⟨c1, c2⟩ := h.heap.lent hap hbs p2 hl hσ hh
      exact hn _ v w' σ I' hk ⟨c1, fun _ _ h => h, fun _ _ => rfl, fun g hg => hh.sub g hg, c2, fun x hx => by injection hx with hx; subst hx; exact .p hrep⟩

/-! ### All operations -/
def callW (P : Program) (lab : Nat) (c : Call) (T : Nat → Option AV) (H : Nat → Option Blk) (k : Eff → Prop) : Prop :=
  match c.callee with
  | .value f => pcallW P lab (ev T f) T H c.args.toList k
  | .builtin b => match b, c.args.toList, c.argTypes.toList with
    | .len, [x], [t] => lenW P t (ev T x) H k
    | .append, [x, y], [t, tx] => appendW P lab t tx (ev T x) (ev T y) H k
    | .copy, [x, y], [t, _] => copyW P t (ev T x) (ev T y) H k
    | .max, [x, y], _ => minmaxW true (ev T x) (ev T y) k
    | .min, [x, y], _ => minmaxW false (ev T x) (ev T y) k
    | _, _, _ => False
  | _ => False
def opW (P : Program) (lab : Nat) (op : Op) (T : Nat → Option AV) (H : Nat → Option Blk) (k : Eff → Prop) : Prop :=
  match op with
  | .move x | .assign x => moveW (ev T x) k
  | .pick c x y => pickW (ev T c) (ev T x) (ev T y) k
  | .alloc t => allocW P lab t k
  | .box _ x => boxW lab (ev T x) k
  | .build t ps => buildW P t (partsA T ps.toList) k
  | .buildSlice t n ps => buildSliceW P lab t n (partsA T ps.toList) k
  | .load t x => loadW P t (ev T x) H k
  | .store t x y => storeW P t (ev T x) (ev T y) H k
  | .binOp op t x y _ => binOW P T op t x y k
  | .unOp op _ x => unW op (ev T x) k
  | .convert s d x => convertW P s d (ev T x) H k
  | .makeSlice t l c => makeSliceW P lab t (ev T l) (ev T c) k
  | .slice t x lo hi mx => sliceW P t (ev T x) (lo.map (ev T)) (hi.map (ev T)) (mx.map (ev T)) H k
  | .fieldAddr t x f => fieldAddrW P t f (ev T x) k
  | .field t x f => fieldW P t f (ev T x) k
  | .indexAddr t x i => indexAddrW P t (ev T x) (ev T i) H k
  | .index t x i => indexW P t (ev T x) (ev T i) k
  | .extract x i => extractW (ev T x) i k
  | .makeInterface t x => makeIfaceW P t (ev T x) k
  | .nilCheck x => nilCheckW (ev T x) k
  | .typeAssert x _ as ok => assertW P as ok (ev T x) k
  | .call c => callW P lab c T H k
  | _ => False

theorem snd_op (h : In σ w I T H w0 X I0 a lab) (hk : opW P lab o.op T H k) : Snd P o a w σ I H w0 X I0 lab k := by
  unfold opW at hk
  split at hk <;> rename_i ho
  · exact snd_move h (.inl ho) hk
  · exact snd_move h (.inr ho) hk
  · exact snd_pick h ho hk
  · exact snd_alloc h ho hk
  · exact snd_box h ho hk
  · exact snd_build h ho hk
  · exact snd_buildSlice h ho hk
  · exact snd_load h ho hk
  · exact snd_store h ho hk
  · exact snd_binO h ho hk
  · exact snd_un h ho hk
  · exact snd_convert h ho hk
  · exact snd_makeSlice h ho hk
  · exact snd_slice h ho hk
  · exact snd_fieldAddr h ho hk
  · exact snd_field h ho hk
  · exact snd_indexAddr h ho hk
  · exact snd_index h ho hk
  · exact snd_extract h ho hk
  · exact snd_makeIface h ho hk
  · exact snd_nilCheck h ho hk
  · exact snd_assert h ho hk
  · rename_i c
    obtain ⟨cl, cargs, ctys⟩ := c
    unfold callW at hk
    split at hk <;> rename_i hc
    · exact snd_pcall h ho hc hk
    · simp only at hc
      subst hc
      have l1 : ∀ {α : Type} {xs : Array α} {x : α}, xs.toList = [x] → xs = #[x] := fun h => Array.ext' h
      have l2 : ∀ {α : Type} {xs : Array α} {x y : α}, xs.toList = [x, y] → xs = #[x, y] := fun h => Array.ext' h
      split at hk
      · rename_i x t hx ht
        simp only at hx ht
        rw [l1 hx, l1 ht] at ho
        exact snd_len h ho hk
      · rename_i x y t tx hx ht
        simp only at hx ht
        rw [l2 hx, l2 ht] at ho
        exact snd_append h ho hk
      · rename_i x y t tx hx ht
        simp only at hx ht
        rw [l2 hx, l2 ht] at ho
        exact snd_copy h ho hk
      · rename_i x y hx
        simp only at hx
        rw [l2 hx] at ho
        exact snd_max h ho hk
      · rename_i x y hx
        simp only at hx
        rw [l2 hx] at ho
        exact snd_min h ho hk
      · exact hk.elim
    · exact hk.elim
  · exact hk.elim

/-! ### A region in the order of the text -/
def putT (T : Nat → Option AV) (d : Option Tmp) (v : Option AV) : Nat → Option AV :=
  match d with
  | some d => upd T d v
  | none => T
def dstOK (nt : Fm) (o : Oper) : Bool := match o.dst with | some d => decide (d < nt.n) && nt.pin.all (fun p => p != d) | none => true
def guardW (ops : List Oper) (o : Oper) (T : Nat → Option AV) (run skip : Prop) : Prop :=
  match o.guard with
  | none => run
  | some (j, want) => match ((ops[j]?).bind (·.dst)).bind T with
    | some (.p (.bool b)) => if b = want then run else skip
    | _ => False
def seqW (P : Program) (ops : List Oper) (nx : Nat) : List Oper → (Nat → Option AV) → (Nat → Option Blk) → ((Nat → Option AV) → (Nat → Option Blk) → Nat → Prop) → Prop
  | [], T, H, K => K T H nx
  | o :: r, T, H, K => guardW ops o T (opW P nx o.op T H fun e => seqW P ops (nx + 1) r (putT T o.dst e.val) (putH H e.upd) K) (seqW P ops (nx + 1) r (putT T o.dst none) H K)

theorem Match.put {nt : Fm} {σ' : Lab} {I' : Nat → Prop} {w' : World} {H' : Nat → Option Blk} {v : Value} {x : Option AV} (m : Match nt w0 X I0 σ I T H a w) (hd : dstOK nt o = true) (hh : HOK σ' w' I' H' w0 X I0) (he : ∀ l s, σ l = some s → σ' l = some s) (hi : ∀ b, I b → I' b)
    (hs : ∀ b, I b → w'.heap[b]? = w.heap[b]?) (hv : ∀ y, x = some y → repA σ' w' I' v y) : Match nt w0 X I0 σ' I' (putT T o.dst x) H' (a.put o.dst v) w' := by
  have old : ∀ i y, T i = some y → ∃ u, a.tmps[i]? = some u ∧ repA σ' w' I' u y := fun i y hy => by
    obtain ⟨u, hu, hr⟩ := m.tmps i y hy
    exact ⟨u, hu, hr.mono he hi hs⟩
  unfold dstOK at hd
  cases hdst : o.dst with
  | none => exact ⟨m.defers, m.size, m.pins, hh, old⟩
  | some d =>
    rw [hdst] at hd
    simp only [Bool.and_eq_true, decide_eq_true_eq] at hd
    have hlt : d < a.tmps.size := by rw [m.size]; exact hd.1
    refine ⟨m.defers, by simp [Act.put, m.size], fun i hi => ?_, hh, fun i y hy => ?_⟩
    · have : i ≠ d := by simpa using List.all_eq_true.1 hd.2 i hi
      simp only [Act.put]
      rw [Array.getElem?_setIfInBounds_ne (fun h => this h.symm)]
      exact m.pins i hi
    simp only [putT] at hy
    by_cases hi : i = d
    · subst hi
      rw [upd_same] at hy
      exact ⟨v, by simp [Act.put, hlt], hv y hy⟩
    · rw [upd_ne _ _ hi] at hy
      obtain ⟨u, hu, hr⟩ := old i y hy
      exact ⟨u, by simp only [Act.put]; rw [Array.getElem?_setIfInBounds_ne (fun h => hi h.symm)]; exact hu, hr⟩

theorem seq_sound {nt : Fm} {ops : Array Oper} {Q : Exit → Act → World → Prop} {K : (Nat → Option AV) → (Nat → Option Blk) → Nat → Prop} (hd : ops.toList.all (dstOK nt) = true)
    (hK : ∀ T H n σ I a w, Match nt w0 X I0 σ I T H a w → (∀ l, n ≤ l → σ l = none) → K T H n → Q .normal a w) :
    ∀ (r : List Oper) (i nx : Nat) (T : Nat → Option AV) (H : Nat → Option Blk) (σ : Lab) (I : Nat → Prop) (a : Act) (w : World), ops.toList.drop i = r → Match nt w0 X I0 σ I T H a w → (∀ l, nx ≤ l → σ l = none) → seqW P ops.toList nx r T H K → wpOps P ops Q (List.range' i r.length) a w := by
  intro r
  induction r with
  | nil => intro i nx T H σ I a w _ m hn hk; exact hK T H nx σ I a w m hn hk
  | cons o r ih =>
    intro i nx T H σ I a w hr m hn hk
    have hi : ops[i]? = some o := by
      rw [← Array.getElem?_toList, show i = i + 0 from rfl, ← List.getElem?_drop, hr]; rfl
    have hdr : ops.toList.drop (i + 1) = r := by rw [← List.drop_drop, hr]; rfl
    have hdo : dstOK nt o = true := List.all_eq_true.1 hd o (List.mem_of_getElem? (by rw [Array.getElem?_toList]; exact hi))
    rw [List.length_cons, List.range'_succ]
    simp only [wpOps, hi]
    simp only [seqW] at hk
    have run : (opW P nx o.op T H fun e => seqW P ops.toList (nx + 1) r (putT T o.dst e.val) (putH H e.upd) K) → o.wp P a w (wpOps P ops Q (List.range' (i + 1) r.length)) Q := by
      intro hop
      refine snd_op (w0 := w0) (X := X) (I0 := I0) ⟨m.heap, m.tmps, hn nx (Nat.le_refl _)⟩ hop _ _ fun e v w' σ' I' hk' out => ?_
      refine ih (i + 1) (nx + 1) _ _ σ' I' _ w' hdr (m.put hdo out.heap out.ext out.imm out.same out.val) (fun l hl => ?_) hk'
      rw [out.lab l (by omega)]
      exact hn l (by omega)
    have skip : seqW P ops.toList (nx + 1) r (putT T o.dst none) H K → wpOps P ops Q (List.range' (i + 1) r.length) (a.put o.dst undef) w := by
      intro hk'
      exact ih (i + 1) (nx + 1) _ _ σ I _ w hdr (m.put hdo m.heap (fun _ _ h => h) (fun _ h => h) (fun _ _ => rfl) (fun y hy => by cases hy)) (fun l hl => hn l (by omega)) hk'
    unfold guardW at hk
    cases hg : o.guard with
    | none =>
      rw [hg] at hk
      have : Region.wanted o (yielded ops a.tmps) = true := by simp [Region.wanted, hg]
      rw [if_pos this]
      exact .inl (run hk)
    | some jw =>
      obtain ⟨j, want⟩ := jw
      rw [hg] at hk
      simp only at hk
      split at hk
      · rename_i b hb
        obtain ⟨d, hd1, hd2⟩ := Option.bind_eq_some_iff.1 hb
        rw [Array.getElem?_toList] at hd1
        obtain ⟨u, hu, hru⟩ := m.tmps d _ hd2
        have hy : yielded ops a.tmps j = some b := by
          cases hru with
          | p h => cases h; simp [yielded, hd1, hu]
        have hw : Region.wanted o (yielded ops a.tmps) = (b == want) := by
          simp only [Region.wanted, hg, hy]
          cases b <;> cases want <;> rfl
        split at hk
        · rename_i hbw
          rw [hw, if_pos (by simp [hbw])]
          exact .inl (run hk)
        · rename_i hbw
          rw [hw, if_neg (by simp [hbw])]
          exact skip hk
      · exact hk.elim

theorem AW.region {nt : Fm} {id : Nat} {ops : Array Oper} {s : St} {Q : Exit → St → Prop} (hd : ops.toList.all (dstOK nt) = true) (h : seqW P ops.toList s.nx ops.toList s.T s.H fun T H n => Q .normal ⟨T, H, n⟩) : AW P nt (.region id ops false) s Q := by
  intro w0 X I0 a w ⟨σ, I, hn, m⟩
  refine wp_region ?_
  have := seq_sound (P := P) (Q := fun e a' w' => ∃ s', Matches nt w0 X I0 s' a' w' ∧ Q e s') hd (fun T H n σ I a w m hn hq => ⟨⟨T, H, n⟩, ⟨σ, I, hn, m⟩, hq⟩) ops.toList 0 s.nx s.T s.H σ I a w rfl m hn h
  rw [List.range_eq_range']
  simpa using this

/-- A region, and what follows it, which nobody looks into while the region is reckoned. -/
theorem AW.regThen {nt : Fm} {id : Nat} {ops : Array Oper} {y : Code} {s : St} {Q : Exit → St → Prop} (hd : ops.toList.all (dstOK nt) = true)
    (h : ∀ K : St → Prop, (∀ s', AW P nt y s' Q → K s') → seqW P ops.toList s.nx ops.toList s.T s.H fun T H n => K ⟨T, H, n⟩) : AW P nt (.seq (.region id ops false) y) s Q :=
  AW.seq (AW.region hd (h (fun s' => AW P nt y s' Q) fun _ h => h))
/-- A region at the end of a piece. -/
theorem AW.regEnd {nt : Fm} {id : Nat} {ops : Array Oper} {s : St} {Q : Exit → St → Prop} (hd : ops.toList.all (dstOK nt) = true)
    (h : ∀ K : St → Prop, (∀ s', Q .normal s' → K s') → seqW P ops.toList s.nx ops.toList s.T s.H fun T H n => K ⟨T, H, n⟩) : AW P nt (.region id ops false) s Q :=
  AW.region hd (h (fun s' => Q .normal s') fun _ h => h)
/-- A test, and what follows either way. -/
theorem AW.cond {nt : Fm} {c : Operand} {x y : Code} {s : St} {Q : Exit → St → Prop} (b : Bool) (hb : ev s.T c = some (.p (.bool b))) (ht : b = true → AW P nt x s Q) (hf : b = false → AW P nt y s Q) : AW P nt (.cond c x y) s Q := by
  intro w0 X I0 a w m
  obtain ⟨σ, I, hn, mm⟩ := m
  have hc := In.ev (lab := s.nx) ⟨mm.heap, mm.tmps, hn _ (Nat.le_refl _)⟩ hb
  generalize hcv : a.eval c = cv at hc
  cases hc with
  | p hc =>
  cases hc with
  | bool =>
  refine wp_cond hcv ?_
  cases b with
  | true => rw [if_pos rfl]; exact ht rfl w0 X I0 a w ⟨σ, I, hn, mm⟩
  | false => rw [if_neg (by simp)]; exact hf rfl w0 X I0 a w ⟨σ, I, hn, mm⟩

/-! ### A function as a whole -/
/-- The arguments, each in its place. -/
def argsT : List PV → Nat → Nat → Option AV
  | [], _ => fun _ => none
  | x :: l, i => upd (argsT l (i + 1)) i (some (.p x))
theorem argsT_some : ∀ {l : List PV} {i j : Nat} {x : AV}, argsT l i j = some x → ∃ p, x = .p p ∧ i ≤ j ∧ l[j - i]? = some p := by
  intro l
  induction l with
  | nil => intro i j x h; cases h
  | cons y l ih =>
    intro i j x h
    simp only [argsT] at h
    by_cases hj : j = i
    · subst hj
      rw [upd_same] at h
      injection h with h
      subst h
      exact ⟨y, rfl, Nat.le_refl _, by simp⟩
    · rw [upd_ne _ _ hj] at h
      obtain ⟨p, h1, h2, h3⟩ := ih h
      refine ⟨p, h1, by omega, ?_⟩
      rw [show j - i = (j - (i + 1)) + 1 by omega, List.getElem?_cons_succ]
      exact h3

/-- What a variable in memory holds. -/
def cellV (P : Program) (H : Nat → Option Blk) (x : Option AV) (t : TypeId) : Option PV :=
  match x with
  | some (.ptr l i off) => match H l with
    | some (.row _ es) => match es[i]? with
      | some e => match tagg P t with
        | some true => match tsize P t with
          | some n => if off + n ≤ e.length then (match pureL ((e.drop off).take n) with | some ps => some (.agg ps) | none => none) else none
          | none => none
        | some false => match e[off]? with
          | some y => pure1 y
          | none => none
        | none => none
      | none => none
    | _ => none
  | _ => none
theorem cell_run (h : In σ w I T H w0 X I0 a lab) {x : Operand} {t : TypeId} {p : PV} (hp : cellV P H (ev T x) t = some p) : ∃ ad v, a.eval x = .pointer (some ad) ∧ (loadVar t ad).run P w = .ok v w ∧ rep w I v p := by
  unfold cellV at hp
  split at hp
  · rename_i l i off hx
    split at hp
    · rename_i sz es hH
      split at hp
      · rename_i e he
        split at hp
        · rename_i ht
          split at hp
          · rename_i n hn
            split at hp
            · rename_i hle
              split at hp
              · rename_i ps hps
                injection hp with hp; subst hp
                obtain ⟨ad, v, y, h1, h2, h3, h4⟩ := load_run (P := P) (k := fun e' => e' = ⟨some (mkAgg ((e.drop off).take n)), []⟩) h (t := t) (x := x) (by simp only [loadW, hx, hH, he, loadA, ht, hn]; exact ⟨hle, trivial⟩)
                refine ⟨ad, v, h1, h2, ?_⟩
                simp only [Eff.mk.injEq, Option.some.injEq, and_true] at h4
                subst h4
                refine rep_pureA h3 ?_
                unfold mkAgg
                cases hall : allP ((e.drop off).take n) with
                | none => simp only [pureA, hps]
                | some qs =>
                  have := allP_map hall
                  rw [this] at hps
                  have : pureL (qs.map AV.p) = some qs := by
                    clear hps this hall
                    induction qs with
                    | nil => rfl
                    | cons q qs ih => rw [List.map_cons, pureL, ih]; rfl
                  rw [this] at hps
                  injection hps with hps
                  subst hps
                  rfl
              · cases hp
            · cases hp
          · cases hp
        · rename_i ht
          split at hp
          · rename_i y hy
            obtain ⟨ad, v, y', h1, h2, h3, h4⟩ := load_run (P := P) (k := fun e' => e' = ⟨some y, []⟩) h (t := t) (x := x) (by simp only [loadW, hx, hH, he, loadA, ht, hy])
            refine ⟨ad, v, h1, h2, ?_⟩
            simp only [Eff.mk.injEq, Option.some.injEq, and_true] at h4
            subst h4
            exact rep_pure1 h3 hp
          · cases hp
        · cases hp
      · cases hp
    · cases hp
  · cases hp

/-- What the function's results are in the state s. -/
def resW (P : Program) (s : St) : List ResultVar → Option (List PV)
  | [] => some []
  | .tmp t :: r => match s.T t with
    | some v => match pureA v with
      | some x => match resW P s r with | some l => some (x :: l) | none => none
      | none => match frzA s.H v with
        | some (x, _) => match resW P s r with | some l => some (x :: l) | none => none
        | none => none
    | none => none
  | .cell t ty :: r => match cellV P s.H (s.T t) ty, resW P s r with
    | some x, some l => some (x :: l)
    | _, _ => none
def oneOr : List PV → PV
  | [x] => x
  | l => .tuple l

theorem run_results {nt : Fm} {σ : Lab} {I J : Nat → Prop} {s : St} {a : Act} {w : World} (m : Match nt w0 X I0 σ I s.T s.H a w) (hI : ∀ b, I b → J b) (hJ : ∀ l g sl, s.H l ≠ none → σ l = some sl → sl.block = some g → J g) (hlab : σ s.nx = none) (f : ResultVar → Sem Value) (hf : ∀ t, f (.tmp t) = pure (a.tmps.getD t undef)) (hf' : ∀ t ty, f (.cell t ty) = (do loadVar ty (← asAddr (a.tmps.getD t undef)))) : ∀ (rs : List ResultVar) (l : List PV), resW P s rs = some l → ∃ vs : List Value, (rs.mapM f).run P w = .ok vs w ∧ vs.length = l.length ∧ ∀ (j : Nat) u p, vs[j]? = some u → l[j]? = some p → rep w J u p := by
  intro rs
  induction rs with
  | nil => intro l h; simp only [resW] at h; injection h with h; subst h; exact ⟨[], rfl, rfl, fun j u p h _ => by simp at h⟩
  | cons r rs ih =>
    intro l h
    cases r with
    | cell t ty =>
      simp only [resW] at h
      split at h
      · rename_i x l' hx hl
        injection h with h
        subst h
        obtain ⟨ad, v, q1, q2, q3⟩ := cell_run (lab := s.nx) ⟨m.heap, m.tmps, hlab⟩ (x := .tmp t) hx
        obtain ⟨vs, h1, h2, h3⟩ := ih l' hl
        refine ⟨v :: vs, ?_, by simp [h2], fun j u p r1 r2 => ?_⟩
        · have q1' : a.tmps.getD t undef = .pointer (some ad) := q1
          rw [List.mapM_cons, hf', q1']
          simp [asAddr, q2, h1]
        · rcases j with _ | j
          · simp at r1 r2; subst r1 r2; exact q3.mono hI (fun _ _ => rfl)
          · exact h3 j u p (by simpa using r1) (by simpa using r2)
      · cases h
    | tmp t =>
      have fin : ∀ x l' u, resW P s rs = some l' → a.tmps[t]? = some u → rep w J u x → l = x :: l' → ∃ vs : List Value, ((ResultVar.tmp t :: rs).mapM f).run P w = .ok vs w ∧ vs.length = l.length ∧ ∀ (j : Nat) u p, vs[j]? = some u → l[j]? = some p → rep w J u p := by
        rintro x l' u hl hu hx rfl
        obtain ⟨vs, h1, h2, h3⟩ := ih l' hl
        refine ⟨u :: vs, ?_, by simp [h2], fun j v p q1 q2 => ?_⟩
        · rw [List.mapM_cons, hf]
          simp [h1, hu]
        · rcases j with _ | j
          · simp at q1 q2; subst q1 q2; exact hx
          · exact h3 j v p (by simpa using q1) (by simpa using q2)
      simp only [resW] at h
      split at h
      · rename_i xv hxv
        obtain ⟨u, hu, hru⟩ := m.tmps t xv hxv
        split at h
        · rename_i x hxp
          split at h
          · rename_i l' hl
            injection h with h
            exact fin x l' u hl hu ((rep_pureA hru hxp).mono hI (fun _ _ => rfl)) h.symm
          · cases h
        · split at h
          · rename_i x lb hxp
            split at h
            · rename_i l' hl
              injection h with h
              have hn := (rep_frz (J := fun _ => True) m.heap hru hxp (fun _ _ _ _ => trivial) (fun _ _ => trivial)).2
              exact fin x l' u hl hu (rep_frz m.heap hru hxp (fun g sl q1 q2 => hJ lb g sl hn q1 q2) hI).1 h.symm
            · cases h
          · cases h
      · cases h

def resF (tmps : Array Value) : ResultVar → Sem Value
  | .tmp t => pure (tmps.getD t undef)
  | .cell a t => do loadVar t (← asAddr (tmps.getD a undef))
theorem results_eq (fn : Func) (tmps : Array Value) : results fn tmps = (do let vs ← fn.results.mapM (resF tmps); pure (if h : vs.size = 1 then vs[0] else .tuple vs)) := by
  unfold results
  congr 1

/-- What must hold where the body ends. -/
def EndW (P : Program) (rs : Array ResultVar) (r : PV) : Exit → St → Prop
  | .normal, s | .ret, s => (resW P s rs.toList).map oneOr = some r
  | _, _ => False

theorem PFn.of {f : FuncId} {fn : Func} {c : Code} {args : List PV} {r : PV} (hf : P.funcs[f]? = some fn) (hb : fn.body = some c) (hn : fn.name ≠ "runtime.NumGoroutine") {nt : Nat} (hnt : fn.ntmps = nt) {rs : Array ResultVar} (hrs : fn.results = rs) (hnt' : args.length ≤ nt)
    (h : AW P (fm nt) c ⟨argsT args 0, fun _ => none, 0⟩ (EndW P rs r)) : PFn P f args r := by
  subst hnt hrs
  refine ⟨by simp [enters, hf, hb, hn], fun w I vals hs hr hI => ?_⟩
  refine calls_of_wp hf hb ?_
  have m : Matches (fm fn.ntmps) w (fun _ => False) I ⟨argsT args 0, fun _ => none, 0⟩ { tmps := vals ++ Array.replicate (fn.ntmps - vals.size) undef, defers := [] } w := by
    refine ⟨fun _ => none, I, fun _ _ => rfl, rfl, (by simp; omega), (fun i hi => by cases hi), ⟨(fun l b h => by cases h), fun l l' g s s' h => absurd rfl h, fun l g s h => absurd rfl h, fun g hg => ⟨hI g hg, .inl hg⟩, fun _ h => h, Fr.refl _ _⟩, fun i x hx => ?_⟩
    obtain ⟨p, rfl, h0, hp⟩ := argsT_some hx
    rw [Nat.sub_zero] at hp
    have hi : i < vals.size := by rw [hs]; exact (List.getElem?_eq_some_iff.1 hp).1
    exact ⟨vals[i], by rw [Array.getElem?_append_left hi, Array.getElem?_eq_getElem hi], .p (hr i _ p (Array.getElem?_eq_getElem hi) hp)⟩
  refine wp_mono (h w _ I _ w m) ?_
  rintro e a' w' ⟨s', ⟨σ', I', hn', m'⟩, q⟩
  have fin : (resW P s' fn.results.toList).map oneOr = some r → a'.defers = [] ∧ ∃ v, (results fn a'.tmps).run P w' = .ok v w' ∧ ∃ v', Ending.returned v = .returned v' ∧ Fr w (fun _ => False) w' ∧ rep w' (fun g => I g ∨ (w.heap.size ≤ g ∧ g < w'.heap.size)) v' r := by
    intro q
    obtain ⟨l, hl, rfl⟩ := Option.map_eq_some_iff.1 q
    have hI' : ∀ g, I' g → (I g ∨ (w.heap.size ≤ g ∧ g < w'.heap.size)) := fun g hg => by
      obtain ⟨q1, q2⟩ := m'.heap.imm g hg
      rcases q2 with q2 | q2 | q2
      · exact .inl q2
      · exact q2.elim
      · exact .inr ⟨q2, q1⟩
    obtain ⟨vs, h1, h2, h3⟩ := run_results m' (J := fun g => I g ∨ (w.heap.size ≤ g ∧ g < w'.heap.size)) hI' (fun lb g sl q1 q2 q3 => by
      obtain ⟨_, q5⟩ := m'.heap.mine lb g sl q1 q2 q3
      obtain ⟨b, hb⟩ := Option.ne_none_iff_exists'.1 q1
      obtain ⟨s'', hs'', hlt⟩ := (m'.heap.rows lb b hb).block
      rw [q2] at hs''
      injection hs'' with hs''
      subst hs''
      rcases q5 with q5 | q5
      · exact q5.elim
      · exact .inr ⟨q5, hlt g q3⟩) (hn' _ (Nat.le_refl _)) (resF a'.tmps) (fun t => rfl) (fun t ty => rfl) fn.results.toList l hl
    have hrun : (results fn a'.tmps).run P w' = .ok (if h : vs.length = 1 then vs[0] else .tuple vs.toArray) w' := by
      rw [results_eq, show fn.results = fn.results.toList.toArray by simp, List.mapM_toArray]
      simp only [Sem.run_bind, Sem.run_map, h1, Result.andThen_ok, Sem.run_pure, List.size_toArray, List.getElem_toArray]
    refine ⟨m'.defers, _, hrun, _, rfl, m'.heap.fr, ?_⟩
    by_cases h4 : vs.length = 1
    · rw [dif_pos h4]
      obtain ⟨p, rfl⟩ : ∃ p, l = [p] := List.length_eq_one_iff.1 (by omega)
      exact h3 0 _ p (List.getElem?_eq_getElem (by omega)) rfl
    · rw [dif_neg h4]
      have : oneOr l = .tuple l := by
        unfold oneOr
        split
        · exact absurd h2 h4
        · rfl
      rw [this]
      exact .tuple (by simpa using h2) (fun j u p q1 q2 => h3 j u p (by simpa using q1) q2)
  cases e with
  | normal => exact fin q
  | ret => exact fin q
  | exit _ => exact q.elim
  | goto _ => exact q.elim
  | panic _ => exact q.elim
  | outgrown => exact q.elim
end
end Go.Aw
