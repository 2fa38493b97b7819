/- States told by lists; steps that turn nothing but the telling: places forgotten, labels renamed, rows that are only read from now on. -/
import Derived.Test.YtmeplhcfjihafaaAwDraw3
namespace Go.Aw
open Go.RowKit

def ofL : List (Nat × AV) → Nat → Option AV
  | [], _ => none
  | (j, v) :: r, i => if i = j then some v else ofL r i
def ofH : List (Nat × Blk) → Nat → Option Blk
  | [], _ => none
  | (j, v) :: r, i => if i = j then some v else ofH r i
theorem ofL_mem {l : List (Nat × AV)} {i : Nat} {v : AV} (h : ofL l i = some v) : (i, v) ∈ l := by
  induction l with
  | nil => cases h
  | cons x r ih =>
    obtain ⟨j, u⟩ := x
    simp only [ofL] at h
    split at h
    · rename_i e
      injection h with h
      subst e h
      exact List.mem_cons_self ..
    · exact List.mem_cons_of_mem _ (ih h)
theorem ofH_mem {l : List (Nat × Blk)} {i : Nat} {v : Blk} (h : ofH l i = some v) : (i, v) ∈ l := by
  induction l with
  | nil => cases h
  | cons x r ih =>
    obtain ⟨j, u⟩ := x
    simp only [ofH] at h
    split at h
    · rename_i e
      injection h with h
      subst e h
      exact List.mem_cons_self ..
    · exact List.mem_cons_of_mem _ (ih h)

mutual
def AV.ren (ρ : Nat → Nat) : AV → AV
  | .p x => .p x
  | .ex es => .ex es
  | .own l => .own (ρ l)
  | .cut l lo n => .cut (ρ l) lo n
  | .vw es more => .vw es more
  | .ptr l i off => .ptr (ρ l) i off
  | .map l => .map (ρ l)
  | .it l => .it (ρ l)
  | .agg cs => .agg (renL ρ cs)
  | .tuple cs => .tuple (renL ρ cs)
  | .iface t x => .iface t (x.ren ρ)
  | .fn f cs => .fn f (renL ρ cs)
def renL (ρ : Nat → Nat) : List AV → List AV
  | [] => []
  | x :: l => x.ren ρ :: renL ρ l
end
mutual
def AV.labsIn (n : Nat) : AV → Bool
  | .p _ | .ex _ | .vw _ _ => true
  | .own l | .cut l _ _ | .ptr l _ _ | .map l | .it l => decide (l < n)
  | .agg cs | .tuple cs | .fn _ cs => labsInL n cs
  | .iface _ x => x.labsIn n
def labsInL (n : Nat) : List AV → Bool
  | [] => true
  | x :: l => x.labsIn n && labsInL n l
end
theorem renL_get (ρ : Nat → Nat) (l : List AV) (j : Nat) : (renL ρ l)[j]? = (l[j]?).map (·.ren ρ) := by
  induction l generalizing j with
  | nil => simp [renL]
  | cons x l ih => cases j with
    | zero => simp [renL]
    | succ j => simp [renL, ih]
theorem renL_length (ρ : Nat → Nat) (l : List AV) : (renL ρ l).length = l.length := by
  induction l with
  | nil => rfl
  | cons x l ih => simp [renL, ih]
theorem labsInL_mem {n : Nat} {l : List AV} (h : labsInL n l = true) {x : AV} (hx : x ∈ l) : x.labsIn n = true := by
  induction l with
  | nil => cases hx
  | cons y l ih =>
    simp only [labsInL, Bool.and_eq_true] at h
    rcases List.mem_cons.1 hx with rfl | hx
    · exact h.1
    · exact ih h.2 hx
theorem renL_p (ρ : Nat → Nat) (ps : List PV) : renL ρ (ps.map AV.p) = ps.map AV.p := by
  induction ps with
  | nil => rfl
  | cons x l ih => simp [renL, ih, AV.ren]
theorem labsInL_p (n : Nat) (ps : List PV) : labsInL n (ps.map AV.p) = true := by
  induction ps with
  | nil => rfl
  | cons x l ih => simp [labsInL, ih, AV.labsIn]

def relab (ρ : Nat → Nat) (n : Nat) (σ : Lab) : Lab := fun l => if l < n then σ (ρ l) else none

theorem repA_ren {σ : Lab} {w : World} {I : Nat → Prop} {ρ : Nat → Nat} {n : Nat} {u : Value} {y : AV} (h : repA σ w I u y) : ∀ x : AV, y = x.ren ρ → x.labsIn n = true → repA (relab ρ n σ) w I u x := by
  have lab : ∀ {l : Nat} {s : Slot}, decide (l < n) = true → σ (ρ l) = some s → relab ρ n σ l = some s := fun hl hs => by
    unfold relab
    rw [if_pos (of_decide_eq_true hl)]
    exact hs
  induction h with
  | p h => intro x hx hb; cases x <;> simp only [AV.ren, reduceCtorEq, AV.p.injEq] at hx; subst hx; exact .p h
  | ex hn h => intro x hx hb; cases x <;> simp only [AV.ren, reduceCtorEq, AV.ex.injEq] at hx; subst hx; exact .ex hn h
  | ownE h => intro x hx hb; cases x <;> simp only [AV.ren, reduceCtorEq, AV.own.injEq] at hx; subst hx; exact .ownE (lab hb h)
  | own h => intro x hx hb; cases x <;> simp only [AV.ren, reduceCtorEq, AV.own.injEq] at hx; subst hx; exact .own (lab hb h)
  | cut h hm hc => intro x hx hb; cases x <;> simp only [AV.ren, reduceCtorEq, AV.cut.injEq] at hx; obtain ⟨rfl, rfl, rfl⟩ := hx; exact .cut (lab hb h) hm hc
  | vw hn hm hc h => intro x hx hb; cases x <;> simp only [AV.ren, reduceCtorEq, AV.vw.injEq] at hx; obtain ⟨rfl, rfl⟩ := hx; exact .vw hn hm hc h
  | ptr h => intro x hx hb; cases x <;> simp only [AV.ren, reduceCtorEq, AV.ptr.injEq] at hx; obtain ⟨rfl, rfl, rfl⟩ := hx; exact .ptr (lab hb h)
  | map h => intro x hx hb; cases x <;> simp only [AV.ren, reduceCtorEq, AV.map.injEq] at hx; subst hx; exact .map (lab hb h)
  | it h => intro x hx hb; cases x <;> simp only [AV.ren, reduceCtorEq, AV.it.injEq] at hx; subst hx; exact .it (lab hb h)
  | agg hs hr ih =>
    intro x hx hb; cases x <;> simp only [AV.ren, reduceCtorEq, AV.agg.injEq] at hx
    subst hx
    refine .agg (by rw [hs, renL_length]) fun j u p h1 h2 => ?_
    exact ih j u _ h1 (by rw [renL_get, h2]; rfl) p rfl (labsInL_mem hb (List.mem_of_getElem? h2))
  | tuple hs hr ih =>
    intro x hx hb; cases x <;> simp only [AV.ren, reduceCtorEq, AV.tuple.injEq] at hx
    subst hx
    refine .tuple (by rw [hs, renL_length]) fun j u p h1 h2 => ?_
    exact ih j u _ h1 (by rw [renL_get, h2]; rfl) p rfl (labsInL_mem hb (List.mem_of_getElem? h2))
  | iface t h ih =>
    intro x hx hb; cases x <;> simp only [AV.ren, reduceCtorEq, AV.iface.injEq] at hx
    obtain ⟨rfl, hx⟩ := hx
    exact .iface _ (ih _ hx hb)
  | fn f hs hr ih =>
    intro x hx hb; cases x <;> simp only [AV.ren, reduceCtorEq, AV.fn.injEq] at hx
    obtain ⟨rfl, hx⟩ := hx
    subst hx
    refine .fn _ (by rw [hs, renL_length]) fun j u p h1 h2 => ?_
    exact ih j u _ h1 (by rw [renL_get, h2]; rfl) p rfl (labsInL_mem hb (List.mem_of_getElem? h2))

def Blk.ren (ρ : Nat → Nat) : Blk → Blk
  | .row sz es => .row sz (es.map (renL ρ))
  | .map es => .map (es.map fun e => (e.1, e.2.ren ρ))
  | .iter s pos => .iter s pos
def Blk.labsIn (n : Nat) : Blk → Bool
  | .row _ es => es.all (labsInL n)
  | .map es => es.all fun e => e.2.labsIn n
  | .iter _ _ => true
theorem map_renL_lift (ρ : Nat → Nat) (ps : List (List PV)) : (liftE ps).map (renL ρ) = liftE ps := by
  simp [liftE, renL_p]
theorem labsIn_lift (n : Nat) (ps : List (List PV)) : (liftE ps).all (labsInL n) = true := by
  simp [liftE, labsInL_p]

theorem AV.one_ren (ρ : Nat → Nat) (x : AV) : (x.ren ρ).one = x.one := by cases x <;> rfl

theorem repB_ren {σ : Lab} {w : World} {I : Nat → Prop} {ρ : Nat → Nat} {n l : Nat} {b : Blk} (hl : l < n) (h : repB σ w I (ρ l) (b.ren ρ)) (hb : b.labsIn n = true) : repB (relab ρ n σ) w I l b := by
  have lab : ∀ {s : Slot}, σ (ρ l) = some s → relab ρ n σ l = some s := fun hs => by
    unfold relab
    rw [if_pos hl]
    exact hs
  cases b with
  | row sz es =>
    simp only [Blk.ren] at h
    generalize hes : es.map (renL ρ) = fs at h
    cases h with
    | emp h => 
      have : es = [] := by simpa using hes
      subst this
      exact .emp (lab h)
    | row h hg hcur hc hs ho hr =>
      subst hes
      rw [List.length_map] at h hc
      refine .row (lab h) hg hcur hc (fun e he => by rw [← renL_length ρ e]; exact hs _ (List.mem_map.2 ⟨e, he, rfl⟩)) (fun e he x hx => ?_) fun i e j x h1 h2 => ?_
      · obtain ⟨j, hj, rfl⟩ := List.mem_iff_getElem.1 hx
        rw [← AV.one_ren ρ]
        refine ho _ (List.mem_map.2 ⟨e, he, rfl⟩) _ (List.mem_of_getElem? (i := j) ?_)
        rw [renL_get, List.getElem?_eq_getElem hj]
        rfl
      · obtain ⟨u, hu, hru⟩ := hr i (renL ρ e) j (x.ren ρ) (by rw [List.getElem?_map, h1]; rfl) (by rw [renL_get, h2]; rfl)
        exact ⟨u, hu, repA_ren hru x rfl (labsInL_mem (List.all_eq_true.1 hb e (List.mem_of_getElem? h1)) (List.mem_of_getElem? h2))⟩
  | map es =>
    simp only [Blk.ren] at h
    cases h with
    | map h hg hn hr =>
      rw [List.length_map] at hn
      refine .map (lab h) hg hn fun i m e h1 h2 => ?_
      obtain ⟨q1, q2⟩ := hr i m (e.1, e.2.ren ρ) h1 (by rw [List.getElem?_map, h2]; rfl)
      exact ⟨q1, repA_ren q2 e.2 rfl (List.all_eq_true.1 hb e (List.mem_of_getElem? h2))⟩
  | iter s pos =>
    cases h with
    | iter h hg => exact .iter (lab h) hg

section
variable {nt : Fm} {s : St}
/-- A state told anew: fewer places, labels renamed. -/
theorem Ghost.ent (ρ : Nat → Nat) {l : List (Nat × AV)} {h : List (Nat × Blk)} {n : Nat} (ht : ∀ x ∈ l, s.T x.1 = some (x.2.ren ρ) ∧ x.2.labsIn n = true) (hh : ∀ x ∈ h, s.H (ρ x.1) = some (x.2.ren ρ) ∧ x.1 < n ∧ x.2.labsIn n = true)
    (hi : ∀ x ∈ h, ∀ y ∈ h, ρ x.1 = ρ y.1 → x.1 = y.1) : Ghost nt s ⟨ofL l, ofH h, n⟩ := by
  rintro w0 X I0 a w ⟨σ, I, hn, m⟩
  have rel : ∀ {lb : Nat} {sl : Slot}, relab ρ n σ lb = some sl → σ (ρ lb) = some sl := fun hs => by
    unfold relab at hs
    split at hs
    · exact hs
    · cases hs
  have hH : ∀ {lb : Nat} {b : Blk}, ofH h lb = some b → s.H (ρ lb) = some (b.ren ρ) ∧ lb < n ∧ b.labsIn n = true := fun hb => hh _ (ofH_mem hb)
  have hn0 : ∀ {lb : Nat}, ofH h lb ≠ none → s.H (ρ lb) ≠ none := fun hb => by
    obtain ⟨b, hb⟩ := Option.ne_none_iff_exists'.1 hb
    rw [(hH hb).1]
    simp
  refine ⟨relab ρ n σ, I, fun lb hlb => by unfold relab; rw [if_neg (by simp only at hlb; omega)], m.defers, m.size, m.pins, ⟨fun lb b hb => ?_, fun l1 l2 g s1 s2 h1 h2 e1 e2 g1 g2 => ?_, fun lb g sl h1 h2 h3 => ?_, m.heap.imm, m.heap.sub, m.heap.fr⟩, fun i x hx => ?_⟩
  · obtain ⟨q1, q2, q3⟩ := hH hb
    exact repB_ren q2 (m.heap.rows _ _ q1) q3
  · have := m.heap.inj _ _ g s1 s2 (hn0 h1) (hn0 h2) (rel e1) (rel e2) g1 g2
    obtain ⟨b1, hb1⟩ := Option.ne_none_iff_exists'.1 h1
    obtain ⟨b2, hb2⟩ := Option.ne_none_iff_exists'.1 h2
    exact hi _ (ofH_mem hb1) _ (ofH_mem hb2) this
  · exact m.heap.mine _ g sl (hn0 h1) (rel h2) h3
  · obtain ⟨q1, q2⟩ := ht _ (ofL_mem hx)
    obtain ⟨u, hu, hru⟩ := m.tmps i _ q1
    exact ⟨u, hu, repA_ren hru x rfl q2⟩
mutual
theorem AV.ren_id : ∀ x : AV, x.ren (fun l => l) = x
  | .p _ | .ex _ | .vw _ _ | .own _ | .cut _ _ _ | .ptr _ _ _ | .map _ | .it _ => rfl
  | .agg cs => by rw [AV.ren, renL_id]
  | .tuple cs => by rw [AV.ren, renL_id]
  | .iface t x => by rw [AV.ren, AV.ren_id]
  | .fn f cs => by rw [AV.ren, renL_id]
theorem renL_id : ∀ l : List AV, renL (fun l => l) l = l
  | [] => rfl
  | x :: l => by rw [renL, AV.ren_id, renL_id]
end
theorem Blk.ren_id (b : Blk) : b.ren (fun l => l) = b := by
  cases b with
  | row sz es =>
    simp only [Blk.ren]
    congr 1
    conv => rhs; rw [← List.map_id es]
    exact List.map_congr_left fun x _ => renL_id x
  | map es =>
    simp only [Blk.ren]
    congr 1
    conv => rhs; rw [← List.map_id es]
    exact List.map_congr_left fun x _ => by simp [AV.ren_id]
  | iter s pos => rfl
/-- A state told anew: fewer places, the same labels. -/
theorem Ghost.sub {l : List (Nat × AV)} {h : List (Nat × Blk)} {n : Nat} (ht : ∀ x ∈ l, s.T x.1 = some x.2 ∧ x.2.labsIn n = true) (hh : ∀ x ∈ h, s.H x.1 = some x.2 ∧ x.1 < n ∧ x.2.labsIn n = true) : Ghost nt s ⟨ofL l, ofH h, n⟩ :=
  Ghost.ent (fun l => l) (fun x hx => by rw [AV.ren_id]; exact ht x hx) (fun x hx => by rw [Blk.ren_id]; exact hh x hx) (fun _ _ _ _ h => h)
theorem Ghost.refl : Ghost nt s s := fun _ _ _ _ _ m => m
theorem Ghost.trans {s' s'' : St} (h : Ghost nt s s') (h' : Ghost nt s' s'') : Ghost nt s s'' := fun _ _ _ _ _ m => h' _ _ _ _ _ (h _ _ _ _ _ m)

/-- A slice that is nil, told as a row of the call's own. -/
theorem Ghost.nil {t sz : Nat} (ht : s.T t = some (.ex [])) : Ghost nt s ⟨upd s.T t (some (.own s.nx)), upd s.H s.nx (some (.row sz [])), s.nx + 1⟩ := by
  rintro w0 X I0 a w ⟨σ, I, hσ, m⟩
  obtain ⟨u, hu, hru⟩ := m.tmps t _ ht
  have hl := hσ s.nx (Nat.le_refl _)
  cases hru with
  | ex he hr =>
    rename_i ad n
    subst he
    have ext : ∀ l' s', σ l' = some s' → upd σ s.nx (some (.emp ad)) l' = some s' := fun l' s' h' => by
      rw [upd_ne _ _ (by rintro rfl; rw [hl] at h'; cases h')]
      exact h'
    refine ⟨upd σ s.nx (some (.emp ad)), I, fun l h => ?_, m.defers, m.size, m.pins, m.heap.empty hl ad sz, fun i x hx => ?_⟩
    · simp only at h
      rw [upd_ne _ _ (by omega)]
      exact hσ l (by omega)
    · simp only at hx
      by_cases hi : i = t
      · subst hi
        rw [upd_same] at hx
        injection hx with hx
        subst hx
        exact ⟨_, hu, .ownE (upd_same _ _ _)⟩
      · rw [upd_ne _ _ hi] at hx
        obtain ⟨v, hv, hrv⟩ := m.tmps i x hx
        exact ⟨v, hv, hrv.mono ext (fun _ h => h) (fun _ _ => rfl)⟩

/-- Own rows, as what is only read. -/
def thaw1 (lb : Nat) (ps : List (List PV)) : AV → AV
  | .own l => if l = lb then .p (.slice ps) else .own l
  | .cut l 0 n => if l = lb then .vw (ps.take n) (ps.drop n) else .cut l 0 n
  | x => x
def thaw (lb : Nat) (ps : List (List PV)) : AV → AV
  | .agg cs => mkAgg (cs.map (thaw1 lb ps))
  | x => thaw1 lb ps x
theorem thaw1_rep {σ : Lab} {w : World} {I J : Nat → Prop} {lb : Nat} {ps : List (List PV)} {v : Value} {x : AV} (hI : ∀ b, I b → J b) (hl : ∀ v, repA σ w I v (.own lb) → rep w J v (.slice ps)) (h : repA σ w I v x) : repA σ w J v (thaw1 lb ps x) := by
  unfold thaw1
  split
  · split
    · rename_i e
      subst e
      exact .p (hl v h)
    · exact h.mono (fun _ _ h => h) hI (fun _ _ => rfl)
  · split
    · rename_i e
      subst e
      cases h with
      | cut h' hm hc =>
        rename_i g n c sz
        have hr := hl _ (.own h')
        have hn : n = ps.length := by
          generalize hv : Value.slice (some ⟨g, 0, none⟩) n c = v at hr
          cases hr with
          | empty => injection hv with _ h2 <;> simp [h2]
          | slice _ _ _ _ _ _ _ h2 => injection hv with _ h3; rw [h3]; exact h2
        rw [Nat.zero_mul, Nat.sub_zero, ite_self]
        rw [hn] at hr hm hc
        refine .vw (by rw [List.length_take]; omega) (m := ps.length) (by rw [List.length_drop]; omega) (by omega) ?_
        rw [List.take_append_drop]
        exact hr
    · exact h.mono (fun _ _ h => h) hI (fun _ _ => rfl)
  · exact h.mono (fun _ _ h => h) hI (fun _ _ => rfl)
theorem thaw1_one (lb : Nat) (ps : List (List PV)) (x : AV) (h : x.one = true) : (thaw1 lb ps x).one = true := by
  unfold thaw1
  split
  · split <;> rfl
  · split <;> rfl
  · exact h
theorem Ghost.freeze {lb sz : Nat} {es : List (List AV)} {ps : List (List PV)} (hl : s.H lb = some (.row sz es)) (hp : unlift es = some ps) :
    Ghost nt s ⟨fun i => (s.T i).map (thaw lb ps), fun l => if l = lb then none else (s.H l).map fun | .row sz es => .row sz (es.map fun e => e.map (thaw1 lb ps)) | b => b, s.nx⟩ := by
  rintro w0 X I0 a w ⟨σ, I, hσ, m⟩
  have hb := m.heap.rows lb _ hl
  obtain ⟨sl, hs, hlt⟩ := hb.block
  have key : ∃ J : Nat → Prop, (∀ b, I b → J b) ∧ HOK σ w J (upd s.H lb none) w0 X I0 ∧ ∀ g s', σ lb = some s' → s'.block = some g → J g := by
    cases hsb : sl.block with
    | none =>
      refine ⟨I, fun _ h => h, m.heap.less fun l b hb => ?_, fun g s' q1 q2 => ?_⟩
      · by_cases hl : l = lb
        · subst hl; rw [upd_same] at hb; cases hb
        · rwa [upd_ne _ _ hl] at hb
      · rw [hs] at q1; injection q1 with q1; subst q1; rw [hsb] at q2; cases q2
    | some g =>
      refine ⟨_, fun _ h => .inl h, m.heap.freeze (by rw [hl]; simp) hs hsb, fun g' s' q1 q2 => ?_⟩
      rw [hs] at q1; injection q1 with q1; subst q1; rw [hsb] at q2; injection q2 with q2; exact .inr q2.symm
  obtain ⟨J, hIJ, hJ, hg⟩ := key
  have hown : ∀ v, repA σ w I v (.own lb) → rep w J v (.slice ps) := fun v hv => rep_own hb hv hp hg hIJ
  refine ⟨σ, J, hσ, m.defers, m.size, m.pins, ⟨fun l b hb' => ?_, fun l1 l2 g s1 s2 h1 h2 => ?_, fun l g s' h1 => ?_, hJ.imm, hJ.sub, hJ.fr⟩, fun i x hx => ?_⟩
  · simp only at hb'
    split at hb'
    · cases hb'
    · rename_i hne
      rw [Option.map_eq_some_iff] at hb'
      obtain ⟨b0, hb0, hb'⟩ := hb'
      have hr := m.heap.rows l b0 hb0
      subst hb'
      cases hr with
      | emp h' => exact .emp h'
      | row h' hh hcur hc hs' ho hrr =>
        refine .row (by rw [List.length_map]; exact h') hh hcur (by rw [List.length_map]; exact hc) (fun e he => ?_) (fun e he x hx => ?_) fun i e j x q1 q2 => ?_
        · obtain ⟨e', he', rfl⟩ := List.mem_map.1 he
          rw [List.length_map]
          exact hs' e' he'
        · obtain ⟨e', he', rfl⟩ := List.mem_map.1 he
          obtain ⟨x', hx', rfl⟩ := List.mem_map.1 hx
          exact thaw1_one _ _ _ (ho e' he' x' hx')
        · rw [List.getElem?_map, Option.map_eq_some_iff] at q1
          obtain ⟨e', he', rfl⟩ := q1
          rw [List.getElem?_map, Option.map_eq_some_iff] at q2
          obtain ⟨x', hx', rfl⟩ := q2
          obtain ⟨u, hu, hru⟩ := hrr i e' j x' he' hx'
          exact ⟨u, hu, thaw1_rep hIJ hown hru⟩
      | map h' hh hn hrr => exact .map h' hh hn fun i m e q1 q2 => ⟨(hrr i m e q1 q2).1, ((hrr i m e q1 q2).2).mono (fun _ _ h => h) hIJ (fun _ _ => rfl)⟩
      | iter h' hh => exact .iter h' hh
  · refine hJ.inj l1 l2 g s1 s2 ?_ ?_
    · intro h
      apply h1
      simp only
      split
      · rfl
      · rename_i hne; rw [upd_ne _ _ hne] at h; rw [h]; rfl
    · intro h
      apply h2
      simp only
      split
      · rfl
      · rename_i hne; rw [upd_ne _ _ hne] at h; rw [h]; rfl
  · refine hJ.mine l g s' fun h => h1 ?_
    simp only
    split
    · rfl
    · rename_i hne; rw [upd_ne _ _ hne] at h; rw [h]; rfl
  · simp only at hx
    rw [Option.map_eq_some_iff] at hx
    obtain ⟨x', hx', rfl⟩ := hx
    obtain ⟨u, hu, hru⟩ := m.tmps i x' hx'
    refine ⟨u, hu, ?_⟩
    unfold thaw
    split
    · cases hru with
      | agg hs' hr =>
        refine repA_agg (by rw [List.length_map]; exact hs') fun j u p q1 q2 => ?_
        rw [List.getElem?_map, Option.map_eq_some_iff] at q2
        obtain ⟨x'', hx'', rfl⟩ := q2
        exact thaw1_rep hIJ hown (hr j u x'' q1 hx'')
    · exact thaw1_rep hIJ hown hru
end
end Go.Aw
