/- States told anew; facts of types; the equations by which walks reckon. -/
import Derived.Test.YtmeplhcfjihafaaAwM2
import Derived.Test.YtmeplhcfjihafaaAwTy
/- States told by lists; steps that turn nothing but the telling: places forgotten, labels renamed, rows that are only read from now on. -/
namespace Go.Aw
open Go.RowKit

def ofL : List (Nat × AV) → Nat → Option AV
  | [], _ => none
  | (j, v) :: r, i => if i = j then some v else ofL r i
def ofH : List (Nat × Blk) → Nat → Option Blk
  | [], _ => none
  | (j, v) :: r, i => if i = j then some v else ofH r i
theorem ofL_mem {l : List (Nat × AV)} {i : Nat} {v : AV} (h : ofL l i = some v) : (i, v) ∈ l := by
  induction l with
  | nil => cases h
  | cons x r ih =>
    obtain ⟨j, u⟩ := x
    simp only [ofL] at h
    split at h
    · rename_i e
      injection h with h
      subst e h
      exact List.mem_cons_self ..
    · exact List.mem_cons_of_mem _ (ih h)
theorem ofH_mem {l : List (Nat × Blk)} {i : Nat} {v : Blk} (h : ofH l i = some v) : (i, v) ∈ l := by
  induction l with
  | nil => cases h
  | cons x r ih =>
    obtain ⟨j, u⟩ := x
    simp only [ofH] at h
    split at h
    · rename_i e
      injection h with h
      subst e h
      exact List.mem_cons_self ..
    · exact List.mem_cons_of_mem _ (ih h)

mutual
def AV.ren (ρ : Nat → Nat) : AV → AV
  | .p x => .p x
  | .ex es => .ex es
  | .own l => .own (ρ l)
  | .cut l lo n => .cut (ρ l) lo n
  | .vw es more => .vw es more
  | .ptr l i off => .ptr (ρ l) i off
  | .map l => .map (ρ l)
  | .it l => .it (ρ l)
  | .agg cs => .agg (renL ρ cs)
  | .tuple cs => .tuple (renL ρ cs)
  | .iface t x => .iface t (x.ren ρ)
  | .fn f cs => .fn f (renL ρ cs)
def renL (ρ : Nat → Nat) : List AV → List AV
  | [] => []
  | x :: l => x.ren ρ :: renL ρ l
end
mutual
def AV.labsIn (n : Nat) : AV → Bool
  | .p _ | .ex _ | .vw _ _ => true
  | .own l | .cut l _ _ | .ptr l _ _ | .map l | .it l => decide (l < n)
  | .agg cs | .tuple cs | .fn _ cs => labsInL n cs
  | .iface _ x => x.labsIn n
def labsInL (n : Nat) : List AV → Bool
  | [] => true
  | x :: l => x.labsIn n && labsInL n l
end
theorem renL_get (ρ : Nat → Nat) (l : List AV) (j : Nat) : (renL ρ l)[j]? = (l[j]?).map (·.ren ρ) := by
  induction l generalizing j with
  | nil => simp [renL]
  | cons x l ih => cases j with
    | zero => simp [renL]
    | succ j => simp [renL, ih]
theorem renL_length (ρ : Nat → Nat) (l : List AV) : (renL ρ l).length = l.length := by
  induction l with
  | nil => rfl
  | cons x l ih => simp [renL, ih]
theorem labsInL_mem {n : Nat} {l : List AV} (h : labsInL n l = true) {x : AV} (hx : x ∈ l) : x.labsIn n = true := by
  induction l with
  | nil => cases hx
  | cons y l ih =>
    simp only [labsInL, Bool.and_eq_true] at h
    rcases List.mem_cons.1 hx with rfl | hx
    · exact h.1
    · exact ih h.2 hx
theorem renL_p (ρ : Nat → Nat) (ps : List PV) : renL ρ (ps.map AV.p) = ps.map AV.p := by
  induction ps with
  | nil => rfl
  | cons x l ih => simp [renL, ih, AV.ren]
theorem labsInL_p (n : Nat) (ps : List PV) : labsInL n (ps.map AV.p) = true := by
  induction ps with
  | nil => rfl
  | cons x l ih => simp [labsInL, ih, AV.labsIn]

def relab (ρ : Nat → Nat) (n : Nat) (σ : Lab) : Lab := fun l => if l < n then σ (ρ l) else none

theorem repA_ren {σ : Lab} {w : World} {I : Nat → Prop} {ρ : Nat → Nat} {n : Nat} {u : Value} {y : AV} (h : repA σ w I u y) : ∀ x : AV, y = x.ren ρ → x.labsIn n = true → repA (relab ρ n σ) w I u x := by
  have lab : ∀ {l : Nat} {s : Slot}, decide (l < n) = true → σ (ρ l) = some s → relab ρ n σ l = some s := fun hl hs => by
    unfold relab
    rw [if_pos (of_decide_eq_true hl)]
    exact hs
  induction h with
  | p h => intro x hx hb; cases x <;> simp only [AV.ren, reduceCtorEq, AV.p.injEq] at hx; subst hx; exact .p h
  | ex hn h => intro x hx hb; cases x <;> simp only [AV.ren, reduceCtorEq, AV.ex.injEq] at hx; subst hx; exact .ex hn h
  | ownE h => intro x hx hb; cases x <;> simp only [AV.ren, reduceCtorEq, AV.own.injEq] at hx; subst hx; exact .ownE (lab hb h)
  | own h => intro x hx hb; cases x <;> simp only [AV.ren, reduceCtorEq, AV.own.injEq] at hx; subst hx; exact .own (lab hb h)
  | cut h hm hc => intro x hx hb; cases x <;> simp only [AV.ren, reduceCtorEq, AV.cut.injEq] at hx; obtain ⟨rfl, rfl, rfl⟩ := hx; exact .cut (lab hb h) hm hc
  | vw hn hm hc h => intro x hx hb; cases x <;> simp only [AV.ren, reduceCtorEq, AV.vw.injEq] at hx; obtain ⟨rfl, rfl⟩ := hx; exact .vw hn hm hc h
  | ptr h => intro x hx hb; cases x <;> simp only [AV.ren, reduceCtorEq, AV.ptr.injEq] at hx; obtain ⟨rfl, rfl, rfl⟩ := hx; exact .ptr (lab hb h)
  | map h => intro x hx hb; cases x <;> simp only [AV.ren, reduceCtorEq, AV.map.injEq] at hx; subst hx; exact .map (lab hb h)
  | it h => intro x hx hb; cases x <;> simp only [AV.ren, reduceCtorEq, AV.it.injEq] at hx; subst hx; exact .it (lab hb h)
  | agg hs hr ih =>
    intro x hx hb; cases x <;> simp only [AV.ren, reduceCtorEq, AV.agg.injEq] at hx
    subst hx
    refine .agg (by rw [hs, renL_length]) fun j u p h1 h2 => ?_
    exact ih j u _ h1 (by rw [renL_get, h2]; rfl) p rfl (labsInL_mem hb (List.mem_of_getElem? h2))
  | tuple hs hr ih =>
    intro x hx hb; cases x <;> simp only [AV.ren, reduceCtorEq, AV.tuple.injEq] at hx
    subst hx
    refine .tuple (by rw [hs, renL_length]) fun j u p h1 h2 => ?_
    exact ih j u _ h1 (by rw [renL_get, h2]; rfl) p rfl (labsInL_mem hb (List.mem_of_getElem? h2))
  | iface t h ih =>
    intro x hx hb; cases x <;> simp only [AV.ren, reduceCtorEq, AV.iface.injEq] at hx
    obtain ⟨rfl, hx⟩ := hx
    exact .iface _ (ih _ hx hb)
  | fn f hs hr ih =>
    intro x hx hb; cases x <;> simp only [AV.ren, reduceCtorEq, AV.fn.injEq] at hx
    obtain ⟨rfl, hx⟩ := hx
    subst hx
    refine .fn _ (by rw [hs, renL_length]) fun j u p h1 h2 => ?_
    exact ih j u _ h1 (by rw [renL_get, h2]; rfl) p rfl (labsInL_mem hb (List.mem_of_getElem? h2))

def Blk.ren (ρ : Nat → Nat) : Blk → Blk
  | .row sz es => .row sz (es.map (renL ρ))
  | .map es => .map (es.map fun e => (e.1, e.2.ren ρ))
  | .iter s pos => .iter s pos
def Blk.labsIn (n : Nat) : Blk → Bool
  | .row _ es => es.all (labsInL n)
  | .map es => es.all fun e => e.2.labsIn n
  | .iter _ _ => true
theorem map_renL_lift (ρ : Nat → Nat) (ps : List (List PV)) : (liftE ps).map (renL ρ) = liftE ps := by
  simp [liftE, renL_p]
theorem labsIn_lift (n : Nat) (ps : List (List PV)) : (liftE ps).all (labsInL n) = true := by
  simp [liftE, labsInL_p]

theorem AV.one_ren (ρ : Nat → Nat) (x : AV) : (x.ren ρ).one = x.one := by cases x <;> rfl

theorem repB_ren {σ : Lab} {w : World} {I : Nat → Prop} {ρ : Nat → Nat} {n l : Nat} {b : Blk} (hl : l < n) (h : repB σ w I (ρ l) (b.ren ρ)) (hb : b.labsIn n = true) : repB (relab ρ n σ) w I l b := by
  have lab : ∀ {s : Slot}, σ (ρ l) = some s → relab ρ n σ l = some s := fun hs => by
    unfold relab
    rw [if_pos hl]
    exact hs
  cases b with
  | row sz es =>
    simp only [Blk.ren] at h
    generalize hes : es.map (renL ρ) = fs at h
    cases h with
    | emp h => 
      have : es = [] := by simpa using hes
      subst this
      exact .emp (lab h)
    | row h hg hcur hc hs ho hr =>
      subst hes
      rw [List.length_map] at h hc
      refine .row (lab h) hg hcur hc (fun e he => by rw [← renL_length ρ e]; exact hs _ (List.mem_map.2 ⟨e, he, rfl⟩)) (fun e he x hx => ?_) fun i e j x h1 h2 => ?_
      · obtain ⟨j, hj, rfl⟩ := List.mem_iff_getElem.1 hx
        rw [← AV.one_ren ρ]
        refine ho _ (List.mem_map.2 ⟨e, he, rfl⟩) _ (List.mem_of_getElem? (i := j) ?_)
        rw [renL_get, List.getElem?_eq_getElem hj]
        rfl
      · obtain ⟨u, hu, hru⟩ := hr i (renL ρ e) j (x.ren ρ) (by rw [List.getElem?_map, h1]; rfl) (by rw [renL_get, h2]; rfl)
        exact ⟨u, hu, repA_ren hru x rfl (labsInL_mem (List.all_eq_true.1 hb e (List.mem_of_getElem? h1)) (List.mem_of_getElem? h2))⟩
  | map es =>
    simp only [Blk.ren] at h
    cases h with
    | map h hg hn hr =>
      rw [List.length_map] at hn
      refine .map (lab h) hg hn fun i m e h1 h2 => ?_
      obtain ⟨q1, q2⟩ := hr i m (e.1, e.2.ren ρ) h1 (by rw [List.getElem?_map, h2]; rfl)
      exact ⟨q1, repA_ren q2 e.2 rfl (List.all_eq_true.1 hb e (List.mem_of_getElem? h2))⟩
  | iter s pos =>
    cases h with
    | iter h hg => exact .iter (lab h) hg

section
variable {nt : Fm} {s : St}
/-- A state told anew: fewer places, labels renamed. -/
theorem Ghost.ent (ρ : Nat → Nat) {l : List (Nat × AV)} {h : List (Nat × Blk)} {n : Nat} (ht : ∀ x ∈ l, s.T x.1 = some (x.2.ren ρ) ∧ x.2.labsIn n = true) (hh : ∀ x ∈ h, s.H (ρ x.1) = some (x.2.ren ρ) ∧ x.1 < n ∧ x.2.labsIn n = true)
    (hi : ∀ x ∈ h, ∀ y ∈ h, ρ x.1 = ρ y.1 → x.1 = y.1) : Ghost nt s ⟨ofL l, ofH h, n⟩ := by
  rintro w0 X I0 a w ⟨σ, I, hn, m⟩
  have rel : ∀ {lb : Nat} {sl : Slot}, relab ρ n σ lb = some sl → σ (ρ lb) = some sl := fun hs => by
    unfold relab at hs
    split at hs
    · exact hs
    · cases hs
  have hH : ∀ {lb : Nat} {b : Blk}, ofH h lb = some b → s.H (ρ lb) = some (b.ren ρ) ∧ lb < n ∧ b.labsIn n = true := fun hb => hh _ (ofH_mem hb)
  have hn0 : ∀ {lb : Nat}, ofH h lb ≠ none → s.H (ρ lb) ≠ none := fun hb => by
    obtain ⟨b, hb⟩ := Option.ne_none_iff_exists'.1 hb
    rw [(hH hb).1]
    simp
  refine ⟨relab ρ n σ, I, fun lb hlb => by unfold relab; rw [if_neg (by simp only at hlb; omega)], m.defers, m.size, m.pins, ⟨fun lb b hb => ?_, fun l1 l2 g s1 s2 h1 h2 e1 e2 g1 g2 => ?_, fun lb g sl h1 h2 h3 => ?_, m.heap.imm, m.heap.sub, m.heap.fr⟩, fun i x hx => ?_⟩
  · obtain ⟨q1, q2, q3⟩ := hH hb
    exact repB_ren q2 (m.heap.rows _ _ q1) q3
  · have := m.heap.inj _ _ g s1 s2 (hn0 h1) (hn0 h2) (rel e1) (rel e2) g1 g2
    obtain ⟨b1, hb1⟩ := Option.ne_none_iff_exists'.1 h1
    obtain ⟨b2, hb2⟩ := Option.ne_none_iff_exists'.1 h2
    exact hi _ (ofH_mem hb1) _ (ofH_mem hb2) this
  · exact m.heap.mine _ g sl (hn0 h1) (rel h2) h3
  · obtain ⟨q1, q2⟩ := ht _ (ofL_mem hx)
    obtain ⟨u, hu, hru⟩ := m.tmps i _ q1
    exact ⟨u, hu, repA_ren hru x rfl q2⟩
mutual
theorem AV.ren_id : ∀ x : AV, x.ren (fun l => l) = x
  | .p _ | .ex _ | .vw _ _ | .own _ | .cut _ _ _ | .ptr _ _ _ | .map _ | .it _ => rfl
  | .agg cs => by rw [AV.ren, renL_id]
  | .tuple cs => by rw [AV.ren, renL_id]
  | .iface t x => by rw [AV.ren, AV.ren_id]
  | .fn f cs => by rw [AV.ren, renL_id]
theorem renL_id : ∀ l : List AV, renL (fun l => l) l = l
  | [] => rfl
  | x :: l => by rw [renL, AV.ren_id, renL_id]
end
theorem Blk.ren_id (b : Blk) : b.ren (fun l => l) = b := by
  cases b with
  | row sz es =>
    simp only [Blk.ren]
    congr 1
    conv => rhs; rw [← List.map_id es]
    exact List.map_congr_left fun x _ => renL_id x
  | map es =>
    simp only [Blk.ren]
    congr 1
    conv => rhs; rw [← List.map_id es]
    exact List.map_congr_left fun x _ => by simp [AV.ren_id]
  | iter s pos => rfl
/-- A state told anew: fewer places, the same labels. -/
theorem Ghost.sub {l : List (Nat × AV)} {h : List (Nat × Blk)} {n : Nat} (ht : ∀ x ∈ l, s.T x.1 = some x.2 ∧ x.2.labsIn n = true) (hh : ∀ x ∈ h, s.H x.1 = some x.2 ∧ x.1 < n ∧ x.2.labsIn n = true) : Ghost nt s ⟨ofL l, ofH h, n⟩ :=
  Ghost.ent (fun l => l) (fun x hx => by rw [AV.ren_id]; exact ht x hx) (fun x hx => by rw [Blk.ren_id]; exact hh x hx) (fun _ _ _ _ h => h)
theorem Ghost.refl : Ghost nt s s := fun _ _ _ _ _ m => m
theorem Ghost.trans {s' s'' : St} (h : Ghost nt s s') (h' : Ghost nt s' s'') : Ghost nt s s'' := fun _ _ _ _ _ m => h' _ _ _ _ _ (h _ _ _ _ _ m)

/-- A slice that is nil, told ags a row of the call's own. -/
theorem Ghost.nil {t sz : Nat} (ht : s.T t = some (.ex [])) : Ghost nt s ⟨upd s.T t (some (.own s.nx)), upd s.H s.nx (some (.row sz [])), s.nx + 1⟩ := by
  rintro w0 X I0 a w ⟨σ, I, hσ, m⟩
  obtain ⟨u, hu, hru⟩ := m.tmps t _ ht
  have hl := hσ s.nx (Nat.le_refl _)
  cases hru with
  | ex he hr =>
    rename_i ad n
    subst he
    have ext : ∀ l' s', σ l' = some s' → upd σ s.nx (some (.emp ad)) l' = some s' := fun l' s' h' => by
      rw [upd_ne _ _ (by rintro rfl; rw [hl] at h'; cases h')]
      exact h'
    refine ⟨upd σ s.nx (some (.emp ad)), I, fun l h => ?_, m.defers, m.size, m.pins, m.heap.empty hl ad sz, fun i x hx => ?_⟩
    · simp only at h
      rw [upd_ne _ _ (by omega)]
      exact hσ l (by omega)
    · simp only at hx
      by_cases hi : i = t
      · subst hi
        rw [upd_same] at hx
        injection hx with hx
        subst hx
        exact ⟨_, hu, .ownE (upd_same _ _ _)⟩
      · rw [upd_ne _ _ hi] at hx
        obtain ⟨v, hv, hrv⟩ := m.tmps i x hx
        exact ⟨v, hv, hrv.mono ext (fun _ h => h) (fun _ _ => rfl)⟩

/-- Own rows, ags what is only read. -/
def thaw1 (lb : Nat) (ps : List (List PV)) : AV → AV
  | .own l => if l = lb then .p (.slice ps) else .own l
  | .cut l 0 n => if l = lb then .vw (ps.take n) (ps.drop n) else .cut l 0 n
  | x => x
def thaw (lb : Nat) (ps : List (List PV)) : AV → AV
  | .agg cs => mkAgg (cs.map (thaw1 lb ps))
  | x => thaw1 lb ps x
theorem thaw1_rep {σ : Lab} {w : World} {I J : Nat → Prop} {lb : Nat} {ps : List (List PV)} {v : Value} {x : AV} (hI : ∀ b, I b → J b) (hl : ∀ v, repA σ w I v (.own lb) → rep w J v (.slice ps)) (h : repA σ w I v x) : repA σ w J v (thaw1 lb ps x) := by
  unfold thaw1
  split
  · split
    · rename_i e
      subst e
      exact .p (hl v h)
    · exact h.mono (fun _ _ h => h) hI (fun _ _ => rfl)
  · split
    · rename_i e
      subst e
      cases h with
      | cut h' hm hc =>
        rename_i g n c sz
        have hr := hl _ (.own h')
        have hn : n = ps.length := by
          generalize hv : Value.slice (some ⟨g, 0, none⟩) n c = v at hr
          cases hr with
          | empty => injection hv with _ h2 <;> simp [h2]
          | slice _ _ _ _ _ _ _ h2 => injection hv with _ h3; rw [h3]; exact h2
        rw [Nat.zero_mul, Nat.sub_zero, ite_self]
        rw [hn] at hr hm hc
        refine .vw (by rw [List.length_take]; omega) (m := ps.length) (by rw [List.length_drop]; omega) (by omega) ?_
        rw [List.take_append_drop]
        exact hr
    · exact h.mono (fun _ _ h => h) hI (fun _ _ => rfl)
  · exact h.mono (fun _ _ h => h) hI (fun _ _ => rfl)
theorem thaw1_one (lb : Nat) (ps : List (List PV)) (x : AV) (h : x.one = true) : (thaw1 lb ps x).one = true := by
  unfold thaw1
  split
  · split <;> rfl
  · split <;> rfl
  · exact h
theorem Ghost.freeze {lb sz : Nat} {es : List (List AV)} {ps : List (List PV)} (hl : s.H lb = some (.row sz es)) (hp : unlift es = some ps) :
    Ghost nt s ⟨fun i => (s.T i).map (thaw lb ps), fun l => if l = lb then none else (s.H l).map fun | .row sz es => .row sz (es.map fun e => e.map (thaw1 lb ps)) | b => b, s.nx⟩ := by
  rintro w0 X I0 a w ⟨σ, I, hσ, m⟩
  have hb := m.heap.rows lb _ hl
  obtain ⟨sl, hs, hlt⟩ := hb.block
  have key : ∃ J : Nat → Prop, (∀ b, I b → J b) ∧ HOK σ w J (upd s.H lb none) w0 X I0 ∧ ∀ g s', σ lb = some s' → s'.block = some g → J g := by
    cases hsb : sl.block with
    | none =>
      refine ⟨I, fun _ h => h, m.heap.less fun l b hb => ?_, fun g s' q1 q2 => ?_⟩
      · by_cases hl : l = lb
        · subst hl; rw [upd_same] at hb; cases hb
        · rwa [upd_ne _ _ hl] at hb
      · rw [hs] at q1; injection q1 with q1; subst q1; rw [hsb] at q2; cases q2
    | some g =>
      refine ⟨_, fun _ h => .inl h, m.heap.freeze (by rw [hl]; simp) hs hsb, fun g' s' q1 q2 => ?_⟩
      rw [hs] at q1; injection q1 with q1; subst q1; rw [hsb] at q2; injection q2 with q2; exact .inr q2.symm
  obtain ⟨J, hIJ, hJ, hg⟩ := key
  have hown : ∀ v, repA σ w I v (.own lb) → rep w J v (.slice ps) := fun v hv => rep_own hb hv hp hg hIJ
  refine ⟨σ, J, hσ, m.defers, m.size, m.pins, ⟨fun l b hb' => ?_, fun l1 l2 g s1 s2 h1 h2 => ?_, fun l g s' h1 => ?_, hJ.imm, hJ.sub, hJ.fr⟩, fun i x hx => ?_⟩
  · simp only at hb'
    split at hb'
    · cases hb'
    · rename_i hne
      rw [Option.map_eq_some_iff] at hb'
      obtain ⟨b0, hb0, hb'⟩ := hb'
      have hr := m.heap.rows l b0 hb0
      subst hb'
      cases hr with
      | emp h' => exact .emp h'
      | row h' hh hcur hc hs' ho hrr =>
        refine .row (by rw [List.length_map]; exact h') hh hcur (by rw [List.length_map]; exact hc) (fun e he => ?_) (fun e he x hx => ?_) fun i e j x q1 q2 => ?_
        · obtain ⟨e', he', rfl⟩ := List.mem_map.1 he
          rw [List.length_map]
          exact hs' e' he'
        · obtain ⟨e', he', rfl⟩ := List.mem_map.1 he
          obtain ⟨x', hx', rfl⟩ := List.mem_map.1 hx
          exact thaw1_one _ _ _ (ho e' he' x' hx')
        · rw [List.getElem?_map, Option.map_eq_some_iff] at q1
          obtain ⟨e', he', rfl⟩ := q1
          rw [List.getElem?_map, Option.map_eq_some_iff] at q2
          obtain ⟨x', hx', rfl⟩ := q2
          obtain ⟨u, hu, hru⟩ := hrr i e' j x' he' hx'
          exact ⟨u, hu, thaw1_rep hIJ hown hru⟩
      | map h' hh hn hrr => exact .map h' hh hn fun i m e q1 q2 => ⟨(hrr i m e q1 q2).1, ((hrr i m e q1 q2).2).mono (fun _ _ h => h) hIJ (fun _ _ => rfl)⟩
      | iter h' hh => exact .iter h' hh
  · refine hJ.inj l1 l2 g s1 s2 ?_ ?_
    · intro h
      apply h1
      simp only
      split
      · rfl
      · rename_i hne; rw [upd_ne _ _ hne] at h; rw [h]; rfl
    · intro h
      apply h2
      simp only
      split
      · rfl
      · rename_i hne; rw [upd_ne _ _ hne] at h; rw [h]; rfl
  · refine hJ.mine l g s' fun h => h1 ?_
    simp only
    split
    · rfl
    · rename_i hne; rw [upd_ne _ _ hne] at h; rw [h]; rfl
  · simp only at hx
    rw [Option.map_eq_some_iff] at hx
    obtain ⟨x', hx', rfl⟩ := hx
    obtain ⟨u, hu, hru⟩ := m.tmps i x' hx'
    refine ⟨u, hu, ?_⟩
    unfold thaw
    split
    · cases hru with
      | agg hs' hr =>
        refine repA_agg (by rw [List.length_map]; exact hs') fun j u p q1 q2 => ?_
        rw [List.getElem?_map, Option.map_eq_some_iff] at q2
        obtain ⟨x'', hx'', rfl⟩ := q2
        exact thaw1_rep hIJ hown (hr j u x'' q1 hx'')
    · exact thaw1_rep hIJ hown hru
end
end Go.Aw
/- One step of a region at a time. The evaluators are sealed here, so that the kernel never unfolds them: it sees only the equations. -/
namespace Go.Aw
abbrev KS := (Nat → Option AV) → (Nat → Option Blk) → Nat → Prop
abbrev KD := (Nat → Option AV) → (Nat → Option Blk) → Nat → List (List Nat × List Nat) → Prop
theorem seqPack : ∃ f : Program → List Oper → Nat → List Oper → (Nat → Option AV) → (Nat → Option Blk) → KS → Prop, f = seqW := ⟨seqW, rfl⟩
noncomputable def seqO (P : Program) (ops : List Oper) (nx : Nat) (r : List Oper) (T : Nat → Option AV) (H : Nat → Option Blk) (K : KS) : Prop := Classical.choose seqPack P ops nx r T H K
theorem seqO_eq (P : Program) (ops : List Oper) (nx : Nat) (r : List Oper) (T : Nat → Option AV) (H : Nat → Option Blk) (K : KS) : seqO P ops nx r T H K = seqW P ops nx r T H K := by
  unfold seqO; rw [Classical.choose_spec seqPack]
theorem drawPack : ∃ f : Program → List Oper → Nat → List Oper → (Nat → Option AV) → (Nat → Option Blk) → List (List Nat × List Nat) → KD → Prop, f = drawA := ⟨drawA, rfl⟩
noncomputable def drawO (P : Program) (ops : List Oper) (nx : Nat) (r : List Oper) (T : Nat → Option AV) (H : Nat → Option Blk) (fs : List (List Nat × List Nat)) (K : KD) : Prop := Classical.choose drawPack P ops nx r T H fs K
theorem drawO_eq (P : Program) (ops : List Oper) (nx : Nat) (r : List Oper) (T : Nat → Option AV) (H : Nat → Option Blk) (fs : List (List Nat × List Nat)) (K : KD) : drawO P ops nx r T H fs K = drawA P ops nx r T H fs K := by
  unfold drawO; rw [Classical.choose_spec drawPack]
abbrev SC := Program → List Oper → Nat → List Oper → Option Tmp → (Nat → Option AV) → (Nat → Option Blk) → KS → Eff → Prop
theorem seqCPack : ∃ f : SC, f = fun P ops nx r d T H K e => seqO P ops (nx + 1) r (putT T d e.val) (putH H e.upd) K := ⟨_, rfl⟩
noncomputable def seqC (P : Program) (ops : List Oper) (nx : Nat) (r : List Oper) (d : Option Tmp) (T : Nat → Option AV) (H : Nat → Option Blk) (K : KS) (e : Eff) : Prop := Classical.choose seqCPack P ops nx r d T H K e
abbrev DC := Program → List Oper → Nat → List Oper → Option Tmp → (Nat → Option AV) → (Nat → Option Blk) → List Nat → List (List Nat × List Nat) → KD → Eff → Prop
theorem drawCPack : ∃ f : DC, f = fun P ops nx r d T H rd fs K e => drawO P ops (nx + 1) r (putT T d e.val) (putH H e.upd) ((rd, e.upd.map (·.1)) :: fs) K := ⟨_, rfl⟩
noncomputable def drawC (P : Program) (ops : List Oper) (nx : Nat) (r : List Oper) (d : Option Tmp) (T : Nat → Option AV) (H : Nat → Option Blk) (rd : List Nat) (fs : List (List Nat × List Nat)) (K : KD) (e : Eff) : Prop := Classical.choose drawCPack P ops nx r d T H rd fs K e
section
variable {P : Program} {ops : List Oper} {nx : Nat} {r : List Oper} {d : Option Tmp} {op : Op} {ty : TypeId} {p : String} {af : Array Edge} {j : Nat} {want : Bool} {T : Nat → Option AV} {H : Nat → Option Blk} {rd : List Nat} {fs : List (List Nat × List Nat)} {K : KS} {D : KD} {v : Option AV} {u : List (Nat × Option Blk)}
theorem seqC_mk : seqC P ops nx r d T H K ⟨v, u⟩ = seqO P ops (nx + 1) r (putT T d v) (putH H u) K := by unfold seqC; rw [Classical.choose_spec seqCPack]
theorem drawC_mk : drawC P ops nx r d T H rd fs D ⟨v, u⟩ = drawO P ops (nx + 1) r (putT T d v) (putH H u) ((rd, u.map (·.1)) :: fs) D := by unfold drawC; rw [Classical.choose_spec drawCPack]
theorem seqC_fun : seqC P ops nx r d T H K = fun e => seqW P ops (nx + 1) r (putT T d e.val) (putH H e.upd) K := by
  funext e; unfold seqC; rw [Classical.choose_spec seqCPack]; exact seqO_eq _ _ _ _ _ _ _
theorem drawC_fun : drawC P ops nx r d T H rd fs D = fun e => drawA P ops (nx + 1) r (putT T d e.val) (putH H e.upd) ((rd, e.upd.map (·.1)) :: fs) D := by
  funext e; unfold drawC; rw [Classical.choose_spec drawCPack]; exact drawO_eq _ _ _ _ _ _ _ _
theorem seqO_nil : seqO P ops nx [] T H K = K T H nx := seqO_eq ..
theorem seqO_none : seqO P ops nx (⟨d, op, ty, p, af, none⟩ :: r) T H K = opW P nx op T H (seqC P ops nx r d T H K) := by
  rw [seqO_eq, seqC_fun]; rfl
theorem seqO_some : seqO P ops nx (⟨d, op, ty, p, af, some (j, want)⟩ :: r) T H K = match ((ops[j]?).bind (·.dst)).bind T with
      | some (.p (.bool b)) => if b = want then opW P nx op T H (seqC P ops nx r d T H K) else seqO P ops (nx + 1) r (putT T d (some (.p (.cst undef)))) H K
      | some (.p (.cst x)) => notB x ∧ seqO P ops (nx + 1) r (putT T d (some (.p (.cst undef)))) H K
      | _ => False := by
  rw [seqO_eq, seqC_fun, seqO_eq]; rfl
attribute [go_sem] notB_undef boolE_true boolE_false
theorem drawO_nil : drawO P ops nx [] T H fs D = D T H nx fs := drawO_eq ..
theorem drawO_none : drawO P ops nx (⟨d, op, ty, p, af, none⟩ :: r) T H fs D = opW P nx op T H (drawC P ops nx r d T H (readsA T op) fs D) := by
  rw [drawO_eq, drawC_fun]; rfl
theorem drawO_some : drawO P ops nx (⟨d, op, ty, p, af, some (j, want)⟩ :: r) T H fs D = match ((ops[j]?).bind (·.dst)).bind T with
      | some (.p (.bool b)) => if b = want then opW P nx op T H (drawC P ops nx r d T H (readsA T op) fs D) else drawO P ops (nx + 1) r (putT T d none) H (([], []) :: fs) D
      | _ => False := by
  rw [drawO_eq, drawC_fun, drawO_eq]; rfl
end
theorem AW.rT {P : Program} {nt : Fm} {id : Nat} {ops : Array Oper} {y : Code} {s : St} {Q : Exit → St → Prop} (hd : ops.toList.all (dstOK nt) = true)
    (h : ∀ K : St → Prop, (∀ s', AW P nt y s' Q → K s') → seqO P ops.toList s.nx ops.toList s.T s.H fun T H n => K ⟨T, H, n⟩) : AW P nt (.seq (.region id ops false) y) s Q :=
  AW.regThen hd fun K hK => by rw [← seqO_eq]; exact h K hK
theorem AW.rE {P : Program} {nt : Fm} {id : Nat} {ops : Array Oper} {s : St} {Q : Exit → St → Prop} (hd : ops.toList.all (dstOK nt) = true)
    (h : ∀ K : St → Prop, (∀ s', Q .normal s' → K s') → seqO P ops.toList s.nx ops.toList s.T s.H fun T H n => K ⟨T, H, n⟩) : AW P nt (.region id ops false) s Q :=
  AW.regEnd hd fun K hK => by rw [← seqO_eq]; exact h K hK
theorem AW.dT {P : Program} {nt : Fm} {ops : Array Oper} {id : Nat} {y : Code} {s : St} {Q : Exit → St → Prop} (hm : P.follows .mixedOrders = true) (hd : ops.toList.all (dstOK nt) = true) (hs : staticOK ops.toList = true)
    (h : ∀ K : St → Prop, (∀ s', AW P nt y s' Q → K s') → drawO P ops.toList s.nx ops.toList s.T s.H [] fun T H n fs => heapOK ops.toList fs.reverse = true ∧ K ⟨T, H, n⟩) : AW P nt (.seq (.region id ops true) y) s Q :=
  AW.drawThen' hm hd hs fun K hK => by rw [← drawO_eq]; exact h K hK
theorem AW.dE {P : Program} {nt : Fm} {ops : Array Oper} {id : Nat} {s : St} {Q : Exit → St → Prop} (hm : P.follows .mixedOrders = true) (hd : ops.toList.all (dstOK nt) = true) (hs : staticOK ops.toList = true)
    (h : ∀ K : St → Prop, (∀ s', Q .normal s' → K s') → drawO P ops.toList s.nx ops.toList s.T s.H [] fun T H n fs => heapOK ops.toList fs.reverse = true ∧ K ⟨T, H, n⟩) : AW P nt (.region id ops true) s Q :=
  AW.drawEnd' hm hd hs fun K hK => by rw [← drawO_eq]; exact h K hK
end Go.Aw
/- The equations by which the walks reckon. -/
namespace Go.Aw
attribute [go_sem] seqO_nil seqO_none seqO_some drawO_nil drawO_none drawO_some seqC_mk drawC_mk List.reverse_cons List.reverse_nil opW putT putH ev constAV moveW pickW binOW nilW isNilC_tmp isNilC_int isNilC_bool isNilC_str isNilC_iface isNilC_ptr isNilC_map isNilC_slice binW eqW binPV binInt binStr shiftInt isShift unW unPV loadW loadA loadP storeW cellsA setCells oneAll AV.one PV.one
  allocW newW boxW buildW partsA fillA mkAgg allP buildSliceW idxOK cellsOK makeSliceW fieldAddrW indexAddrW indexAddrP elemP indexW fieldW extractW lenW sliceW sliceStr sliceP bnd
  makeIfaceW nilCheckW assertW failsW fnOf WFn flatP flat1 List.all_cons List.all_nil RW.eff lendP lendU apartL LB.blk appendW exW_nl exW_ce exW_ns elems news makeMapW lookupW mapUpdateW rangeW nextW lkV convertW bytesOf byteOf1 minmaxW copyW cutElems dstPart callW pcallW RV.eff pureArgs frzA unlift pureA pure1 pureL andThen inBlk EndW resW cellV oneOr argsT upd_same
  ofL ofH AV.ren renL AV.labsIn labsInL Blk.ren Blk.labsIn renL_p labsInL_p map_renL_lift labsIn_lift labs readsA Op.operands Call.operands
attribute [go_sem] decide_true decide_false not_true_eq_false not_false_eq_true Bool.false_eq_true Bool.true_eq_false Int.toNat_natCast Nat.succ_ne_self beq_self_eq_true Bool.not_true Bool.not_false Option.some.injEq exists_eq_left'
theorem upd_at {α : Type} (f : Nat → Option α) (i j : Nat) (v : Option α) : upd f i v j = if j = i then v else f j := rfl
attribute [go_sem] upd_at
theorem if_t {α : Type} {x y : α} : (if True then x else y) = x := rfl
theorem if_f {α : Type} {x y : α} : (if False then x else y) = y := rfl
theorem if_tp {x y : Prop} : (if True then x else y) = x := rfl
theorem if_fp {x y : Prop} : (if False then x else y) = y := rfl
attribute [go_sem] if_t if_f if_tp if_fp List.map_cons List.map_nil List.getElem?_cons_zero List.getElem?_cons_succ List.getElem?_nil List.length_cons List.length_nil List.drop_zero List.drop_succ_cons List.drop_nil List.take_succ_cons List.take_zero List.take_nil List.set_cons_zero List.set_cons_succ List.cons_append List.nil_append Option.bind_some Option.map_some Option.bind_none Option.map_none Nat.add_zero Nat.zero_add true_and and_true Bool.and_true Bool.true_and
  List.flatMap_cons List.flatMap_nil List.filterMap_cons List.filterMap_nil
end Go.Aw
/- Small facts that the walks use. -/
namespace Go.Aw
theorem w64 {n : Int} (h : -9223372036854775808 ≤ n) (h' : n < 9223372036854775808) : IntKind.wrap .i64 n = n := by
  have e : (2 : Int) ^ 64 = 18446744073709551616 := by decide
  have e' : (2 : Int) ^ (64 - 1) = 9223372036854775808 := by decide
  simp only [IntKind.wrap, IntKind.bits, IntKind.signed, e, e', Bool.true_and, decide_eq_true_eq]
  split <;> omega
theorem wu64 {n : Int} (h : 0 ≤ n) (h' : n < 18446744073709551616) : IntKind.wrap .u64 n = n := by
  have e : (2 : Int) ^ 64 = 18446744073709551616 := by decide
  simp only [IntKind.wrap, IntKind.bits, IntKind.signed, e, Bool.false_and, Bool.false_eq_true, if_false]
  omega
theorem wu8 {n : Int} (h : 0 ≤ n) (h' : n < 256) : IntKind.wrap .u8 n = n := by
  have e : (2 : Int) ^ 8 = 256 := by decide
  simp only [IntKind.wrap, IntKind.bits, IntKind.signed, e, Bool.false_and, Bool.false_eq_true, if_false]
  omega
theorem at_map' {α : Type} (f : α → List PV) {l : List α} {n : Nat} {a : α} (h : l[n]? = some a) :
    (0 ≤ (n : Int)) ∧ ((n : Int) < ((l.map f).length : Int)) ∧ ((l.map f).getD n [] = f a) := by
  have hn : n < l.length := by rcases Nat.lt_or_ge n l.length with h' | h'; exact h'; rw [List.getElem?_eq_none h'] at h; cases h
  refine ⟨by omega, by simp; omega, ?_⟩
  simp [List.getD, h]
/-- A place of a read-only row, reckoned. -/
theorem at_map {α : Type} (f : α → List PV) {l : List α} {n : Nat} {a : α} {i : Int} (h : l[n]? = some a) (e : i = (n : Int)) :
    (0 ≤ i) ∧ (i < ((l.map f).length : Int)) ∧ ((l.map f).getD i.toNat [] = f a) := by
  have hn : n < l.length := by rcases Nat.lt_or_ge n l.length with h' | h'; exact h'; rw [List.getElem?_eq_none h'] at h; cases h
  subst e
  refine ⟨by omega, by simp; omega, ?_⟩
  simp [List.getD, h]
/-- A piece, and what is known behind it, told anew. -/
theorem AW.cut {P : Program} {nt : Fm} {x y : Code} {s : St} {Q : Exit → St → Prop} {α : Type} (R : α → St) (J : α → Prop) (h : AW P nt x s (andThen (fun s' => ∃ a, J a ∧ Ghost nt s' (R a)) Q)) (k : ∀ a, J a → AW P nt y (R a) Q) : AW P nt (.seq x y) s Q :=
  AW.seq (h.mono fun e s' hq => by
    cases e with
    | normal => obtain ⟨a, ja, g⟩ := hq; exact (k a ja).ghost g
    | _ => exact hq)
theorem sliceOps0 (x : Operand) : (#[x] ++ (none : Option Operand).toArray ++ (none : Option Operand).toArray ++ (none : Option Operand).toArray).toList = [x] := rfl
theorem sliceOps1 (x c : Operand) : (#[x] ++ (none : Option Operand).toArray ++ (none : Option Operand).toArray ++ (some c).toArray).toList = [x, c] := rfl
theorem sliceOps2 (x b : Operand) : (#[x] ++ (none : Option Operand).toArray ++ (some b).toArray ++ (none : Option Operand).toArray).toList = [x, b] := rfl
theorem sliceOps3 (x b c : Operand) : (#[x] ++ (none : Option Operand).toArray ++ (some b).toArray ++ (some c).toArray).toList = [x, b, c] := rfl
theorem sliceOps4 (x a : Operand) : (#[x] ++ (some a).toArray ++ (none : Option Operand).toArray ++ (none : Option Operand).toArray).toList = [x, a] := rfl
theorem sliceOps5 (x a c : Operand) : (#[x] ++ (some a).toArray ++ (none : Option Operand).toArray ++ (some c).toArray).toList = [x, a, c] := rfl
theorem sliceOps6 (x a b : Operand) : (#[x] ++ (some a).toArray ++ (some b).toArray ++ (none : Option Operand).toArray).toList = [x, a, b] := rfl
theorem sliceOps7 (x a b c : Operand) : (#[x] ++ (some a).toArray ++ (some b).toArray ++ (some c).toArray).toList = [x, a, b, c] := rfl
attribute [go_sem] sliceOps0 sliceOps1 sliceOps2 sliceOps3 sliceOps4 sliceOps5 sliceOps6 sliceOps7
theorem lapp (xs ys : List Operand) : (xs.toArray ++ ys.toArray).toList = xs ++ ys := by simp
attribute [go_sem] lapp
theorem heapOK_nil {ops : List Oper} {fs : List (List Nat × List Nat)} (h : fs.all (fun f => f.2.isEmpty) = true) : heapOK ops fs = true := by simp [heapOK, h]
theorem pureL_lift (e : List PV) : pureL (e.map AV.p) = some e := by
  induction e with
  | nil => rfl
  | cons x e ih => simp only [List.map_cons, pureL, pure1, ih]
theorem unlift_liftE (es : List (List PV)) : unlift (liftE es) = some es := by
  unfold liftE
  induction es with
  | nil => rfl
  | cons x e ih => simp only [List.map_cons, unlift, pureL_lift, ih]
theorem liftE_append (a b : List (List PV)) : liftE (a ++ b) = liftE a ++ liftE b := by simp [liftE]
theorem liftE_cons (a : List PV) (b : List (List PV)) : liftE (a :: b) = a.map AV.p :: liftE b := rfl
theorem liftE_nil : liftE [] = [] := rfl
theorem liftE_length (a : List (List PV)) : (liftE a).length = a.length := by simp [liftE]
theorem unlift_append (a b : List (List AV)) : unlift (a ++ b) = match unlift a, unlift b with | some x, some y => some (x ++ y) | _, _ => none := by
  induction a with
  | nil => simp only [List.nil_append, unlift]; cases unlift b <;> rfl
  | cons x a ih =>
    simp only [List.cons_append, unlift, ih]
    cases pureL x <;> cases unlift a <;> cases unlift b <;> rfl
attribute [go_sem] unlift_liftE unlift_append liftE_nil
theorem oneAll_lift {e : List PV} (h : ∀ p ∈ e, p.one = true) : oneAll (e.map AV.p) = true := by
  induction e with
  | nil => rfl
  | cons x e ih => simp only [List.map_cons, oneAll, AV.one, Bool.and_eq_true]; exact ⟨h x (by simp), ih fun p hp => h p (by simp [hp])⟩
theorem liftE_len {ps : List (List PV)} {sz : Nat} (h : ∀ e ∈ ps, e.length = sz) : ∀ n ∈ liftE ps, n.length = sz := by
  intro n hn
  obtain ⟨e, he, rfl⟩ := List.mem_map.1 hn
  rw [List.length_map]; exact h e he
theorem liftE_one {ps : List (List PV)} (h : ∀ e ∈ ps, ∀ p ∈ e, p.one = true) : ∀ n ∈ liftE ps, oneAll n = true := by
  intro n hn
  obtain ⟨e, he, rfl⟩ := List.mem_map.1 hn
  exact oneAll_lift (h e he)
theorem at_lift {α : Type} (f : α → List PV) {l : List α} {n : Nat} {a : α} (h : l[n]? = some a) : (liftE (l.map f))[n]? = some ((f a).map AV.p) := by
  simp [liftE, h]
theorem map_labs_lift (n : Nat) (ps : List (List PV)) : ∀ e ∈ liftE ps, labsInL n e = true := fun e he => List.all_eq_true.1 (labsIn_lift n ps) e he
theorem beqf {α : Type} [BEq α] [LawfulBEq α] {a b : α} (h : ¬ a = b) : (a == b) = false := by simpa using h
end Go.Aw
