/- More ways to tell a state anew: a place of one's own that nobody writes any more; nil or not. -/
import Derived.Test.YtmeplhcfjihafaaAwOFn
namespace Go.Aw
open Go.RowKit
section
variable {σ : Lab} {w : World} {I : Nat → Prop} {nt : Fm} {s : St}
theorem rep_ptr {J : Nat → Prop} {l sz i off : Nat} {es : List (List AV)} {ps : List (List PV)} {cs : List PV} {v : Value} (hb : repB σ w I l (.row sz es)) (hv : repA σ w I v (.ptr l i off)) (hp : unlift es = some ps) (hcs : ps[i]? = some cs) (hg : ∀ g s, σ l = some s → s.block = some g → J g) (hI : ∀ b, I b → J b) : rep w J v (.box cs off) := by
  obtain ⟨hl, hcells⟩ := unlift_spec hp
  cases hb with
  | emp h' =>
    have : ps = [] := List.eq_nil_of_length_eq_zero (by rw [← hl]; rfl)
    subst this
    simp at hcs
  | row h' hh hcur hc hs ho hr =>
    rename_i g0 c0 cur et
    cases hv with
    | ptr hs' =>
      rename_i g n c szz
      rw [hs'] at h'
      injection h' with h'
      injection h' with e1 e2 e3 e4
      subst e1 e2 e3 e4
      have hi : i < es.length := by rw [hl]; exact (List.getElem?_eq_some_iff.1 hcs).1
      have he := List.getElem?_eq_getElem hi
      obtain ⟨k1, k2⟩ := pureL_spec (hcells i _ cs he hcs)
      have at_ : ∀ (j : Nat) p, cs[j]? = some p → ∃ x, es[i][j]? = some x ∧ pure1 x = some p := by
        intro j p h2
        have hj : j < (es[i]).length := by rw [k1]; exact (List.getElem?_eq_some_iff.1 h2).1
        exact ⟨_, List.getElem?_eq_getElem hj, k2 j _ p (List.getElem?_eq_getElem hj) h2⟩
      refine .box g (i * szz) off cs (fun j => (w.cell? ⟨g, i * szz + j, none⟩).getD undef) (hg _ _ hs' rfl) (fun p hp' => ?_) (fun j p h2 => ?_) (fun j p h2 => ?_)
      · obtain ⟨j, hj, rfl⟩ := List.mem_iff_getElem.1 hp'
        obtain ⟨x, q2, q3⟩ := at_ j _ (List.getElem?_eq_getElem hj)
        exact pure1_one q3 (ho _ (List.mem_of_getElem? he) x (List.mem_of_getElem? q2))
      · obtain ⟨x, q2, q3⟩ := at_ j p h2
        obtain ⟨u, hu, hru⟩ := hr i _ j x he q2
        have : w.cell? ⟨g, i * szz + j, none⟩ = some u := by simp [World.cell?, hh, hu]
        rw [this]
        rfl
      · obtain ⟨x, q2, q3⟩ := at_ j p h2
        obtain ⟨u, hu, hru⟩ := hr i _ j x he q2
        have : w.cell? ⟨g, i * szz + j, none⟩ = some u := by simp [World.cell?, hh, hu]
        rw [this]
        exact (rep_pure1 hru q3).mono hI (fun _ _ => rfl)
def thawP1 (lb : Nat) (ps : List (List PV)) : AV → AV
  | .own l => if l = lb then .p (.slice ps) else .own l
  | .ptr l i off => if l = lb then (match ps[i]? with | some cs => .p (.box cs off) | none => .ptr l i off) else .ptr l i off
  | x => x
def thawP (lb : Nat) (ps : List (List PV)) : AV → AV
  | .agg cs => mkAgg (cs.map (thawP1 lb ps))
  | x => thawP1 lb ps x
theorem thawP1_rep {J : Nat → Prop} {lb : Nat} {ps : List (List PV)} {v : Value} {x : AV} (hI : ∀ b, I b → J b) (hl : ∀ v, repA σ w I v (.own lb) → rep w J v (.slice ps)) (hp : ∀ v i off cs, ps[i]? = some cs → repA σ w I v (.ptr lb i off) → rep w J v (.box cs off)) (h : repA σ w I v x) : repA σ w J v (thawP1 lb ps x) := by
  unfold thawP1
  split
  · split
    · rename_i e
      subst e
      exact .p (hl v h)
    · exact h.mono (fun _ _ h => h) hI (fun _ _ => rfl)
  · split
    · rename_i e
      subst e
      split
      · rename_i cs hc
        exact .p (hp v _ _ cs hc h)
      · exact h.mono (fun _ _ h => h) hI (fun _ _ => rfl)
    · exact h.mono (fun _ _ h => h) hI (fun _ _ => rfl)
  · exact h.mono (fun _ _ h => h) hI (fun _ _ => rfl)
theorem thawP1_one (lb : Nat) (ps : List (List PV)) (x : AV) (h : x.one = true) : (thawP1 lb ps x).one = true := by
  unfold thawP1
  split
  · split <;> rfl
  · split
    · split <;> rfl
    · exact h
  · exact h
theorem thawP_lift (lb : Nat) (qs ps : List (List PV)) : (liftE ps).map (fun e => e.map (thawP1 lb qs)) = liftE ps := by
  simp [liftE, thawP1]
/-- A place of one's own, as what is only read. -/
theorem Ghost.freezeP {lb sz : Nat} {es : List (List AV)} {ps : List (List PV)} (hl : s.H lb = some (.row sz es)) (hp : unlift es = some ps) :
    Ghost nt s ⟨fun i => (s.T i).map (thawP lb ps), fun l => if l = lb then none else (s.H l).map fun | .row sz es => .row sz (es.map fun e => e.map (thawP1 lb ps)) | b => b, s.nx⟩ := by
  rintro w0 X I0 a w ⟨σ, I, hσ, m⟩
  have hb := m.heap.rows lb _ hl
  obtain ⟨sl, hs, hlt⟩ := hb.block
  have key : ∃ J : Nat → Prop, (∀ b, I b → J b) ∧ HOK σ w J (upd s.H lb none) w0 X I0 ∧ ∀ g s', σ lb = some s' → s'.block = some g → J g := by
    cases hsb : sl.block with
    | none =>
      refine ⟨I, fun _ h => h, m.heap.less fun l b hb => ?_, fun g s' q1 q2 => ?_⟩
      · by_cases hl : l = lb
        · subst hl; rw [upd_same] at hb; cases hb
        · rwa [upd_ne _ _ hl] at hb
      · rw [hs] at q1; injection q1 with q1; subst q1; rw [hsb] at q2; cases q2
    | some g =>
      refine ⟨_, fun _ h => .inl h, m.heap.freeze (by rw [hl]; simp) hs hsb, fun g' s' q1 q2 => ?_⟩
      rw [hs] at q1; injection q1 with q1; subst q1; rw [hsb] at q2; injection q2 with q2; exact .inr q2.symm
  obtain ⟨J, hIJ, hJ, hg⟩ := key
  have hown : ∀ v, repA σ w I v (.own lb) → rep w J v (.slice ps) := fun v hv => rep_own hb hv hp hg hIJ
  have hptr : ∀ v i off cs, ps[i]? = some cs → repA σ w I v (.ptr lb i off) → rep w J v (.box cs off) := fun v i off cs q hv => rep_ptr hb hv hp q hg hIJ
  refine ⟨σ, J, hσ, m.defers, m.size, m.pins, ⟨fun l b hb' => ?_, fun l1 l2 g s1 s2 h1 h2 => ?_, fun l g s' h1 => ?_, hJ.imm, hJ.sub, hJ.fr⟩, fun i x hx => ?_⟩
  · simp only at hb'
    split at hb'
    · cases hb'
    · rename_i hne
      rw [Option.map_eq_some_iff] at hb'
      obtain ⟨b0, hb0, hb'⟩ := hb'
      have hr := m.heap.rows l b0 hb0
      subst hb'
      cases hr with
      | emp h' => exact .emp h'
      | row h' hh hcur hc hs' ho hrr =>
        refine .row (by rw [List.length_map]; exact h') hh hcur (by rw [List.length_map]; exact hc) (fun e he => ?_) (fun e he x hx => ?_) fun i e j x q1 q2 => ?_
        · obtain ⟨e', he', rfl⟩ := List.mem_map.1 he
          rw [List.length_map]
          exact hs' e' he'
        · obtain ⟨e', he', rfl⟩ := List.mem_map.1 he
          obtain ⟨x', hx', rfl⟩ := List.mem_map.1 hx
          exact thawP1_one _ _ _ (ho e' he' x' hx')
        · rw [List.getElem?_map, Option.map_eq_some_iff] at q1
          obtain ⟨e', he', rfl⟩ := q1
          rw [List.getElem?_map, Option.map_eq_some_iff] at q2
          obtain ⟨x', hx', rfl⟩ := q2
          obtain ⟨u, hu, hru⟩ := hrr i e' j x' he' hx'
          exact ⟨u, hu, thawP1_rep hIJ hown hptr hru⟩
      | map h' hh hn hrr => exact .map h' hh hn fun i m e q1 q2 => ⟨(hrr i m e q1 q2).1, ((hrr i m e q1 q2).2).mono (fun _ _ h => h) hIJ (fun _ _ => rfl)⟩
      | iter h' hh => exact .iter h' hh
  · refine hJ.inj l1 l2 g s1 s2 ?_ ?_
    · intro h
      apply h1
      simp only
      split
      · rfl
      · rename_i hne; rw [upd_ne _ _ hne] at h; rw [h]; rfl
    · intro h
      apply h2
      simp only
      split
      · rfl
      · rename_i hne; rw [upd_ne _ _ hne] at h; rw [h]; rfl
  · refine hJ.mine l g s' fun h => h1 ?_
    simp only
    split
    · rfl
    · rename_i hne; rw [upd_ne _ _ hne] at h; rw [h]; rfl
  · simp only at hx
    rw [Option.map_eq_some_iff] at hx
    obtain ⟨x', hx', rfl⟩ := hx
    obtain ⟨u, hu, hru⟩ := m.tmps i x' hx'
    refine ⟨u, hu, ?_⟩
    unfold thawP
    split
    · cases hru with
      | agg hs' hr =>
        refine repA_agg (by rw [List.length_map]; exact hs') fun j u p q1 q2 => ?_
        rw [List.getElem?_map, Option.map_eq_some_iff] at q2
        obtain ⟨x'', hx'', rfl⟩ := q2
        exact thawP1_rep hIJ hown hptr (hr j u x'' q1 hx'')
    · exact thawP1_rep hIJ hown hptr hru
/-- An empty slice is a constant: nil, or not. -/
theorem AW.nilSplit {P : Program} {c : Code} {Q : Exit → St → Prop} {t : Nat} (ht : s.T t = some (.p (.slice []))) (h : ∀ a n, AW P nt c ⟨upd s.T t (some (.p (.cst (.slice a 0 n)))), s.H, s.nx⟩ Q) : AW P nt c s Q := by
  rintro w0 X I0 a w hm
  obtain ⟨σ, I, hσ, m⟩ := hm
  obtain ⟨u, hu, hr⟩ := m.tmps _ _ ht
  obtain ⟨ad, n, rfl⟩ : ∃ ad n, u = .slice ad 0 n := by
    cases hr with
    | p hr =>
      generalize hv : PV.slice [] = x at hr
      cases hr with
      | empty ad n => exact ⟨_, _, rfl⟩
      | slice b o n c sz es us hn =>
        injection hv with hv
        subst hv
        subst hn
        exact ⟨_, _, rfl⟩
      | _ => cases hv
  refine h ad n w0 X I0 a w ⟨σ, I, hσ, m.defers, m.size, m.pins, m.heap, fun i z hz => ?_⟩
  simp only at hz
  by_cases hi : i = t
  · subst hi
    rw [upd_same] at hz
    injection hz with hz
    subst hz
    exact ⟨_, hu, .p (.cst _)⟩
  · rw [upd_ne _ _ hi] at hz
    exact m.tmps i z hz
theorem Ghost.unNil {t n : Nat} {a : Option Addr} (ht : s.T t = some (.p (.cst (.slice a 0 n)))) : Ghost nt s ⟨upd s.T t (some (.p (.slice []))), s.H, s.nx⟩ :=
  Ghost.weak ht fun _ _ _ _ h => by
    cases h with
    | p h => cases h with
      | cst => exact .p (.empty _ _)
theorem eqIn_nil {P : Program} {t te : TypeId} (hu : P.underlying t = some (.slice te)) (w : World) (d : Nat) (a : Option Addr) (n c : Nat) : (Op.equalIn (d + 1) t (.slice a n c) (.slice none 0 0)).run P w = .ok a.isNone w := by
  cases a <;> simp [Op.equalIn, run_underlying hu]
theorem eqP_nil {P : Program} {t te : TypeId} (hu : P.underlying t = some (.slice te)) (a : Option Addr) (n : Nat) : EqP P t (.cst (.slice a 0 n)) (.cst (.slice none 0 0)) a.isNone := by
  intro w I u v h1 h2
  cases h1
  cases h2
  have e : (Op.equalIn 10000 t (.slice a 0 n) (.slice none 0 0)).run P w = .ok a.isNone w := eqIn_nil hu w 9999 a 0 n
  refine ⟨?_, ?_, fun op x y => by cases op <;> rfl⟩
  · simp only [binOp]; simp [Op.equal, Op.maxDepth, e]
  · simp only [binOp]; simp [Op.equal, Op.maxDepth, e]
theorem eqP_some {P : Program} {t te : TypeId} (hu : P.underlying t = some (.slice te)) (e : List PV) (es : List (List PV)) : EqP P t (.slice (e :: es)) (.cst (.slice none 0 0)) false := by
  intro w I u v h1 h2
  cases h2
  generalize hx : PV.slice (e :: es) = x at h1
  cases h1 with
  | slice b o n c sz es' us =>
    have e : (Op.equalIn 10000 t (.slice (some ⟨b, o, none⟩) n c) (.slice none 0 0)).run P w = .ok false w := eqIn_nil hu w 9999 _ n c
    refine ⟨?_, ?_, fun op x y => by cases op <;> rfl⟩
    · simp only [binOp]; simp [Op.equal, Op.maxDepth, e]
    · simp only [binOp]; simp [Op.equal, Op.maxDepth, e]
  | empty a c => injection hx with hx; cases hx
  | _ => cases hx
end
end Go.Aw
