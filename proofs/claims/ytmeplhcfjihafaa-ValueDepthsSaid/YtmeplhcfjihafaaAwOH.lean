/- A cell of one's own may be told less of. -/
import Derived.Test.YtmeplhcfjihafaaAwOG
namespace Go.Aw
theorem Ghost.weakH {nt : Fm} {s : St} {l i j sz : Nat} {es : List (List AV)} {e : List AV} {x y : AV} (hl : s.H l = some (.row sz es)) (hi : es[i]? = some e) (hj : e[j]? = some x) (hy : y.one = true) (hw : ∀ σ w I v, repA σ w I v x → repA σ w I v y) :
    Ghost nt s ⟨s.T, upd s.H l (some (.row sz (es.set i (e.set j y)))), s.nx⟩ := by
  rintro w0 X I0 a w ⟨σ, I, hσ, m⟩
  have hb := m.heap.rows l _ hl
  cases hb with
  | emp h => simp at hi
  | row h hg hcur hc hs ho hr =>
    rename_i g c cur et
    refine ⟨σ, I, hσ, m.defers, m.size, m.pins, ⟨fun l' b' h' => ?_, fun l1 l2 g s1 s2 h1 h2 => ?_, fun l' g s' h1 => ?_, m.heap.imm, m.heap.sub, m.heap.fr⟩, m.tmps⟩
    · simp only at h'
      by_cases e2 : l' = l
      · subst e2
        rw [upd_same] at h'
        injection h' with h'
        subst h'
        refine .row (by rw [List.length_set]; exact h) hg hcur (by rw [List.length_set]; exact hc) (fun e' he' => ?_) (fun e' he' x hx => ?_) fun i' e' j' x q1 q2 => ?_
        · rcases List.mem_or_eq_of_mem_set he' with he' | rfl
          · exact hs e' he'
          · rw [List.length_set]; exact hs e (List.mem_of_getElem? hi)
        · rcases List.mem_or_eq_of_mem_set he' with he' | rfl
          · exact ho e' he' x hx
          · rcases List.mem_or_eq_of_mem_set hx with hx | rfl
            · exact ho e (List.mem_of_getElem? hi) x hx
            · exact hy
        · rw [List.getElem?_set] at q1
          split at q1
          · rename_i e3
            subst e3
            split at q1
            · injection q1 with q1
              subst q1
              rw [List.getElem?_set] at q2
              split at q2
              · rename_i e4
                subst e4
                split at q2
                · injection q2 with q2
                  subst q2
                  obtain ⟨u, hu, hru⟩ := hr i e j _ hi hj
                  exact ⟨u, hu, hw _ _ _ _ hru⟩
                · cases q2
              · exact hr i e j' x hi q2
            · cases q1
          · exact hr i' e' j' x q1 q2
      · rw [upd_ne _ _ e2] at h'
        exact m.heap.rows l' b' h'
    · refine m.heap.inj l1 l2 g s1 s2 ?_ ?_
      · intro h0; apply h1
        show upd s.H l _ l1 = none
        by_cases e2 : l1 = l
        · subst e2; rw [hl] at h0; cases h0
        · rw [upd_ne _ _ e2]; exact h0
      · intro h0; apply h2
        show upd s.H l _ l2 = none
        by_cases e2 : l2 = l
        · subst e2; rw [hl] at h0; cases h0
        · rw [upd_ne _ _ e2]; exact h0
    · refine m.heap.mine l' g s' ?_
      intro h0; apply h1
      show upd s.H l _ l' = none
      by_cases e2 : l' = l
      · subst e2; rw [hl] at h0; cases h0
      · rw [upd_ne _ _ e2]; exact h0
theorem Ghost.exH {nt : Fm} {s : St} {l i j sz : Nat} {es : List (List AV)} {e : List AV} {x : List (List PV)} (hl : s.H l = some (.row sz es)) (hi : es[i]? = some e) (hj : e[j]? = some (.ex x)) :
    Ghost nt s ⟨s.T, upd s.H l (some (.row sz (es.set i (e.set j (.p (.slice x)))))), s.nx⟩ :=
  Ghost.weakH hl hi hj rfl fun _ _ _ _ h => by
    cases h with
    | ex _ h => exact .p h
end Go.Aw
