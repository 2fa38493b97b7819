/- A nil slice in a row. -/
import Derived.Test.YtmeplhcfjihafaaDoorAwG1
namespace Go.Aw
set_option linter.unusedSimpArgs false
set_option linter.unusedVariables false
/-- A nil slice in a row is an empty row of one's own. -/
theorem Ghost.nilH {nt : Fm} {s : St} {l i j sz sz' : Nat} {es : List (List AV)} {e : List AV} (hl : s.H l = some (.row sz es)) (hi : es[i]? = some e) (hj : e[j]? = some (.ex [])) :
    Ghost nt s ⟨s.T, upd (upd s.H l (some (.row sz (es.set i (e.set j (.own s.nx)))))) s.nx (some (.row sz' [])), s.nx + 1⟩ := by
  rintro w0 X I0 a w ⟨σ, I, hσ, m⟩
  have hb := m.heap.rows l _ hl
  cases hb with
  | emp h => simp at hi
  | row h hg hcur hc hs ho hr =>
    rename_i g c cur et
    obtain ⟨u, hu, hru⟩ := hr i e j _ hi hj
    have hnx := hσ s.nx (Nat.le_refl _)
    have hln : l ≠ s.nx := by rintro rfl; rw [hnx] at h; cases h
    cases hru with
    | ex he hrep =>
      rename_i ad n
      subst he
      have ext : ∀ l' s', σ l' = some s' → upd σ s.nx (some (.emp ad)) l' = some s' := fun l' s' h' => by
        rw [upd_ne _ _ (by rintro rfl; rw [hnx] at h'; cases h')]
        exact h'
      have H2 := m.heap.empty hnx ad sz'
      refine ⟨upd σ s.nx (some (.emp ad)), I, fun l' h' => ?_, m.defers, m.size, m.pins, ⟨fun l' b' h' => ?_, fun l1 l2 g s1 s2 h1 h2 => ?_, fun l' g s' h1 => ?_, H2.imm, H2.sub, H2.fr⟩, fun i' x hx => ?_⟩
      · simp only at h'
        rw [upd_ne _ _ (by omega)]
        exact hσ l' (by omega)
      · simp only at h'
        by_cases e1 : l' = s.nx
        · subst e1
          rw [upd_same] at h'
          exact H2.rows s.nx b' (by rw [upd_same]; exact h')
        · rw [upd_ne _ _ e1] at h'
          by_cases e2 : l' = l
          · subst e2
            rw [upd_same] at h'
            injection h' with h'
            subst h'
            refine .row (by rw [List.length_set]; exact ext _ _ h) hg hcur (by rw [List.length_set]; exact hc) (fun e' he' => ?_) (fun e' he' x hx => ?_) fun i' e' j' x q1 q2 => ?_
            · rcases List.mem_or_eq_of_mem_set he' with he' | rfl
              · exact hs e' he'
              · rw [List.length_set]; exact hs e (List.mem_of_getElem? hi)
            · rcases List.mem_or_eq_of_mem_set he' with he' | rfl
              · exact ho e' he' x hx
              · rcases List.mem_or_eq_of_mem_set hx with hx | rfl
                · exact ho e (List.mem_of_getElem? hi) x hx
                · rfl
            · rw [List.getElem?_set] at q1
              split at q1
              · rename_i e3
                subst e3
                split at q1
                · injection q1 with q1
                  subst q1
                  rw [List.getElem?_set] at q2
                  split at q2
                  · rename_i e4
                    subst e4
                    split at q2
                    · injection q2 with q2
                      subst q2
                      exact ⟨_, hu, .ownE (upd_same _ _ _)⟩
                    · cases q2
                  · obtain ⟨u', hu', hr'⟩ := hr i e j' x hi q2
                    exact ⟨u', hu', hr'.mono ext (fun _ h => h) (fun _ _ => rfl)⟩
                · cases q1
              · obtain ⟨u', hu', hr'⟩ := hr i' e' j' x q1 q2
                exact ⟨u', hu', hr'.mono ext (fun _ h => h) (fun _ _ => rfl)⟩
          · rw [upd_ne _ _ e2] at h'
            exact H2.rows l' b' (by rw [upd_ne _ _ e1]; exact h')
      · refine H2.inj l1 l2 g s1 s2 ?_ ?_
        · intro h0; apply h1
          show upd (upd s.H l _) s.nx _ l1 = none
          by_cases e1 : l1 = s.nx
          · subst e1; rw [upd_same] at h0; cases h0
          · rw [upd_ne _ _ e1] at h0 ⊢
            by_cases e2 : l1 = l
            · subst e2; rw [hl] at h0; cases h0
            · rw [upd_ne _ _ e2]; exact h0
        · intro h0; apply h2
          show upd (upd s.H l _) s.nx _ l2 = none
          by_cases e1 : l2 = s.nx
          · subst e1; rw [upd_same] at h0; cases h0
          · rw [upd_ne _ _ e1] at h0 ⊢
            by_cases e2 : l2 = l
            · subst e2; rw [hl] at h0; cases h0
            · rw [upd_ne _ _ e2]; exact h0
      · refine H2.mine l' g s' ?_
        intro h0; apply h1
        show upd (upd s.H l _) s.nx _ l' = none
        by_cases e1 : l' = s.nx
        · subst e1; rw [upd_same] at h0; cases h0
        · rw [upd_ne _ _ e1] at h0 ⊢
          by_cases e2 : l' = l
          · subst e2; rw [hl] at h0; cases h0
          · rw [upd_ne _ _ e2]; exact h0
      · obtain ⟨v, hv, hrv⟩ := m.tmps i' x hx
        exact ⟨v, hv, hrv.mono ext (fun _ h => h) (fun _ _ => rfl)⟩

theorem thaw_lift (lb : Nat) (qs ps : List (List PV)) : (liftE ps).map (fun e => e.map (thaw1 lb qs)) = liftE ps := by
  simp [liftE, thaw1]
end Go.Aw
