/- The contract of a function that hands back a row of its own. -/
import Derived.Test.YtmeplhcfjihafaaAwKit
namespace Go.Aw
open Go.RowKit
variable {P : Program}
def EndO (rs : Array ResultVar) (sz : Nat) (es : List (List PV)) : Exit → St → Prop
  | .normal, s | .ret, s => ∃ t lb, rs = #[.tmp t] ∧ s.T t = some (.own lb) ∧ s.H lb = some (.row sz (liftE es))
  | _, _ => False
theorem row_out {s : Slot} {σ : Lab} {w : World} {J : Nat → Prop} {lab sz : Nat} {es : List (List PV)} (hs : σ lab = some s) (h : repB σ w J lab (.row sz (liftE es))) : repB (only 0 s) w J 0 (.row sz (liftE es)) := by
  have e0 : ∀ {s'}, σ lab = some s' → only 0 s 0 = some s' := fun h => by rw [hs] at h; unfold only; rw [if_pos rfl]; exact h
  generalize he : liftE es = ls at h
  cases h with
  | emp h => exact .emp (e0 h)
  | row h hg hcur hc hsz ho hr =>
    refine .row (e0 h) hg hcur hc hsz ho fun i e j x q1 q2 => ?_
    obtain ⟨u, hu, hru⟩ := hr i e j x q1 q2
    refine ⟨u, hu, ?_⟩
    subst he
    simp only [liftE, List.getElem?_map, Option.map_eq_some_iff] at q1
    obtain ⟨e', _, rfl⟩ := q1
    simp only [List.getElem?_map, Option.map_eq_some_iff] at q2
    obtain ⟨p, _, rfl⟩ := q2
    cases hru with
    | p h => exact .p h
theorem own_out {s : Slot} {σ : Lab} {w : World} {J : Nat → Prop} {v : Value} {lab : Nat} (hs : σ lab = some s) (h : repA σ w J v (.own lab)) : repA (only 0 s) w J v (.own 0) := by
  have e0 : ∀ {s'}, σ lab = some s' → only 0 s 0 = some s' := fun h => by rw [hs] at h; unfold only; rw [if_pos rfl]; exact h
  cases h with
  | ownE h => exact .ownE (e0 h)
  | own h => exact .own (e0 h)
theorem OFn.of {f : FuncId} {fn : Func} {c : Code} {args : List PV} {sz : Nat} {es : List (List PV)} (hf : P.funcs[f]? = some fn) (hb : fn.body = some c) (hn : fn.name ≠ "runtime.NumGoroutine") {nt : Nat} (hnt : fn.ntmps = nt) {rs : Array ResultVar} (hrs : fn.results = rs) (hnt' : args.length ≤ nt)
    (h : AW P (fm nt) c ⟨argsT args 0, fun _ => none, 0⟩ (EndO rs sz es)) : OFn P f args sz es := by
  subst hnt hrs
  refine ⟨by simp [enters, hf, hb, hn], fun w I vals hs hr hI => ?_⟩
  refine calls_of_wp hf hb ?_
  have m : Matches (fm fn.ntmps) w (fun _ => False) I ⟨argsT args 0, fun _ => none, 0⟩ { tmps := vals ++ Array.replicate (fn.ntmps - vals.size) undef, defers := [] } w := by
    refine ⟨fun _ => none, I, fun _ _ => rfl, rfl, (by simp; omega), (fun i hi => by cases hi), ⟨(fun l b h => by cases h), fun l l' g s s' h => absurd rfl h, fun l g s h => absurd rfl h, fun g hg => ⟨hI g hg, .inl hg⟩, fun _ h => h, Fr.refl _ _⟩, fun i x hx => ?_⟩
    obtain ⟨p, rfl, h0, hp⟩ := argsT_some hx
    rw [Nat.sub_zero] at hp
    have hi : i < vals.size := by rw [hs]; exact (List.getElem?_eq_some_iff.1 hp).1
    exact ⟨vals[i], by rw [Array.getElem?_append_left hi, Array.getElem?_eq_getElem hi], .p (hr i _ p (Array.getElem?_eq_getElem hi) hp)⟩
  refine wp_mono (h w _ I _ w m) ?_
  rintro e a' w' ⟨s', ⟨σ', I', hn', m'⟩, q⟩
  have fin : (∃ t lb, fn.results = #[.tmp t] ∧ s'.T t = some (.own lb) ∧ s'.H lb = some (.row sz (liftE es))) → a'.defers = [] ∧ ∃ v, (results fn a'.tmps).run P w' = .ok v w' ∧ ∃ v' s, Ending.returned v = .returned v' ∧ Fr w (fun _ => False) w' ∧ (∀ g, s.block = some g → w.heap.size ≤ g ∧ g < w'.heap.size) ∧
      repA (only 0 s) w' (fun g => I g ∨ (w.heap.size ≤ g ∧ g < w'.heap.size ∧ s.block ≠ some g)) v' (.own 0) ∧
      repB (only 0 s) w' (fun g => I g ∨ (w.heap.size ≤ g ∧ g < w'.heap.size ∧ s.block ≠ some g)) 0 (.row sz (liftE es)) := by
    rintro ⟨t, lb, q1, q2, q3⟩
    obtain ⟨u, hu, hru⟩ := m'.tmps t _ q2
    have hrb := m'.heap.rows lb _ q3
    obtain ⟨s, hs', hlt⟩ := hrb.block
    have hmine := fun g (hg : s.block = some g) => m'.heap.mine lb g s (by rw [q3]; simp) hs' hg
    have hJ : ∀ g, I' g → I g ∨ (w.heap.size ≤ g ∧ g < w'.heap.size ∧ s.block ≠ some g) := fun g hg => by
      obtain ⟨p1, p2⟩ := m'.heap.imm g hg
      rcases p2 with p2 | p2 | p2
      · exact .inl p2
      · exact p2.elim
      · exact .inr ⟨p2, p1, fun e => (hmine g e).1 hg⟩
    refine ⟨m'.defers, u, ?_, u, s, rfl, m'.heap.fr, fun g hg => ⟨?_, hlt g hg⟩, own_out hs' (hru.mono (fun _ _ h => h) hJ (fun _ _ => rfl)), row_out hs' (hrb.mono (fun _ _ h => h) hJ (fun _ _ => rfl) (fun _ _ _ _ => rfl))⟩
    · rw [results_eq, q1]
      have : a'.tmps.getD t undef = u := by simp [Array.getD_eq_getD_getElem?, hu]
      simp [resF, this]
    · rcases (hmine g hg).2 with h | h
      · exact h.elim
      · exact h
  cases e with
  | normal => exact fin q
  | ret => exact fin q
  | exit _ => exact q.elim
  | goto _ => exact q.elim
  | panic _ => exact q.elim
  | outgrown => exact q.elim
/-- A row of one's own may be read. -/
theorem OFn.pure {f : FuncId} {args : List PV} {sz : Nat} {es : List (List PV)} (h : OFn P f args sz es) : PFn P f args (.slice es) := by
  refine ⟨h.1, fun w I vals h1 h2 h3 => (h.2 w I vals h1 h2 h3).mono fun e w' ⟨v, s, he, hf, hb, hra, hrb⟩ => ⟨v, he, hf, ?_⟩⟩
  refine rep_own hrb hra (unlift_liftE es) (fun g s' q1 q2 => ?_) (fun g hg => ?_)
  · rw [only_at q1] at q2
    exact .inr (hb g q2)
  · rcases hg with hg | ⟨h1, h2, _⟩
    · exact .inl hg
    · exact .inr ⟨h1, h2⟩
/-- A temp may be told less of. -/
theorem Ghost.weak {nt : Fm} {s : St} {t : Nat} {x y : AV} (ht : s.T t = some x) (h : ∀ σ w I v, repA σ w I v x → repA σ w I v y) : Ghost nt s ⟨upd s.T t (some y), s.H, s.nx⟩ := by
  rintro w0 X I0 a w ⟨σ, I, hσ, m⟩
  refine ⟨σ, I, hσ, m.defers, m.size, m.pins, m.heap, fun i z hz => ?_⟩
  simp only at hz
  by_cases hi : i = t
  · subst hi
    rw [upd_same] at hz
    injection hz with hz
    subst hz
    obtain ⟨u, hu, hr⟩ := m.tmps _ _ ht
    exact ⟨u, hu, h _ _ _ _ hr⟩
  · rw [upd_ne _ _ hi] at hz
    exact m.tmps i z hz
theorem Ghost.exP {nt : Fm} {s : St} {t : Nat} {es : List (List PV)} (ht : s.T t = some (.ex es)) : Ghost nt s ⟨upd s.T t (some (.p (.slice es))), s.H, s.nx⟩ :=
  Ghost.weak ht fun _ _ _ _ h => by
    cases h with
    | ex _ h => exact .p h
end Go.Aw
