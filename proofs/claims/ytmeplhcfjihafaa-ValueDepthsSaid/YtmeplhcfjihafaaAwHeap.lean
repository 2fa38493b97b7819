/- How the memory of a call is kept: nothing turned, a block more, a row written, a label let go, a row that is only read from now on. -/
import Derived.Test.YtmeplhcfjihafaaAwBase
import Derived.Laws.CopyRow
import Derived.Laws.Cells
namespace Go.Aw
open Go.RowKit

def upd {α : Type} (f : Nat → Option α) (i : Nat) (v : Option α) : Nat → Option α := fun j => if j = i then v else f j
theorem upd_same {α : Type} (f : Nat → Option α) (i : Nat) (v : Option α) : upd f i v i = v := if_pos rfl
theorem upd_ne {α : Type} (f : Nat → Option α) {i j : Nat} (v : Option α) (h : j ≠ i) : upd f i v j = f j := if_neg h

theorem Fr.refl (w : World) (X : Nat → Prop) : Fr w X w := ⟨rfl, rfl, rfl, Nat.le_refl _, fun _ _ _ => rfl, fun _ cur et p h => ⟨cur, et, p, h, rfl⟩⟩
theorem Fr.step {w0 w w' : World} {X : Nat → Prop} (h : Fr w0 X w) (hs : ∀ (b : Nat) (cur : Array Value) (et : TypeId) (p : Nat × Nat), b < w0.heap.size → w.heap[b]? = some (Obj.cells cur et p) → ∃ (cur' : Array Value) (et' : TypeId) (p' : Nat × Nat), w'.heap[b]? = some (Obj.cells cur' et' p') ∧ cur'.size = cur.size) :
    ∀ (b : Nat) (cur : Array Value) (et : TypeId) (p : Nat × Nat), w0.heap[b]? = some (Obj.cells cur et p) → ∃ (cur' : Array Value) (et' : TypeId) (p' : Nat × Nat), w'.heap[b]? = some (Obj.cells cur' et' p') ∧ cur'.size = cur.size := fun b cur et p hb => by
  obtain ⟨c1, e1, p1, h1, h2⟩ := h.shape b cur et p hb
  obtain ⟨c2, e2, p2, h3, h4⟩ := hs b c1 e1 p1 (Array.getElem?_eq_some_iff.1 hb).1 h1
  exact ⟨c2, e2, p2, h3, h4.trans h2⟩

theorem repB.mono {σ σ' : Lab} {w w' : World} {I I' : Nat → Prop} {l : Nat} {b : Blk} (h : repB σ w I l b) (hσ : ∀ l s, σ l = some s → σ' l = some s) (hI : ∀ b, I b → I' b) (hw : ∀ b, I b → w'.heap[b]? = w.heap[b]?)
    (hg : ∀ g s, σ l = some s → s.block = some g → w'.heap[g]? = w.heap[g]?) : repB σ' w' I' l b := by
  cases h with
  | emp h => exact .emp (hσ _ _ h)
  | row h hh hcur hc hs ho hr =>
    refine .row (hσ _ _ h) ((hg _ _ h rfl).trans hh) hcur hc hs ho fun i e j x h1 h2 => ?_
    obtain ⟨u, hu, hx⟩ := hr i e j x h1 h2
    exact ⟨u, hu, hx.mono hσ hI hw⟩
  | map h hh hn hr =>
    refine .map (hσ _ _ h) ((hg _ _ h rfl).trans hh) hn fun i m e h1 h2 => ?_
    obtain ⟨hk, hv⟩ := hr i m e h1 h2
    exact ⟨hk.mono (fun _ h => h) (fun _ h => h.elim), hv.mono hσ hI hw⟩
  | iter h hh => exact .iter (hσ _ _ h) ((hg _ _ h rfl).trans hh)

theorem repB.block {σ : Lab} {w : World} {I : Nat → Prop} {l : Nat} {b : Blk} (h : repB σ w I l b) : ∃ s, σ l = some s ∧ ∀ g, s.block = some g → g < w.heap.size := by
  have lt : ∀ {g : Nat} {o : Obj}, w.heap[g]? = some o → g < w.heap.size := fun h => (Array.getElem?_eq_some_iff.1 h).1
  cases h with
  | emp h => exact ⟨_, h, fun g hg => by simp [Slot.block] at hg⟩
  | row h hh _ _ _ _ _ => exact ⟨_, h, fun g hg => by simp [Slot.block] at hg; subst hg; exact lt hh⟩
  | map h hh _ _ => exact ⟨_, h, fun g hg => by simp [Slot.block] at hg; subst hg; exact lt hh⟩
  | iter h hh => exact ⟨_, h, fun g hg => by simp [Slot.block] at hg; subst hg; exact lt hh⟩

section
variable {σ : Lab} {w : World} {I : Nat → Prop} {H : Nat → Option Blk} {w0 : World} {X I0 : Nat → Prop}

theorem slot_cells {l g : Nat} {s : Slot} {b : Blk} {cur : Array Value} {et : TypeId} {p : Nat × Nat} (h : repB σ w I l b) (hs : σ l = some s) (hg : s.block = some g) (hc : w.heap[g]? = some (.cells cur et p)) : ∃ n c sz, s = .row g n c sz ∧ cur.size = c * sz := by
  cases h with
  | emp h => rw [hs] at h; injection h with h; subst h; simp [Slot.block] at hg
  | row h hh hcur =>
    rw [hs] at h; injection h with h; subst h
    simp only [Slot.block, Option.some.injEq] at hg
    subst hg
    rw [hh] at hc
    injection hc with hc
    injection hc with hc
    subst hc
    exact ⟨_, _, _, rfl, hcur⟩
  | map h hh =>
    rw [hs] at h; injection h with h; subst h
    simp only [Slot.block, Option.some.injEq] at hg
    subst hg
    rw [hh] at hc
    cases hc
  | iter h hh =>
    rw [hs] at h; injection h with h; subst h
    simp only [Slot.block, Option.some.injEq] at hg
    subst hg
    rw [hh] at hc
    cases hc
theorem cells_slot {l g n c sz : Nat} {b : Blk} (h : repB σ w I l b) (hs : σ l = some (.row g n c sz)) : ∃ cur et p, w.heap[g]? = some (.cells cur et p) ∧ cur.size = c * sz := by
  cases h with
  | emp h => rw [hs] at h; cases h
  | row h hh hcur =>
    rw [hs] at h; injection h with h; injection h with e1 e2 e3 e4
    subst e1 e2 e3 e4
    exact ⟨_, _, _, hh, hcur⟩
  | map h hh => rw [hs] at h; cases h
  | iter h hh => rw [hs] at h; cases h
theorem HOK.fresh (h : HOK σ w I H w0 X I0) {l : Nat} (hl : σ l = none) : H l = none := by
  cases hh : H l with
  | none => rfl
  | some b =>
    obtain ⟨s, hs, _⟩ := (h.rows l b hh).block
    rw [hl] at hs
    cases hs

/-- The same memory in another world. -/
theorem HOK.world (h : HOK σ w I H w0 X I0) {w' : World} (hh : w'.heap = w.heap) (ho : w'.os = w.os) (ht : w'.tape = w.tape) (hu : w'.output = w.output) : HOK σ w' I H w0 X I0 :=
  ⟨fun l b hl => (h.rows l b hl).mono (fun _ _ h => h) (fun _ h => h) (fun _ _ => by rw [hh]) (fun _ _ _ _ => by rw [hh]), h.inj, h.mine, by rw [hh]; exact h.imm, h.sub,
    ⟨ho.trans h.fr.os, ht.trans h.fr.tape, hu.trans h.fr.output, by rw [hh]; exact h.fr.size, by rw [hh]; exact h.fr.block, by rw [hh]; exact h.fr.shape⟩⟩

/-- Labels are let go. -/
theorem HOK.less (h : HOK σ w I H w0 X I0) {H' : Nat → Option Blk} (hl : ∀ l b, H' l = some b → H l = some b) : HOK σ w I H' w0 X I0 := by
  have ne : ∀ l, H' l ≠ none → H l ≠ none := fun l hn => by
    obtain ⟨b, hb⟩ := Option.ne_none_iff_exists'.1 hn
    rw [hl l b hb]
    simp
  exact ⟨fun l b hb => h.rows l b (hl l b hb), fun l l' g s s' h1 h2 => h.inj l l' g s s' (ne l h1) (ne l' h2), fun l g s h1 => h.mine l g s (ne l h1), h.imm, h.sub, h.fr⟩

/-- A new block at a new label. -/
theorem HOK.alloc (h : HOK σ w I H w0 X I0) {w' : World} {o : Obj} (hw : w'.heap = w.heap.push o) (ho : w'.os = w.os) (ht : w'.tape = w.tape) (hu : w'.output = w.output) {l : Nat} (hl : σ l = none) {s : Slot} (hs : s.block = some w.heap.size) {b : Blk}
    (hb : repB (upd σ l (some s)) w' I l b) : HOK (upd σ l (some s)) w' I (upd H l (some b)) w0 X I0 := by
  have old : ∀ g, g < w.heap.size → w'.heap[g]? = w.heap[g]? := fun g hg => by rw [hw, Array.getElem?_push, if_neg (by omega)]
  have ext : ∀ l' s', σ l' = some s' → upd σ l (some s) l' = some s' := fun l' s' h' => by
    rw [upd_ne _ _ (by rintro rfl; rw [hl] at h'; cases h')]
    exact h'
  have hsz : w'.heap.size = w.heap.size + 1 := by rw [hw]; simp
  have lab : ∀ l' s' g, upd H l (some b) l' ≠ none → upd σ l (some s) l' = some s' → s'.block = some g → (l' = l ∧ g = w.heap.size) ∨ (l' ≠ l ∧ H l' ≠ none ∧ σ l' = some s' ∧ g < w.heap.size) := by
    intro l' s' g h1 h2 h3
    by_cases he : l' = l
    · subst he
      rw [upd_same] at h2
      injection h2 with h2
      subst h2
      rw [hs] at h3
      injection h3 with h3
      exact .inl ⟨rfl, h3.symm⟩
    · rw [upd_ne _ _ he] at h1 h2
      refine .inr ⟨he, h1, h2, ?_⟩
      obtain ⟨b', hb'⟩ := Option.ne_none_iff_exists'.1 h1
      obtain ⟨s'', hs'', hlt⟩ := (h.rows l' b' hb').block
      rw [h2] at hs''
      injection hs'' with hs''
      subst hs''
      exact hlt g h3
  refine ⟨fun l' b' h' => ?_, fun l1 l2 g s1 s2 h1 h2 e1 e2 g1 g2 => ?_, fun l' g s' h1 h2 h3 => ?_, fun g hg => ?_, h.sub, ⟨ho.trans h.fr.os, ht.trans h.fr.tape, hu.trans h.fr.output, by rw [hsz]; have := h.fr.size; omega, fun b hb hx => ?_, h.fr.step fun b cur et p hb hc => ⟨cur, et, p, by rw [old b (by have := h.fr.size; omega)]; exact hc, rfl⟩⟩⟩
  · by_cases he : l' = l
    · subst he
      rw [upd_same] at h'
      injection h' with h'
      subst h'
      exact hb
    · rw [upd_ne _ _ he] at h'
      obtain ⟨s', hs', hlt⟩ := (h.rows l' b' h').block
      refine (h.rows l' b' h').mono ext (fun _ h => h) (fun g hg => old g (h.imm g hg).1) (fun g s'' h1 h2 => old g ?_)
      rw [hs'] at h1
      injection h1 with h1
      subst h1
      exact hlt g h2
  · rcases lab l1 s1 g h1 e1 g1 with ⟨a1, a2⟩ | ⟨a1, a2, a3, a4⟩ <;> rcases lab l2 s2 g h2 e2 g2 with ⟨b1, b2⟩ | ⟨b1, b2, b3, b4⟩
    · exact a1.trans b1.symm
    · omega
    · omega
    · exact h.inj l1 l2 g s1 s2 a2 b2 a3 b3 g1 g2
  · rcases lab l' s' g h1 h2 h3 with ⟨a1, a2⟩ | ⟨a1, a2, a3, a4⟩
    · exact ⟨fun hi => by have := (h.imm g hi).1; omega, .inr (by have := h.fr.size; omega)⟩
    · exact h.mine l' g s' a2 a3 h3
  · exact ⟨by rw [hsz]; have := (h.imm g hg).1; omega, (h.imm g hg).2⟩
  · exact (old b (by have := h.fr.size; omega)).trans (h.fr.block b hb hx)

/-- What is kept at a label is written anew. -/
theorem HOK.write (h : HOK σ w I H w0 X I0) {w' : World} {l g : Nat} {s : Slot} (hn : H l ≠ none) (hs : σ l = some s) (hg : s.block = some g) (hw : ∀ k, k ≠ g → w'.heap[k]? = w.heap[k]?) (hsz : w'.heap.size = w.heap.size)
    (ho : w'.os = w.os) (ht : w'.tape = w.tape) (hu : w'.output = w.output) {b : Blk} (hb : repB σ w' I l b) : HOK σ w' I (upd H l (some b)) w0 X I0 := by
  obtain ⟨hni, hx⟩ := h.mine l g s hn hs hg
  have hI : ∀ k, I k → w'.heap[k]? = w.heap[k]? := fun k hk => hw k (fun e => hni (e ▸ hk))
  have ne : ∀ l', upd H l (some b) l' ≠ none → H l' ≠ none := fun l' h' => by
    by_cases he : l' = l
    · subst he; exact hn
    · rwa [upd_ne _ _ he] at h'
  refine ⟨fun l' b' h' => ?_, fun l1 l2 g s1 s2 h1 h2 => h.inj l1 l2 g s1 s2 (ne l1 h1) (ne l2 h2), fun l' g s' h1 => h.mine l' g s' (ne l' h1), fun k hk => by rw [hsz]; exact h.imm k hk, h.sub,
    ⟨ho.trans h.fr.os, ht.trans h.fr.tape, hu.trans h.fr.output, by rw [hsz]; exact h.fr.size, fun k hk hxk => ?_, h.fr.step fun k cur et p hk hc => ?_⟩⟩
  · by_cases he : l' = l
    · subst he
      rw [upd_same] at h'
      injection h' with h'
      subst h'
      exact hb
    · rw [upd_ne _ _ he] at h'
      refine (h.rows l' b' h').mono (fun _ _ h => h) (fun _ h => h) hI (fun k s' h1 h2 => hw k (fun e => he ?_))
      subst e
      exact h.inj l' l k s' s (by rw [h']; simp) hn h1 hs h2 hg
  · refine (hw k ?_).trans (h.fr.block k hk hxk)
    rintro rfl
    rcases hx with hx | hx
    · exact hxk hx
    · omega
  · by_cases hkg : k = g
    · subst hkg
      obtain ⟨b0, hb0⟩ := Option.ne_none_iff_exists'.1 hn
      obtain ⟨n, c, sz, rfl, e1⟩ := slot_cells (h.rows l b0 hb0) hs hg hc
      obtain ⟨cur', et', p', e2, e3⟩ := cells_slot hb hs
      exact ⟨cur', et', p', e2, by rw [e1, e3]⟩
    · exact ⟨cur, et, p, by rw [hw k hkg]; exact hc, rfl⟩

/-- A row that is only read from now on. -/
theorem HOK.freeze (h : HOK σ w I H w0 X I0) {l g : Nat} {s : Slot} (hn : H l ≠ none) (hs : σ l = some s) (hg : s.block = some g) : HOK σ w (fun k => I k ∨ k = g) (upd H l none) w0 X I0 := by
  obtain ⟨hni, hx⟩ := h.mine l g s hn hs hg
  have ne : ∀ l', upd H l none l' ≠ none → l' ≠ l ∧ H l' ≠ none := fun l' h' => by
    by_cases he : l' = l
    · subst he; rw [upd_same] at h'; exact absurd rfl h'
    · rw [upd_ne _ _ he] at h'; exact ⟨he, h'⟩
  have hlt : g < w.heap.size := by
    obtain ⟨b', hb'⟩ := Option.ne_none_iff_exists'.1 hn
    obtain ⟨s'', hs'', hlt⟩ := (h.rows l b' hb').block
    rw [hs] at hs''
    injection hs'' with hs''
    subst hs''
    exact hlt g hg
  refine ⟨fun l' b' h' => ?_, fun l1 l2 g s1 s2 h1 h2 => h.inj l1 l2 g s1 s2 (ne l1 h1).2 (ne l2 h2).2, fun l' g' s' h1 h2 h3 => ?_, fun k hk => ?_, fun k hk => .inl (h.sub k hk), h.fr⟩
  · have h'' : H l' = some b' := by
      by_cases he : l' = l
      · subst he; rw [upd_same] at h'; cases h'
      · rwa [upd_ne _ _ he] at h'
    exact (h.rows l' b' h'').mono (fun _ _ h => h) (fun _ h => .inl h) (fun _ _ => rfl) (fun _ _ _ _ => rfl)
  · obtain ⟨a1, a2⟩ := h.mine l' g' s' (ne l' h1).2 h2 h3
    refine ⟨fun hi => ?_, a2⟩
    rcases hi with hi | hi
    · exact a1 hi
    · subst hi
      exact (ne l' h1).1 (h.inj l' l g' s' s (ne l' h1).2 hn h2 hs h3 hg)
  · rcases hk with hk | hk
    · exact h.imm k hk
    · subst hk
      exact ⟨hlt, by rcases hx with hx | hx; exact .inr (.inl hx); exact .inr (.inr hx)⟩
end
end Go.Aw
