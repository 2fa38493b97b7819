/- append, in place or anew: the slice that is appended to is let go, and its label with it. -/
import Derived.Test.YtmeplhcfjihafaaAwSlice
import Derived.Deep.AppendSrc
namespace Go.Aw
open Go.RowKit

/-- What growslice picks: never more than the need, a quarter of it, and 192. -/
theorem ncap_le {need old : Nat} (h : old < need) : Builtin.nextslicecap need old ≤ need + need / 4 + 192 := by
  unfold Builtin.nextslicecap
  split
  · omega
  · split
    · omega
    · rw [growBy_four]
      repeat' split
      all_goals omega
theorem ncap_fits {need old bytes : Nat} (h : old < need) (hb : (need + need / 4 + 192) * bytes ≤ 281474976710656) : Builtin.nextslicecap need old * bytes ≤ 281474976710656 :=
  Nat.le_trans (Nat.mul_le_mul_right _ (ncap_le h)) hb

def tbytes (P : Program) (t : TypeId) : Option Nat := (P.info? t).map (·.bytes)
def liftE (es : List (List PV)) : List (List AV) := es.map fun e => e.map AV.p
def byteA (b : UInt8) : AV := .p (.int .u8 (b.toNat : Int))
def byteP (b : UInt8) : PV := .int .u8 (b.toNat : Int)

/-- What a slice's elements are, whoever has it. -/
def elems (H : Nat → Option Blk) : AV → Option (List (List AV))
  | .p (.slice es) => some (liftE es)
  | .ex es => some (liftE es)
  | .own l => match H l with | some (.row _ es) => some es | _ => none
  | _ => none
/-- What is appended: a slice's elements, a text's bytes. -/
def news (P : Program) (H : Nat → Option Blk) (tx : TypeId) (x : AV) : Option (List (List AV)) :=
  match P.underlying tx with
  | some .string => match x with | .p (.str l) => some (l.map fun b => [byteA b]) | _ => none
  | some (.slice _) => elems H x
  | _ => none

section
variable {P : Program} {o : Oper} {a : Act} {w : World} {σ : Lab} {I : Nat → Prop} {T : Nat → Option AV} {H : Nat → Option Blk} {w0 : World} {X I0 : Nat → Prop} {lab : Nat} {k : Eff → Prop}

/-- Cells of a list of elements, in memory. -/
def CellsAt (σ : Lab) (w : World) (I : Nat → Prop) (cs : List Value) (sz : Nat) (es : List (List AV)) : Prop :=
  cs.length = es.length * sz ∧ ∀ (i : Nat) e (j : Nat) x, es[i]? = some e → e[j]? = some x → ∃ u, cs[i * sz + j]? = some u ∧ repA σ w I u x

theorem CellsAt.append {cs ds : List Value} {sz : Nat} {es fs : List (List AV)} (h : CellsAt σ w I cs sz es) (h' : CellsAt σ w I ds sz fs) : CellsAt σ w I (cs ++ ds) sz (es ++ fs) := by
  refine ⟨by rw [List.length_append, h.1, h'.1, List.length_append, Nat.add_mul], fun i e j x h1 h2 => ?_⟩
  by_cases hi : i < es.length
  · rw [List.getElem?_append_left hi] at h1
    obtain ⟨u, hu, hr⟩ := h.2 i e j x h1 h2
    exact ⟨u, by rw [List.getElem?_append_left (List.getElem?_eq_some_iff.1 hu).1]; exact hu, hr⟩
  · rw [List.getElem?_append_right (by omega)] at h1
    obtain ⟨u, hu, hr⟩ := h'.2 _ e j x h1 h2
    have hle : es.length * sz ≤ i * sz := Nat.mul_le_mul_right _ (by omega)
    refine ⟨u, ?_, hr⟩
    rw [List.getElem?_append_right (by rw [h.1]; omega), h.1, show i * sz + j - es.length * sz = (i - es.length) * sz + j by rw [Nat.sub_mul]; omega]
    exact hu

/-- An own row's cells. -/
theorem row_list {l g n c sz : Nat} {es : List (List AV)} (h : repB σ w I l (.row sz es)) (hs : σ l = some (.row g n c sz)) : ∃ cs : List Value, CellsAt σ w I cs sz es ∧ (∀ (j : Nat) u, cs[j]? = some u → w.cell? ⟨g, j, none⟩ = some u) ∧ ∀ e ∈ es, e.length = sz := by
  cases h with
  | emp h => rw [hs] at h; cases h
  | row h hg hcur hc hl ho hr =>
    rw [hs] at h
    injection h with h
    injection h with h1 h2 h3 h4
    subst h1 h2 h3
    clear h4
    rename_i cur et
    have hle : es.length * sz ≤ cur.size := by rw [hcur]; exact Nat.mul_le_mul_right _ hc
    refine ⟨cur.toList.take (es.length * sz), ⟨by rw [List.length_take]; have : cur.toList.length = cur.size := Array.length_toList; omega, fun i e j x h1 h2 => ?_⟩, fun j u hu => ?_, hl⟩
    · obtain ⟨u, hu, hru⟩ := hr i e j x h1 h2
      refine ⟨u, ?_, hru⟩
      have hj : j < sz := by rw [← hl e (List.mem_of_getElem? h1)]; exact (List.getElem?_eq_some_iff.1 h2).1
      have hi : (i + 1) * sz ≤ es.length * sz := Nat.mul_le_mul_right _ (List.getElem?_eq_some_iff.1 h1).1
      rw [Nat.succ_mul] at hi
      rw [List.getElem?_take, if_pos (by omega), Array.getElem?_toList]
      exact hu
    · rw [List.getElem?_take] at hu
      split at hu
      · rw [Array.getElem?_toList] at hu
        simp [World.cell?, hg, hu]
      · cases hu

/-- A slice that is read: its cells. -/
theorem pure_list {v : Value} {es : List (List PV)} {sz : Nat} (hsz : ∀ e ∈ es, e.length = sz) (h : rep w I v (.slice es)) :
    (es = [] ∧ ∃ ad c, v = .slice ad 0 c) ∨ ∃ b off c, ∃ cs : List Value, v = .slice (some ⟨b, off, none⟩) es.length c ∧ CellsAt σ w I cs sz (liftE es) ∧ (∀ (j : Nat) u, cs[j]? = some u → w.cell? ⟨b, off + j, none⟩ = some u) ∧ I b ∧ (∀ e ∈ liftE es, ∀ x ∈ e, x.one = true) ∧ es.length ≤ c := by
  cases h with
  | empty ad c => exact .inl ⟨rfl, ad, c, rfl⟩
  | slice b off n c sz' _ us hn hc hs hI hone hcell hrep =>
    by_cases he : es = []
    · subst he; subst hn; exact .inl ⟨rfl, _, c, rfl⟩
    · have hpos : 0 < es.length := List.length_pos_iff.2 he
      have hes : sz' = sz := by rw [← hs es[0] (List.getElem_mem hpos), hsz es[0] (List.getElem_mem hpos)]
      subst hes
      subst hn
      have hdiv : ∀ q, q < es.length * sz' → ∃ i j, ∃ (hi : i < es.length), j < sz' ∧ q = i * sz' + j := by
        intro q hq
        have hz : 0 < sz' := by
          rcases Nat.eq_zero_or_pos sz' with h0 | h0
          · rw [h0, Nat.mul_zero] at hq; omega
          · exact h0
        refine ⟨q / sz', q % sz', (Nat.div_lt_iff_lt_mul hz).2 hq, Nat.mod_lt _ hz, ?_⟩
        rw [Nat.mul_comm]
        exact (Nat.div_add_mod q sz').symm
      refine .inr ⟨b, off, c, (List.range (es.length * sz')).map fun q => (w.cell? ⟨b, off + q, none⟩).getD undef, rfl, ⟨by simp [liftE], fun i e j x h1 h2 => ?_⟩, fun q u hu => ?_, hI, fun e he x hx => ?_, hc⟩
      · simp only [liftE, List.getElem?_map, Option.map_eq_some_iff] at h1
        obtain ⟨e', he', rfl⟩ := h1
        rw [List.getElem?_map, Option.map_eq_some_iff] at h2
        obtain ⟨p, hp, rfl⟩ := h2
        have hj : j < sz' := by rw [← hs e' (List.mem_of_getElem? he')]; exact (List.getElem?_eq_some_iff.1 hp).1
        have hi : (i + 1) * sz' ≤ es.length * sz' := Nat.mul_le_mul_right _ (List.getElem?_eq_some_iff.1 he').1
        rw [Nat.succ_mul] at hi
        refine ⟨us i j, ?_, .p (hrep i e' j p he' hp)⟩
        rw [List.getElem?_map, List.getElem?_range (by omega), Option.map_some, hcell i e' j p he' hp]
        rfl
      · rw [List.getElem?_map] at hu
        have hq : q < es.length * sz' := by
          rcases Nat.lt_or_ge q (es.length * sz') with h | h
          · exact h
          · rw [List.getElem?_eq_none (by simpa using h)] at hu; cases hu
        rw [List.getElem?_range hq, Option.map_some] at hu
        obtain ⟨i, j, hi, hj, rfl⟩ := hdiv q hq
        have h1 := List.getElem?_eq_getElem hi
        have h2 : (es[i])[j]? = some ((es[i])[j]'(by rw [hs _ (List.getElem_mem hi)]; exact hj)) := List.getElem?_eq_getElem _
        rw [hcell i _ j _ h1 h2] at hu ⊢
        exact hu
      · simp only [liftE, List.mem_map] at he
        obtain ⟨e', he', rfl⟩ := he
        obtain ⟨p, hp, rfl⟩ := List.mem_map.1 hx
        exact hone e' he' p hp

theorem news_src (h : In σ w I T H w0 X I0 a lab) {tx : TypeId} {y : Operand} {yv : AV} {ns : List (List AV)} {sz : Nat} (hy : ev T y = some yv) (hn : news P H tx yv = some ns) (hs : ∀ n ∈ ns, n.length = sz) (hone : ∀ n ∈ ns, oneAll n = true)
    (hstr : P.underlying tx = some .string → sz = 1) : ∃ cs, Src P sz tx (a.eval y) ns.length cs w ∧ CellsAt σ w I cs sz ns := by
  have hr := h.ev hy
  generalize a.eval y = v at hr ⊢
  have one_of : ∀ cs : List Value, CellsAt σ w I cs sz ns → ∀ u ∈ cs, u.oneCell' = true := by
    intro cs hc u hu
    obtain ⟨q, hq, rfl⟩ := List.mem_iff_getElem.1 hu
    have hz : 0 < sz := by
      rcases Nat.eq_zero_or_pos sz with h0 | h0
      · rw [hc.1, h0, Nat.mul_zero] at hq; omega
      · exact h0
    have hi : q / sz < ns.length := by rw [Nat.div_lt_iff_lt_mul hz, ← hc.1]; exact hq
    have hj : q % sz < (ns[q / sz]).length := by rw [hs _ (List.getElem_mem hi)]; exact Nat.mod_lt _ hz
    obtain ⟨u, hu, hru⟩ := hc.2 (q / sz) _ (q % sz) _ (List.getElem?_eq_getElem hi) (List.getElem?_eq_getElem hj)
    rw [Nat.mul_comm, Nat.div_add_mod, List.getElem?_eq_getElem hq] at hu
    injection hu with hu
    rw [hu]
    exact hru.one (oneAll_mem (hone _ (List.getElem_mem hi)) _ (List.getElem_mem hj))
  have nil_src : ∀ ad c, (∃ e, P.underlying tx = some (.slice e)) → ns = [] → v = .slice ad 0 c → ∃ cs, Src P sz tx v ns.length cs w ∧ CellsAt σ w I cs sz ns := by
    rintro ad c ⟨e, he⟩ rfl rfl
    refine ⟨[], ?_, by simp, fun i e j x h1 _ => by simp at h1⟩
    cases ad with
    | none => exact Src.ofNil w he c
    | some ad => exact Src.ofSlice w he ad 0 c [] (by simp) (by simp) (by simp)
  unfold news at hn
  split at hn
  · rename_i hu
    split at hn
    · rename_i l
      injection hn with hn
      subst hn
      obtain rfl := hstr hu
      cases hr with
      | p hr =>
      cases hr with
      | str =>
      have hsz : (⟨⟨l⟩⟩ : ByteArray).size = (l.map fun b => [byteA b]).length := by rw [List.length_map]; rfl
      refine ⟨byteCells ⟨⟨l⟩⟩, by rw [← hsz]; exact Src.ofString w hu _, by simp [byteCells], fun i e j x h1 h2 => ?_⟩
      rw [List.getElem?_map, Option.map_eq_some_iff] at h1
      obtain ⟨b, hb, rfl⟩ := h1
      rcases j with _ | j
      · simp at h2
        subst h2
        exact ⟨.int .u8 (b.toNat : Int), by simp [byteCells, hb], .p (.int _ _)⟩
      · simp at h2
    · cases hn
  · rename_i e hu
    unfold elems at hn
    split at hn
    · rename_i es
      injection hn with hn
      subst hn
      cases hr with
      | p hr =>
      rcases pure_list (σ := σ) (sz := sz) (fun e he => by simpa [liftE] using hs (e.map AV.p) (List.mem_map.2 ⟨e, he, rfl⟩)) hr with ⟨rfl, ad, c, rfl⟩ | ⟨b, off, c, cs, rfl, h1, h2, h3, h4, h5⟩
      · exact nil_src ad c ⟨e, hu⟩ rfl rfl
      · refine ⟨cs, ?_, h1⟩
        have := Src.ofSlice w (size := sz) hu ⟨b, off, none⟩ es.length c cs (by rw [h1.1]; simp [liftE]) (fun j u hj => by rw [add_none]; exact h2 j u hj) (one_of cs h1)
        simpa [liftE] using this
    · rename_i es
      injection hn with hn
      subst hn
      cases hr with
      | ex hl hr =>
      subst hl
      rcases pure_list (σ := σ) (sz := sz) (fun e he => by simpa [liftE] using hs (e.map AV.p) (List.mem_map.2 ⟨e, he, rfl⟩)) hr with ⟨rfl, ad, c, h0⟩ | ⟨b, off, c, cs, h0, h1, h2, h3, h4, h5⟩
      · exact nil_src ad c ⟨e, hu⟩ rfl h0
      · refine ⟨cs, ?_, h1⟩
        rw [h0]
        have := Src.ofSlice w (size := sz) hu ⟨b, off, none⟩ es.length c cs (by rw [h1.1]; simp [liftE]) (fun j u hj => by rw [add_none]; exact h2 j u hj) (one_of cs h1)
        simpa [liftE] using this
    · rename_i l
      split at hn
      · rename_i sz' es hH
        injection hn with hn
        subst hn
        have hb := h.heap.rows l _ hH
        cases hr with
        | ownE hs' =>
          cases hb with
          | emp h' => exact nil_src _ 0 ⟨e, hu⟩ rfl rfl
          | row h' => rw [hs'] at h'; cases h'
        | own hs' =>
          rename_i g n c szz
          have hq : n = es.length ∧ szz = sz' ∧ es.length ≤ c := by
            cases hb with
            | emp h' => rw [hs'] at h'; cases h'
            | row h' hg hcur hc =>
              rw [hs'] at h'
              injection h' with h'
              injection h' with e1 e2 e3 e4
              subst e1 e2 e3 e4
              exact ⟨rfl, rfl, hc⟩
          obtain ⟨rfl, rfl, hc⟩ := hq
          obtain ⟨cs, h1, h2, h3⟩ := row_list hb hs'
          by_cases he : es = []
          · subst he
            exact nil_src _ c ⟨e, hu⟩ rfl rfl
          · have hpos : 0 < es.length := List.length_pos_iff.2 he
            have : szz = sz := by rw [← h3 es[0] (List.getElem_mem hpos), hs es[0] (List.getElem_mem hpos)]
            subst this
            exact ⟨cs, Src.ofSlice w (size := szz) hu ⟨g, 0, none⟩ es.length c cs h1.1 (fun j u hj => by rw [add_none, Nat.zero_add]; exact h2 j u hj) (one_of cs h1), h1⟩
      · cases hn
    · cases hn
  · cases hn

def appendW (P : Program) (lab : Nat) (t tx : TypeId) (x y : Option AV) (H : Nat → Option Blk) (k : Eff → Prop) : Prop :=
  match telem P t with
  | some e => match tsize P e, tbytes P e, tzero P e, y.bind (news P H tx) with
    | some sz, some bytes, some zs, some ns => ((1 ≤ bytes) ∧ zs.length = sz ∧ (∀ n ∈ ns, n.length = sz) ∧ (∀ n ∈ ns, oneAll n = true) ∧ (P.underlying tx = some .string → sz = 1)) ∧
      match x with
      | some (.ex es) => ((es = [] ∨ ns ≠ []) ∧ (∀ e ∈ es, e.length = sz) ∧ ((es.length + ns.length) + (es.length + ns.length) / 4 + 192) * bytes ≤ 281474976710656) ∧ k ⟨some (.own lab), [(lab, some (.row sz (liftE es ++ ns)))]⟩
      | some (.own l) => match H l with
        | some (.row sz' es) => (sz' = sz ∧ ((es.length + ns.length) + (es.length + ns.length) / 4 + 192) * bytes ≤ 281474976710656) ∧ k ⟨some (.own lab), [(l, none), (lab, some (.row sz (es ++ ns)))]⟩
        | _ => False
      | _ => False
    | _, _, _, _ => False
  | none => False

theorem le_grownCap (w : World) (need old : Nat) (e : TypeId) : need ≤ grownCap w need old e := by
  exact Nat.le_add_right _ _

/-- A label for a row that another label had, in the same block. -/
theorem HOK.moved (h : HOK σ w I H w0 X I0) {w' : World} {l lab g n c sz n' c' sz' : Nat} (hcc : c' * sz' = c * sz) (hl : σ lab = none) (hn : H l ≠ none) (hs : σ l = some (.row g n c sz)) (hw : ∀ k, k ≠ g → w'.heap[k]? = w.heap[k]?) (hsz : w'.heap.size = w.heap.size)
    (ho : w'.os = w.os) (ht : w'.tape = w.tape) (hu : w'.output = w.output) {b : Blk} (hb : repB (upd σ lab (some (.row g n' c' sz'))) w' I lab b) : HOK (upd σ lab (some (.row g n' c' sz'))) w' I (upd (upd H l none) lab (some b)) w0 X I0 := by
  have hll : lab ≠ l := by rintro rfl; rw [hl] at hs; cases hs
  have ext : ∀ l' s', σ l' = some s' → upd σ lab (some (.row g n' c' sz')) l' = some s' := fun l' s' h' => by
    rw [upd_ne _ _ (by rintro rfl; rw [hl] at h'; cases h')]
    exact h'
  obtain ⟨hni, hx⟩ := h.mine l g _ hn hs rfl
  have hI : ∀ k, I k → w'.heap[k]? = w.heap[k]? := fun k hk => hw k (fun e => hni (e ▸ hk))
  have old : ∀ l', l' ≠ lab → upd (upd H l none) lab (some b) l' ≠ none → l' ≠ l ∧ H l' ≠ none := fun l' hne h' => by
    rw [upd_ne _ _ hne] at h'
    by_cases he : l' = l
    · subst he; rw [upd_same] at h'; exact absurd rfl h'
    · rw [upd_ne _ _ he] at h'; exact ⟨he, h'⟩
  have lab' : ∀ l' s' k, upd (upd H l none) lab (some b) l' ≠ none → upd σ lab (some (.row g n' c' sz')) l' = some s' → s'.block = some k → (l' = lab ∧ k = g) ∨ (l' ≠ lab ∧ l' ≠ l ∧ H l' ≠ none ∧ σ l' = some s' ∧ k ≠ g) := by
    intro l' s' k h1 h2 h3
    by_cases he : l' = lab
    · subst he
      rw [upd_same] at h2
      injection h2 with h2
      subst h2
      injection h3 with h3
      exact .inl ⟨rfl, h3.symm⟩
    · obtain ⟨a1, a2⟩ := old l' he h1
      rw [upd_ne _ _ he] at h2
      refine .inr ⟨he, a1, a2, h2, ?_⟩
      rintro rfl
      exact a1 (h.inj l' l k s' _ a2 hn h2 hs h3 rfl)
  refine ⟨fun l' b' h' => ?_, fun l1 l2 k s1 s2 h1 h2 e1 e2 g1 g2 => ?_, fun l' k s' h1 h2 h3 => ?_, fun k hk => by rw [hsz]; exact h.imm k hk, h.sub,
    ⟨ho.trans h.fr.os, ht.trans h.fr.tape, hu.trans h.fr.output, by rw [hsz]; exact h.fr.size, fun k hk hxk => ?_, h.fr.step fun k cur et p hk hc => ?_⟩⟩
  · by_cases he : l' = lab
    · subst he
      rw [upd_same] at h'
      injection h' with h'
      subst h'
      exact hb
    · obtain ⟨a1, a2⟩ := old l' he (by rw [h']; simp)
      rw [upd_ne _ _ he, upd_ne _ _ a1] at h'
      refine (h.rows l' b' h').mono ext (fun _ h => h) hI (fun k s' h1 h2 => hw k ?_)
      rintro rfl
      exact a1 (h.inj l' l k s' _ a2 hn h1 hs h2 rfl)
  · rcases lab' l1 s1 k h1 e1 g1 with ⟨a1, a2⟩ | ⟨a1, a2, a3, a4, a5⟩ <;> rcases lab' l2 s2 k h2 e2 g2 with ⟨b1, b2⟩ | ⟨b1, b2, b3, b4, b5⟩
    · exact a1.trans b1.symm
    · exact absurd a2 b5
    · exact absurd b2 a5
    · exact h.inj l1 l2 k s1 s2 a3 b3 a4 b4 g1 g2
  · rcases lab' l' s' k h1 h2 h3 with ⟨a1, a2⟩ | ⟨a1, a2, a3, a4, a5⟩
    · subst a2; exact ⟨hni, hx⟩
    · exact h.mine l' k s' a3 a4 h3
  · refine (hw k ?_).trans (h.fr.block k hk hxk)
    rintro rfl
    rcases hx with hx | hx
    · exact hxk hx
    · omega
  · by_cases hkg : k = g
    · subst hkg
      obtain ⟨b0, hb0⟩ := Option.ne_none_iff_exists'.1 hn
      obtain ⟨n1, c1, sz1, q1, e1⟩ := slot_cells (h.rows l b0 hb0) hs rfl hc
      injection q1 with q1 q2 q3 q4
      subst q2 q3 q4
      obtain ⟨cur', et', p', e2, e3⟩ := cells_slot hb (upd_same _ _ _)
      exact ⟨cur', et', p', e2, by rw [e1, e3, hcc]⟩
    · exact ⟨cur, et, p, by rw [hw k hkg]; exact hc, rfl⟩

/-- A label for what has no cells. -/
theorem HOK.empty (h : HOK σ w I H w0 X I0) {lab : Nat} (hl : σ lab = none) (ad : Option Addr) (sz : Nat) : HOK (upd σ lab (some (.emp ad))) w I (upd H lab (some (.row sz []))) w0 X I0 := by
  have ext : ∀ l' s', σ l' = some s' → upd σ lab (some (.emp ad)) l' = some s' := fun l' s' h' => by
    rw [upd_ne _ _ (by rintro rfl; rw [hl] at h'; cases h')]
    exact h'
  have lab' : ∀ l' s' k, upd H lab (some (.row sz [])) l' ≠ none → upd σ lab (some (.emp ad)) l' = some s' → s'.block = some k → H l' ≠ none ∧ σ l' = some s' := by
    intro l' s' k h1 h2 h3
    by_cases he : l' = lab
    · subst he
      rw [upd_same] at h2
      injection h2 with h2
      subst h2
      cases h3
    · rw [upd_ne _ _ he] at h1 h2
      exact ⟨h1, h2⟩
  refine ⟨fun l' b' h' => ?_, fun l1 l2 k s1 s2 h1 h2 e1 e2 g1 g2 => ?_, fun l' k s' h1 h2 h3 => ?_, h.imm, h.sub, h.fr⟩
  · by_cases he : l' = lab
    · subst he
      rw [upd_same] at h'
      injection h' with h'
      subst h'
      exact .emp (upd_same _ _ _)
    · rw [upd_ne _ _ he] at h'
      exact (h.rows l' b' h').mono ext (fun _ h => h) (fun _ _ => rfl) (fun _ _ _ _ => rfl)
  · obtain ⟨a1, a2⟩ := lab' l1 s1 k h1 e1 g1
    obtain ⟨b1, b2⟩ := lab' l2 s2 k h2 e2 g2
    exact h.inj l1 l2 k s1 s2 a1 b1 a2 b2 g1 g2
  · obtain ⟨a1, a2⟩ := lab' l' s' k h1 h2 h3
    exact h.mine l' k s' a1 a2 h3

/-- A new row for what was and what is appended. -/
theorem append_grow (h : In σ w I T H w0 X I0 a lab) {t tx e : TypeId} {x y : Operand} {sz bytes : Nat} {zs : List Value} {n c : Nat} {base : Option Addr} {olds cs : List Value} {es ns : List (List AV)} {e0 : Eff}
    (ho : o.op = .call { callee := .builtin .append, args := #[x, y], argTypes := #[t, tx] }) (ht : telem P t = some e) (hsz : tsize P e = some sz) (hby : tbytes P e = some bytes) (hz : tzero P e = some zs) (hzl : zs.length = sz)
    (hx : a.eval x = .slice base n c) (hn : n = es.length) (hold : (Builtin.firstCells sz n (.slice base n c)).run P w.drew = .ok olds.toArray w.drew) (hsrc : Src P sz tx (a.eval y) ns.length cs w)
    (hc1 : CellsAt σ w I olds sz es) (hc2 : CellsAt σ w I cs sz ns) (hg : c < n + ns.length) (hl1 : ∀ e ∈ es, e.length = sz) (hl2 : ∀ e ∈ ns, e.length = sz) (ho1 : ∀ e ∈ es, ∀ x ∈ e, x.one = true) (ho2 : ∀ e ∈ ns, ∀ x ∈ e, x.one = true)
    (hb : ((es.length + ns.length) + (es.length + ns.length) / 4 + 192) * bytes ≤ 281474976710656) (hb0 : es.length + ns.length ≤ 9223372036854775807)
    (hH : ∀ l b, putH H e0.upd l = some b → upd H lab (some (.row sz (es ++ ns))) l = some b) (hv : e0.val = some (.own lab)) (hk : k e0) : Snd P o a w σ I H w0 X I0 lab k := by
  unfold tsize at hsz
  unfold tbytes at hby
  unfold tzero at hz
  obtain ⟨i, hi, rfl⟩ := Option.map_eq_some_iff.1 hsz
  rw [hi] at hby hz
  injection hby with hby
  subst hby
  obtain ⟨z, hz1, rfl⟩ := Option.map_eq_some_iff.1 hz
  subst hn
  have hu := telem_some ht
  have hrun := run_append_grow_src (P := P) w t tx o.type e i z hu hi hz1 base es.length c olds hold (a.eval y) ns.length cs hsrc hg (by omega) (ncap_fits hg hb)
  generalize hcap : grownCap w (es.length + ns.length) c e = cap at hrun
  have hcl : es.length + ns.length ≤ cap := by rw [← hcap]; exact le_grownCap _ _ _ _
  have hcat := hc1.append hc2
  have hzc : (Builtin.zeroCells z.cells (cap - (es.length + ns.length))).size = (cap - (es.length + ns.length)) * i.size := by
    rw [size_zeroCells, ← Array.length_toList, hzl]
  have hex : (execOp a.eval o).run P w = .ok (.value (.slice (some ⟨w.heap.size, 0, none⟩) (es.length + ns.length) cap)) (w.drew.alloc (.cells ((olds ++ cs).toArray ++ Builtin.zeroCells z.cells (cap - (es.length + ns.length))) e)) := by
    simp only [execOp, ho, resolve, invoke, builtin, Sem.run_bind, Sem.run_pure, Result.andThen_ok, List.map_toArray, List.map_cons, List.map_nil, hx, hrun]
  have hsize : ((olds ++ cs).toArray ++ Builtin.zeroCells z.cells (cap - (es.length + ns.length))).size = cap * i.size := by
    rw [Array.size_append, hzc, List.size_toArray, hcat.1, List.length_append, ← Nat.add_mul]
    congr 1
    omega
  obtain ⟨h1, h2, h3⟩ := HOK.newRow (w' := w.drew.alloc (.cells ((olds ++ cs).toArray ++ Builtin.zeroCells z.cells (cap - (es.length + ns.length))) e)) h (cells := (olds ++ cs).toArray ++ Builtin.zeroCells z.cells (cap - (es.length + ns.length))) (et := e) (es := es ++ ns) (sz := i.size) (c := cap)
    hsize (by rw [List.length_append]; exact hcl) (fun e he => by rcases List.mem_append.1 he with he | he; exact hl1 e he; exact hl2 e he)
    (fun e he => by rcases List.mem_append.1 he with he | he; exact ho1 e he; exact ho2 e he)
    (fun q e r x q1 q2 => by
      obtain ⟨u, hu, hru⟩ := hcat.2 q e r x q1 q2
      refine ⟨u, ?_, hru⟩
      have hlt := (List.getElem?_eq_some_iff.1 hu).1
      rw [Array.getElem?_append_left (by rw [List.size_toArray]; exact hlt), List.getElem?_toArray]
      exact hu) rfl rfl rfl rfl
  refine Snd.of hex ⟨h1.less hH, h2, fun l hl => upd_ne _ _ hl, fun _ h => h, h3, fun y hy => ?_⟩ hk
  rw [hv] at hy
  injection hy with hy
  subst hy
  have := repA.own (w := w.drew.alloc (.cells ((olds ++ cs).toArray ++ Builtin.zeroCells z.cells (cap - (es.length + ns.length))) e)) (I := I) (upd_same σ lab (some (.row w.heap.size (es ++ ns).length cap i.size)))
  rw [List.length_append] at this
  rw [List.length_append]
  exact this

/-- Nothing is appended. -/
theorem run_append_none {t tx e : TypeId} {sz : Nat} (hu : P.underlying t = some (.slice e)) (hsz : tsize P e = some sz) {x : Value} (hs : Src P sz tx x 0 [] w) (ty : TypeId) (base : Option Addr) (n c : Nat) (hc : n ≤ c) :
    (Builtin.append_ #[t, tx] ty #[.slice base n c, x]).run P w = .ok (.slice base n c) w := by
  rcases hs.kind with ⟨e', hk⟩ | hk <;> cases base <;> simp [Builtin.append_, run_underlying' hu, run_underlying' hk, run_sizeOf' hsz, hs.len, hs.cells, hc, storeCells]

/-- There is room for what is appended. -/
theorem run_append_room {t tx e : TypeId} {sz : Nat} (hu : P.underlying t = some (.slice e)) (hsz : tsize P e = some sz) {x : Value} {m : Nat} {cs : List Value} (hs : Src P sz tx x m cs w) (ty : TypeId) (g n c : Nat) (hc : n + m ≤ c) {cur : Array Value} {et : TypeId} (hg : w.heap[g]? = some (.cells cur et (0, 0))) (hcur : cur.size = c * sz) :
    (Builtin.append_ #[t, tx] ty #[.slice (some ⟨g, 0, none⟩) n c, x]).run P w = .ok (.slice (some ⟨g, 0, none⟩) (n + m) c) (w.setRow g (cur.toList.take (n * sz) ++ cs ++ cur.toList.drop (n * sz + cs.length)).toArray) := by
  have hfit : n * sz + cs.length ≤ cur.size := by
    rw [hs.newsLen, ← Nat.add_mul, hcur]
    exact Nat.mul_le_mul_right _ hc
  have hst := run_storeCells_at (P := P) g (n * sz) et cs 0 cur w hg (by simpa using hfit) hs.one
  simp only [Nat.add_zero] at hst
  rcases hs.kind with ⟨e', hk⟩ | hk <;> simp [Builtin.append_, run_underlying' hu, run_underlying' hk, run_sizeOf' hsz, hs.len, hs.cells, hc, add_none, hst]

theorem firstCells_zero (sz : Nat) (ad : Option Addr) (c : Nat) : (Builtin.firstCells sz 0 (.slice ad 0 c)).run P w.drew = .ok ([] : List Value).toArray w.drew := by
  cases ad <;> simp [Builtin.firstCells, loadCells, loadCellsFrom]

theorem snd_append (h : In σ w I T H w0 X I0 a lab) {t tx : TypeId} {x y : Operand} (ho : o.op = .call { callee := .builtin .append, args := #[x, y], argTypes := #[t, tx] }) (hk : appendW P lab t tx (ev T x) (ev T y) H k) : Snd P o a w σ I H w0 X I0 lab k := by
  unfold appendW at hk
  split at hk
  · rename_i e he
    have hu := telem_some he
    split at hk
    · rename_i sz bytes zs ns hsz hby hz hns
      obtain ⟨yv, hy, hns⟩ := Option.bind_eq_some_iff.1 hns
      obtain ⟨⟨hb1, hzl, hl2, ho2, hstr⟩, hk⟩ := hk
      obtain ⟨cs, hsrc, hc2⟩ := news_src h hy hns hl2 ho2 hstr
      have ho2' : ∀ e ∈ ns, ∀ x ∈ e, x.one = true := fun e he => oneAll_mem (ho2 e he)
      have exec : ∀ v w', (Builtin.append_ #[t, tx] o.type #[a.eval x, a.eval y]).run P w = .ok v w' → (execOp a.eval o).run P w = .ok (.value v) w' := by
        intro v w' hv
        simp only [execOp, ho, resolve, invoke, builtin, Sem.run_bind, Sem.run_pure, Result.andThen_ok, List.map_toArray, List.map_cons, List.map_nil, hv]
      have small : ∀ es : List (List AV), ((es.length + ns.length) + (es.length + ns.length) / 4 + 192) * bytes ≤ 281474976710656 → es.length + ns.length ≤ 9223372036854775807 := by
        intro es hb
        have : (es.length + ns.length) + (es.length + ns.length) / 4 + 192 ≤ ((es.length + ns.length) + (es.length + ns.length) / 4 + 192) * bytes := Nat.le_mul_of_pos_right _ hb1
        omega
      have emptyCase : ∀ ad c (e0 : Eff), a.eval x = .slice ad 0 c → ns = [] → (∀ l b, putH H e0.upd l = some b → upd H lab (some (.row sz [])) l = some b) → e0.val = some (.own lab) → c = 0 → k e0 → Snd P o a w σ I H w0 X I0 lab k := by
        intro ad c e0 hx hn0 hH hv hc0 hk2
        subst hn0 hc0
        have hcs : cs = [] := List.eq_nil_of_length_eq_zero (by rw [hc2.1]; simp)
        subst hcs
        refine Snd.of (exec _ _ (by rw [hx]; exact run_append_none hu hsz hsrc o.type ad 0 0 (Nat.le_refl _))) ⟨(h.heap.empty h.lab ad sz).less hH, fun l s hl => ?_, fun l hl => upd_ne _ _ hl, fun _ h => h, fun _ _ => rfl, fun y hy => ?_⟩ hk2
        · rw [upd_ne _ _ (by rintro rfl; rw [h.lab] at hl; cases hl)]
          exact hl
        · rw [hv] at hy
          injection hy with hy
          subst hy
          exact .ownE (upd_same _ _ _)
      split at hk
      · rename_i es hxx
        obtain ⟨⟨hen, hl1, hb⟩, hk⟩ := hk
        have hx := h.ev hxx
        generalize hxv : a.eval x = xv at hx
        cases hx with
        | ex hn hx =>
        rename_i ad n
        subst hn
        by_cases hn0 : ns = []
        · have hes : es = [] := by
            rcases hen with h | h
            · exact h
            · exact absurd hn0 h
          subst hes
          refine emptyCase ad 0 _ hxv hn0 (fun l b hl => ?_) rfl rfl hk
          rw [hn0] at hl
          exact hl
        · have hpos : 0 < ns.length := List.length_pos_iff.2 hn0
          have hle : (liftE es).length = es.length := by simp [liftE]
          have hl1' : ∀ e ∈ liftE es, e.length = sz := fun e he => by
            simp only [liftE, List.mem_map] at he
            obtain ⟨e', he', rfl⟩ := he
            simpa using hl1 e' he'
          have nilCells : CellsAt σ w I [] sz [] := ⟨by simp, fun i e j x h1 _ => by simp at h1⟩
          rcases pure_list (σ := σ) hl1 hx with ⟨rfl, ad', c', h0⟩ | ⟨b, off, c', os, h0, q1, q2, q3, q4, q5⟩
          · exact append_grow h ho he hsz hby hz hzl hxv rfl (firstCells_zero sz ad 0) hsrc nilCells hc2 (by simpa using hpos) (by simp) hl2 (by simp) ho2' (by simpa [liftE] using hb) (small [] (by simpa using hb)) (fun l b hl => by simpa [putH, liftE] using hl) rfl hk
          · injection h0 with e1 e2 e3
            subst e1 e3
            have hold : (Builtin.firstCells sz es.length (.slice (some ⟨b, off, none⟩) es.length es.length)).run P w.drew = .ok os.toArray w.drew :=
              run_firstCells_some w.drew sz es.length ⟨b, off, none⟩ es.length es.length os (by rw [q1.1, hle]) (fun j v hj => by rw [add_none]; exact q2 j v hj)
            exact append_grow h ho he hsz hby hz hzl hxv hle.symm hold hsrc q1 hc2 (by omega) hl1' hl2 q4 ho2' (by rw [hle]; exact hb) (small (liftE es) (by rw [hle]; exact hb)) (fun l b hl => by simpa [putH, liftE] using hl) rfl hk
      · rename_i l hxx
        have hx := h.ev hxx
        split at hk
        · rename_i sz' es hH
          obtain ⟨⟨hss, hb⟩, hk⟩ := hk
          subst hss
          have hbb := h.heap.rows l _ hH
          have nilCells : CellsAt σ w I [] sz' [] := ⟨by simp, fun i e j x h1 _ => by simp at h1⟩
          have drop : ∀ (es' : List (List AV)) l' b, putH H [(l, none), (lab, some (.row sz' es'))] l' = some b → upd H lab (some (.row sz' es')) l' = some b := by
            intro es' l' b hl
            simp only [putH] at hl
            by_cases q1 : l' = lab
            · subst q1; rw [upd_same] at hl ⊢; exact hl
            · rw [upd_ne _ _ q1] at hl ⊢
              by_cases q2 : l' = l
              · subst q2; rw [upd_same] at hl; cases hl
              · rwa [upd_ne _ _ q2] at hl
          generalize hxv : a.eval x = xv at hx
          cases hx with
          | ownE hs =>
            rename_i ad
            have hes : es = [] := by
              cases hbb with
              | emp h' => rfl
              | row h' => rw [hs] at h'; cases h'
            subst hes
            by_cases hn0 : ns = []
            · refine emptyCase ad 0 _ hxv hn0 (fun l' b hl => ?_) rfl rfl hk
              rw [hn0] at hl
              exact drop [] l' b hl
            · have hpos : 0 < ns.length := List.length_pos_iff.2 hn0
              exact append_grow h ho he hsz hby hz hzl hxv rfl (firstCells_zero sz' ad 0) hsrc nilCells hc2 (by simpa using hpos) (by simp) hl2 (by simp) ho2' (by simpa using hb) (small [] hb) (drop _) rfl hk
          | own hs =>
            rename_i g n c szz
            obtain ⟨os, r1, r2, r3⟩ : ∃ os, CellsAt σ w I os sz' es ∧ (∀ (j : Nat) u, os[j]? = some u → w.cell? ⟨g, j, none⟩ = some u) ∧ ∀ e ∈ es, e.length = sz' := by
              have hq : szz = sz' := by
                cases hbb with
                | emp h' => rw [hs] at h'; cases h'
                | row h' => rw [hs] at h'; injection h' with h'; injection h'
              subst hq
              exact row_list hbb hs
            have hbb' := hbb
            cases hbb with
            | emp h' => rw [hs] at h'; cases h'
            | row h' hg hcur hc hl hon hr =>
              rename_i g' c' cur et
              rw [hs] at h'
              injection h' with h'
              injection h' with e1 e2 e3 e4
              subst e1 e2 e3 e4
              by_cases hroom : es.length + ns.length ≤ c
              · have hrun := run_append_room (P := P) hu hsz hsrc o.type g es.length c hroom hg hcur
                have hfit : es.length * szz + cs.length ≤ cur.size := by
                  rw [hc2.1, ← Nat.add_mul, hcur]
                  exact Nat.mul_le_mul_right _ hroom
                generalize hcur' : (cur.toList.take (es.length * szz) ++ cs ++ cur.toList.drop (es.length * szz + cs.length)) = cur' at hrun
                have hcl : cur'.length = c * szz := by rw [← hcur', splice_length _ _ _ (by simpa using hfit)]; simpa using hcur
                have hget : ∀ q, cur'[q]? = if q < es.length * szz then cur[q]? else if q < es.length * szz + cs.length then cs[q - es.length * szz]? else cur[q]? := fun q => by
                  rw [← hcur', splice_get _ _ _ (by simpa using hfit)]
                  simp only [Array.getElem?_toList]
                have hni := (h.heap.mine l g _ (by rw [hH]; simp) hs rfl).1
                have hsame : ∀ b, I b → (w.setRow g cur'.toArray).heap[b]? = w.heap[b]? := fun b hb => setRow_other _ _ _ _ (fun e => hni (e ▸ hb))
                have ext : ∀ l' s', σ l' = some s' → upd σ lab (some (.row g (es ++ ns).length c szz)) l' = some s' := fun l' s' h' => by
                  rw [upd_ne _ _ (by rintro rfl; rw [h.lab] at h'; cases h')]
                  exact h'
                have hmv : HOK (upd σ lab (some (.row g (es ++ ns).length c szz))) (w.setRow g cur'.toArray) I (upd (upd H l none) lab (some (.row szz (es ++ ns)))) w0 X I0 := by
                  refine h.heap.moved rfl h.lab (by rw [hH]; simp) hs (fun k hk => setRow_other _ _ _ _ hk) (by simp) rfl rfl rfl
                    (.row (upd_same _ _ _) (setRow_heap w g cur _ et _ hg) (by simpa using hcl) (by rw [List.length_append]; exact hroom) (fun e he => ?_) (fun e he => ?_) fun i e j x q1 q2 => ?_)
                  · rcases List.mem_append.1 he with he | he
                    · exact hl e he
                    · exact hl2 e he
                  · rcases List.mem_append.1 he with he | he
                    · exact hon e he
                    · exact ho2' e he
                  · rw [List.getElem?_toArray, hget]
                    by_cases hi : i < es.length
                    · rw [List.getElem?_append_left hi] at q1
                      have hj : j < szz := by rw [← hl e (List.mem_of_getElem? q1)]; exact (List.getElem?_eq_some_iff.1 q2).1
                      have hm : (i + 1) * szz ≤ es.length * szz := Nat.mul_le_mul_right _ hi
                      rw [Nat.succ_mul] at hm
                      obtain ⟨u, hu, hru⟩ := hr i e j x q1 q2
                      exact ⟨u, by rw [if_pos (by omega)]; exact hu, hru.mono ext (fun _ h => h) hsame⟩
                    · rw [List.getElem?_append_right (by omega)] at q1
                      have hj : j < szz := by rw [← hl2 e (List.mem_of_getElem? q1)]; exact (List.getElem?_eq_some_iff.1 q2).1
                      have hin := (List.getElem?_eq_some_iff.1 q1).1
                      have hm : (i - es.length + 1) * szz ≤ ns.length * szz := Nat.mul_le_mul_right _ (by omega)
                      rw [Nat.succ_mul] at hm
                      have hle : es.length * szz ≤ i * szz := Nat.mul_le_mul_right _ (by omega)
                      have hsub : (i - es.length) * szz = i * szz - es.length * szz := Nat.sub_mul _ _ _
                      obtain ⟨u, hu, hru⟩ := hc2.2 _ e j x q1 q2
                      refine ⟨u, ?_, hru.mono ext (fun _ h => h) hsame⟩
                      rw [if_neg (by omega), if_pos (by rw [hc2.1]; omega), show i * szz + j - es.length * szz = (i - es.length) * szz + j by omega]
                      exact hu
                refine Snd.of (exec _ _ (by rw [hxv]; exact hrun)) ⟨hmv, ext, fun l' hl' => upd_ne _ _ hl', fun _ h => h, hsame, fun y hy => ?_⟩ hk
                injection hy with hy
                subst hy
                have := repA.own (w := w.setRow g cur'.toArray) (I := I) (upd_same σ lab (some (.row g (es ++ ns).length c szz)))
                rw [List.length_append] at this
                rw [List.length_append]
                exact this
              · have hold : (Builtin.firstCells szz es.length (.slice (some ⟨g, 0, none⟩) es.length c)).run P w.drew = .ok os.toArray w.drew :=
                  run_firstCells_some w.drew szz es.length ⟨g, 0, none⟩ es.length c os r1.1 (fun j v hj => by rw [add_none, Nat.zero_add]; exact r2 j v hj)
                exact append_grow h ho he hsz hby hz hzl hxv rfl hold hsrc r1 hc2 (by omega) hl hl2 hon ho2' hb (small es hb) (drop _) rfl hk
        · exact hk.elim
      · exact hk.elim
    · exact hk.elim
  · exact hk.elim
end
end Go.Aw
