/- Places of fields and elements, parts of aggregates, lengths, components of several results. -/
import Derived.Test.YtmeplhcfjihafaaAwMem2
namespace Go.Aw
open Go.RowKit

section
variable {P : Program} {o : Oper} {a : Act} {w : World} {σ : Lab} {I : Nat → Prop} {T : Nat → Option AV} {H : Nat → Option Blk} {w0 : World} {X I0 : Nat → Prop} {lab : Nat} {k : Eff → Prop}

theorem tfield_some {t : TypeId} {f off : Nat} (h : tfield P t f = some off) : ∃ fs fd n, P.underlying t = some (.struct fs) ∧ fs[f]? = some fd ∧ tsize P fd.type = some (n + 1) ∧ fd.offset = off := by
  unfold tfield at h
  split at h
  · rename_i fs hu
    split at h
    · rename_i fd hf
      split at h
      · rename_i n hn
        injection h with h
        exact ⟨fs, fd, n, hu, hf, hn, h⟩
      · cases h
    · cases h
  · cases h

/-! ### The place of a field -/
def fieldAddrW (P : Program) (t : TypeId) (f : Nat) (x : Option AV) (k : Eff → Prop) : Prop :=
  match tfield P t f with
  | some d => match x with
    | some (.ptr l i off) => k ⟨some (.ptr l i (off + d)), []⟩
    | some (.p (.box cs off)) => k ⟨some (.p (.box cs (off + d))), []⟩
    | _ => False
  | none => False
theorem snd_fieldAddr (h : In σ w I T H w0 X I0 a lab) {t : TypeId} {x : Operand} {f : Nat} (ho : o.op = .fieldAddr t x f) (hk : fieldAddrW P t f (ev T x) k) : Snd P o a w σ I H w0 X I0 lab k := by
  unfold fieldAddrW at hk
  split at hk
  · rename_i d hd
    obtain ⟨fs, fd, n, hu, hf, hn, rfl⟩ := tfield_some hd
    have run : ∀ b off, a.eval x = .pointer (some ⟨b, off, none⟩) → (execOp a.eval o).run P w = .ok (.value (.pointer (some ⟨b, off + fd.offset, none⟩))) w := by
      intro b off he
      simp only [execOp, ho, Instr.fieldAt, he, Sem.run_bind, run_underlying' hu, Result.andThen_ok, hf, Instr.sureAddr, Sem.run_pure, fieldPlace, run_sizeOf' hn, Nat.add_one_ne_zero, if_false, add_none]
    split at hk
    · rename_i l i off hp
      have hx := h.ev hp
      generalize hxv : a.eval x = xv at hx
      cases hx with
      | ptr hs =>
        refine Snd.val h (run _ _ hxv) ?_ hk
        rw [Nat.add_assoc]
        exact .ptr hs
    · rename_i cs off hp
      have hx := h.ev hp
      generalize hxv : a.eval x = xv at hx
      cases hx with
      | p hx =>
      cases hx with
      | box b o' off cs us hI hone hcell hrep =>
        refine Snd.val h (run _ _ hxv) ?_ hk
        rw [Nat.add_assoc]
        exact .p (.box b o' _ cs us hI hone hcell hrep)
    · exact hk.elim
  · exact hk.elim

/-! ### The place of an element -/
def elemP (es : List (List PV)) (n : Int) : List PV := es.getD n.toNat []
def indexAddrP (P : Program) (e : TypeId) (es : List (List PV)) (n : Int) (k : Eff → Prop) : Prop :=
  (0 ≤ n ∧ n < es.length) ∧ tsize P e = some (elemP es n).length ∧ k ⟨some (.p (.box (elemP es n) 0)), []⟩
def indexAddrW (P : Program) (t : TypeId) (x i : Option AV) (H : Nat → Option Blk) (k : Eff → Prop) : Prop :=
  match i with
  | some (.p (.int _ n)) => match telem P t with
    | some e => match x with
      | some (.own l) => match H l with
        | some (.row sz es) => (0 ≤ n ∧ n < es.length) ∧ tsize P e = some sz ∧ k ⟨some (.ptr l n.toNat 0), []⟩
        | _ => False
      | some (.p (.slice es)) => indexAddrP P e es n k
      | some (.ex es) => indexAddrP P e es n k
      | _ => False
    | none => False
  | _ => False
theorem snd_indexAddr (h : In σ w I T H w0 X I0 a lab) {t : TypeId} {x i : Operand} (ho : o.op = .indexAddr t x i) (hk : indexAddrW P t (ev T x) (ev T i) H k) : Snd P o a w σ I H w0 X I0 lab k := by
  unfold indexAddrW at hk
  split at hk
  · rename_i kd n hi
    have hiv := h.ev hi
    split at hk
    · rename_i e he
      have hu := telem_some he
      generalize hivv : a.eval i = iv at hiv
      cases hiv with
      | p hiv =>
      cases hiv with
      | int =>
      have run : ∀ b off m c sz, tsize P e = some sz → 0 ≤ n → n < (m : Nat) → a.eval x = .slice (some ⟨b, off, none⟩) m c → (execOp a.eval o).run P w = .ok (.value (.pointer (some ⟨b, off + n.toNat * sz, none⟩))) w := by
        intro b off m c sz hsz h0 h1 hx
        simp only [execOp, ho, Instr.indexAt, hx, hivv, asIntOf, Sem.run_bind, Sem.run_pure, Result.andThen_ok, run_underlying' hu]
        rw [if_pos ⟨h0, h1⟩]
        simp only [Sem.run_bind, run_sizeOf' hsz, Result.andThen_ok, Sem.run_pure, add_none]
      have pure : ∀ es, repA σ w I (a.eval x) (.p (.slice es)) → indexAddrP P e es n k → Snd P o a w σ I H w0 X I0 lab k := by
        intro es hx hk
        obtain ⟨⟨h0, h1⟩, hsz, hk⟩ := hk
        generalize hxv : a.eval x = xv at hx
        cases hx with
        | p hx =>
        cases hx with
        | empty a' c => simp at h1; omega
        | slice b off m c sz es us hn hc hs hI hone hcell hrep =>
          have hlt : n.toNat < es.length := by omega
          have hel : es[n.toNat]? = some (elemP es n) := by
            unfold elemP
            rw [List.getD_eq_getElem?_getD, List.getElem?_eq_getElem hlt]
            rfl
          have hmem := List.mem_of_getElem? hel
          have hsz' := hs _ hmem
          refine Snd.val h (run b off m c _ hsz h0 (by omega) hxv) (.p ?_) hk
          have := rep.box (w := w) (I := I) b (off + n.toNat * sz) 0 (elemP es n) (us n.toNat) hI (hone _ hmem) (fun j p hj => by rw [Nat.add_assoc]; exact hcell _ _ j p hel hj) (fun j p hj => hrep _ _ j p hel hj)
          rw [hsz']
          simpa using this
      split at hk
      · rename_i l hp
        have hx := h.ev hp
        split at hk
        · rename_i sz es hH
          obtain ⟨⟨h0, h1⟩, hsz, hk⟩ := hk
          have hb := h.heap.rows l _ hH
          generalize hxv : a.eval x = xv at hx
          cases hb with
          | emp h' => simp at h1; omega
          | row h' hg hcur hc hl hon hr =>
            cases hx with
            | ownE hs => rw [hs] at h'; cases h'
            | own hs =>
              rw [hs] at h'
              injection h' with h'
              injection h' with e1 e2 e3 e4
              subst e1 e2 e3 e4
              refine Snd.val h (run _ 0 _ _ _ hsz h0 h1 hxv) ?_ hk
              have := repA.ptr (w := w) (I := I) (i := n.toNat) (off := 0) hs
              simpa using this
        · exact hk.elim
      · rename_i es hp
        exact pure es (h.ev hp) hk
      · rename_i es hp
        have hx := h.ev hp
        refine pure es ?_ hk
        generalize a.eval x = xv at hx
        cases hx with
        | ex hn hx => exact .p hx
      · exact hk.elim
    · exact hk.elim
  · exact hk.elim

/-! ### Parts of aggregates, bytes of texts -/
def indexW (P : Program) (t : TypeId) (x i : Option AV) (k : Eff → Prop) : Prop :=
  match i with
  | some (.p (.int _ n)) => match P.underlying t with
    | some .string => match x with
      | some (.p (.str l)) => (0 ≤ n ∧ n < l.length) ∧ k ⟨some (.p (.int .u8 ((l.getD n.toNat 0).toNat : Int))), []⟩
      | _ => False
    | some (.array m e) => match tsize P e with
      | some sz => match x with
        | some (.agg cs) => (0 ≤ n ∧ n < m) ∧ loadA P e (n.toNat * sz) cs k
        | some (.p (.agg cs)) => (0 ≤ n ∧ n < m) ∧ loadP P e (n.toNat * sz) cs k
        | _ => False
      | none => False
    | _ => False
  | _ => False

theorem run_part {t : TypeId} {vs : Array Value} {off : Nat} {cs : List AV} (hs : vs.size = cs.length) (hr : ∀ (j : Nat) u p, vs[j]? = some u → cs[j]? = some p → repA σ w I u p) (hk : loadA P t off cs k) :
    ∃ v x, (part t vs off).run P w = .ok v w ∧ repA σ w I v x ∧ k ⟨some x, []⟩ := by
  unfold loadA at hk
  split at hk
  · rename_i ht
    split at hk
    · rename_i m hm
      obtain ⟨hle, hk⟩ := hk
      refine ⟨.agg (vs.extract off (off + m)), _, ?_, repA_agg ?_ fun j u p h1 h2 => ?_, hk⟩
      · simp only [part, Sem.run_bind, run_isAgg' ht, Result.andThen_ok, if_true, run_sizeOf' hm, Sem.run_pure]
      · simp; omega
      · rw [List.getElem?_take] at h2
        split at h2
        · rename_i hj
          rw [List.getElem?_drop] at h2
          refine hr (off + j) u p ?_ h2
          rw [Array.getElem?_extract] at h1
          split at h1
          · exact h1
          · cases h1
        · cases h2
    · exact hk.elim
  · rename_i ht
    split at hk
    · rename_i y hy
      have hj : off < vs.size := by rw [hs]; exact (List.getElem?_eq_some_iff.1 hy).1
      refine ⟨vs[off], y, ?_, hr off _ y (Array.getElem?_eq_getElem hj) hy, hk⟩
      simp only [part, Sem.run_bind, run_isAgg' ht, Result.andThen_ok, Bool.false_eq_true, if_false, Array.getElem?_eq_getElem hj, Sem.run_pure]
    · exact hk.elim
  · exact hk.elim
theorem run_partP {t : TypeId} {vs : Array Value} {off : Nat} {cs : List PV} (hs : vs.size = cs.length) (hr : ∀ (j : Nat) u p, vs[j]? = some u → cs[j]? = some p → rep w I u p) (hk : loadP P t off cs k) :
    ∃ v x, (part t vs off).run P w = .ok v w ∧ repA σ w I v x ∧ k ⟨some x, []⟩ := by
  unfold loadP at hk
  split at hk
  · rename_i ht
    split at hk
    · rename_i m hm
      obtain ⟨hle, hk⟩ := hk
      refine ⟨.agg (vs.extract off (off + m)), _, ?_, .p (.agg ?_ fun j u p h1 h2 => ?_), hk⟩
      · simp only [part, Sem.run_bind, run_isAgg' ht, Result.andThen_ok, if_true, run_sizeOf' hm, Sem.run_pure]
      · simp; omega
      · rw [List.getElem?_take] at h2
        split at h2
        · rename_i hj
          rw [List.getElem?_drop] at h2
          refine hr (off + j) u p ?_ h2
          rw [Array.getElem?_extract] at h1
          split at h1
          · exact h1
          · cases h1
        · cases h2
    · exact hk.elim
  · rename_i ht
    split at hk
    · rename_i y hy
      have hj : off < vs.size := by rw [hs]; exact (List.getElem?_eq_some_iff.1 hy).1
      refine ⟨vs[off], .p y, ?_, .p (hr off _ y (Array.getElem?_eq_getElem hj) hy), hk⟩
      simp only [part, Sem.run_bind, run_isAgg' ht, Result.andThen_ok, Bool.false_eq_true, if_false, Array.getElem?_eq_getElem hj, Sem.run_pure]
    · exact hk.elim
  · exact hk.elim

theorem str_get (l : List UInt8) (n : Nat) : (⟨⟨l⟩⟩ : ByteArray)[n]? = l[n]? := by
  have hs : (⟨⟨l⟩⟩ : ByteArray).size = l.length := rfl
  by_cases h : n < l.length
  · rw [getElem?_pos _ _ (by rw [hs]; exact h), List.getElem?_eq_getElem h]
    rfl
  · rw [getElem?_neg _ _ (by rw [hs]; exact h), List.getElem?_eq_none (by omega)]

theorem snd_index (h : In σ w I T H w0 X I0 a lab) {t : TypeId} {x i : Operand} (ho : o.op = .index t x i) (hk : indexW P t (ev T x) (ev T i) k) : Snd P o a w σ I H w0 X I0 lab k := by
  unfold indexW at hk
  split at hk
  · rename_i kd n hi
    have hiv := h.ev hi
    generalize hivv : a.eval i = iv at hiv
    cases hiv with
    | p hiv =>
    cases hiv with
    | int =>
    split at hk
    · rename_i hu
      split at hk
      · rename_i l hp
        obtain ⟨⟨h0, h1⟩, hk⟩ := hk
        have hx := h.ev hp
        generalize hxv : a.eval x = xv at hx
        cases hx with
        | p hx =>
        cases hx with
        | str =>
        refine Snd.val h (v := .int .u8 ((l.getD n.toNat 0).toNat : Int)) ?_ (.p (.int _ _)) hk
        have hlt : n.toNat < l.length := by omega
        simp only [execOp, ho, Instr.index, hxv, hivv, asIntOf, Sem.run_bind, Sem.run_pure, Result.andThen_ok, run_underlying' hu]
        rw [if_pos h0, str_get, List.getElem?_eq_getElem hlt]
        simp [List.getD_eq_getElem?_getD, List.getElem?_eq_getElem hlt]
      · exact hk.elim
    · rename_i m e hu
      split at hk
      · rename_i sz hsz
        split at hk
        · rename_i cs hp
          obtain ⟨⟨h0, h1⟩, hk⟩ := hk
          have hx := h.ev hp
          generalize hxv : a.eval x = xv at hx
          cases hx with
          | agg hs hr =>
          obtain ⟨v, y, r1, r2, r3⟩ := run_part hs hr hk
          refine Snd.val h (v := v) ?_ r2 r3
          simp only [execOp, ho, Instr.index, hxv, hivv, asIntOf, Sem.run_bind, Sem.run_pure, Result.andThen_ok, run_underlying' hu]
          rw [if_pos ⟨h0, h1⟩]
          simp only [Sem.run_bind, run_sizeOf' hsz, Result.andThen_ok, r1]
        · rename_i cs hp
          obtain ⟨⟨h0, h1⟩, hk⟩ := hk
          have hx := h.ev hp
          generalize hxv : a.eval x = xv at hx
          cases hx with
          | p hx =>
          cases hx with
          | agg hs hr =>
          obtain ⟨v, y, r1, r2, r3⟩ := run_partP (σ := σ) hs hr hk
          refine Snd.val h (v := v) ?_ r2 r3
          simp only [execOp, ho, Instr.index, hxv, hivv, asIntOf, Sem.run_bind, Sem.run_pure, Result.andThen_ok, run_underlying' hu]
          rw [if_pos ⟨h0, h1⟩]
          simp only [Sem.run_bind, run_sizeOf' hsz, Result.andThen_ok, r1]
        · exact hk.elim
      · exact hk.elim
    · exact hk.elim
  · exact hk.elim

def fieldW (P : Program) (t : TypeId) (f : Nat) (x : Option AV) (k : Eff → Prop) : Prop :=
  match P.underlying t with
  | some (.struct fs) => match fs[f]? with
    | some fd => match x with
      | some (.agg cs) => loadA P fd.type fd.offset cs k
      | some (.p (.agg cs)) => loadP P fd.type fd.offset cs k
      | _ => False
    | none => False
  | _ => False
theorem snd_field (h : In σ w I T H w0 X I0 a lab) {t : TypeId} {x : Operand} {f : Nat} (ho : o.op = .field t x f) (hk : fieldW P t f (ev T x) k) : Snd P o a w σ I H w0 X I0 lab k := by
  unfold fieldW at hk
  split at hk
  · rename_i fs hu
    split at hk
    · rename_i fd hf
      have run : ∀ vs v, a.eval x = .agg vs → (part fd.type vs fd.offset).run P w = .ok v w → (execOp a.eval o).run P w = .ok (.value v) w := by
        intro vs v he hv
        simp only [execOp, ho, Instr.field, he, Sem.run_bind, run_underlying' hu, Result.andThen_ok, hf, asAgg, Sem.run_pure, hv]
      split at hk
      · rename_i cs hp
        have hx := h.ev hp
        generalize hxv : a.eval x = xv at hx
        cases hx with
        | agg hs hr =>
        obtain ⟨v, y, r1, r2, r3⟩ := run_part hs hr hk
        exact Snd.val h (run _ _ hxv r1) r2 r3
      · rename_i cs hp
        have hx := h.ev hp
        generalize hxv : a.eval x = xv at hx
        cases hx with
        | p hx =>
        cases hx with
        | agg hs hr =>
        obtain ⟨v, y, r1, r2, r3⟩ := run_partP (σ := σ) hs hr hk
        exact Snd.val h (run _ _ hxv r1) r2 r3
      · exact hk.elim
    · exact hk.elim
  · exact hk.elim

def extractW (x : Option AV) (i : Nat) (k : Eff → Prop) : Prop :=
  match x with
  | some (.tuple vs) => match vs[i]? with | some y => k ⟨some y, []⟩ | none => False
  | some (.p (.tuple vs)) => match vs[i]? with | some y => k ⟨some (.p y), []⟩ | none => False
  | _ => False
theorem snd_extract (h : In σ w I T H w0 X I0 a lab) {x : Operand} {i : Nat} (ho : o.op = .extract x i) (hk : extractW (ev T x) i k) : Snd P o a w σ I H w0 X I0 lab k := by
  have run : ∀ (vs : Array Value) v, a.eval x = .tuple vs → vs[i]? = some v → (execOp a.eval o).run P w = .ok (.value v) w := by
    intro vs v he hv
    simp only [execOp, ho, Instr.extract, he, Sem.run_bind, hv, Sem.run_pure, Result.andThen_ok]
  unfold extractW at hk
  split at hk
  · rename_i cs hp
    have hx := h.ev hp
    split at hk
    · rename_i y hy
      generalize hxv : a.eval x = xv at hx
      cases hx with
      | tuple hs hr =>
        rename_i vs
        have hj : i < vs.size := by rw [hs]; exact (List.getElem?_eq_some_iff.1 hy).1
        exact Snd.val h (run _ _ hxv (Array.getElem?_eq_getElem hj)) (hr i _ y (Array.getElem?_eq_getElem hj) hy) hk
    · exact hk.elim
  · rename_i cs hp
    have hx := h.ev hp
    split at hk
    · rename_i y hy
      generalize hxv : a.eval x = xv at hx
      cases hx with
      | p hx =>
      cases hx with
      | tuple hs hr =>
        rename_i vs
        have hj : i < vs.size := by rw [hs]; exact (List.getElem?_eq_some_iff.1 hy).1
        exact Snd.val h (run _ _ hxv (Array.getElem?_eq_getElem hj)) (.p (hr i _ y (Array.getElem?_eq_getElem hj) hy)) hk
    · exact hk.elim
  · exact hk.elim
end
end Go.Aw
