/- Conversions, min and max, copy. -/
import Derived.Test.YtmeplhcfjihafaaAwMake
import Derived.Laws.BytesArg
namespace Go.Aw
open Go.RowKit

def byteOf1 : List AV → Option UInt8
  | [.p (.int .u8 n)] => some (UInt8.ofNat n.toNat)
  | _ => none
/-- The bytes that elements are. -/
def bytesOf : List (List AV) → Option (List UInt8)
  | [] => some []
  | e :: r => match byteOf1 e, bytesOf r with
    | some b, some l => some (b :: l)
    | _, _ => none
theorem byteOf1_byteA (b : UInt8) : byteOf1 [byteA b] = some b := by
  simp [byteOf1, byteA]
theorem bytesOf_map (l : List UInt8) : bytesOf (l.map fun b => [byteA b]) = some l := by
  induction l with
  | nil => rfl
  | cons b r ih => rw [List.map_cons, bytesOf, byteOf1_byteA, ih]
theorem bytesOf_lift (l : List UInt8) : bytesOf (liftE (l.map fun b => [byteP b])) = some l := by
  have : liftE (l.map fun b => [byteP b]) = l.map fun b => [byteA b] := by simp [liftE, byteP, byteA]
  rw [this, bytesOf_map]
theorem bytesOf_append {es fs : List (List AV)} {l m : List UInt8} (h : bytesOf es = some l) (h' : bytesOf fs = some m) : bytesOf (es ++ fs) = some (l ++ m) := by
  induction es generalizing l with
  | nil => simp only [bytesOf] at h; injection h with h; subst h; exact h'
  | cons e r ih =>
    simp only [bytesOf] at h
    split at h
    · rename_i b l' hb hl
      injection h with h
      subst h
      rw [List.cons_append, bytesOf, hb, ih hl]
      rfl
    · cases h

section
variable {P : Program} {o : Oper} {a : Act} {w : World} {σ : Lab} {I : Nat → Prop} {T : Nat → Option AV} {H : Nat → Option Blk} {w0 : World} {X I0 : Nat → Prop} {lab : Nat} {k : Eff → Prop}

theorem bytesOf_cells {es : List (List AV)} {l : List UInt8} (h : bytesOf es = some l) : ∃ xs : List Int, (xs.map fun n => UInt8.ofNat n.toNat) = l ∧ es = xs.map fun n => [.p (.int .u8 n)] := by
  induction es generalizing l with
  | nil => simp only [bytesOf] at h; injection h with h; subst h; exact ⟨[], rfl, rfl⟩
  | cons e r ih =>
    simp only [bytesOf] at h
    split at h
    · rename_i b l' hb hl
      injection h with h
      subst h
      obtain ⟨xs, h1, h2⟩ := ih hl
      unfold byteOf1 at hb
      split at hb
      · rename_i n
        injection hb with hb
        subst hb
        exact ⟨n :: xs, by rw [List.map_cons, h1], by rw [List.map_cons, h2]⟩
      · cases hb
    · cases h

/-- A slice, its address and its cells. -/
theorem elems_at (h : In σ w I T H w0 X I0 a lab) {x : Operand} {xv : AV} {es : List (List AV)} {sz : Nat} (hx : ev T x = some xv) (he : elems H xv = some es) (hs : ∀ e ∈ es, e.length = sz) :
    (es = [] ∧ ∃ ad c, a.eval x = .slice ad 0 c) ∨ ∃ b off c cs, a.eval x = .slice (some ⟨b, off, none⟩) es.length c ∧ CellsAt σ w I cs sz es ∧ (∀ (j : Nat) u, cs[j]? = some u → w.cell? ⟨b, off + j, none⟩ = some u) ∧ ∀ e ∈ es, ∀ y ∈ e, y.one = true := by
  have hr := h.ev hx
  generalize a.eval x = v at hr ⊢
  unfold elems at he
  split at he
  · rename_i ps
    injection he with he
    subst he
    cases hr with
    | p hr =>
    rcases pure_list (σ := σ) (sz := sz) (fun e he => by simpa [liftE] using hs (e.map AV.p) (List.mem_map.2 ⟨e, he, rfl⟩)) hr with ⟨rfl, ad, c, rfl⟩ | ⟨b, off, c, cs, rfl, h1, h2, h3, h4, h5⟩
    · exact .inl ⟨rfl, ad, c, rfl⟩
    · exact .inr ⟨b, off, c, cs, by simp [liftE], h1, h2, h4⟩
  · rename_i ps
    injection he with he
    subst he
    cases hr with
    | ex hl hr =>
    subst hl
    rcases pure_list (σ := σ) (sz := sz) (fun e he => by simpa [liftE] using hs (e.map AV.p) (List.mem_map.2 ⟨e, he, rfl⟩)) hr with ⟨rfl, ad, c, h0⟩ | ⟨b, off, c, cs, h0, h1, h2, h3, h4, h5⟩
    · exact .inl ⟨rfl, ad, c, h0⟩
    · exact .inr ⟨b, off, c, cs, by rw [h0]; simp [liftE], h1, h2, h4⟩
  · rename_i l
    split at he
    · rename_i sz' es' hH
      injection he with he
      subst he
      have hb := h.heap.rows l _ hH
      cases hr with
      | ownE hs' =>
        cases hb with
        | emp h' => exact .inl ⟨rfl, _, 0, rfl⟩
        | row h' => rw [hs'] at h'; cases h'
      | own hs' =>
        rename_i g n c szz
        have hq : n = es'.length ∧ szz = sz' ∧ ∀ e ∈ es', ∀ y ∈ e, y.one = true := by
          cases hb with
          | emp h' => rw [hs'] at h'; cases h'
          | row h' hg hcur hc hl hon hr =>
            rw [hs'] at h'
            injection h' with h'
            injection h' with e1 e2 e3 e4
            subst e1 e2 e3 e4
            exact ⟨rfl, rfl, hon⟩
        obtain ⟨rfl, rfl, hon⟩ := hq
        obtain ⟨cs, h1, h2, h3⟩ := row_list hb hs'
        by_cases hne : es' = []
        · subst hne
          exact .inl ⟨rfl, _, c, rfl⟩
        · have hpos : 0 < es'.length := List.length_pos_iff.2 hne
          have : szz = sz := by rw [← h3 es'[0] (List.getElem_mem hpos), hs es'[0] (List.getElem_mem hpos)]
          subst this
          exact .inr ⟨g, 0, c, cs, rfl, h1, fun j u hj => by rw [Nat.zero_add]; exact h2 j u hj, hon⟩
    · cases he
  · cases he

/-! ### Conversions -/
def convertW (P : Program) (src dst : TypeId) (x : Option AV) (H : Nat → Option Blk) (k : Eff → Prop) : Prop :=
  match P.underlying src, P.underlying dst with
  | some (.slice e), some .string => match P.underlying e, x with
    | some (.int .u8), some y => match (elems H y).bind bytesOf with
      | some l => k ⟨some (.p (.str l)), []⟩
      | none => False
    | _, _ => False
  | some .string, some .string => match x with
    | some (.p (.str l)) => k ⟨some (.p (.str l)), []⟩
    | _ => False
  | some .string, some (.slice e) => match P.underlying e, x with
    | some (.int .u8), some (.p (.str l)) => k ⟨some (.p (.slice (l.map fun b => [byteP b]))), []⟩
    | _, _ => False
  | some (.int _), some (.int kd) => match x with
    | some (.p (.int _ n)) => k ⟨some (.p (.int kd (kd.wrap n))), []⟩
    | _ => False
  | _, _ => False
theorem snd_convert (h : In σ w I T H w0 X I0 a lab) {src dst : TypeId} {x : Operand} (ho : o.op = .convert src dst x) (hk : convertW P src dst (ev T x) H k) : Snd P o a w σ I H w0 X I0 lab k := by
  have exec : ∀ v w', (convert src dst (a.eval x)).run P w = .ok v w' → (execOp a.eval o).run P w = .ok (.value v) w' := by
    intro v w' hv
    simp only [execOp, ho, Sem.run_bind, hv, Result.andThen_ok, Sem.run_pure]
  unfold convertW at hk
  split at hk
  · rename_i e hs hd
    split at hk
    · rename_i y he hy
      split at hk
      · rename_i l hl
        obtain ⟨es, hes, hb⟩ := Option.bind_eq_some_iff.1 hl
        obtain ⟨xs, rfl, rfl⟩ := bytesOf_cells hb
        rcases elems_at (sz := 1) h hy hes (fun e he => by obtain ⟨n, _, rfl⟩ := List.mem_map.1 he; rfl) with ⟨hn, ad, c, hv⟩ | ⟨b, off, c, cs, hv, h1, h2, _⟩
        · have : xs = [] := by simpa using hn
          subst this
          refine Snd.val h (v := .string ⟨⟨[]⟩⟩) (exec _ _ ?_) (.p (.str _)) hk
          rw [hv]
          cases ad with
          | none => exact run_convert_bytes_nil w src e hs he 0 c dst hd
          | some ad =>
            rw [run_convert_bytes_string w src dst e _ 0 c hs he hd, run_bytesToString w _ 0 c [] (by simp [loadCells, loadCellsFrom])]
            rfl
        · refine Snd.val h (v := .string (strOfNums xs)) (exec _ _ ?_) (.p (.str _)) hk
          rw [hv]
          refine run_convert_bytes_arg w src e hs he b off _ c xs (by simp) (fun i hi => ?_) dst hd
          have hi' : i < xs.length := by simpa using hi
          obtain ⟨u, hu, hru⟩ := h1.2 i _ 0 _ (by rw [List.getElem?_map, List.getElem?_eq_getElem hi']; rfl) rfl
          simp only [Nat.mul_one, Nat.add_zero] at hu
          rw [h2 i u hu]
          cases hru with
          | p hru => cases hru; simp [List.getD_eq_getElem?_getD, List.getElem?_eq_getElem hi']
      · exact hk.elim
    · exact hk.elim
  · rename_i hs hd
    split at hk
    · rename_i l hy
      have hx := h.ev hy
      generalize hxv : a.eval x = xv at hx exec
      cases hx with
      | p hx =>
      cases hx with
      | str =>
      exact Snd.val h (exec _ _ (by simp [convert, run_underlying' hs, run_underlying' hd])) (.p (.str _)) hk
    · exact hk.elim
  · rename_i e hs hd
    split at hk
    · rename_i l he hy
      have hx := h.ev hy
      generalize hxv : a.eval x = xv at hx exec
      cases hx with
      | p hx =>
      cases hx with
      | str =>
      have hrun := Lib.run_convert_string_bytes (P := P) w src dst e ⟨⟨l⟩⟩ hs hd he
      have hsz : (⟨⟨l⟩⟩ : ByteArray).size = l.length := rfl
      have hI : ∀ g, I g → g < w.heap.size := fun g hg => (h.heap.imm g hg).1
      have old : ∀ g, I g → (Lib.bytesWorld w e ⟨⟨l⟩⟩).heap[g]? = w.heap[g]? := fun g hg => Lib.bytesWorld_at_old w e _ g (hI g hg)
      have hw0 := h.heap.fr.size
      have hh : HOK σ (Lib.bytesWorld w e ⟨⟨l⟩⟩) (fun g => I g ∨ g = w.heap.size) H w0 X I0 := by
        refine ⟨fun l' b hb => ?_, h.heap.inj, fun l' g s q1 q2 q3 => ?_, fun g hg => ?_, fun g hg => .inl (h.heap.sub g hg), ⟨h.heap.fr.os, h.heap.fr.tape, h.heap.fr.output, by rw [Lib.bytesWorld_size]; omega, fun b hb hx => ?_, h.heap.fr.step fun b cur et p hb hc => ⟨cur, et, p, by rw [Lib.bytesWorld_at_old w e _ b (by omega)]; exact hc, rfl⟩⟩⟩
        · obtain ⟨s, hs', hlt⟩ := (h.heap.rows l' b hb).block
          refine (h.heap.rows l' b hb).mono (fun _ _ h => h) (fun _ h => .inl h) old (fun g s' q1 q2 => Lib.bytesWorld_at_old w e _ g ?_)
          rw [hs'] at q1
          injection q1 with q1
          subst q1
          exact hlt g q2
        · obtain ⟨a1, a2⟩ := h.heap.mine l' g s q1 q2 q3
          refine ⟨fun hg => ?_, a2⟩
          rcases hg with hg | hg
          · exact a1 hg
          · obtain ⟨b, hb⟩ := Option.ne_none_iff_exists'.1 q1
            obtain ⟨s', hs', hlt⟩ := (h.heap.rows l' b hb).block
            rw [q2] at hs'
            injection hs' with hs'
            subst hs'
            have := hlt g q3
            omega
        · rw [Lib.bytesWorld_size]
          rcases hg with hg | hg
          · exact ⟨by have := hI g hg; omega, (h.heap.imm g hg).2⟩
          · exact ⟨by omega, .inr (.inr (by omega))⟩
        · rw [Lib.bytesWorld_at_old w e _ b (by omega)]
          exact h.heap.fr.block b hb hx
      refine Snd.of (exec _ _ hrun) ⟨hh, fun _ _ h => h, fun _ _ => rfl, fun _ h => .inl h, old, fun y hy => ?_⟩ hk
      injection hy with hy
      subst hy
      refine .p (.slice w.heap.size 0 _ _ 1 _ (fun i _ => .int .u8 ((l.getD i 0).toNat : Int)) (by simp [hsz]) (le_grownCap _ _ _ _) (fun e he => ?_) (.inr rfl) (fun e he p hp => ?_) (fun i f j p q1 q2 => ?_) (fun i f j p q1 q2 => ?_))
      · obtain ⟨b, _, rfl⟩ := List.mem_map.1 he
        rfl
      · obtain ⟨b, _, rfl⟩ := List.mem_map.1 he
        simp at hp; subst hp; rfl
      · rw [List.getElem?_map, Option.map_eq_some_iff] at q1
        obtain ⟨b, hb, rfl⟩ := q1
        have hi : i < l.length := (List.getElem?_eq_some_iff.1 hb).1
        rcases j with _ | j
        · simp only [Nat.mul_one, Nat.add_zero, Nat.zero_add]
          rw [Lib.bytesWorld_cell w e _ i (by rw [hsz]; exact hi)]
        · simp at q2
      · rw [List.getElem?_map, Option.map_eq_some_iff] at q1
        obtain ⟨b, hb, rfl⟩ := q1
        rcases j with _ | j
        · simp at q2; subst q2
          simp only [List.getD_eq_getElem?_getD, hb, Option.getD_some]
          exact .int _ _
        · simp at q2
    · exact hk.elim
  · rename_i kd' kd hs hd
    split at hk
    · rename_i kn n hy
      have hx := h.ev hy
      generalize hxv : a.eval x = xv at hx exec
      cases hx with
      | p hx =>
      cases hx with
      | int =>
      exact Snd.val h (exec _ _ (by simp [convert, run_underlying' hs, run_underlying' hd, Conv.intToInt])) (.p (.int _ _)) hk
    · exact hk.elim
  · exact hk.elim

/-! ### min, max -/
def minmaxW (mx : Bool) (x y : Option AV) (k : Eff → Prop) : Prop :=
  match x, y with
  | some (.p (.int kd m)), some (.p (.int _ n)) => k ⟨some (.p (.int kd (if mx = true then (if n > m then n else m) else (if n < m then n else m)))), []⟩
  | _, _ => False
theorem snd_max (h : In σ w I T H w0 X I0 a lab) {ts : Array TypeId} {x y : Operand} (ho : o.op = .call { callee := .builtin .max, args := #[x, y], argTypes := ts }) (hk : minmaxW true (ev T x) (ev T y) k) : Snd P o a w σ I H w0 X I0 lab k := by
  unfold minmaxW at hk
  split at hk
  · rename_i kd m kd' n hx hy
    have hx := h.ev hx
    have hy := h.ev hy
    generalize hxv : a.eval x = xv at hx
    generalize hyv : a.eval y = yv at hy
    cases hx with
    | p hx =>
    cases hx with
    | int =>
    cases hy with
    | p hy =>
    cases hy with
    | int =>
    refine Snd.val h (v := .int kd (if n > m then n else m)) ?_ (by simpa using repA.p (rep.int _ _)) hk
    simp [execOp, ho, resolve, invoke, builtin, hxv, hyv, Builtin.max_, Builtin.max2]
  · exact hk.elim
theorem snd_min (h : In σ w I T H w0 X I0 a lab) {ts : Array TypeId} {x y : Operand} (ho : o.op = .call { callee := .builtin .min, args := #[x, y], argTypes := ts }) (hk : minmaxW false (ev T x) (ev T y) k) : Snd P o a w σ I H w0 X I0 lab k := by
  unfold minmaxW at hk
  split at hk
  · rename_i kd m kd' n hx hy
    have hx := h.ev hx
    have hy := h.ev hy
    generalize hxv : a.eval x = xv at hx
    generalize hyv : a.eval y = yv at hy
    cases hx with
    | p hx =>
    cases hx with
    | int =>
    cases hy with
    | p hy =>
    cases hy with
    | int =>
    refine Snd.val h (v := .int kd (if n < m then n else m)) ?_ (by simpa using repA.p (rep.int _ _)) hk
    simp [execOp, ho, resolve, invoke, builtin, hxv, hyv, Builtin.min_, Builtin.min2]
  · exact hk.elim
end
end Go.Aw
