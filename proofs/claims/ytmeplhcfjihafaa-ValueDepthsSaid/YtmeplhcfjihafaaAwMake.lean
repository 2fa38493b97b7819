/- Aggregates and slices that are written out, slices that are made, conversions. -/
import Derived.Test.YtmeplhcfjihafaaAwAppend
import Derived.Lib.ConvBytes
import Derived.Laws.MakeOwn
import Derived.IntWalk
namespace Go.Aw
open Go.RowKit

section
variable {P : Program} {o : Oper} {a : Act} {w : World} {σ : Lab} {I : Nat → Prop} {T : Nat → Option AV} {H : Nat → Option Blk} {w0 : World} {X I0 : Nat → Prop} {lab : Nat} {k : Eff → Prop}

/-! ### Parts that are filled in -/
def fillA (place : Nat → Option (Nat × Nat)) (cs : List AV) : List (Nat × AV) → Option (List AV)
  | [] => some cs
  | (i, v) :: r => match place i with
    | some (off, size) => if (cellsA v).length = size ∧ off + (cellsA v).length ≤ cs.length ∧ oneAll (cellsA v) = true then fillA place (setCells cs off (cellsA v)) r else none
    | none => none

/-- Values and what stands for them, cell by cell. -/
def Both (σ : Lab) (w : World) (I : Nat → Prop) (vs : Array Value) (cs : List AV) : Prop := vs.size = cs.length ∧ ∀ (j : Nat) u p, vs[j]? = some u → cs[j]? = some p → repA σ w I u p

theorem foldl_set_size (vs : List (Value × Nat)) (off : Nat) : ∀ (cs : Array Value), (vs.foldl (fun cs (x : Value × Nat) => cs.setIfInBounds (off + x.2) x.1) cs).size = cs.size := by
  induction vs with
  | nil => intro cs; rfl
  | cons v r ih => intro cs; rw [List.foldl_cons, ih, Array.size_setIfInBounds]
theorem foldl_set_get (off : Nat) : ∀ (vs : List Value) (i : Nat) (cs : Array Value), off + i + vs.length ≤ cs.size → ∀ q, ((vs.zipIdx i).foldl (fun cs (x : Value × Nat) => cs.setIfInBounds (off + x.2) x.1) cs)[q]? = if q < off + i then cs[q]? else if q < off + i + vs.length then vs[q - (off + i)]? else cs[q]? := by
  intro vs
  induction vs with
  | nil =>
    intro i cs h q
    simp only [List.zipIdx_nil, List.foldl_nil, List.length_nil]
    split
    · rfl
    · rw [if_neg (by omega)]
  | cons v r ih =>
    intro i cs h q
    rw [List.zipIdx_cons, List.foldl_cons, ih (i + 1) _ (by rw [Array.size_setIfInBounds]; simp at h; omega) q]
    simp only [List.length_cons] at h ⊢
    by_cases h1 : q < off + i
    · rw [if_pos (by omega), if_pos h1, Array.getElem?_setIfInBounds_ne (by omega)]
    · rw [if_neg h1]
      by_cases h2 : q = off + i
      · subst h2
        rw [if_pos (by omega), if_pos (by omega), Array.getElem?_setIfInBounds_self_of_lt (by omega), Nat.sub_self]
        rfl
      · rw [if_neg (by omega)]
        by_cases h3 : q < off + (i + 1) + r.length
        · rw [if_pos h3, if_pos (by omega), show q - (off + i) = (q - (off + (i + 1))) + 1 by omega]
          rfl
        · rw [if_neg h3, if_neg (by omega), Array.getElem?_setIfInBounds_ne (by omega)]

theorem fill_both (h : In σ w I T H w0 X I0 a lab) (place : Nat → Option (Nat × Nat)) : ∀ (ps : List (Nat × Operand)) (ws : List (Nat × AV)) (vs : Array Value) (cs rs : List AV), Both σ w I vs cs → ps.map (fun p => (p.1, ev T p.2)) = ws.map (fun p => (p.1, some p.2)) → fillA place cs ws = some rs →
    ∃ us, Instr.fill place vs (ps.map fun p => (p.1, a.eval p.2)) = some us ∧ Both σ w I us rs := by
  intro ps
  induction ps with
  | nil =>
    intro ws vs cs rs hb hm hf
    cases ws with
    | nil => simp only [fillA] at hf; injection hf with hf; subst hf; exact ⟨vs, rfl, hb⟩
    | cons x r => simp at hm
  | cons p ps ih =>
    intro ws vs cs rs hb hm hf
    cases ws with
    | nil => simp at hm
    | cons x r =>
      obtain ⟨i, v⟩ := x
      simp only [List.map_cons, List.cons.injEq, Prod.mk.injEq] at hm
      obtain ⟨⟨rfl, hv⟩, hm⟩ := hm
      simp only [fillA] at hf
      split at hf
      · rename_i off size hpl
        split at hf
        · rename_i hc
          obtain ⟨c1, c2, c3⟩ := hc
          obtain ⟨d1, d2⟩ := cells_of (h.ev hv) c3
          have hfit : off + (a.eval p.2).cells.toList.length ≤ vs.size := by rw [Array.length_toList, d1, hb.1]; exact c2
          have hzip : (a.eval p.2).cells.zipIdx.toList = (a.eval p.2).cells.toList.zipIdx 0 := by simp
          obtain ⟨us, h1, h2⟩ := ih r ((a.eval p.2).cells.zipIdx.foldl (fun cs (c, j) => cs.setIfInBounds (off + j) c) vs) (setCells cs off (cellsA v)) rs (by
            rw [← Array.foldl_toList, hzip]
            refine ⟨by rw [foldl_set_size, setCells, splice_length _ _ _ c2, hb.1], fun q u x q1 q2 => ?_⟩
            rw [foldl_set_get off _ 0 vs (by simpa using hfit) q] at q1
            unfold setCells at q2
            rw [splice_get _ _ _ c2] at q2
            simp only [Nat.add_zero, Array.length_toList, d1, Array.getElem?_toList] at q1
            by_cases t1 : q < off
            · rw [if_pos t1] at q1 q2
              exact hb.2 q u x q1 q2
            · rw [if_neg t1] at q1 q2
              by_cases t2 : q < off + (cellsA v).length
              · rw [if_pos t2] at q1 q2
                exact d2 _ u x q1 q2
              · rw [if_neg t2] at q1 q2
                exact hb.2 q u x q1 q2) hm hf
          refine ⟨us, ?_, h2⟩
          simp only [List.map_cons, Instr.fill, hpl]
          rw [if_neg (by rw [d1, hb.1, c1]; simp; omega)]
          exact h1
        · cases hf
      · cases hf

/-- The parts of a literal, if each is known. -/
def partsA (T : Nat → Option AV) : List (Nat × Operand) → Option (List (Nat × AV))
  | [] => some []
  | (i, x) :: r => match ev T x, partsA T r with
    | some v, some l => some ((i, v) :: l)
    | _, _ => none
theorem partsA_map : ∀ {ps : List (Nat × Operand)} {ws : List (Nat × AV)}, partsA T ps = some ws → ps.map (fun p => (p.1, ev T p.2)) = ws.map (fun p => (p.1, some p.2)) := by
  intro ps
  induction ps with
  | nil => intro ws h; simp only [partsA] at h; injection h with h; subst h; rfl
  | cons p ps ih =>
    intro ws h
    simp only [partsA] at h
    split at h
    · rename_i v l hv hl
      injection h with h
      subst h
      simp only [List.map_cons, hv, ih hl]
    · cases h

/-- Where the parts of a type lie: fields, elements. -/
def tplaces (P : Program) (t : TypeId) : Option (Nat → Option (Nat × Nat)) :=
  match P.underlying t with
  | some (.struct fs) => match fs.toList.mapM fun f => (tsize P f.type).map fun n => (f.offset, n) with
    | some l => some fun i => l[i]?
    | none => none
  | some (.array _ e) => match tsize P e with
    | some n => some fun i => some (i * n, n)
    | none => none
  | _ => none

theorem run_places (fs : List Field) (w : World) : ∀ {l : List (Nat × Nat)}, (fs.mapM fun f => (tsize P f.type).map fun n => (f.offset, n)) = some l → (fs.mapM (m := Sem) fun f => do pure (f.offset, ← sizeOf f.type)).run P w = .ok l w := by
  induction fs with
  | nil => intro l h; simp at h; subst h; rfl
  | cons f r ih =>
    intro l h
    rw [List.mapM_cons] at h
    cases hn : tsize P f.type with
    | none => rw [hn] at h; simp at h
    | some n =>
      rw [hn] at h
      cases hr : (r.mapM fun f => (tsize P f.type).map fun n => (f.offset, n)) with
      | none => rw [hr] at h; simp at h
      | some l' =>
        rw [hr] at h
        simp at h
        subst h
        rw [List.mapM_cons]
        simp only [Sem.run_bind, run_sizeOf' hn, Result.andThen_ok, Sem.run_pure, ih hr]

def buildW (P : Program) (t : TypeId) (ps : Option (List (Nat × AV))) (k : Eff → Prop) : Prop :=
  match ps, tzero P t, tplaces P t with
  | some ws, some zs, some place => match fillA place (zs.map constAV) ws with
    | some cs => k ⟨some (mkAgg cs), []⟩
    | none => False
  | _, _, _ => False
theorem snd_build (h : In σ w I T H w0 X I0 a lab) {t : TypeId} {ps : Array (Nat × Operand)} (ho : o.op = .build t ps) (hk : buildW P t (partsA T ps.toList) k) : Snd P o a w σ I H w0 X I0 lab k := by
  unfold buildW at hk
  split at hk
  · rename_i ws zs place hw hz hp
    split at hk
    · rename_i cs hc
      obtain ⟨z, hz1, rfl⟩ := run_zeroValue' hz w
      have hb : Both σ w I z.cells (z.cells.toList.map constAV) := ⟨by simp, fun j u p h1 h2 => by
        rw [List.getElem?_map, Option.map_eq_some_iff] at h2
        obtain ⟨q, hq, rfl⟩ := h2
        rw [Array.getElem?_toList, h1] at hq
        injection hq with hq; subst hq
        exact repA_const σ w I u⟩
      obtain ⟨us, h1, h2⟩ := fill_both h place ps.toList ws z.cells _ cs hb (partsA_map hw) hc
      refine Snd.val h (v := .agg us) ?_ (repA_agg h2.1 h2.2) hk
      have hl : (ps.map fun x => (x.1, a.eval x.2)).toList = ps.toList.map fun p => (p.1, a.eval p.2) := by simp
      unfold tplaces at hp
      split at hp
      · rename_i fs hu
        split at hp
        · rename_i l hl'
          injection hp with hp
          subst hp
          have hpl := run_places fs.toList w hl'
          have hpl' : (fs.mapM (m := Sem) fun f => do pure (f.offset, ← sizeOf f.type)).run P w = .ok l.toArray w := by
            have : fs = fs.toList.toArray := by simp
            rw [this, List.mapM_toArray]
            simp only [Sem.run_map, hpl, Result.andThen_ok]
          have he : (fun i : Nat => l.toArray[i]?) = fun i : Nat => l[i]? := by funext i; simp
          simp only [execOp, ho, Instr.build, Sem.run_bind, hz1, Result.andThen_ok, run_underlying' hu, hpl', he, hl, h1, Sem.run_pure]
        · cases hp
      · rename_i n e hu
        split at hp
        · rename_i m hm
          injection hp with hp
          subst hp
          simp only [execOp, ho, Instr.build, Sem.run_bind, hz1, Result.andThen_ok, run_underlying' hu, run_sizeOf' hm, hl, h1, Sem.run_pure]
        · cases hp
      · cases hp
    · exact hk.elim
  · exact hk.elim

/-! ### Slices that are written out -/
def idxOK : List (Nat × AV) → Nat → Bool
  | [], _ => true
  | (i, _) :: r, j => i == j && idxOK r (j + 1)
def cellsOK (sz : Nat) : List (Nat × AV) → Bool
  | [] => true
  | (_, v) :: r => (cellsA v).length == sz && oneAll (cellsA v) && cellsOK sz r
theorem fillA_all (sz : Nat) : ∀ (ws : List (Nat × AV)) (i : Nat) (cs : List AV), idxOK ws i = true → cellsOK sz ws = true → (i + ws.length) * sz ≤ cs.length →
    fillA (fun i => some (i * sz, sz)) cs ws = some (cs.take (i * sz) ++ (ws.map fun w => cellsA w.2).flatten ++ cs.drop ((i + ws.length) * sz)) := by
  intro ws
  induction ws with
  | nil => intro i cs _ _ _; simp [fillA]
  | cons x r ih =>
    intro i cs h1 h2 h3
    obtain ⟨j, v⟩ := x
    simp only [idxOK, Bool.and_eq_true, beq_iff_eq] at h1
    simp only [cellsOK, Bool.and_eq_true, beq_iff_eq] at h2
    obtain ⟨rfl, h1⟩ := h1
    obtain ⟨⟨h4, h5⟩, h6⟩ := h2
    simp only [List.length_cons] at h3
    have hm : j * sz + sz ≤ (j + (r.length + 1)) * sz := by rw [← Nat.succ_mul]; exact Nat.mul_le_mul_right _ (by omega)
    simp only [fillA, h4]
    rw [if_pos ⟨trivial, by omega, h5⟩, ih (j + 1) _ h1 h6 (by rw [setCells, splice_length _ _ _ (by rw [h4]; omega), show j + 1 + r.length = j + (r.length + 1) by omega]; exact h3)]
    congr 1
    have ht : (cs.take (j * sz)).length = j * sz := by rw [List.length_take]; omega
    have e1 : (setCells cs (j * sz) (cellsA v)).take ((j + 1) * sz) = cs.take (j * sz) ++ cellsA v := by
      unfold setCells
      rw [List.take_left' (by rw [List.length_append, ht, h4, Nat.succ_mul])]
    have e2 : (setCells cs (j * sz) (cellsA v)).drop ((j + 1 + r.length) * sz) = cs.drop ((j + (r.length + 1)) * sz) := by
      unfold setCells
      have hle : (j + 1) * sz ≤ (j + 1 + r.length) * sz := Nat.mul_le_mul_right _ (by omega)
      rw [List.drop_append, List.drop_eq_nil_of_le (by rw [List.length_append, ht, h4, ← Nat.succ_mul]; exact hle), List.nil_append, List.length_append, ht, h4, List.drop_drop]
      congr 1
      rw [Nat.succ_mul] at hle
      have : (j + 1 + r.length) * sz = (j + (r.length + 1)) * sz := by congr 1; omega
      omega
    rw [e1, e2]
    simp [List.append_assoc]

theorem flatten_get {sz : Nat} : ∀ (es : List (List AV)), (∀ e ∈ es, e.length = sz) → ∀ (i : Nat) e (j : Nat) x, es[i]? = some e → e[j]? = some x → es.flatten[i * sz + j]? = some x := by
  intro es
  induction es with
  | nil => intro _ i e j x h1 _; simp at h1
  | cons f r ih =>
    intro hs i e j x h1 h2
    have hf := hs f (List.mem_cons_self ..)
    rw [List.flatten_cons]
    cases i with
    | zero =>
      simp at h1
      subst h1
      rw [Nat.zero_mul, Nat.zero_add, List.getElem?_append_left (List.getElem?_eq_some_iff.1 h2).1]
      exact h2
    | succ i =>
      rw [Nat.succ_mul, List.getElem?_append_right (by omega), hf, show i * sz + sz + j - sz = i * sz + j by omega]
      exact ih (fun e he => hs e (List.mem_cons_of_mem _ he)) i e j x (by simpa using h1) h2
theorem flatten_length {sz : Nat} : ∀ (es : List (List AV)), (∀ e ∈ es, e.length = sz) → es.flatten.length = es.length * sz := by
  intro es
  induction es with
  | nil => intro _; simp
  | cons f r ih =>
    intro hs
    rw [List.flatten_cons, List.length_append, hs f (List.mem_cons_self ..), ih (fun e he => hs e (List.mem_cons_of_mem _ he)), List.length_cons, Nat.succ_mul, Nat.add_comm]

theorem cellsOK_mem {sz : Nat} : ∀ {ws : List (Nat × AV)}, cellsOK sz ws = true → ∀ e ∈ ws.map (fun w => cellsA w.2), e.length = sz ∧ oneAll e = true := by
  intro ws
  induction ws with
  | nil => intro _ e he; simp at he
  | cons x r ih =>
    intro h e he
    obtain ⟨j, v⟩ := x
    simp only [cellsOK, Bool.and_eq_true, beq_iff_eq] at h
    rw [List.map_cons] at he
    rcases List.mem_cons.1 he with rfl | he
    · exact h.1
    · exact ih h.2 e he

/-- A slice of elements that are all at hand, in a new block. -/
theorem snd_row (h : In σ w I T H w0 X I0 a lab) {cells : Array Value} {et : TypeId} {es : List (List AV)} {sz : Nat} (hcur : cells.size = es.length * sz) (hs : ∀ e ∈ es, e.length = sz) (ho : ∀ e ∈ es, ∀ x ∈ e, x.one = true)
    (hr : ∀ (i : Nat) e (j : Nat) x, es[i]? = some e → e[j]? = some x → ∃ u, cells[i * sz + j]? = some u ∧ repA σ w I u x)
    (hrun : (execOp a.eval o).run P w = .ok (.value (.slice (some ⟨w.heap.size, 0, none⟩) es.length es.length)) (w.alloc (.cells cells et))) (hk : k ⟨some (.own lab), [(lab, some (.row sz es))]⟩) : Snd P o a w σ I H w0 X I0 lab k := by
  obtain ⟨h1, h2, h3⟩ := HOK.newRow (w' := w.alloc (.cells cells et)) h (cells := cells) (et := et) (es := es) (sz := sz) (c := es.length) hcur (Nat.le_refl _) hs ho hr rfl rfl rfl rfl
  refine Snd.of hrun ⟨h1, h2, fun l hl => upd_ne _ _ hl, fun _ h => h, h3, fun x hx => ?_⟩ hk
  injection hx with hx; subst hx
  exact .own (upd_same _ _ _)

def buildSliceW (P : Program) (lab : Nat) (t : TypeId) (len : Nat) (ps : Option (List (Nat × AV))) (k : Eff → Prop) : Prop :=
  match telem P t with
  | some e => match tsize P e, tzero P e, ps with
    | some sz, some zs, some ws => (ws.length = len ∧ idxOK ws 0 = true ∧ cellsOK sz ws = true ∧ zs.length = sz ∧ len * sz ≤ 16777216) ∧ k ⟨some (.own lab), [(lab, some (.row sz (ws.map fun w => cellsA w.2)))]⟩
    | _, _, _ => False
  | none => False
theorem snd_buildSlice (h : In σ w I T H w0 X I0 a lab) {t : TypeId} {len : Nat} {ps : Array (Nat × Operand)} (ho : o.op = .buildSlice t len ps) (hk : buildSliceW P lab t len (partsA T ps.toList) k) : Snd P o a w σ I H w0 X I0 lab k := by
  unfold buildSliceW at hk
  split at hk
  · rename_i e he
    have hu := telem_some he
    split at hk
    · rename_i sz zs ws hsz hz hw
      obtain ⟨⟨rfl, hidx, hcells, hzl, hsm⟩, hk⟩ := hk
      obtain ⟨z, hz1, rfl⟩ := run_zeroValue' hz w
      generalize hzc : (if ws.length * sz = 0 then #[] else z.cells) = zc
      generalize hinit : ((Array.range (ws.length * sz)).map (zc[· % zc.size]!)) = init
      have hil : init.size = ws.length * sz := by rw [← hinit]; simp
      have hb : Both σ w I init (init.toList.map constAV) := ⟨by simp, fun j u p h1 h2 => by
        rw [List.getElem?_map, Option.map_eq_some_iff] at h2
        obtain ⟨q, hq, rfl⟩ := h2
        rw [Array.getElem?_toList, h1] at hq
        injection hq with hq; subst hq
        exact repA_const σ w I u⟩
      have hfa := fillA_all sz ws 0 (init.toList.map constAV) hidx hcells (by simp [hil])
      obtain ⟨us, h1, h2⟩ := fill_both h (fun i => some (i * sz, sz)) ps.toList ws init _ _ hb (partsA_map hw) hfa
      have hes := cellsOK_mem hcells
      have hres : (init.toList.map constAV).take (0 * sz) ++ (ws.map fun w => cellsA w.2).flatten ++ (init.toList.map constAV).drop ((0 + ws.length) * sz) = (ws.map fun w => cellsA w.2).flatten := by
        rw [Nat.zero_mul, List.take_zero, List.nil_append, Nat.zero_add, List.drop_eq_nil_of_le (by simp [hil]), List.append_nil]
      rw [hres] at h2
      have hlm : (ws.map fun w => cellsA w.2).length = ws.length := by simp
      refine snd_row h (cells := us) (et := e) (by rw [h2.1, flatten_length _ (fun e he => (hes e he).1)]) (fun e he => (hes e he).1) (fun e he => oneAll_mem (hes e he).2) (fun i f j x q1 q2 => ?_) ?_ hk
      · have hfl := flatten_get _ (fun e he => (hes e he).1) i f j x q1 q2
        have hlt : i * sz + j < us.size := by rw [h2.1]; exact (List.getElem?_eq_some_iff.1 hfl).1
        exact ⟨us[i * sz + j], Array.getElem?_eq_getElem hlt, h2.2 _ _ x (Array.getElem?_eq_getElem hlt) hfl⟩
      · rw [hlm]
        have hl : (ps.map fun x => (x.1, a.eval x.2)).toList = ps.toList.map fun p => (p.1, a.eval p.2) := by simp
        have hns : ¬ (ws.length * sz > 2 ^ 24) := by omega
        simp only [execOp, ho, Instr.buildSlice, Sem.run_bind, run_underlying' hu, Result.andThen_ok, run_sizeOf' hsz, hns, if_false]
        by_cases hz0 : ws.length * sz = 0
        · rw [if_pos hz0] at hzc ⊢
          subst hzc
          simp only [Sem.run_bind, Sem.run_pure, Result.andThen_ok, hinit, hl, h1, newRow, run_newObj]
          rfl
        · rw [if_neg hz0] at hzc ⊢
          subst hzc
          simp only [Sem.run_bind, Sem.run_pure, hz1, Result.andThen_ok, hinit, hl, h1, newRow, run_newObj]
          rfl
    · exact hk.elim
  · exact hk.elim

/-! ### make -/
def makeSliceW (P : Program) (lab : Nat) (t : TypeId) (l c : Option AV) (k : Eff → Prop) : Prop :=
  match telem P t, l, c with
  | some e, some (.p (.int _ n)), some (.p (.int _ m)) => match tsize P e, tzero P e, tbytes P e with
    | some sz, some zs, some bytes => (n = m ∧ 0 ≤ n ∧ 1 ≤ bytes ∧ (bytes : Int) * n ≤ 281474976710656 ∧ zs.length = sz ∧ oneAll (zs.map constAV) = true) ∧ k ⟨some (.own lab), [(lab, some (.row sz (List.replicate n.toNat (zs.map constAV))))]⟩
    | _, _, _ => False
  | _, _, _ => False
theorem snd_makeSlice (h : In σ w I T H w0 X I0 a lab) {t : TypeId} {l c : Operand} (ho : o.op = .makeSlice t l c) (hk : makeSliceW P lab t (ev T l) (ev T c) k) : Snd P o a w σ I H w0 X I0 lab k := by
  unfold makeSliceW at hk
  split at hk
  · rename_i e kn n km m he hl hc
    have hu := telem_some he
    have hlv := h.ev hl
    have hcv := h.ev hc
    split at hk
    · rename_i sz zs bytes hsz hz hby
      obtain ⟨⟨rfl, h0, hb1, hb, hzl, hone⟩, hk⟩ := hk
      generalize hlx : a.eval l = lx at hlv
      generalize hcx : a.eval c = cx at hcv
      cases hlv with
      | p hlv =>
      cases hlv with
      | int =>
      cases hcv with
      | p hcv =>
      cases hcv with
      | int =>
      obtain ⟨i, hi, rfl⟩ := Option.map_eq_some_iff.1 hby
      obtain ⟨z, hz1, rfl⟩ := run_zeroValue' hz w
      have hn : n ≤ 281474976710656 := by
        have : n * 1 ≤ n * (i.bytes : Int) := Int.mul_le_mul_of_nonneg_left (by omega) h0
        rw [Int.mul_comm n i.bytes] at this
        omega
      have hw : IntKind.i64.wrap n = n := IntWalk.i64_in n (by omega)
      generalize hzc : (if n.toNat * sz = 0 then #[] else z.cells) = zc
      generalize hinit : ((Array.range (n.toNat * sz)).map (zc[· % zc.size]!)) = init
      have hil : init.size = n.toNat * sz := by rw [← hinit]; simp
      have hrl : (List.replicate n.toNat (z.cells.toList.map constAV)).length = n.toNat := by simp
      refine snd_row h (cells := init) (et := e) (es := List.replicate n.toNat (z.cells.toList.map constAV)) (by rw [hrl]; exact hil) (fun f hf => ?_) (fun f hf => ?_) (fun q f j x q1 q2 => ?_) ?_ hk
      · rw [List.eq_of_mem_replicate hf]
        simpa using hzl
      · rw [List.eq_of_mem_replicate hf]
        exact oneAll_mem hone
      · obtain ⟨hq, rfl⟩ := List.getElem?_eq_some_iff.1 q1
        rw [hrl] at hq
        rw [List.getElem_replicate, List.getElem?_map, Option.map_eq_some_iff] at q2
        obtain ⟨v, hv, rfl⟩ := q2
        rw [Array.getElem?_toList] at hv
        have hj : j < sz := by rw [← hzl, Array.length_toList]; exact (Array.getElem?_eq_some_iff.1 hv).1
        have hm : (q + 1) * sz ≤ n.toNat * sz := Nat.mul_le_mul_right _ hq
        rw [Nat.succ_mul] at hm
        have hne : ¬ (n.toNat * sz = 0) := by omega
        rw [if_neg hne] at hzc
        subst hzc
        have hzs : z.cells.size = sz := by rw [← hzl, Array.length_toList]
        refine ⟨v, ?_, repA_const σ w I v⟩
        rw [← hinit, Array.getElem?_map, Array.getElem?_range, if_pos (by omega)]
        simp only [Option.map_some, hzs, Nat.mul_comm q sz, Nat.mul_add_mod, Nat.mod_eq_of_lt hj]
        rw [getElem!_def, hv]
      · rw [hrl]
        have t1 : ¬ (n < 0) := by omega
        have t2 : ¬ ((i.bytes : Int) * n > 2 ^ 48) := by omega
        have hti : (typeInfo e).run P w = .ok i w := by simp [typeInfo, hi]
        simp only [execOp, ho, Instr.makeSlice, Sem.run_bind, run_underlying' hu, Result.andThen_ok, asInt, asIntOf, hlx, hcx, Sem.run_pure, hti, hw, t1, t2, Int.lt_irrefl, decide_false, Bool.or_self, Bool.false_eq_true, if_false, gt_iff_lt, run_askRoom, run_sizeOf' hsz]
        by_cases hz0 : n.toNat * sz = 0
        · rw [if_pos hz0] at hzc ⊢
          subst hzc
          simp only [Sem.run_bind, Sem.run_pure, Result.andThen_ok, hinit, newRow, run_newObj]
          rfl
        · rw [if_neg hz0] at hzc ⊢
          subst hzc
          simp only [Sem.run_bind, Sem.run_pure, hz1, Result.andThen_ok, hinit, newRow, run_newObj]
          rfl
    · exact hk.elim
  · exact hk.elim
end
end Go.Aw
