/- Operations that read and write memory: loads, stores, new variables, places of elements and of fields, lengths. -/
import Derived.Test.YtmeplhcfjihafaaAwOps
namespace Go.Aw
open Go.RowKit

def tsize (P : Program) (t : TypeId) : Option Nat := (P.info? t).map (·.size)
def tagg (P : Program) (t : TypeId) : Option Bool := (P.underlying t).map fun | .struct _ | .array _ _ => true | _ => false
def telem (P : Program) (t : TypeId) : Option TypeId := match P.underlying t with | some (.slice e) => some e | _ => none
def tzero (P : Program) (t : TypeId) : Option (List Value) := (P.info? t).bind fun i => i.zero.map (·.cells.toList)
/-- Where a field begins, if it has cells. -/
def tfield (P : Program) (t : TypeId) (f : Nat) : Option Nat :=
  match P.underlying t with
  | some (.struct fs) => match fs[f]? with
    | some fd => match tsize P fd.type with
      | some (_ + 1) => some fd.offset
      | _ => none
    | none => none
  | _ => none

def allP : List AV → Option (List PV)
  | [] => some []
  | .p x :: l => match allP l with | some ps => some (x :: ps) | none => none
  | _ :: _ => none
def mkAgg (l : List AV) : AV := match allP l with | some ps => .p (.agg ps) | none => .agg l
theorem allP_map : ∀ {l : List AV} {ps : List PV}, allP l = some ps → l = ps.map .p := by
  intro l
  induction l with
  | nil => intro ps h; simp [allP] at h; subst h; rfl
  | cons x l ih =>
    intro ps h
    cases x <;> simp only [allP, reduceCtorEq] at h
    split at h
    · rename_i qs hq
      injection h with h; subst h
      rw [List.map_cons, ← ih hq]
    · cases h
theorem allP_of (ps : List PV) : allP (ps.map AV.p) = some ps := by
  induction ps with
  | nil => rfl
  | cons x l ih => rw [List.map_cons, allP, ih]

section
variable {P : Program} {o : Oper} {a : Act} {w : World} {σ : Lab} {I : Nat → Prop} {T : Nat → Option AV} {H : Nat → Option Blk} {w0 : World} {X I0 : Nat → Prop} {lab : Nat} {k : Eff → Prop}

theorem repA_agg {vs : Array Value} {l : List AV} (h : vs.size = l.length) (hr : ∀ (j : Nat) u p, vs[j]? = some u → l[j]? = some p → repA σ w I u p) : repA σ w I (.agg vs) (mkAgg l) := by
  unfold mkAgg
  split
  · rename_i ps hps
    obtain rfl := allP_map hps
    refine .p (.agg (by simpa using h) fun j u p h1 h2 => ?_)
    have := hr j u (.p p) h1 (by simp [h2])
    cases this with
    | p h => exact h
  · exact .agg h hr

/-! ### The tables of the program -/
theorem run_sizeOf' {t : TypeId} {n : Nat} (h : tsize P t = some n) (w : World) : (sizeOf t).run P w = .ok n w := by
  unfold tsize at h
  obtain ⟨i, hi, rfl⟩ := Option.map_eq_some_iff.1 h
  simp [sizeOf, typeInfo, hi]
theorem run_underlying' {t : TypeId} {d : TypeDesc} (h : P.underlying t = some d) (w : World) : (underlying t).run P w = .ok d w := by
  simp [underlying, h]
theorem run_isAgg' {t : TypeId} {b : Bool} (h : tagg P t = some b) (w : World) : (isAgg t).run P w = .ok b w := by
  unfold tagg at h
  obtain ⟨d, hd, rfl⟩ := Option.map_eq_some_iff.1 h
  simp only [isAgg, Sem.run_bind, run_underlying' hd, Result.andThen_ok]
  cases d <;> rfl
theorem run_zeroValue' {t : TypeId} {zs : List Value} (h : tzero P t = some zs) (w : World) : ∃ z, (zeroValue t).run P w = .ok z w ∧ z.cells.toList = zs := by
  unfold tzero at h
  obtain ⟨i, hi, h⟩ := Option.bind_eq_some_iff.1 h
  obtain ⟨z, hz, rfl⟩ := Option.map_eq_some_iff.1 h
  exact ⟨z, by simp [zeroValue, typeInfo, hi, hz], rfl⟩
theorem telem_some {t e : TypeId} (h : telem P t = some e) : P.underlying t = some (.slice e) := by
  unfold telem at h
  split at h
  · rename_i e' he
    injection h with h; subst h
    exact he
  · cases h

/-! ### Loads -/
theorem run_loadVar_agg {t : TypeId} {ad : Addr} {cs : List Value} (ht : tagg P t = some true) (hn : tsize P t = some cs.length) (h : ∀ (j : Nat) v, cs[j]? = some v → w.cell? (ad.add j) = some v) : (loadVar t ad).run P w = .ok (.agg cs.toArray) w := by
  simp only [loadVar, Sem.run_bind, run_isAgg' ht, Result.andThen_ok, if_true, run_sizeOf' hn, run_loadCells_list w ad cs h, Sem.run_pure]
theorem run_loadVar_one {t : TypeId} {ad : Addr} {v : Value} (ht : tagg P t = some false) (h : w.cell? ad = some v) : (loadVar t ad).run P w = .ok v w := by
  simp only [loadVar, Sem.run_bind, run_isAgg' ht, Result.andThen_ok, Bool.false_eq_true, if_false, run_load, h]

def loadA (P : Program) (t : TypeId) (off : Nat) (e : List AV) (k : Eff → Prop) : Prop :=
  match tagg P t with
  | some true => match tsize P t with
    | some n => off + n ≤ e.length ∧ k ⟨some (mkAgg ((e.drop off).take n)), []⟩
    | none => False
  | some false => match e[off]? with
    | some x => k ⟨some x, []⟩
    | none => False
  | none => False
def loadP (P : Program) (t : TypeId) (off : Nat) (e : List PV) (k : Eff → Prop) : Prop :=
  match tagg P t with
  | some true => match tsize P t with
    | some n => off + n ≤ e.length ∧ k ⟨some (.p (.agg ((e.drop off).take n))), []⟩
    | none => False
  | some false => match e[off]? with
    | some x => k ⟨some (.p x), []⟩
    | none => False
  | none => False
def loadW (P : Program) (t : TypeId) (x : Option AV) (H : Nat → Option Blk) (k : Eff → Prop) : Prop :=
  match x with
  | some (.ptr l i off) => match H l with
    | some (.row _ es) => match es[i]? with
      | some e => loadA P t off e k
      | none => False
    | _ => False
  | some (.p (.box cs off)) => loadP P t off cs k
  | _ => False

theorem add_none (b o n : Nat) : (⟨b, o, none⟩ : Addr).add n = ⟨b, o + n, none⟩ := by unfold Addr.add; split <;> simp_all

/-- What the cells of an element of a row are. -/
theorem row_cells {l g n c sz : Nat} {es : List (List AV)} (h : repB σ w I l (.row sz es)) (hs : σ l = some (.row g n c sz)) :
    ∀ (i : Nat) e, es[i]? = some e → e.length = sz ∧ ∀ (j : Nat) x, e[j]? = some x → ∃ u, w.cell? ⟨g, i * sz + j, none⟩ = some u ∧ repA σ w I u x := by
  cases h with
  | emp h => intro i e he; simp at he
  | row h hg hcur hc hl ho hr =>
    rw [hs] at h
    injection h with h
    injection h with h1 h2 h3 h4
    subst h1
    intro i e he
    refine ⟨hl e (List.mem_of_getElem? he), fun j x hx => ?_⟩
    obtain ⟨u, hu, hru⟩ := hr i e j x he hx
    exact ⟨u, by simp [World.cell?, hg, hu], hru⟩

theorem load_run (h : In σ w I T H w0 X I0 a lab) {t : TypeId} {x : Operand} (hk : loadW P t (ev T x) H k) : ∃ ad v y, a.eval x = .pointer (some ad) ∧ (loadVar t ad).run P w = .ok v w ∧ repA σ w I v y ∧ k ⟨some y, []⟩ := by
  have fin : ∀ (ad : Addr) v y, a.eval x = .pointer (some ad) → (loadVar t ad).run P w = .ok v w → repA σ w I v y → k ⟨some y, []⟩ → ∃ ad v y, a.eval x = .pointer (some ad) ∧ (loadVar t ad).run P w = .ok v w ∧ repA σ w I v y ∧ k ⟨some y, []⟩ :=
    fun ad v y he hv hy hky => ⟨ad, v, y, he, hv, hy, hky⟩
  unfold loadW at hk
  split at hk
  · rename_i l i off hp
    have hx := h.ev hp
    split at hk
    · rename_i sz es hH
      split at hk
      · rename_i e he
        generalize hxv : a.eval x = xv at hx fin ⊢
        have hb := h.heap.rows l _ hH
        cases hx with
        | ptr hs =>
          rename_i g n c sz'
          have hsz : sz' = sz := by
            cases hb with
            | emp h' => simp at he
            | row h' => rw [hs] at h'; injection h' with h'; injection h'
          subst hsz
          obtain ⟨hel, hcells⟩ := row_cells hb hs i e he
          unfold loadA at hk
          split at hk
          · rename_i ht
            split at hk
            · rename_i m hm
              obtain ⟨hle, hk⟩ := hk
              have hlen : ((e.drop off).take m).length = m := by rw [List.length_take, List.length_drop]; omega
              have hex : ∃ cs : List Value, cs.length = m ∧ ∀ (j : Nat), j < m → ∃ u y, cs[j]? = some u ∧ (e.drop off)[j]? = some y ∧ w.cell? ⟨g, i * sz' + off + j, none⟩ = some u ∧ repA σ w I u y := by
                refine ⟨(List.range m).map fun j => (w.cell? ⟨g, i * sz' + off + j, none⟩).getD undef, by simp, fun j hj => ?_⟩
                have hy : (e.drop off)[j]? = some (e[off + j]'(by omega)) := by rw [List.getElem?_drop, List.getElem?_eq_getElem]
                obtain ⟨u, hu, hru⟩ := hcells (off + j) _ (List.getElem?_eq_getElem (by omega))
                rw [← Nat.add_assoc] at hu
                exact ⟨u, _, by simp [List.getElem?_map, List.getElem?_range hj, hu], hy, hu, hru⟩
              obtain ⟨cs, hcl, hcs⟩ := hex
              refine fin ⟨g, i * sz' + off, none⟩ (.agg cs.toArray) _ rfl (run_loadVar_agg ht (by rw [hm, hcl]) fun j v hv => ?_) (repA_agg (by simp [hcl, hlen]) fun j u p h1 h2 => ?_) hk
              · have hj : j < m := by rw [← hcl]; exact (List.getElem?_eq_some_iff.1 hv).1
                obtain ⟨u, y, h1, _, h3, _⟩ := hcs j hj
                rw [add_none, h3, ← h1, hv]
              · have hj : j < m := by rw [← hlen]; exact (List.getElem?_eq_some_iff.1 h2).1
                obtain ⟨u', y, h3, h4, _, h6⟩ := hcs j hj
                rw [List.getElem?_toArray, h3] at h1
                injection h1 with h1
                rw [List.getElem?_take, if_pos hj, h4] at h2
                injection h2 with h2
                subst h1 h2
                exact h6
            · exact hk.elim
          · rename_i ht
            split at hk
            · rename_i y hy
              obtain ⟨u, hu, hru⟩ := hcells off y hy
              exact fin _ u y rfl (run_loadVar_one ht hu) hru hk
            · exact hk.elim
          · exact hk.elim
      · exact hk.elim
    · exact hk.elim
  · rename_i cs off hp
    have hx := h.ev hp
    generalize hxv : a.eval x = xv at hx fin ⊢
    cases hx with
    | p hx =>
      cases hx with
      | box b o' off cs us hI hone hcell hrep =>
        unfold loadP at hk
        split at hk
        · rename_i ht
          split at hk
          · rename_i m hm
            obtain ⟨hle, hk⟩ := hk
            have hlen : ((cs.drop off).take m).length = m := by rw [List.length_take, List.length_drop]; omega
            refine fin ⟨b, o' + off, none⟩ (.agg ((List.range m).map fun j => us (off + j)).toArray) _ rfl (run_loadVar_agg ht (by simp [hm]) fun j v hv => ?_) (.p (.agg (by simp; omega) fun j u p h1 h2 => ?_)) hk
            · obtain ⟨hj, hv⟩ := List.getElem?_eq_some_iff.1 hv
              simp at hj hv
              subst hv
              rw [add_none, Nat.add_assoc]
              exact hcell (off + j) _ (List.getElem?_eq_getElem (by omega))
            · have hj : j < m := by rw [← hlen]; exact (List.getElem?_eq_some_iff.1 h2).1
              rw [List.getElem?_take, if_pos hj, List.getElem?_drop] at h2
              simp [List.getElem?_range hj] at h1
              subst h1
              exact hrep _ _ h2
          · exact hk.elim
        · rename_i ht
          split at hk
          · rename_i y hy
            exact fin _ _ _ rfl (run_loadVar_one ht (hcell off y hy)) (.p (hrep off y hy)) hk
          · exact hk.elim
        · exact hk.elim
  · exact hk.elim
theorem snd_load (h : In σ w I T H w0 X I0 a lab) {t : TypeId} {x : Operand} (ho : o.op = .load t x) (hk : loadW P t (ev T x) H k) : Snd P o a w σ I H w0 X I0 lab k := by
  obtain ⟨ad, v, y, he, hv, hy, hky⟩ := load_run h hk
  refine Snd.val h (v := v) ?_ hy hky
  simp only [execOp, ho, Instr.loadAt, he, Instr.sureAddr, Sem.run_bind, Sem.run_pure, Result.andThen_ok, hv]
end
end Go.Aw
