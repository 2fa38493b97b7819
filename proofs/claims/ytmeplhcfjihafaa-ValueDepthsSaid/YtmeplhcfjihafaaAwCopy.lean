/- copy: elements of a slice, written into a row of the call's own. -/
import Derived.Test.YtmeplhcfjihafaaAwConv
namespace Go.Aw
open Go.RowKit

section
variable {P : Program} {o : Oper} {a : Act} {w : World} {σ : Lab} {I : Nat → Prop} {T : Nat → Option AV} {H : Nat → Option Blk} {w0 : World} {X I0 : Nat → Prop} {lab : Nat} {k : Eff → Prop}

/-- Elements that are written into a row, one behind the other. -/
theorem row_splice (h : HOK σ w I H w0 X I0) {l g c sz : Nat} {es fs : List (List AV)} {cs : List Value} {lo : Nat} (hH : H l = some (.row sz es)) (hs : σ l = some (.row g es.length c sz)) (hc : CellsAt σ w I cs sz fs) (hfl : ∀ e ∈ fs, e.length = sz) (hfo : ∀ e ∈ fs, ∀ x ∈ e, x.one = true)
    (hone : ∀ u ∈ cs, u.oneCell' = true) (hle : lo + fs.length ≤ es.length) :
    ∃ w', (storeCells ⟨g, lo * sz, none⟩ cs).run P w = .ok () w' ∧ HOK σ w' I (upd H l (some (.row sz (es.take lo ++ fs ++ es.drop (lo + fs.length))))) w0 X I0 ∧ ∀ b, I b → w'.heap[b]? = w.heap[b]? := by
  have hb := h.rows l _ hH
  cases hb with
  | emp h' => rw [hs] at h'; cases h'
  | row h' hg hcur hcc hl hon hr =>
    rename_i g' c' cur et
    rw [hs] at h'
    injection h' with h'
    injection h' with e1 e2 e3 e4
    subst e1 e3
    clear e2 e4
    have hm : (lo + fs.length) * sz ≤ c * sz := Nat.mul_le_mul_right _ (by omega)
    have hadd : (lo + fs.length) * sz = lo * sz + fs.length * sz := Nat.add_mul _ _ _
    have hfit : lo * sz + cs.length ≤ cur.size := by rw [hc.1, hcur]; omega
    have hst := run_storeCells_at (P := P) g (lo * sz) et cs 0 cur w hg (by simpa using hfit) hone
    simp only [Nat.add_zero] at hst
    generalize hcur' : (cur.toList.take (lo * sz) ++ cs ++ cur.toList.drop (lo * sz + cs.length)) = cur' at hst
    have hcl : cur'.length = c * sz := by rw [← hcur', splice_length _ _ _ (by simpa using hfit)]; simpa using hcur
    have hget : ∀ q, cur'[q]? = if q < lo * sz then cur[q]? else if q < lo * sz + cs.length then cs[q - lo * sz]? else cur[q]? := fun q => by
      rw [← hcur', splice_get _ _ _ (by simpa using hfit)]
      simp only [Array.getElem?_toList]
    have hni := (h.mine l g _ (by rw [hH]; simp) hs rfl).1
    have hsame : ∀ b, I b → (w.setRow g cur'.toArray).heap[b]? = w.heap[b]? := fun b hb => setRow_other _ _ _ _ (fun e => hni (e ▸ hb))
    refine ⟨_, hst, ?_, hsame⟩
    have hlen := splice_length es fs lo hle
    refine h.write (s := .row g es.length c sz) (g := g) (by rw [hH]; simp) hs rfl (fun k hk => setRow_other _ _ _ _ hk) (by simp) rfl rfl rfl
      (.row (by rw [hlen]; exact hs) (setRow_heap w g cur _ et _ hg) (by simpa using hcl) (by rw [hlen]; exact hcc) (fun e he => ?_) (fun e he => ?_) fun i e j x q1 q2 => ?_)
    · rcases List.mem_append.1 he with he | he
      · rcases List.mem_append.1 he with he | he
        · exact hl e (List.mem_of_mem_take he)
        · exact hfl e he
      · exact hl e (List.mem_of_mem_drop he)
    · rcases List.mem_append.1 he with he | he
      · rcases List.mem_append.1 he with he | he
        · exact hon e (List.mem_of_mem_take he)
        · exact hfo e he
      · exact hon e (List.mem_of_mem_drop he)
    · rw [List.getElem?_toArray, hget]
      rw [splice_get _ _ _ hle] at q1
      by_cases t1 : i < lo
      · rw [if_pos t1] at q1
        have hj : j < sz := by rw [← hl e (List.mem_of_getElem? q1)]; exact (List.getElem?_eq_some_iff.1 q2).1
        have hm : (i + 1) * sz ≤ lo * sz := Nat.mul_le_mul_right _ t1
        rw [Nat.succ_mul] at hm
        obtain ⟨u, hu, hru⟩ := hr i e j x q1 q2
        exact ⟨u, by rw [if_pos (by omega)]; exact hu, hru.mono (fun _ _ h => h) (fun _ h => h) hsame⟩
      · rw [if_neg t1] at q1
        have hle' : lo * sz ≤ i * sz := Nat.mul_le_mul_right _ (by omega)
        by_cases t2 : i < lo + fs.length
        · rw [if_pos t2] at q1
          have hj : j < sz := by rw [← hfl e (List.mem_of_getElem? q1)]; exact (List.getElem?_eq_some_iff.1 q2).1
          have hm : (i - lo + 1) * sz ≤ fs.length * sz := Nat.mul_le_mul_right _ (by omega)
          have hsub : (i - lo) * sz = i * sz - lo * sz := Nat.sub_mul _ _ _
          rw [Nat.succ_mul] at hm
          obtain ⟨u, hu, hru⟩ := hc.2 _ e j x q1 q2
          exact ⟨u, by rw [if_neg (by omega), if_pos (by rw [hc.1]; omega), show i * sz + j - lo * sz = (i - lo) * sz + j by omega]; exact hu, hru.mono (fun _ _ h => h) (fun _ h => h) hsame⟩
        · rw [if_neg t2] at q1
          have hm : (lo + fs.length) * sz ≤ i * sz := Nat.mul_le_mul_right _ (by omega)
          obtain ⟨u, hu, hru⟩ := hr i e j x q1 q2
          exact ⟨u, by rw [if_neg (by omega), if_neg (by rw [hc.1]; omega)]; exact hu, hru.mono (fun _ _ h => h) (fun _ h => h) hsame⟩

/-- Elements of a part of a row. -/
def cutElems (H : Nat → Option Blk) : AV → Option (List (List AV))
  | .cut l lo n => match H l with
    | some (.row _ es) => some ((es.drop lo).take n)
    | _ => none
  | x => elems H x
def dstPart (H : Nat → Option Blk) : AV → Option (Nat × Nat × Nat × Nat × List (List AV))
  | .cut l lo n => match H l with
    | some (.row sz es) => some (l, lo, n, sz, es)
    | _ => none
  | .own l => match H l with
    | some (.row sz es) => some (l, 0, es.length, sz, es)
    | _ => none
  | _ => none
def copyW (P : Program) (t : TypeId) (x y : Option AV) (H : Nat → Option Blk) (k : Eff → Prop) : Prop :=
  match telem P t with
  | some e => match tsize P e, x.bind (dstPart H), y.bind (cutElems H) with
    | some sz, some (l, lo, n, sz', es), some fs => (sz' = sz ∧ lo + n ≤ es.length ∧ ∀ f ∈ fs, f.length = sz) ∧ k ⟨some (.p (.int .i64 ((min fs.length n : Nat) : Int))), [(l, some (.row sz (es.take lo ++ fs.take (min fs.length n) ++ es.drop (lo + (fs.take (min fs.length n)).length))))]⟩
    | _, _, _ => False
  | none => False

theorem cellsAt_take {cs : List Value} {sz : Nat} {es : List (List AV)} (h : CellsAt σ w I cs sz es) (hs : ∀ e ∈ es, e.length = sz) {n : Nat} (hn : n ≤ es.length) : CellsAt σ w I (cs.take (n * sz)) sz (es.take n) := by
  have hm : n * sz ≤ es.length * sz := Nat.mul_le_mul_right _ hn
  refine ⟨by rw [List.length_take, List.length_take, h.1, Nat.min_eq_left hm, Nat.min_eq_left hn], fun i e j x q1 q2 => ?_⟩
  rw [List.getElem?_take] at q1
  split at q1
  · rename_i hi
    obtain ⟨u, hu, hr⟩ := h.2 i e j x q1 q2
    have hj : j < sz := by rw [← hs e (List.mem_of_getElem? q1)]; exact (List.getElem?_eq_some_iff.1 q2).1
    have hm' : (i + 1) * sz ≤ n * sz := Nat.mul_le_mul_right _ hi
    rw [Nat.succ_mul] at hm'
    exact ⟨u, by rw [List.getElem?_take, if_pos (by omega)]; exact hu, hr⟩
  · cases q1
theorem cellsAt_drop {cs : List Value} {sz : Nat} {es : List (List AV)} (h : CellsAt σ w I cs sz es) {n : Nat} : CellsAt σ w I (cs.drop (n * sz)) sz (es.drop n) := by
  refine ⟨by rw [List.length_drop, List.length_drop, h.1, Nat.sub_mul], fun i e j x q1 q2 => ?_⟩
  rw [List.getElem?_drop] at q1
  obtain ⟨u, hu, hr⟩ := h.2 _ e j x q1 q2
  exact ⟨u, by rw [List.getElem?_drop, ← hu]; congr 1; rw [Nat.add_mul]; omega, hr⟩

/-- What is copied: how many, and the cells of the first m of them. -/
theorem copy_src (h : In σ w I T H w0 X I0 a lab) {y : Operand} {yv : AV} {fs : List (List AV)} {sz : Nat} (hy : ev T y = some yv) (he : cutElems H yv = some fs) (hs : ∀ f ∈ fs, f.length = sz) :
    (Builtin.lenOf (a.eval y)).run P w = .ok fs.length w ∧ ∀ m, m ≤ fs.length → ∃ cs : List Value, (Builtin.firstCells sz m (a.eval y)).run P w = .ok cs.toArray w ∧ CellsAt σ w I cs sz (fs.take m) ∧ ∀ e ∈ fs, ∀ x ∈ e, x.one = true := by
  have nilC : fs = [] → ∀ ad c, a.eval y = .slice ad 0 c → (Builtin.lenOf (a.eval y)).run P w = .ok fs.length w ∧ ∀ m, m ≤ fs.length → ∃ cs : List Value, (Builtin.firstCells sz m (a.eval y)).run P w = .ok cs.toArray w ∧ CellsAt σ w I cs sz (fs.take m) ∧ ∀ e ∈ fs, ∀ x ∈ e, x.one = true := by
    rintro rfl ad c hv
    refine ⟨by rw [hv]; rfl, fun m hm => ⟨[], ?_, ?_, by simp⟩⟩
    · have : m = 0 := by simpa using hm
      subst this
      rw [hv]
      cases ad <;> simp [Builtin.firstCells, loadCells, loadCellsFrom]
    · exact ⟨by simp, fun i e j x q1 _ => by simp at q1⟩
  have some_ : ∀ b off c cs, a.eval y = .slice (some ⟨b, off, none⟩) fs.length c → CellsAt σ w I cs sz fs → (∀ (j : Nat) u, cs[j]? = some u → w.cell? ⟨b, off + j, none⟩ = some u) → (∀ e ∈ fs, ∀ x ∈ e, x.one = true) →
      (Builtin.lenOf (a.eval y)).run P w = .ok fs.length w ∧ ∀ m, m ≤ fs.length → ∃ cs : List Value, (Builtin.firstCells sz m (a.eval y)).run P w = .ok cs.toArray w ∧ CellsAt σ w I cs sz (fs.take m) ∧ ∀ e ∈ fs, ∀ x ∈ e, x.one = true := by
    intro b off c cs hv h1 h2 h3
    refine ⟨by rw [hv]; rfl, fun m hm => ?_⟩
    have hc := cellsAt_take h1 hs hm
    refine ⟨cs.take (m * sz), ?_, hc, h3⟩
    rw [hv]
    refine run_firstCells_some w sz m ⟨b, off, none⟩ _ c _ (by rw [hc.1, List.length_take, Nat.min_eq_left hm]) (fun j v hj => ?_)
    rw [List.getElem?_take] at hj
    split at hj
    · rw [add_none]; exact h2 j v hj
    · cases hj
  have other : elems H yv = some fs → (Builtin.lenOf (a.eval y)).run P w = .ok fs.length w ∧ ∀ m, m ≤ fs.length → ∃ cs : List Value, (Builtin.firstCells sz m (a.eval y)).run P w = .ok cs.toArray w ∧ CellsAt σ w I cs sz (fs.take m) ∧ ∀ e ∈ fs, ∀ x ∈ e, x.one = true := by
    intro he
    rcases elems_at h hy he hs with ⟨h0, ad, c, hv⟩ | ⟨b, off, c, cs, hv, h1, h2, h3⟩
    · exact nilC h0 ad c hv
    · exact some_ b off c cs hv h1 h2 h3
  cases yv with
  | cut l lo n =>
    simp only [cutElems] at he
    split at he
    · rename_i sz' es hH
      injection he with he
      have hr := h.ev hy
      have hb := h.heap.rows l _ hH
      generalize hyv : a.eval y = v at hr
      cases hr with
      | cut hs' hm hc =>
        rename_i g n' c szz
        rw [← hyv]
        cases hb with
        | emp h' => rw [hs'] at h'; cases h'
        | row h' hg hcur hcc hl hon hrr =>
          have hs'' := hs'
          rw [hs'] at h'
          injection h' with h'
          injection h' with e1 e2 e3 e4
          subst e1 e2 e3 e4
          obtain ⟨cs, h1, h2, h3⟩ := row_list (h.heap.rows l _ hH) hs''
          have hfl : fs.length = n := by rw [← he, List.length_take, List.length_drop]; omega
          by_cases hne : fs = []
          · have : n = 0 := by rw [← hfl, hne]; rfl
            subst this
            exact nilC hne _ _ hyv
          · have hpos : 0 < fs.length := List.length_pos_iff.2 hne
            have hmem : ∀ e ∈ fs, e ∈ es := fun e h' => by rw [← he] at h'; exact List.mem_of_mem_drop (List.mem_of_mem_take h')
            have : szz = sz := by rw [← hs _ (List.getElem_mem hpos), hl _ (hmem _ (List.getElem_mem hpos))]
            subst this
            rw [if_neg (by omega)] at hyv
            have hc1 := cellsAt_take (n := n) (cellsAt_drop (n := lo) h1) (fun e he => hl e (List.mem_of_mem_drop he)) (by rw [List.length_drop]; omega)
            rw [he] at hc1
            refine some_ g (lo * szz) _ _ (by rw [hfl]; exact hyv) hc1 (fun j u hj => ?_) (fun e he => hon e (hmem e he))
            rw [List.getElem?_take] at hj
            split at hj
            · rw [List.getElem?_drop] at hj
              exact h2 _ u hj
            · cases hj
    · cases he
  | _ => exact other he

theorem snd_copy (h : In σ w I T H w0 X I0 a lab) {t t' : TypeId} {x y : Operand} (ho : o.op = .call { callee := .builtin .copy, args := #[x, y], argTypes := #[t, t'] }) (hk : copyW P t (ev T x) (ev T y) H k) : Snd P o a w σ I H w0 X I0 lab k := by
  unfold copyW at hk
  split at hk
  · rename_i e he
    have hu := telem_some he
    split at hk
    · rename_i sz l lo n sz' es fs hsz hx hy
      obtain ⟨xv, hxe, hx⟩ := Option.bind_eq_some_iff.1 hx
      obtain ⟨yv, hye, hy⟩ := Option.bind_eq_some_iff.1 hy
      obtain ⟨⟨rfl, hle, hfl⟩, hk⟩ := hk
      obtain ⟨r1, r2⟩ := copy_src (P := P) h hye hy hfl
      obtain ⟨cs, r3, hc, hfo⟩ := r2 (min fs.length n) (Nat.min_le_left _ _)
      have hr := h.ev hxe
      have key : ∃ g c, H l = some (.row sz' es) ∧ ((∃ ad c', a.eval x = .slice ad n c' ∧ n = 0) ∨ (σ l = some (.row g es.length c sz') ∧ ∃ c', a.eval x = .slice (some ⟨g, lo * sz', none⟩) n c')) := by
        cases xv with
        | cut l' lo' n' =>
          simp only [dstPart] at hx
          split at hx
          · rename_i szz es' hH
            simp only [Option.some.injEq, Prod.mk.injEq] at hx
            obtain ⟨rfl, rfl, rfl, rfl, rfl⟩ := hx
            have hb := h.heap.rows l' _ hH
            generalize hxv : a.eval x = v at hr
            cases hr with
            | cut hs' hm hcc =>
              rename_i g n'' c szz'
              cases hb with
              | emp h' => rw [hs'] at h'; cases h'
              | row h' =>
                rw [hs'] at h'
                injection h' with h'
                injection h' with e1 e2 e3 e4
                subst e1 e2 e3 e4
                refine ⟨g, c, hH, ?_⟩
                by_cases q : c = lo'
                · exact .inl ⟨_, _, rfl, by omega⟩
                · rw [if_neg q]
                  exact .inr ⟨hs', _, rfl⟩
          · cases hx
        | own l' =>
          simp only [dstPart] at hx
          split at hx
          · rename_i szz es' hH
            simp only [Option.some.injEq, Prod.mk.injEq] at hx
            obtain ⟨rfl, rfl, rfl, rfl, rfl⟩ := hx
            have hb := h.heap.rows l' _ hH
            generalize hxv : a.eval x = v at hr
            cases hr with
            | ownE hs' =>
              cases hb with
              | emp h' => exact ⟨0, 0, hH, .inl ⟨_, _, rfl, rfl⟩⟩
              | row h' => rw [hs'] at h'; cases h'
            | own hs' =>
              cases hb with
              | emp h' => rw [hs'] at h'; cases h'
              | row h' =>
                rw [hs'] at h'
                injection h' with h'
                injection h' with e1 e2 e3 e4
                subst e1 e2 e3 e4
                exact ⟨_, _, hH, .inr ⟨hs', _, by rw [Nat.zero_mul]⟩⟩
          · cases hx
        | _ => simp [dstPart] at hx
      obtain ⟨g, c, hH, hv⟩ := key
      have hone : ∀ u ∈ cs, u.oneCell' = true := by
        intro u hu
        obtain ⟨q, hq, rfl⟩ := List.mem_iff_getElem.1 hu
        have hl' : (fs.take (min fs.length n)).length = min fs.length n := by rw [List.length_take]; omega
        have hz : 0 < sz' := by
          rcases Nat.eq_zero_or_pos sz' with h0 | h0
          · rw [hc.1, h0, Nat.mul_zero] at hq; omega
          · exact h0
        have hi : q / sz' < (fs.take (min fs.length n)).length := by rw [Nat.div_lt_iff_lt_mul hz, ← hc.1]; exact hq
        have hmem : (fs.take (min fs.length n))[q / sz'] ∈ fs := List.mem_of_mem_take (List.getElem_mem hi)
        have hj : q % sz' < ((fs.take (min fs.length n))[q / sz']).length := by rw [hfl _ hmem]; exact Nat.mod_lt _ hz
        obtain ⟨u, hu, hru⟩ := hc.2 (q / sz') _ (q % sz') _ (List.getElem?_eq_getElem hi) (List.getElem?_eq_getElem hj)
        rw [Nat.mul_comm, Nat.div_add_mod, List.getElem?_eq_getElem hq] at hu
        injection hu with hu
        rw [hu]
        exact hru.one (hfo _ hmem _ (List.getElem_mem hj))
      have exec : ∀ w', (∀ ad n' c', a.eval x = .slice ad n' c' → n' = n ∧ (match ad with | some ad => (storeCells ad cs).run P w = .ok () w' | none => w' = w)) → (execOp a.eval o).run P w = .ok (.value (goInt (min fs.length n : Nat))) w' := by
        intro w' hst
        obtain ⟨ad, c', hv'⟩ : ∃ ad c', a.eval x = .slice ad n c' := by
          rcases hv with ⟨ad, c', hv, _⟩ | ⟨_, c', hv⟩
          · exact ⟨ad, c', hv⟩
          · exact ⟨_, c', hv⟩
        obtain ⟨_, hst⟩ := hst _ _ _ hv'
        have hmin : Nat.min fs.length n = min fs.length n := rfl
        cases ad with
        | none =>
          subst hst
          simp [execOp, ho, resolve, invoke, builtin, Builtin.copy_, hv', run_underlying' hu, r1, run_sizeOf' hsz, hmin, r3]
        | some ad =>
          simp only at hst
          simp [execOp, ho, resolve, invoke, builtin, Builtin.copy_, hv', run_underlying' hu, r1, run_sizeOf' hsz, hmin, r3, hst]
      have htl : (fs.take (min fs.length n)).length = min fs.length n := by rw [List.length_take]; omega
      rcases hv with ⟨ad, c', hv, rfl⟩ | ⟨hs, c', hv⟩
      · have hcs : cs = [] := List.eq_nil_of_length_eq_zero (by rw [hc.1, htl]; simp)
        subst hcs
        have hrow : es.take lo ++ fs.take (min fs.length 0) ++ es.drop (lo + (fs.take (min fs.length 0)).length) = es := by simp
        rw [hrow] at hk
        refine Snd.of (exec w ?_) ⟨?_, fun _ _ h => h, fun _ _ => rfl, fun _ h => h, fun _ _ => rfl, fun y hy => ?_⟩ hk
        · intro ad' n' c'' hv'
          rw [hv] at hv'
          injection hv' with e1 e2 e3
          subst e1
          refine ⟨e2.symm, ?_⟩
          cases ad with
          | none => rfl
          | some ad => rfl
        · have : putH H [(l, some (.row sz' es))] = H := by
            funext q
            simp only [putH]
            by_cases hq : q = l
            · subst hq; rw [upd_same, hH]
            · rw [upd_ne _ _ hq]
          rw [this]
          exact h.heap
        · injection hy with hy
          subst hy
          exact .p (.int _ _)
      · obtain ⟨w', s1, s2, s3⟩ := row_splice (P := P) (lo := lo) h.heap hH hs hc (fun f hf => hfl f (List.mem_of_mem_take hf)) (fun f hf => hfo f (List.mem_of_mem_take hf)) hone (by rw [htl]; omega)
        refine Snd.of (exec w' ?_) ⟨s2, fun _ _ h => h, fun _ _ => rfl, fun _ h => h, s3, fun y hy => ?_⟩ hk
        · intro ad' n' c'' hv'
          rw [hv] at hv'
          injection hv' with e1 e2 e3
          subst e1
          exact ⟨e2.symm, s1⟩
        · injection hy with hy
          subst hy
          exact .p (.int _ _)
    · exact hk.elim
  · exact hk.elim
end
end Go.Aw
