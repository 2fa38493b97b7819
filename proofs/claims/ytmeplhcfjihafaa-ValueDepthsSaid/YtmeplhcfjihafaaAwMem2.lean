/- More operations: stores, new variables, places of fields and elements, parts of aggregates, lengths, conversions. -/
import Derived.Test.YtmeplhcfjihafaaAwMem
namespace Go.Aw
open Go.RowKit

/-- A value's cells. -/
def cellsA : AV → List AV
  | .agg cs => cs
  | .p (.agg cs) => cs.map .p
  | x => [x]
def oneAll : List AV → Bool
  | [] => true
  | x :: l => x.one && oneAll l
theorem oneAll_mem {l : List AV} (h : oneAll l = true) : ∀ x ∈ l, x.one = true := by
  induction l with
  | nil => intro x hx; cases hx
  | cons y l ih =>
    simp only [oneAll, Bool.and_eq_true] at h
    intro x hx
    rcases List.mem_cons.1 hx with rfl | hx
    · exact h.1
    · exact ih h.2 x hx

section
variable {P : Program} {o : Oper} {a : Act} {w : World} {σ : Lab} {I : Nat → Prop} {T : Nat → Option AV} {H : Nat → Option Blk} {w0 : World} {X I0 : Nat → Prop} {lab : Nat} {k : Eff → Prop}

theorem cells_of {v : Value} {x : AV} (h : repA σ w I v x) (ho : oneAll (cellsA x) = true) : v.cells.size = (cellsA x).length ∧ ∀ (j : Nat) u p, v.cells[j]? = some u → (cellsA x)[j]? = some p → repA σ w I u p := by
  have one : ∀ {v : Value} {x : AV}, repA σ w I v x → v.cells = #[v] → cellsA x = [x] → v.cells.size = (cellsA x).length ∧ ∀ (j : Nat) u p, v.cells[j]? = some u → (cellsA x)[j]? = some p → repA σ w I u p := by
    intro v x h h1 h2
    rw [h1, h2]
    refine ⟨rfl, fun j u p h3 h4 => ?_⟩
    rcases j with _ | j
    · simp at h3 h4; subst h3 h4; exact h
    · simp at h4
  have h' := h
  cases h with
  | agg hs hr => exact ⟨hs, hr⟩
  | tuple hs hr => simp [cellsA, oneAll, AV.one] at ho
  | p h =>
    cases h with
    | agg hs hr =>
      refine ⟨by rw [cellsA, List.length_map]; exact hs, fun j u p h1 h2 => ?_⟩
      simp only [cellsA, List.getElem?_map, Option.map_eq_some_iff] at h2
      obtain ⟨q, hq, rfl⟩ := h2
      exact .p (hr j u q h1 hq)
    | tuple hs hr => simp [cellsA, oneAll, AV.one, PV.one] at ho
    | cst x =>
      simp only [cellsA, oneAll, AV.one, PV.one, Bool.and_true] at ho
      exact one h' (by cases v <;> first | rfl | (simp [Value.oneCell'] at ho)) rfl
    | _ => exact one h' rfl rfl
  | _ => exact one h' rfl rfl

/-! ### New variables -/
theorem HOK.newRow (h : In σ w I T H w0 X I0 a lab) {cells : Array Value} {et : TypeId} {es : List (List AV)} {sz c : Nat} (hcur : cells.size = c * sz) (hc : es.length ≤ c) (hs : ∀ e ∈ es, e.length = sz) (ho : ∀ e ∈ es, ∀ x ∈ e, x.one = true)
    (hr : ∀ (i : Nat) e (j : Nat) x, es[i]? = some e → e[j]? = some x → ∃ u, cells[i * sz + j]? = some u ∧ repA σ w I u x) {w' : World} (hw : w'.heap = w.heap.push (.cells cells et)) (hos : w'.os = w.os) (ht : w'.tape = w.tape) (hu : w'.output = w.output) :
    HOK (upd σ lab (some (.row w.heap.size es.length c sz))) w' I (upd H lab (some (.row sz es))) w0 X I0 ∧ (∀ l s, σ l = some s → upd σ lab (some (.row w.heap.size es.length c sz)) l = some s) ∧ (∀ b, I b → w'.heap[b]? = w.heap[b]?) := by
  have ext : ∀ l s, σ l = some s → upd σ lab (some (.row w.heap.size es.length c sz)) l = some s := fun l s hl => by
    rw [upd_ne _ _ (by rintro rfl; rw [h.lab] at hl; cases hl)]
    exact hl
  have old : ∀ b, I b → w'.heap[b]? = w.heap[b]? := fun b hb => by
    have := (h.heap.imm b hb).1
    rw [hw, Array.getElem?_push, if_neg (by omega)]
  refine ⟨h.heap.alloc hw hos ht hu h.lab rfl (.row (upd_same _ _ _) (by rw [hw]; simp; rfl) hcur hc hs ho fun i e j x h1 h2 => ?_), ext, old⟩
  obtain ⟨u, hu, hx⟩ := hr i e j x h1 h2
  exact ⟨u, hu, hx.mono ext (fun _ h => h) old⟩

def newW (lab : Nat) (cs : List AV) (k : Eff → Prop) : Prop := oneAll cs = true ∧ k ⟨some (.ptr lab 0 0), [(lab, some (.row cs.length [cs]))]⟩
theorem snd_new (h : In σ w I T H w0 X I0 a lab) {cells : Array Value} {et : TypeId} {cs : List AV} (hl : cells.size = cs.length) (hr : ∀ (j : Nat) u p, cells[j]? = some u → cs[j]? = some p → repA σ w I u p)
    (hrun : (execOp a.eval o).run P w = .ok (.value (.pointer (some ⟨w.heap.size, 0, none⟩))) (w.alloc (.cells cells et))) (hk : newW lab cs k) : Snd P o a w σ I H w0 X I0 lab k := by
  obtain ⟨ho, hk⟩ := hk
  obtain ⟨h1, h2, h3⟩ := HOK.newRow (w' := w.alloc (.cells cells et)) h (cells := cells) (et := et) (es := [cs]) (sz := cs.length) (c := 1) (by simp [hl]) (by simp) (by simp) (by simpa using oneAll_mem ho)
    (fun i e j x h1 h2 => by
      rcases i with _ | i
      · simp at h1; subst h1
        have hj : j < cells.size := by rw [hl]; exact (List.getElem?_eq_some_iff.1 h2).1
        exact ⟨cells[j], by simp [hj], hr j _ x (by simp [hj]) h2⟩
      · simp at h1) rfl rfl rfl rfl
  refine Snd.of hrun ⟨h1, h2, fun l hl => upd_ne _ _ hl, fun _ h => h, h3, fun x hx => ?_⟩ hk
  injection hx with hx; subst hx
  have := repA.ptr (σ := upd σ lab (some (.row w.heap.size 1 1 cs.length))) (w := w.alloc (.cells cells et)) (I := I) (i := 0) (off := 0) (upd_same σ lab (some (.row w.heap.size 1 1 cs.length)))
  simpa using this

def allocW (P : Program) (lab : Nat) (t : TypeId) (k : Eff → Prop) : Prop :=
  match tzero P t with
  | some zs => newW lab (zs.map constAV) k
  | none => False
theorem snd_alloc (h : In σ w I T H w0 X I0 a lab) {t : TypeId} (ho : o.op = .alloc t) (hk : allocW P lab t k) : Snd P o a w σ I H w0 X I0 lab k := by
  unfold allocW at hk
  split at hk
  · rename_i zs hz
    obtain ⟨z, hz1, rfl⟩ := run_zeroValue' hz w
    refine snd_new h (cells := z.cells) (et := t) (by simp) (fun j u p h1 h2 => ?_) ?_ hk
    · rw [List.getElem?_map, Option.map_eq_some_iff] at h2
      obtain ⟨q, hq, rfl⟩ := h2
      rw [Array.getElem?_toList, h1] at hq
      injection hq with hq; subst hq
      exact repA_const σ w I u
    · simp only [execOp, ho, Instr.alloc, Sem.run_bind, hz1, Result.andThen_ok, newVar, newRow, run_newObj, Sem.run_pure]
      rfl
  · exact hk.elim

def boxW (lab : Nat) (x : Option AV) (k : Eff → Prop) : Prop :=
  match x with
  | some v => newW lab (cellsA v) k
  | none => False
theorem snd_box (h : In σ w I T H w0 X I0 a lab) {t : TypeId} {x : Operand} (ho : o.op = .box t x) (hk : boxW lab (ev T x) k) : Snd P o a w σ I H w0 X I0 lab k := by
  unfold boxW at hk
  split at hk
  · rename_i v hv
    obtain ⟨h1, h2⟩ := cells_of (h.ev hv) hk.1
    refine snd_new h (cells := (a.eval x).cells) (et := t) h1 h2 ?_ hk
    simp only [execOp, ho, Instr.box, Sem.run_bind, newVar, newRow, run_newObj, Sem.run_pure, Result.andThen_ok]
    rfl
  · exact hk.elim

/-! ### Stores -/
theorem splice_get {α : Type} (l vs : List α) (o : Nat) (h : o + vs.length ≤ l.length) (q : Nat) : (l.take o ++ vs ++ l.drop (o + vs.length))[q]? = if q < o then l[q]? else if q < o + vs.length then vs[q - o]? else l[q]? := by
  have ht : (l.take o).length = o := by rw [List.length_take]; omega
  by_cases h1 : q < o
  · rw [if_pos h1, List.append_assoc, List.getElem?_append_left (by omega), List.getElem?_take, if_pos h1]
  · rw [if_neg h1, List.append_assoc, List.getElem?_append_right (by omega), ht]
    by_cases h2 : q < o + vs.length
    · rw [if_pos h2, List.getElem?_append_left (by omega)]
    · rw [if_neg h2, List.getElem?_append_right (by omega), List.getElem?_drop]
      congr 1
      omega
theorem splice_length {α : Type} (l vs : List α) (o : Nat) (h : o + vs.length ≤ l.length) : (l.take o ++ vs ++ l.drop (o + vs.length)).length = l.length := by
  simp only [List.length_append, List.length_take, List.length_drop]
  omega
def setCells (e : List AV) (off : Nat) (cs : List AV) : List AV := e.take off ++ cs ++ e.drop (off + cs.length)
def storeW (P : Program) (t : TypeId) (x y : Option AV) (H : Nat → Option Blk) (k : Eff → Prop) : Prop :=
  match x, y with
  | some (.ptr l i off), some v => match H l with
    | some (.row sz es) => match es[i]? with
      | some e => tsize P t = some (cellsA v).length ∧ oneAll (cellsA v) = true ∧ off + (cellsA v).length ≤ e.length ∧ k ⟨none, [(l, some (.row sz (es.set i (setCells e off (cellsA v)))))]⟩
      | none => False
    | _ => False
  | _, _ => False

theorem snd_store (h : In σ w I T H w0 X I0 a lab) {t : TypeId} {x y : Operand} (ho : o.op = .store t x y) (hk : storeW P t (ev T x) (ev T y) H k) : Snd P o a w σ I H w0 X I0 lab k := by
  unfold storeW at hk
  split at hk
  · rename_i l i off v hp hq
    have hx := h.ev hp
    have hy := h.ev hq
    split at hk
    · rename_i sz es hH
      split at hk
      · rename_i e he
        obtain ⟨hsize, hone, hle, hk⟩ := hk
        obtain ⟨c1, c2⟩ := cells_of hy hone
        generalize hxv : a.eval x = xv at hx
        have hb := h.heap.rows l _ hH
        cases hx with
        | ptr hs =>
          rename_i g n c sz'
          cases hb with
          | emp h' => simp at he
          | row h' hg hcur hc hl hon hr =>
            rename_i g' c' cur et
            rw [hs] at h'
            injection h' with h'
            injection h' with e1 e2 e3 e4
            subst e1 e2 e3 e4
            have hel := hl e (List.mem_of_getElem? he)
            have hi : i < es.length := (List.getElem?_eq_some_iff.1 he).1
            have hisz : i * sz' + sz' ≤ c * sz' := by
              have : (i + 1) * sz' ≤ c * sz' := Nat.mul_le_mul_right _ (by omega)
              rwa [Nat.succ_mul] at this
            have hvl : (a.eval y).cells.toList.length = (cellsA v).length := by simpa using c1
            have hfit : i * sz' + off + (a.eval y).cells.toList.length ≤ cur.size := by rw [hcur, hvl]; omega
            have hone' : ∀ u ∈ (a.eval y).cells.toList, u.oneCell' = true := fun u hu => by
              obtain ⟨j, hj, rfl⟩ := List.mem_iff_getElem.1 hu
              have hj' : j < (cellsA v).length := by omega
              refine (c2 j _ ((cellsA v)[j]) (by rw [← Array.getElem?_toList]; exact List.getElem?_eq_getElem hj) (List.getElem?_eq_getElem hj')).one (oneAll_mem hone _ (List.getElem_mem hj'))
            have hst := run_storeCells_at (P := P) g (i * sz' + off) et (a.eval y).cells.toList 0 cur w hg (by simpa using hfit) hone'
            simp only [Nat.add_zero] at hst
            generalize hcur' : (cur.toList.take (i * sz' + off) ++ (a.eval y).cells.toList ++ cur.toList.drop (i * sz' + off + (a.eval y).cells.toList.length)) = cur' at hst
            have hcl : cur'.length = c * sz' := by rw [← hcur', splice_length _ _ _ (by simpa using hfit), Array.length_toList, hcur]
            have hget : ∀ q, cur'[q]? = if q < i * sz' + off then cur[q]? else if q < i * sz' + off + (cellsA v).length then (a.eval y).cells[q - (i * sz' + off)]? else cur[q]? := fun q => by
              rw [← hcur', splice_get _ _ _ (by simpa using hfit)]
              simp only [Array.getElem?_toList, hvl]
            obtain ⟨hni, hxx⟩ := h.heap.mine l g _ (by rw [hH]; simp) hs rfl
            have hsame : ∀ b, I b → (w.setRow g cur'.toArray).heap[b]? = w.heap[b]? := fun b hb => setRow_other _ _ _ _ (fun e => hni (e ▸ hb))
            have hset : (setCells e off (cellsA v)).length = sz' := by unfold setCells; rw [splice_length _ _ _ hle, hel]
            have hwr : HOK σ (w.setRow g cur'.toArray) I (upd H l (some (.row sz' (es.set i (setCells e off (cellsA v)))))) w0 X I0 := by
              refine h.heap.write (s := .row g es.length c sz') (g := g) (by rw [hH]; simp) hs rfl (fun k hk => setRow_other _ _ _ _ hk) (by simp) rfl rfl rfl
                (.row (by rw [List.length_set]; exact hs) (setRow_heap w g cur _ et _ hg) (by simpa using hcl) (by rw [List.length_set]; exact hc) (fun e' he' => ?_) (fun e' he' => ?_) fun i' e' j x h1 h2 => ?_)
              · rcases List.mem_or_eq_of_mem_set he' with he' | rfl
                · exact hl e' he'
                · exact hset
              · rcases List.mem_or_eq_of_mem_set he' with he' | rfl
                · exact hon e' he'
                · intro x hx
                  unfold setCells at hx
                  rcases List.mem_append.1 hx with hx | hx
                  · rcases List.mem_append.1 hx with hx | hx
                    · exact hon e (List.mem_of_getElem? he) x (List.mem_of_mem_take hx)
                    · exact oneAll_mem hone x hx
                  · exact hon e (List.mem_of_getElem? he) x (List.mem_of_mem_drop hx)
              · have hj : ∀ e'' : List AV, e''[j]? = some x → e''.length = sz' → j < sz' := fun e'' h3 h4 => by rw [← h4]; exact (List.getElem?_eq_some_iff.1 h3).1
                rw [List.getElem?_toArray]
                by_cases hii : i' = i
                · subst hii
                  rw [List.getElem?_set_self hi] at h1
                  injection h1 with h1
                  subst h1
                  have hj' := hj _ h2 hset
                  unfold setCells at h2
                  rw [splice_get _ _ _ hle] at h2
                  rw [hget]
                  by_cases q1 : j < off
                  · rw [if_pos q1] at h2
                    rw [if_pos (by omega)]
                    obtain ⟨u, hu, hru⟩ := hr i' e j x he h2
                    exact ⟨u, hu, hru.mono (fun _ _ h => h) (fun _ h => h) hsame⟩
                  · rw [if_neg q1] at h2
                    rw [if_neg (by omega)]
                    by_cases q2 : j < off + (cellsA v).length
                    · rw [if_pos q2] at h2
                      rw [if_pos (by omega)]
                      have hjc : j - off < (a.eval y).cells.size := by omega
                      refine ⟨(a.eval y).cells[j - off], ?_, (c2 (j - off) _ x (Array.getElem?_eq_getElem hjc) h2).mono (fun _ _ h => h) (fun _ h => h) hsame⟩
                      rw [show i' * sz' + j - (i' * sz' + off) = j - off by omega]
                      exact Array.getElem?_eq_getElem hjc
                    · rw [if_neg q2] at h2
                      rw [if_neg (by omega)]
                      obtain ⟨u, hu, hru⟩ := hr i' e j x he h2
                      exact ⟨u, hu, hru.mono (fun _ _ h => h) (fun _ h => h) hsame⟩
                · rw [List.getElem?_set_ne (fun h => hii h.symm)] at h1
                  have hj' := hj _ h2 (hl e' (List.mem_of_getElem? h1))
                  obtain ⟨u, hu, hru⟩ := hr i' e' j x h1 h2
                  refine ⟨u, ?_, hru.mono (fun _ _ h => h) (fun _ h => h) hsame⟩
                  rw [hget]
                  rcases Nat.lt_or_gt_of_ne hii with q | q
                  · have : (i' + 1) * sz' ≤ i * sz' := Nat.mul_le_mul_right _ q
                    rw [Nat.succ_mul] at this
                    rw [if_pos (by omega), hu]
                  · have : (i + 1) * sz' ≤ i' * sz' := Nat.mul_le_mul_right _ q
                    rw [Nat.succ_mul] at this
                    rw [if_neg (by omega), if_neg (by omega), hu]
            refine Snd.skip (w' := w.setRow g cur'.toArray) ?_ ⟨hwr, fun _ _ h => h, fun _ _ => rfl, fun _ h => h, hsame, fun x hx => by cases hx⟩ hk
            have hsz2 : (a.eval y).cells.size = (cellsA v).length := c1
            simp only [execOp, ho, Instr.storeAt, hxv, Instr.sureAddr, storeVar, Sem.run_bind, Sem.run_pure, Result.andThen_ok, run_sizeOf' hsize, hsz2, ne_eq, not_true_eq_false, if_false, hst]
      · exact hk.elim
    · exact hk.elim
  · exact hk.elim
end
end Go.Aw
