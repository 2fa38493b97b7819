/- A region's operations one by one; calls that are lent deep memory, or hand it out; calls that only look. -/
import Derived.Test.YtmeplhcfjihafaaAwS1
import Derived.Test.YtmeplhcfjihafaaAwG1
namespace Go.Aw
open Go.RowKit
variable {P : Program}
/-- From the operation at i on the region comes to its end, in a state of which K holds. -/
def SeqR (P : Program) (nt : Fm) (ops : Array Oper) (i : Nat) (s : St) (K : St → Prop) : Prop :=
  ∀ w0 X I0 a w (Q : Exit → Act → World → Prop), TabX w0 X I0 → Matches nt w0 X I0 s a w → (∀ s' a' w', Matches nt w0 X I0 s' a' w' → K s' → Q .normal a' w') → wpOps P ops Q (List.range' i (ops.size - i)) a w
theorem SeqR.ghost {nt : Fm} {ops : Array Oper} {i : Nat} {s s' : St} {K : St → Prop} (g : Ghost nt s s') (h : SeqR P nt ops i s' K) : SeqR P nt ops i s K :=
  fun w0 X I0 a w Q tx m hQ => h w0 X I0 a w Q tx (g w0 X I0 a w m) hQ
theorem SeqR.last {nt : Fm} {ops : Array Oper} {i : Nat} {s : St} {K : St → Prop} (hi : ops.size = i) (h : K s) : SeqR P nt ops i s K := by
  intro w0 X I0 a w Q tx m hQ
  subst hi
  rw [Nat.sub_self]
  exact hQ s a w m h
theorem SeqR.ev {nt : Fm} {ops : Array Oper} {i : Nat} {s : St} {K : St → Prop} (k : Nat) (hd : ops.toList.all (dstOK nt) = true) (hk : i + k ≤ ops.size) (h : seqO P ops.toList s.nx ((ops.toList.drop i).take k) s.T s.H fun T H n => SeqR P nt ops (i + k) ⟨T, H, n⟩ K) : SeqR P nt ops i s K := by
  intro w0 X I0 a w Q tx ⟨σ, I, hn, m⟩ hQ
  rw [seqO_eq] at h
  have hl : ops.toList.length = ops.size := Array.length_toList
  have main := seq_part (P := P) (w0 := w0) (X := X) (I0 := I0) (r' := ops.toList.drop (i + k)) (Q := Q) hd tx ((ops.toList.drop i).take k) i s.nx s.T s.H σ I a w (by rw [← List.drop_drop, List.take_append_drop]) m hn h
    (fun T H n σ I a w m hn hq => by
      have := hq w0 X I0 a w Q tx ⟨σ, I, hn, m⟩ hQ
      rw [List.length_take, List.length_drop, Nat.min_eq_left (by omega), List.length_drop, hl]
      exact this)
  rw [← List.drop_drop, List.take_append_drop, List.length_drop, hl] at main
  exact main
/-- An operation that comes to its end, in a state of which K holds. -/
def CallD (P : Program) (nt : Fm) (o : Oper) (s : St) (K : St → Prop) : Prop :=
  ∀ w0 X I0 a w (next : Act → World → Prop) (Q : Exit → Act → World → Prop), TabX w0 X I0 → Matches nt w0 X I0 s a w → (∀ s' a' w', Matches nt w0 X I0 s' a' w' → K s' → next a' w') → o.wp P a w next Q
theorem SeqR.op {nt : Fm} {ops : Array Oper} {i : Nat} {s : St} {K : St → Prop} {o : Oper} (ho : ops[i]? = some o) (hg : o.guard = none) (h : CallD P nt o s fun s' => SeqR P nt ops (i + 1) s' K) : SeqR P nt ops i s K := by
  intro w0 X I0 a w Q tx m hQ
  have hi : i < ops.size := (Array.getElem?_eq_some_iff.1 ho).1
  rw [show ops.size - i = (ops.size - (i + 1)) + 1 by omega, List.range'_succ]
  simp only [wpOps, ho]
  have : Region.wanted o (yielded ops a.tmps) = true := by simp [Region.wanted, hg]
  rw [if_pos this]
  exact .inl (h w0 X I0 a w _ Q tx m fun s' a' w' m' k => k w0 X I0 a' w' Q tx m' hQ)
theorem AW.rR {nt : Fm} {id : Nat} {ops : Array Oper} {y : Code} {s : St} {Q : Exit → St → Prop} (h : SeqR P nt ops 0 s fun s' => AW P nt y s' Q) : AW P nt (.seq (.region id ops false) y) s Q := by
  refine AW.seq ?_
  intro w0 X I0 a w tx m
  refine wp_region ?_
  have := h w0 X I0 a w (fun e a' w' => ∃ s', Matches nt w0 X I0 s' a' w' ∧ andThen (fun s' => AW P nt y s' Q) Q e s') tx m fun s' a' w' m' k => ⟨s', m', k⟩
  rw [List.range_eq_range']
  simpa using this
theorem AW.rRE {nt : Fm} {id : Nat} {ops : Array Oper} {s : St} {Q : Exit → St → Prop} (h : SeqR P nt ops 0 s fun s' => Q .normal s') : AW P nt (.region id ops false) s Q := by
  intro w0 X I0 a w tx m
  refine wp_region ?_
  have := h w0 X I0 a w (fun e a' w' => ∃ s', Matches nt w0 X I0 s' a' w' ∧ Q e s') tx m fun s' a' w' m' k => ⟨s', m', k⟩
  rw [List.range_eq_range']
  simpa using this
mutual
def AV.labsBy (p : Nat → Bool) : AV → Bool
  | .p _ | .ex _ | .vw _ _ => true
  | .own l | .cut l _ _ | .ptr l _ _ | .map l | .it l => p l
  | .agg cs | .tuple cs | .fn _ cs => labsByL p cs
  | .iface _ x => x.labsBy p
def labsByL (p : Nat → Bool) : List AV → Bool
  | [] => true
  | x :: l => x.labsBy p && labsByL p l
end
theorem labsByL_mem {p : Nat → Bool} {l : List AV} (h : labsByL p l = true) {x : AV} (hx : x ∈ l) : x.labsBy p = true := by
  induction l with
  | nil => cases hx
  | cons y l ih =>
    rw [labsByL, Bool.and_eq_true] at h
    rcases List.mem_cons.1 hx with rfl | hx
    · exact h.1
    · exact ih h.2 hx
def Blk.labsBy (p : Nat → Bool) : Blk → Bool
  | .row _ es => es.all (labsByL p)
  | .map es => es.all fun e => e.2.labsBy p
  | .iter _ _ => true
theorem repA_by {σ σ' : Lab} {w : World} {I : Nat → Prop} {ρ : Nat → Nat} {p : Nat → Bool} (hp : ∀ l, p l = true → ∀ s, σ l = some s → σ' (ρ l) = some s) {u : Value} {x : AV} (h : repA σ w I u x) : x.labsBy p = true → repA σ' w I u (x.ren ρ) := by
  induction h with
  | p h => intro _; exact .p h
  | ex hn h => intro _; exact .ex hn h
  | vw hn hm hc h => intro _; exact .vw hn hm hc h
  | ownE h => intro q; exact .ownE (hp _ q _ h)
  | own h => intro q; exact .own (hp _ q _ h)
  | cut h hm hc => intro q; exact .cut (hp _ q _ h) hm hc
  | ptr h => intro q; exact .ptr (hp _ q _ h)
  | map h => intro q; exact .map (hp _ q _ h)
  | it h => intro q; exact .it (hp _ q _ h)
  | agg hs hr ih =>
    intro q
    refine .agg (by rw [renL_length]; exact hs) fun j u y h1 h2 => ?_
    rw [renL_get, Option.map_eq_some_iff] at h2
    obtain ⟨z, hz, rfl⟩ := h2
    exact ih j u z h1 hz (labsByL_mem q (List.mem_of_getElem? hz))
  | tuple hs hr ih =>
    intro q
    refine .tuple (by rw [renL_length]; exact hs) fun j u y h1 h2 => ?_
    rw [renL_get, Option.map_eq_some_iff] at h2
    obtain ⟨z, hz, rfl⟩ := h2
    exact ih j u z h1 hz (labsByL_mem q (List.mem_of_getElem? hz))
  | iface t h ih => intro q; exact .iface t (ih q)
  | fn f hs hr ih =>
    intro q
    refine .fn f (by rw [renL_length]; exact hs) fun j u y h1 h2 => ?_
    rw [renL_get, Option.map_eq_some_iff] at h2
    obtain ⟨z, hz, rfl⟩ := h2
    exact ih j u z h1 hz (labsByL_mem q (List.mem_of_getElem? hz))
theorem repB_by {σ σ' : Lab} {w : World} {I : Nat → Prop} {ρ : Nat → Nat} {p : Nat → Bool} (hp : ∀ l, p l = true → ∀ s, σ l = some s → σ' (ρ l) = some s) {l : Nat} {b : Blk} (hl : p l = true) (h : repB σ w I l b) (hb : b.labsBy p = true) : repB σ' w I (ρ l) (b.ren ρ) := by
  cases h with
  | emp h => exact .emp (hp _ hl _ h)
  | row h hg hcur hc hs ho hr =>
    rename_i g c sz cur et es
    refine .row (by rw [List.length_map]; exact hp _ hl _ h) hg hcur (by rw [List.length_map]; exact hc) (fun e he => ?_) (fun e he x hx => ?_) fun i e j x q1 q2 => ?_
    · obtain ⟨e', he', rfl⟩ := List.mem_map.1 he
      rw [renL_length]
      exact hs e' he'
    · obtain ⟨e', he', rfl⟩ := List.mem_map.1 he
      obtain ⟨j, hj⟩ := List.getElem?_of_mem hx
      rw [renL_get, Option.map_eq_some_iff] at hj
      obtain ⟨x', hx', rfl⟩ := hj
      rw [AV.one_ren]
      exact ho e' he' x' (List.mem_of_getElem? hx')
    · rw [List.getElem?_map, Option.map_eq_some_iff] at q1
      obtain ⟨e', he', rfl⟩ := q1
      rw [renL_get, Option.map_eq_some_iff] at q2
      obtain ⟨x', hx', rfl⟩ := q2
      obtain ⟨u, hu, hru⟩ := hr i e' j x' he' hx'
      exact ⟨u, hu, repA_by hp hru (labsByL_mem (List.all_eq_true.1 hb e' (List.mem_of_getElem? he')) (List.mem_of_getElem? hx'))⟩
  | map h hg hn hr =>
    rename_i g k ms es
    refine .map (hp _ hl _ h) hg (by rw [List.length_map]; exact hn) fun i m e q1 q2 => ?_
    rw [List.getElem?_map, Option.map_eq_some_iff] at q2
    obtain ⟨e', he', rfl⟩ := q2
    obtain ⟨r1, r2⟩ := hr i m e' q1 he'
    exact ⟨r1, repA_by hp r2 (List.all_eq_true.1 hb e' (List.mem_of_getElem? he'))⟩
  | iter h hg => exact .iter (hp _ hl _ h) hg
/-- Called with arguments in the memory h (labels below n), the function returns what stands for r, in the memory h': the labels of rt are what they were, others are new (from n on, below n + m). -/
def DFn (P : Program) (f : FuncId) (args : List AV) (h : List (Nat × Blk)) (n : Nat) (rt : List Nat) (r : AV) (h' : List (Nat × Blk)) (m : Nat) : Prop :=
  enters P f = true ∧ ∀ (w : World) (I : Nat → Prop) (σ : Lab) (vals : Array Value), vals.size = args.length → (∀ l, n ≤ l → σ l = none) → (∀ (j : Nat) u x, vals[j]? = some u → args[j]? = some x → repA σ w I u x) →
    HOK σ w I (ofH h) w (lentX σ (ofH h)) I → tabOK w I →
    Calls P f vals w fun e w' => ∃ v σ' I', e = .returned v ∧ HOK σ' w' I' (ofH h') w (lentX σ (ofH h)) I ∧ repA σ' w' I' v r ∧ (∀ l ∈ rt, σ' l = σ l) ∧ (∀ l, n + m ≤ l → σ' l = none)
def avT : List AV → Nat → Nat → Option AV
  | [], _ => fun _ => none
  | x :: l, i => upd (avT l (i + 1)) i (some x)
theorem avT_at : ∀ (l : List AV) (i j : Nat), avT l i j = if j < i then none else l[j - i]? := by
  intro l
  induction l with
  | nil => intro i j; simp [avT]
  | cons a l ih =>
    intro i j
    rw [avT]
    by_cases h : j = i
    · subst h; rw [upd_same, if_neg (by omega), Nat.sub_self]; rfl
    · rw [upd_ne _ _ h, ih]
      by_cases h2 : j < i
      · rw [if_pos (by omega), if_pos h2]
      · rw [if_neg (by omega), if_neg h2, show j - i = (j - (i + 1)) + 1 by omega, List.getElem?_cons_succ]
def resD (P : Program) (s : St) : List ResultVar → List AV → Prop
  | [], [] => True
  | .tmp t :: r, x :: l => s.T t = some x ∧ resD P s r l
  | .cell t ty :: r, x :: l => loadW P ty (s.T t) s.H (fun e => e = ⟨some x, []⟩) ∧ resD P s r l
  | _, _ => False
def oneOrA : List AV → AV
  | [x] => x
  | l => .tuple l
def rootOK (s : St) (args : List AV) (h h' : List (Nat × Blk)) (pins : List Nat) (ρ : Nat → Nat) (l : Nat) : Prop :=
  (∃ j i off sz es es', j ∈ pins ∧ args[j]? = some (.ptr l i off) ∧ s.T j = some (.ptr (ρ l) i off) ∧ ofH h l = some (.row sz es) ∧ ofH h' l = some (.row sz es') ∧ es'.length = es.length ∧ 0 < sz) ∨
  (∃ j es, j ∈ pins ∧ args[j]? = some (.map l) ∧ s.T j = some (.map (ρ l)) ∧ ofH h l = some (.map es)) ∨
  (∃ (j k : Nat) (cs cs' : List AV) (sz : Nat) (es es' : List (List AV)), j ∈ pins ∧ args[j]? = some (.agg cs) ∧ cs[k]? = some (AV.own l) ∧ s.T j = some (.agg cs') ∧ cs'[k]? = some (AV.own (ρ l)) ∧ ofH h l = some (.row sz es) ∧ ofH h' l = some (.row sz es') ∧ es ≠ [] ∧ es' ≠ [])
def EndD (P : Program) (rs : Array ResultVar) (args : List AV) (h : List (Nat × Blk)) (n : Nat) (rt : List Nat) (r : AV) (h' : List (Nat × Blk)) (m : Nat) (pins : List Nat) : Exit → St → Prop
  | .normal, s | .ret, s => ∃ (ρ : Nat → Nat) (l : List AV), resD P s rs.toList l ∧ oneOrA l = r.ren ρ ∧ r.labsIn (n + m) = true ∧ (∀ x ∈ h', s.H (ρ x.1) = some (x.2.ren ρ) ∧ x.1 < n + m ∧ x.2.labsIn (n + m) = true) ∧
      (∀ x ∈ h', ∀ y ∈ h', ρ x.1 = ρ y.1 → x.1 = y.1) ∧ ∀ l ∈ rt, l < n ∧ rootOK s args h h' pins ρ l
  | _, _ => False
theorem slot_kept {σ0 σ1 : Lab} {w0 w1 : World} {I0 I1 : Nat → Prop} {v : Value} {l l1 i off sz : Nat} {es es1 : List (List AV)} (h0 : repA σ0 w0 I0 v (.ptr l i off)) (h1 : repA σ1 w1 I1 v (.ptr l1 i off)) (b0 : repB σ0 w0 I0 l (.row sz es)) (b1 : repB σ1 w1 I1 l1 (.row sz es1))
    (hl : es1.length = es.length) (hz : 0 < sz) (hfr : ∀ (b : Nat) (cur : Array Value) (et : TypeId) (p : Nat × Nat), w0.heap[b]? = some (Obj.cells cur et p) → ∃ (cur' : Array Value) (et' : TypeId) (p' : Nat × Nat), w1.heap[b]? = some (Obj.cells cur' et' p') ∧ cur'.size = cur.size) : σ1 l1 = σ0 l := by
  cases h0 with
  | ptr s0 =>
    rename_i g n c sz0
    generalize hxe : Value.pointer (some ⟨g, i * sz0 + off, none⟩) = xv at h1
    cases h1 with
    | ptr s1 =>
      rename_i g1 n1 c1 sz1
      injection hxe with hxe
      injection hxe with hxe
      injection hxe with hg _ _
      subst hg
      obtain ⟨cur0, et0, p0, e0, f0⟩ := cells_slot b0 s0
      obtain ⟨cur1, et1, p1, e1, f1⟩ := cells_slot b1 s1
      obtain ⟨cur2, et2, p2, e2, f2⟩ := hfr g cur0 et0 p0 e0
      rw [e1] at e2
      injection e2 with e2
      injection e2 with e2
      subst e2
      have n0 : n = es.length ∧ sz0 = sz := by
        cases b0 with
        | emp h => rw [s0] at h; cases h
        | row h => rw [s0] at h; injection h with h; injection h with _ h2 _ h4; exact ⟨h2, h4⟩
      have n1' : n1 = es1.length ∧ sz1 = sz := by
        cases b1 with
        | emp h => rw [s1] at h; cases h
        | row h => rw [s1] at h; injection h with h; injection h with _ h2 _ h4; exact ⟨h2, h4⟩
      obtain ⟨rfl, rfl⟩ := n0
      obtain ⟨rfl, rfl⟩ := n1'
      have hc : c1 = c := Nat.eq_of_mul_eq_mul_right hz (by rw [← f1, f2, f0])
      rw [s0, s1, hc, hl]
theorem own_kept {σ0 σ1 : Lab} {w0 w1 : World} {I0 I1 : Nat → Prop} {v : Value} {l l1 sz : Nat} {es es1 : List (List AV)} (h0 : repA σ0 w0 I0 v (.own l)) (h1 : repA σ1 w1 I1 v (.own l1)) (b0 : repB σ0 w0 I0 l (.row sz es)) (b1 : repB σ1 w1 I1 l1 (.row sz es1))
    (hz : es ≠ []) (hz1 : es1 ≠ []) : σ1 l1 = σ0 l := by
  cases b0 with
  | emp h => exact absurd rfl hz
  | row s0 =>
    cases b1 with
    | emp h => exact absurd rfl hz1
    | row s1 =>
      cases h0 with
      | ownE q => rw [s0] at q; cases q
      | own q0 =>
        rw [s0] at q0
        injection q0 with q0
        injection q0 with a1 a2 a3 a4
        subst a1 a2 a3 a4
        generalize hxe : Value.slice _ _ _ = xv at h1
        cases h1 with
        | ownE q => rw [s1] at q; cases q
        | own q1 =>
          rw [s1] at q1
          injection q1 with q1
          injection q1 with c1 c2 c3 c4
          subst c1 c2 c3 c4
          injection hxe with e1 e2 e3
          injection e1 with e1
          injection e1 with e1 _ _
          rw [s0, s1, e1, e2, e3]
theorem aggA {σ : Lab} {w : World} {I : Nat → Prop} {v : Value} {cs : List AV} (h : repA σ w I v (.agg cs)) : ∃ vs : Array Value, v = .agg vs ∧ vs.size = cs.length ∧ ∀ (j : Nat) u p, vs[j]? = some u → cs[j]? = some p → repA σ w I u p := by
  cases h with
  | agg h hr => exact ⟨_, rfl, h, hr⟩
theorem resD_run {nt : Fm} {w0 : World} {X I0 : Nat → Prop} {σ : Lab} {I : Nat → Prop} {s : St} {a : Act} {w : World} (tx : TabX w0 X I0) (m : Match nt w0 X I0 σ I s.T s.H a w) (hlab : σ s.nx = none) (f : ResultVar → Sem Value) (hf : ∀ t, f (.tmp t) = pure (a.tmps.getD t undef)) (hf' : ∀ t ty, f (.cell t ty) = (do loadVar ty (← asAddr (a.tmps.getD t undef)))) : ∀ (rs : List ResultVar) (l : List AV), resD P s rs l →
    ∃ vs : List Value, (rs.mapM f).run P w = .ok vs w ∧ vs.length = l.length ∧ ∀ (j : Nat) u x, vs[j]? = some u → l[j]? = some x → repA σ w I u x := by
  intro rs
  induction rs with
  | nil =>
    intro l h
    cases l with
    | nil => exact ⟨[], rfl, rfl, fun j u p h _ => by simp at h⟩
    | cons x l => simp [resD] at h
  | cons r rs ih =>
    intro l h
    cases l with
    | nil => cases r <;> simp [resD] at h
    | cons x l =>
      cases r with
      | cell t ty =>
        obtain ⟨hx, hl⟩ := h
        obtain ⟨ad, v, y, q1, q2, q3, q4⟩ := load_run (P := P) (lab := s.nx) (t := ty) (x := .tmp t) (k := fun e => e = ⟨some x, []⟩) ⟨m.heap, m.tmps, hlab, tx⟩ hx
        simp only [Eff.mk.injEq, Option.some.injEq, and_true] at q4
        subst q4
        obtain ⟨vs, h1, h2, h3⟩ := ih l hl
        refine ⟨v :: vs, ?_, by simp [h2], fun j u p r1 r2 => ?_⟩
        · have q1' : a.tmps.getD t undef = .pointer (some ad) := q1
          rw [List.mapM_cons, hf', q1']
          simp [asAddr, q2, h1]
        · rcases j with _ | j
          · simp at r1 r2; subst r1 r2; exact q3
          · exact h3 j u p (by simpa using r1) (by simpa using r2)
      | tmp t =>
        obtain ⟨hx, hl⟩ := h
        obtain ⟨u, hu, hru⟩ := m.tmps t x hx
        obtain ⟨vs, h1, h2, h3⟩ := ih l hl
        refine ⟨u :: vs, ?_, by simp [h2], fun j u' p r1 r2 => ?_⟩
        · rw [List.mapM_cons, hf]
          have : a.tmps.getD t undef = u := by simp [Array.getD_eq_getD_getElem?, hu]
          rw [this]
          simp [h1]
        · rcases j with _ | j
          · simp at r1 r2; subst r1 r2; exact hru
          · exact h3 j u' p (by simpa using r1) (by simpa using r2)
end Go.Aw
