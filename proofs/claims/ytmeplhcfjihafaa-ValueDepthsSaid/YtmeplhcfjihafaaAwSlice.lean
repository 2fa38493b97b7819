/- Lengths, cuts, conversions, slices that are made. -/
import Derived.Test.YtmeplhcfjihafaaAwPlace
namespace Go.Aw
open Go.RowKit

section
variable {P : Program} {o : Oper} {a : Act} {w : World} {σ : Lab} {I : Nat → Prop} {T : Nat → Option AV} {H : Nat → Option Blk} {w0 : World} {X I0 : Nat → Prop} {lab : Nat} {k : Eff → Prop}

/-- A slice's elements, if they can be told, and how many. -/
theorem slice_len {v : Value} {es : List (List PV)} (h : rep w I v (.slice es)) : ∃ ad c, v = .slice ad es.length c := by
  cases h with
  | empty a' c => exact ⟨a', c, rfl⟩
  | slice b off m c sz es us hn hc hs hI hone hcell hrep => subst hn; exact ⟨_, c, rfl⟩

/-! ### len -/
def lenW (P : Program) (t : TypeId) (x : Option AV) (H : Nat → Option Blk) (k : Eff → Prop) : Prop :=
  match P.underlying t with
  | some .string => match x with
    | some (.p (.str l)) => k ⟨some (.p (.int .i64 (l.length : Int))), []⟩
    | _ => False
  | some (.slice _) => match x with
    | some (.p (.slice es)) => k ⟨some (.p (.int .i64 (es.length : Int))), []⟩
    | some (.ex es) => k ⟨some (.p (.int .i64 (es.length : Int))), []⟩
    | some (.own l) => match H l with
      | some (.row _ es) => k ⟨some (.p (.int .i64 (es.length : Int))), []⟩
      | _ => False
    | some (.cut _ _ n) => k ⟨some (.p (.int .i64 (n : Int))), []⟩
    | _ => False
  | _ => False
theorem own_len {l : Nat} {sz : Nat} {es : List (List AV)} {v : Value} (hb : repB σ w I l (.row sz es)) (hx : repA σ w I v (.own l)) : ∃ ad c, v = .slice ad es.length c := by
  cases hb with
  | emp h' => cases hx with
    | ownE hs => rename_i a'; exact ⟨a', 0, rfl⟩
    | own hs => rw [hs] at h'; cases h'
  | row h' => cases hx with
    | ownE hs => rw [hs] at h'; cases h'
    | own hs =>
      rw [hs] at h'
      injection h' with h'
      injection h' with e1 e2 e3 e4
      subst e2
      exact ⟨_, _, rfl⟩
theorem snd_len (h : In σ w I T H w0 X I0 a lab) {t : TypeId} {x : Operand} (ho : o.op = .call { callee := .builtin .len, args := #[x], argTypes := #[t] }) (hk : lenW P t (ev T x) H k) : Snd P o a w σ I H w0 X I0 lab k := by
  have run : ∀ v, (Builtin.len_ #[t] o.type #[a.eval x]).run P w = .ok v w → (execOp a.eval o).run P w = .ok (.value v) w := by
    intro v hv
    simp only [execOp, ho, resolve, invoke, builtin, Sem.run_bind, Sem.run_pure, Result.andThen_ok, List.map_toArray, List.map_cons, List.map_nil, hv]
  unfold lenW at hk
  split at hk
  · rename_i hu
    split at hk
    · rename_i l hp
      have hx := h.ev hp
      generalize hxv : a.eval x = xv at hx run
      cases hx with
      | p hx =>
      cases hx with
      | str =>
      exact Snd.val h (run _ (by simp [Builtin.len_, run_underlying' hu]; rfl)) (.p (.int _ _)) hk
    · exact hk.elim
  · rename_i e hu
    have fin : ∀ ad (n c : Nat), a.eval x = .slice ad n c → k ⟨some (.p (.int .i64 (n : Int))), []⟩ → Snd P o a w σ I H w0 X I0 lab k := by
      intro ad n c he hk
      exact Snd.val h (run _ (by rw [he]; simp [Builtin.len_, run_underlying' hu]; rfl)) (.p (.int _ _)) hk
    split at hk
    · rename_i es hp
      have hx := h.ev hp
      generalize hxv : a.eval x = xv at hx
      cases hx with
      | p hx =>
      obtain ⟨ad, c, rfl⟩ := slice_len hx
      exact fin _ _ _ hxv hk
    · rename_i es hp
      have hx := h.ev hp
      generalize hxv : a.eval x = xv at hx
      cases hx with
      | ex hn hx => subst hn; exact fin _ _ _ hxv hk
    · rename_i l hp
      split at hk
      · rename_i sz es hH
        obtain ⟨ad, c, he⟩ := own_len (h.heap.rows l _ hH) (h.ev hp)
        exact fin _ _ _ he hk
      · exact hk.elim
    · rename_i l lo n hp
      have hx := h.ev hp
      generalize hxv : a.eval x = xv at hx
      cases hx with
      | cut hs hm hc => exact fin _ _ _ hxv hk
    · exact hk.elim
  · exact hk.elim

/-! ### Cuts -/
/-- A bound that is not typed is d. -/
def bnd (x : Option (Option AV)) (d : Nat) : Option Int :=
  match x with
  | none => some d
  | some (some (.p (.int _ n))) => some n
  | some _ => none
def sliceStr (l : List UInt8) (lo hi : Option (Option AV)) (k : Eff → Prop) : Prop :=
  match bnd lo 0, bnd hi l.length with
  | some i, some j => (0 ≤ i ∧ i ≤ j ∧ j ≤ l.length) ∧ k ⟨some (.p (.str ((l.take j.toNat).drop i.toNat))), []⟩
  | _, _ => False

theorem run_bound {x : Operand} {n : Int} {y : Nat} {code : BoundsCode} (h : In σ w I T H w0 X I0 a lab) {kd : IntKind} (hx : ev T x = some (.p (.int kd n))) (h0 : 0 ≤ n) (h1 : n ≤ y) : (Instr.sliceBound (a.eval x) y code).run P w = .ok n.toNat w := by
  have hx' := h.ev hx
  generalize a.eval x = xv at hx' ⊢
  cases hx' with
  | p hx' =>
  cases hx' with
  | int =>
  simp only [Instr.sliceBound, asIntOf, Sem.run_bind, Sem.run_pure, Result.andThen_ok]
  rw [if_pos ⟨h0, h1⟩]
  rfl

theorem run_bounds (h : In σ w I T H w0 X I0 a lab) (isS : Bool) {len cap : Nat} {lo hi mx : Option Operand} {i j m : Int} (hi0 : bnd (lo.map (ev T)) 0 = some i) (hj0 : bnd (hi.map (ev T)) len = some j) (hm0 : bnd (mx.map (ev T)) cap = some m)
    (hmh : mx.isSome = true → hi.isSome = true) (h1 : 0 ≤ i) (h2 : i ≤ j) (h3 : j ≤ m) (h4 : m ≤ cap) :
    (Instr.sliceBounds isS len cap (lo.map a.eval) (hi.map a.eval) (mx.map a.eval)).run P w = .ok (i.toNat, j.toNat, m.toNat) w := by
  have bnd_some : ∀ {x : Operand} {d : Nat} {n : Int}, bnd (some (ev T x)) d = some n → ∃ kd, ev T x = some (.p (.int kd n)) := by
    intro x d n hb
    unfold bnd at hb
    split at hb
    · rename_i he; cases he
    · rename_i kd n' he
      injection hb with hb; subst hb
      injection he with he
      exact ⟨kd, he⟩
    · cases hb
  have bnd_none : ∀ {d : Nat} {n : Int}, bnd none d = some n → n = d := fun hb => by injection hb with hb; exact hb.symm
  unfold Instr.sliceBounds
  cases mx with
  | none =>
    have hm := bnd_none hm0
    subst hm
    cases hi with
    | none =>
      have hj := bnd_none hj0
      subst hj
      cases lo with
      | none =>
        have := bnd_none hi0
        subst this
        simp
      | some lo =>
        obtain ⟨kd, hl⟩ := bnd_some hi0
        simp [run_bound h hl h1 h2]
    | some hi =>
      obtain ⟨kd, hj⟩ := bnd_some hj0
      cases lo with
      | none =>
        have := bnd_none hi0
        subst this
        simp [run_bound h hj (by omega) h3]
      | some lo =>
        obtain ⟨kd', hl⟩ := bnd_some hi0
        have e : ((j.toNat : Nat) : Int) = j := by omega
        simp [run_bound h hj (by omega) h3, run_bound (y := j.toNat) h hl h1 (by omega)]
  | some mx =>
    obtain ⟨km, hm⟩ := bnd_some hm0
    cases hi with
    | none => exact absurd (hmh rfl) (by simp)
    | some hi =>
      obtain ⟨kd, hj⟩ := bnd_some hj0
      cases lo with
      | none =>
        have := bnd_none hi0
        subst this
        simp [run_bound h hm (by omega) h4, run_bound (y := m.toNat) h hj (by omega) (by omega)]
      | some lo =>
        obtain ⟨kd', hl⟩ := bnd_some hi0
        simp [run_bound h hm (by omega) h4, run_bound (y := m.toNat) h hj (by omega) (by omega), run_bound (y := j.toNat) h hl h1 (by omega)]

theorem str_extract (l : List UInt8) (i j : Nat) : (⟨⟨l⟩⟩ : ByteArray).extract i j = ⟨⟨(l.take j).drop i⟩⟩ := by
  apply ByteArray.ext
  apply Array.ext'
  simp [List.drop_take]

def sliceP (es : List (List PV)) (len : Nat) (lo hi mx : Option (Option AV)) (k : Eff → Prop) : Prop :=
  match bnd lo 0, bnd hi len with
  | some i, some j => match mx with
    | none => (0 ≤ i ∧ i ≤ j ∧ j ≤ len) ∧ k ⟨some (.p (.slice ((es.take j.toNat).drop i.toNat))), []⟩
    | some _ => match bnd mx len with
      | some m => (0 ≤ i ∧ i ≤ j ∧ j ≤ m ∧ m ≤ len ∧ hi.isSome = true) ∧ (m = j ∧ k ⟨some (.ex ((es.take j.toNat).drop i.toNat)), []⟩)
      | none => False
  | _, _ => False
def sliceW (P : Program) (t : TypeId) (x : Option AV) (lo hi mx : Option (Option AV)) (H : Nat → Option Blk) (k : Eff → Prop) : Prop :=
  match P.underlying t with
  | some .string => match x, mx with
    | some (.p (.str l)), none => sliceStr l lo hi k
    | _, _ => False
  | some (.slice e) => match x with
    | some (.p (.slice es)) => (∀ y ∈ es, tsize P e = some y.length) ∧ (tsize P e ≠ none) ∧ sliceP es es.length lo hi mx k
    | some (.ex es) => (∀ y ∈ es, tsize P e = some y.length) ∧ (tsize P e ≠ none) ∧ sliceP es es.length lo hi mx k
    | some (.own l) => match H l with
      | some (.row sz es) => match bnd lo 0, bnd hi es.length, mx with
        | some i, some j, none => tsize P e = some sz ∧ es ≠ [] ∧ (0 ≤ i ∧ i ≤ j ∧ j ≤ es.length) ∧ k ⟨some (.cut l i.toNat (j.toNat - i.toNat)), []⟩
        | _, _, _ => False
      | _ => False
    | some (.vw es more) => match bnd lo 0, hi, bnd hi 0, mx with
      | some i, some _, some j, none => (∀ y ∈ es ++ more, tsize P e = some y.length) ∧ tsize P e ≠ none ∧ es ++ more ≠ [] ∧ (0 ≤ i ∧ i ≤ j ∧ j ≤ es.length + more.length) ∧ k ⟨some (.p (.slice (((es ++ more).take j.toNat).drop i.toNat))), []⟩
      | _, _, _, _ => False
    | _ => False
  | _ => False

theorem rep_cut {b off n c sz : Nat} {es : List (List PV)} (hsz : ∀ y ∈ es, y.length = sz) (h : rep w I (.slice (some ⟨b, off, none⟩) n c) (.slice es)) {i j m : Nat} (h1 : i ≤ j) (h2 : j ≤ es.length) (h3 : j ≤ m) :
    rep w I (.slice (if m = i then some ⟨b, off, none⟩ else some ⟨b, off + i * sz, none⟩) (j - i) (m - i)) (.slice ((es.take j).drop i)) := by
  by_cases he : i = j
  · subst he
    have : (es.take i).drop i = [] := by rw [List.drop_eq_nil_iff]; rw [List.length_take]; omega
    rw [this, Nat.sub_self]
    exact .empty _ _
  · rw [if_neg (by omega)]
    cases h with
    | empty => simp at h2; omega
    | slice _ _ _ _ sz' _ us hn hc hs hI hone hcell hrep =>
      have hes : sz' = sz := by
        have : 0 < es.length := by omega
        rw [← hs es[0] (List.getElem_mem this), hsz es[0] (List.getElem_mem this)]
      subst hes
      have hl : ((es.take j).drop i).length = j - i := by rw [List.length_drop, List.length_take]; omega
      have hget : ∀ q e, ((es.take j).drop i)[q]? = some e → es[i + q]? = some e := fun q e hq => by
        rw [List.getElem?_drop, List.getElem?_take] at hq
        split at hq
        · exact hq
        · cases hq
      refine .slice b (off + i * sz') (j - i) (m - i) sz' _ (fun q r => us (i + q) r) hl.symm (by omega) (fun e he' => hs e ?_) hI (fun e he' => hone e ?_) (fun q e r p h5 h6 => ?_) (fun q e r p h5 h6 => hrep _ _ _ _ (hget q e h5) h6)
      · exact List.mem_of_mem_take (List.mem_of_mem_drop he')
      · exact List.mem_of_mem_take (List.mem_of_mem_drop he')
      · have := hcell _ _ r p (hget q e h5) h6
        rw [Nat.add_mul] at this
        rw [← this]
        congr 2
        omega

theorem snd_slice (h : In σ w I T H w0 X I0 a lab) {t : TypeId} {x : Operand} {lo hi mx : Option Operand} (ho : o.op = .slice t x lo hi mx) (hk : sliceW P t (ev T x) (lo.map (ev T)) (hi.map (ev T)) (mx.map (ev T)) H k) : Snd P o a w σ I H w0 X I0 lab k := by
  unfold sliceW at hk
  split at hk
  · rename_i hu
    split at hk
    · rename_i l hp hmx
      have hmx' : mx = none := by cases mx <;> simp at hmx; rfl
      subst hmx'
      unfold sliceStr at hk
      split at hk
      · rename_i i j hi' hj'
        obtain ⟨⟨h1, h2, h3⟩, hk⟩ := hk
        have hx := h.ev hp
        generalize hxv : a.eval x = xv at hx
        cases hx with
        | p hx =>
        cases hx with
        | str =>
        have hb := run_bounds (P := P) h false (len := l.length) (cap := l.length) hi' hj' (mx := none) (m := (l.length : Int)) rfl (by simp) h1 h2 h3 (Int.le_refl _)
        refine Snd.val h (v := .string ⟨⟨(l.take j.toNat).drop i.toNat⟩⟩) ?_ (.p (.str _)) hk
        have hs : (⟨⟨l⟩⟩ : ByteArray).size = l.length := rfl
        simp only [Option.map_none] at hb
        simp only [execOp, ho, Instr.sliceAt, hxv, Sem.run_bind, run_underlying' hu, Result.andThen_ok, Instr.slice, Option.map_none, Option.isSome_none, Bool.false_eq_true, if_false, hs, hb, Sem.run_pure, str_extract]
      · exact hk.elim
    · exact hk.elim
  · rename_i e hu
    have run : ∀ ad (len cap i j m sz : Nat), a.eval x = .slice ad len cap → tsize P e = some sz → (Instr.sliceBounds true len cap (lo.map a.eval) (hi.map a.eval) (mx.map a.eval)).run P w = .ok (i, j, m) w →
        (execOp a.eval o).run P w = .ok (.value (.slice (if m = i then ad else ad.map (·.add (i * sz))) (j - i) (m - i))) w := by
      intro ad len cap i j m sz hx hsz hb
      simp only [execOp, ho, Instr.sliceAt, hx, Sem.run_bind, run_underlying' hu, Result.andThen_ok, Instr.slice, hb, run_sizeOf' hsz, Sem.run_pure]
    have pure : ∀ es ad cap, a.eval x = .slice ad es.length cap → (mx.isSome = true → True) → rep w I (.slice ad es.length cap) (.slice es) → (∀ y ∈ es, tsize P e = some y.length) → tsize P e ≠ none → sliceP es es.length (lo.map (ev T)) (hi.map (ev T)) (mx.map (ev T)) k → Snd P o a w σ I H w0 X I0 lab k := by
      intro es ad cap hx _ hr hsz hsn hk2
      obtain ⟨sz, hs⟩ := Option.ne_none_iff_exists'.1 hsn
      have hlen : ∀ y ∈ es, y.length = sz := fun y hy => by have := hsz y hy; rw [hs] at this; injection this with this; exact this.symm
      have hcap : es.length ≤ cap := by
        generalize es.length = n at hr ⊢
        cases hr with
        | empty => exact Nat.zero_le _
        | slice _ _ _ _ _ _ _ _ hc => exact hc
      have repc : ∀ i j m : Nat, i ≤ j → j ≤ es.length → j ≤ m → rep w I (.slice (if m = i then ad else ad.map (·.add (i * sz))) (j - i) (m - i)) (.slice ((es.take j).drop i)) := by
        intro i j m q1 q2 q3
        by_cases he : es = []
        · subst he
          have : j = 0 := by simpa using q2
          subst this
          have : i = 0 := by omega
          subst this
          simp only [List.take_nil, List.drop_nil, Nat.sub_self]
          exact .empty _ _
        · have hr' := hr
          have hpos : 0 < es.length := List.length_pos_iff.2 he
          cases ad with
          | none =>
            exfalso
            generalize hn : es.length = n at hr
            cases hr with
            | empty => simp at he
          | some ad =>
            obtain ⟨b, off, rfl⟩ : ∃ b off, ad = ⟨b, off, none⟩ := by
              generalize hn : es.length = n at hr
              cases hr with
              | empty => simp at he
              | slice b o' => exact ⟨b, o', rfl⟩
            have := rep_cut hlen hr' q1 q2 q3
            simpa [add_none] using this
      unfold sliceP at hk2
      split at hk2
      · rename_i i j hi' hj'
        split at hk2
        · rename_i hmx
          have hmx' : mx = none := by cases mx <;> simp at hmx; rfl
          subst hmx'
          obtain ⟨⟨h1, h2, h3⟩, hk2⟩ := hk2
          have hb := run_bounds (P := P) h true (len := es.length) (cap := cap) hi' hj' (mx := none) (m := (cap : Int)) rfl (by simp) h1 h2 (by omega) (Int.le_refl _)
          exact Snd.val h (run _ _ _ _ _ _ _ hx hs hb) (.p (repc _ _ _ (by omega) (by omega) (by omega))) hk2
        · rename_i mo hmx
          split at hk2
          · rename_i m hm'
            obtain ⟨⟨h1, h2, h3, h4, h5⟩, rfl, hk2⟩ := hk2
            have hm'' : bnd (mx.map (ev T)) cap = some m := by
              rw [hmx] at hm' ⊢
              revert hm'
              unfold bnd
              rcases mo with _ | v
              · simp
              · cases v with
                | p x => cases x <;> simp
                | _ => simp
            have hb := run_bounds (P := P) h true (len := es.length) (cap := cap) hi' hj' hm'' (by intro _; cases hi <;> simp at h5 ⊢) h1 h2 h3 (by omega)
            have hr' := repc i.toNat m.toNat m.toNat (by omega) (by omega) (Nat.le_refl _)
            refine Snd.val h (run _ _ _ _ _ _ _ hx hs hb) (.ex ?_ hr') hk2
            rw [List.length_drop, List.length_take]
            omega
          · exact hk2.elim
      · exact hk2.elim
    split at hk
    · rename_i es hp
      obtain ⟨q1, q2, hk⟩ := hk
      have hx := h.ev hp
      generalize hxv : a.eval x = xv at hx
      cases hx with
      | p hx =>
      obtain ⟨ad, c, rfl⟩ := slice_len hx
      exact pure es ad c hxv (fun _ => trivial) hx q1 q2 hk
    · rename_i es hp
      obtain ⟨q1, q2, hk⟩ := hk
      have hx := h.ev hp
      generalize hxv : a.eval x = xv at hx
      cases hx with
      | ex hn hx => subst hn; exact pure es _ _ hxv (fun _ => trivial) hx q1 q2 hk
    · rename_i l hp
      split at hk
      · rename_i sz es hH
        split at hk
        · rename_i i j hi' hj' hmx
          have hmx' : mx = none := by cases mx <;> simp at hmx; rfl
          subst hmx'
          obtain ⟨hs, hne, ⟨h1, h2, h3⟩, hk⟩ := hk
          have hx := h.ev hp
          have hbb := h.heap.rows l _ hH
          generalize hxv : a.eval x = xv at hx
          cases hbb with
          | emp h' => exact absurd rfl hne
          | row h' hg hcur hc hl hon hr =>
            cases hx with
            | ownE hs' => rw [hs'] at h'; cases h'
            | own hs' =>
              rw [hs'] at h'
              injection h' with h'
              injection h' with e1 e2 e3 e4
              subst e1 e2 e3 e4
              rename_i gg g' szz
              have hb := run_bounds (P := P) h true (len := es.length) (cap := g') hi' hj' (mx := none) (m := (g' : Int)) rfl (by simp) h1 h2 (by omega) (Int.le_refl _)
              refine Snd.val h (run _ _ _ _ _ _ _ hxv hs hb) ?_ hk
              have := repA.cut (σ := σ) (w := w) (I := I) (lo := i.toNat) (m := j.toNat - i.toNat) hs' (by omega) hc
              simpa [add_none] using this
        · exact hk.elim
      · exact hk.elim
    · rename_i es more hp
      split at hk
      · rename_i i hh0 j hi' hhi hj' hmx
        have hmx' : mx = none := by cases mx <;> simp at hmx; rfl
        subst hmx'
        obtain ⟨hsz, hsn, hne, ⟨h1, h2, h3⟩, hk⟩ := hk
        obtain ⟨sz, hs⟩ := Option.ne_none_iff_exists'.1 hsn
        have hlen : ∀ y ∈ es ++ more, y.length = sz := fun y hy => by have := hsz y hy; rw [hs] at this; injection this with this; exact this.symm
        have hx := h.ev hp
        generalize hxv : a.eval x = xv at hx
        cases hx with
        | vw hn hm hc hx =>
          rename_i ad n m c
          subst hn hm
          have hjb : bnd (hi.map (ev T)) es.length = some j := by
            revert hj'
            cases hi with
            | none => simp at hhi
            | some y =>
              rw [Option.map_some]
              rcases hyv : ev T y with _ | v
              · simp [bnd]
              · cases v with
                | p x => cases x <;> simp [bnd]
                | _ => simp [bnd]
          have hb := run_bounds (P := P) h true (len := es.length) (cap := c) hi' hjb (mx := none) (m := (c : Int)) rfl (by simp) h1 h2 (by omega) (Int.le_refl _)
          refine Snd.val h (run _ _ _ _ _ _ _ hxv hs hb) (.p ?_) hk
          obtain ⟨b, off, rfl⟩ : ∃ b off, ad = some ⟨b, off, none⟩ := by
            have hpos : 0 < es.length + more.length := by rw [← List.length_append]; exact List.length_pos_iff.2 hne
            generalize hq : es.length + more.length = q at hx
            generalize hxs : es ++ more = xs at hx
            cases hx with
            | empty => exact absurd hxs hne
            | slice b o' => exact ⟨b, o', rfl⟩
          have := rep_cut (i := i.toNat) (j := j.toNat) (m := c) hlen hx (by omega) (by rw [List.length_append]; omega) (by omega)
          simpa [add_none] using this
      · exact hk.elim
    · exact hk.elim
  · exact hk.elim
end
end Go.Aw
