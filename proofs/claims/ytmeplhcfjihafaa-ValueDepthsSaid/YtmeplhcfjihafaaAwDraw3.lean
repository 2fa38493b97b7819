/- Regions whose order Go leaves open: why every order comes to the same. -/
import Derived.Test.YtmeplhcfjihafaaAwDraw2
namespace Go.Aw
open Go.RowKit

def open_ (n : Nat) (listed : Array Bool) : List Nat := (List.range n).filter fun i => !listed.getD i true

section
variable {P : Program} {nt : Fm} {b : Bool} {ops : Array Oper} {L : List (Oper × Rec)} {nx : Nat} {T0 : Nat → Option AV} {H0 : Nat → Option Blk} {w0 : World} {X I0 : Nat → Prop}

/-- What holds when just the operations of D have been run. -/
def Inv (nt : Fm) (L : List (Oper × Rec)) (nx : Nat) (T0 : Nat → Option AV) (H0 : Nat → Option Blk) (w0 : World) (X I0 : Nat → Prop) (D : Nat → Bool) (a : Act) (w : World) : Prop :=
  ∃ σ I, Match nt w0 X I0 σ I (foldT D L 0 T0) (foldH D L 0 H0) a w ∧ ∀ l s, nx ≤ l → σ l = some s → ∃ j, l = nx + j ∧ D j = true

structure Sound (P : Program) (nt : Fm) (ops : Array Oper) (L : List (Oper × Rec)) (nx : Nat) (T0 : Nat → Option AV) (H0 : Nat → Option Blk) (b : Bool) : Prop where
  dst : ops.toList.all (dstOK nt) = true
  len : L.length = ops.size
  opers : ∀ (i : Nat) o r, L[i]? = some (o, r) → ops[i]? = some o
  static : staticOK ops.toList = true
  heap : ∀ i j o r o' r', i < j → L[i]? = some (o, r) → L[j]? = some (o', r') → (∀ l, l ∈ r.writes → l ∉ eReads b o'.op r'.reads ∧ l ∉ r'.writes) ∧ (∀ l, l ∈ r'.writes → l ∉ eReads b o.op r.reads) ∨ ahead ops.toList ops.toList.length i j = true
  stores : b = true → ∀ x ∈ L, x.2.writes ≠ [] → isStore x.1.op = true
  chain : Chain P ops.toList nx L T0 H0

theorem Sound.step (S : Sound P nt ops L nx T0 H0 b) {D : Nat → Bool} {i : Nat} {K : Act → World → Prop} {Q : Exit → Act → World → Prop} {a : Act} {w : World}
    (hcl : ∀ j o e, ops.toList[j]? = some o → D j = true → e ∈ o.after.toList → Region.binds .any e = true → D e.on = true) (hi : i < ops.size) (hDi : D i = false)
    (hdep : ∀ o, ops.toList[i]? = some o → ∀ e ∈ o.after.toList, Region.binds .any e = true → D e.on = true)
    (inv : Inv nt L nx T0 H0 w0 X I0 D a w) (hK : ∀ a w, Inv nt L nx T0 H0 w0 X I0 (fun j => D j || j == i) a w → K a w) : wpOp P ops Q i K a w := by
  obtain ⟨σ, I, m, hσ⟩ := inv
  obtain ⟨x, hx⟩ : ∃ x, L[i]? = some x := ⟨_, List.getElem?_eq_getElem (by rw [S.len]; exact hi)⟩
  obtain ⟨o, r⟩ := x
  have ho := S.opers i o r hx
  have ho' : ops.toList[i]? = some o := by rw [Array.getElem?_toList]; exact ho
  have hdo : dstOK nt o = true := List.all_eq_true.1 S.dst o (List.mem_of_getElem? ho')
  have hst := chain_at L 0 nx T0 H0 S.chain i o r hx
  simp only [Nat.zero_add] at hst
  have hstat := S.static
  simp only [staticOK, Bool.and_eq_true] at hstat
  have hDlab : D i = false → σ (nx + i) = none := by
    intro _
    cases hs : σ (nx + i) with
    | none => rfl
    | some s =>
      obtain ⟨j, hj, hDj⟩ := hσ _ s (Nat.le_add_right _ _) hs
      have : j = i := by omega
      subst this
      rw [hDi] at hDj
      cases hDj
  -- operations that may change places with this one
  have before : ∀ j, ahead ops.toList ops.toList.length j i = true → D j = true := fun j h => ahead_dep hcl ho' (hdep o ho') _ j h
  have after : ∀ j, ahead ops.toList ops.toList.length i j = true → D j = false := fun j h => by
    cases hj : D j with
    | false => rfl
    | true =>
      have := ahead_done hcl _ i j h hj
      rw [hDi] at this
      cases this
  have hlt : ∀ {j : Nat} {y : Oper × Rec}, L[j]? = some y → j < ops.toList.length := fun h => by
    have := (List.getElem?_eq_some_iff.1 h).1
    rw [Array.length_toList, ← S.len]
    exact this
  have apartT : ∀ j o' r', j ≠ i → L[j]? = some (o', r') → (∀ d, o'.dst = some d → d ∉ o.looksAt ops ∧ o.dst ≠ some d) ∨ (j < i ∧ D j = true) ∨ (i < j ∧ D j = false) := by
    intro j o' r' hne hj
    have hoj : ops.toList[j]? = some o' := by rw [Array.getElem?_toList]; exact S.opers j o' r' hj
    have e : ops.toList.toArray = ops := by simp
    rcases Nat.lt_or_gt_of_ne hne with q | q
    · rcases pairs_spec hstat.2 q (hlt hx) with h | h
      · left
        simp only [tmpsApart, hoj, ho', e] at h
        obtain ⟨h1, h2, _⟩ := Oper.apart_spec h
        exact fun d hd => ⟨h1 d hd, h2 d hd⟩
      · exact .inr (.inl ⟨q, before j h⟩)
    · rcases pairs_spec hstat.2 q (hlt hj) with h | h
      · left
        simp only [tmpsApart, hoj, ho', e] at h
        obtain ⟨h1, h2, h3⟩ := Oper.apart_spec h
        exact fun d hd => ⟨h3 d hd, fun h => h2 d h hd⟩
      · exact .inr (.inr ⟨q, after j h⟩)
  have apartH : ∀ j o' r', j ≠ i → L[j]? = some (o', r') → (∀ l, l ∈ r'.writes → l ∉ eReads b o.op r.reads ∧ l ∉ r.writes) ∨ (j < i ∧ D j = true) ∨ (i < j ∧ D j = false) := by
    intro j o' r' hne hj
    rcases Nat.lt_or_gt_of_ne hne with q | q
    · rcases S.heap j i o' r' o r q hj hx with ⟨h1, h2⟩ | h
      · exact .inl h1
      · exact .inr (.inl ⟨q, before j h⟩)
    · rcases S.heap i j o r o' r' q hx hj with ⟨h1, h2⟩ | h
      · exact .inl fun l hl => ⟨h2 l hl, fun h => (h1 l h).2 hl⟩
      · exact .inr (.inr ⟨q, after j h⟩)
  -- what it looks at is what it looks at in the text's order
  have sameT : ∀ t, t ∈ o.looksAt ops → foldT D L 0 T0 t = foldT (fun j => decide (j < i)) L 0 T0 t := by
    intro t ht
    refine foldT_eq L 0 _ _ rfl fun j y hj hy => ?_
    obtain ⟨o', r'⟩ := y
    rw [Nat.zero_add]
    by_cases hne : j = i
    · subst hne; rw [hDi]; simp
    · rcases apartT j o' r' hne hj with h | ⟨h1, h2⟩ | ⟨h1, h2⟩
      · exact absurd ht (h t hy).1
      · rw [h2]; simp [h1]
      · rw [h2]; simp; omega
  have sameH : ∀ l, l ∈ eReads b o.op r.reads → foldH D L 0 H0 l = foldH (fun j => decide (j < i)) L 0 H0 l := by
    intro t ht
    refine foldH_eq L 0 _ _ rfl fun j y hj hy => ?_
    obtain ⟨o', r'⟩ := y
    rw [Nat.zero_add]
    by_cases hne : j = i
    · subst hne; rw [hDi]; simp
    · rcases apartH j o' r' hne hj with h | ⟨h1, h2⟩ | ⟨h1, h2⟩
      · exact absurd ht (h t hy).1
      · rw [h2]; simp [h1]
      · rw [h2]; simp; omega
  have evSame : ∀ y ∈ o.op.operands.toList, ev (foldT D L 0 T0) y = ev (foldT (fun j => decide (j < i)) L 0 T0) y := by
    intro y hy
    cases y with
    | tmp t => exact sameT t (List.mem_append_left _ (List.mem_filterMap.2 ⟨.tmp t, hy, rfl⟩))
    | _ => rfl
  have guardSame : guardIs ops.toList o (foldT D L 0 T0) = guardIs ops.toList o (foldT (fun j => decide (j < i)) L 0 T0) := by
    unfold guardIs
    cases hg : o.guard with
    | none => rfl
    | some jw =>
      obtain ⟨j, want⟩ := jw
      simp only
      cases hd : (ops.toList[j]?).bind (·.dst) with
      | none => rfl
      | some d =>
        simp only [Option.bind_some]
        rw [sameT d (List.mem_append_right _ (by simp only [hg]; rw [Array.getElem?_toList] at hd; simp [hd]))]
  -- the state behind it
  have newT : putT (foldT D L 0 T0) o.dst r.val = foldT (fun j => D j || j == i) L 0 T0 := by
    funext t
    by_cases ht : o.dst = some t
    · have e1 : putT (foldT D L 0 T0) o.dst r.val t = r.val := by simp only [ht, putT, upd_same]
      rw [e1]
      refine (foldT_at L 0 T0 i o r hx ht (by simp) fun j y hij hj hy => ?_).symm
      obtain ⟨o', r'⟩ := y
      rw [Nat.zero_add]
      rcases apartT j o' r' (by omega) hj with h | ⟨h1, h2⟩ | ⟨h1, h2⟩
      · exact absurd ht (h t hy).2
      · omega
      · rw [h2]; simp; omega
    · rw [putT_ne ht]
      refine foldT_eq L 0 _ _ rfl fun j y hj hy => ?_
      rw [Nat.zero_add]
      have : j ≠ i := by
        rintro rfl
        rw [hx] at hj
        injection hj with hj
        subst hj
        exact ht hy
      simp [this]
  have newH : putH (foldH D L 0 H0) r.upds = foldH (fun j => D j || j == i) L 0 H0 := by
    funext t
    by_cases ht : t ∈ r.writes
    · rw [putH_in _ _ (fun _ => none) ht]
      refine (foldH_at L 0 H0 i o r hx ht (by simp) fun j y hij hj hy => ?_).symm
      obtain ⟨o', r'⟩ := y
      rw [Nat.zero_add]
      rcases apartH j o' r' (by omega) hj with h | ⟨h1, h2⟩ | ⟨h1, h2⟩
      · exact absurd ht (h t hy).2
      · omega
      · rw [h2]; simp; omega
    · rw [putH_out _ _ ht]
      refine foldH_eq L 0 _ _ rfl fun j y hj hy => ?_
      rw [Nat.zero_add]
      have : j ≠ i := by
        rintro rfl
        rw [hx] at hj
        injection hj with hj
        subst hj
        exact ht hy
      simp [this]
  have hwant : ∀ b, guardIs ops.toList o (foldT D L 0 T0) = some b → Region.wanted o (yielded ops a.tmps) = b := by
    intro b hb
    unfold guardIs at hb
    cases hg : o.guard with
    | none =>
      rw [hg] at hb
      injection hb with hb
      simp [Region.wanted, hg, hb]
    | some jw =>
      obtain ⟨j, want⟩ := jw
      rw [hg] at hb
      simp only at hb
      split at hb
      · rename_i b' hb'
        injection hb with hb
        obtain ⟨d, hd1, hd2⟩ := Option.bind_eq_some_iff.1 hb'
        rw [Array.getElem?_toList] at hd1
        obtain ⟨u, hu, hru⟩ := m.tmps d _ hd2
        have hy : yielded ops a.tmps j = some b' := by
          cases hru with
          | p h => cases h; simp [yielded, hd1, hu]
        simp only [Region.wanted, hg, hy, ← hb]
        cases b' <;> cases want <;> rfl
      · cases hb
  unfold wpOp
  rw [ho]
  simp only
  unfold StepOK at hst
  cases he : r.eff with
  | some e =>
    rw [he] at hst
    obtain ⟨hg, hop, hr⟩ := hst
    rw [if_pos (hwant true (guardSame.trans hg))]
    have hop' : opW P (nx + i) o.op (foldT D L 0 T0) (foldH D L 0 H0) fun e' => e' = e := by
      cases hbs : (b && softOp o.op) with
      | true =>
        have hb := (Bool.and_eq_true_iff.1 hbs).1
        have hsf := (Bool.and_eq_true_iff.1 hbs).2
        rw [loc_soft hsf evSame (fun l => (shp_fold D L 0 nx T0 H0 H0 S.chain (S.stores hb) (fun _ => rfl) l).trans (shp_fold _ L 0 nx T0 H0 H0 S.chain (S.stores hb) (fun _ => rfl) l).symm)]
        exact hop
      | false =>
        rw [loc_op evSame (fun l hl => sameH l (by unfold eReads; rw [hbs]; simp only [Bool.false_eq_true, if_false]; rw [hr]; exact hl))]
        exact hop
    left
    refine snd_op (w0 := w0) (X := X) (I0 := I0) ⟨m.heap, m.tmps, hDlab hDi⟩ hop' _ _ fun e' v w' σ' I' hk out => hK _ _ ?_
    subst hk
    refine ⟨σ', I', ?_, fun l s hl hs => ?_⟩
    · have := m.put hdo out.heap out.ext out.imm out.same out.val
      have e1 : r.val = e'.val := by simp [Rec.val, he]
      have e2 : r.upds = e'.upd := by simp [Rec.upds, he]
      rw [← newT, ← newH, e1, e2]
      exact this
    · by_cases hll : l = nx + i
      · exact ⟨i, hll, by simp⟩
      · rw [out.lab l hll] at hs
        obtain ⟨j, h1, h2⟩ := hσ l s hl hs
        exact ⟨j, h1, by simp [h2]⟩
  | none =>
    rw [he] at hst
    rw [if_neg (by rw [hwant false (guardSame.trans hst)]; simp)]
    refine hK _ _ ⟨σ, I, ?_, fun l s hl hs => ?_⟩
    · have := m.put (v := undef) (x := none) hdo m.heap (fun _ _ h => h) (fun _ h => h) (fun _ _ => rfl) (fun y hy => by cases hy)
      have e1 : r.val = none := by simp [Rec.val, he]
      have e2 : r.upds = [] := by simp [Rec.upds, he]
      rw [← newT, ← newH, e1, e2]
      exact this
    · obtain ⟨j, h1, h2⟩ := hσ l s hl hs
      exact ⟨j, h1, by simp [h2]⟩

theorem ready_mem {listed : Array Bool} {i : Nat} (h : i ∈ Region.ready .any ops listed) : i < ops.size ∧ listed.getD i true = false ∧ ∀ o, ops.toList[i]? = some o → ∀ e ∈ o.after.toList, Region.binds .any e = true → listed.getD e.on false = true := by
  unfold Region.ready at h
  obtain ⟨h1, h2⟩ := List.mem_filter.1 h
  simp only [Bool.and_eq_true, Bool.not_eq_true'] at h2
  refine ⟨List.mem_range.1 h1, h2.1, fun o ho e he hb => ?_⟩
  rw [Array.getElem?_toList] at ho
  rw [ho] at h2
  simp only [Option.map_some, Option.getD_some] at h2
  have := Array.all_eq_true_iff_forall_mem.1 h2.2 e (by simpa using he)
  simpa [hb] using this

theorem Sound.any (S : Sound P nt ops L nx T0 H0 b) {Q : Exit → Act → World → Prop} (hQ : ∀ a w, Inv nt L nx T0 H0 w0 X I0 (fun j => decide (j < ops.size)) a w → Q .normal a w) :
    ∀ (fuel : Nat) (listed : Array Bool) (a : Act) (w : World), listed.size = ops.size → (open_ ops.size listed).length ≤ fuel →
      (∀ j o e, ops.toList[j]? = some o → listed.getD j false = true → e ∈ o.after.toList → Region.binds .any e = true → listed.getD e.on false = true) →
      Inv nt L nx T0 H0 w0 X I0 (fun j => listed.getD j false) a w → wpAny P .any ops Q fuel listed a w := by
  have getD_ne : ∀ (listed : Array Bool) (i : Nat), listed.size = ops.size → i < ops.size → listed.getD i true = listed.getD i false := by
    intro listed i hs hi
    have : i < listed.size := by omega
    simp [Array.getD, this]
  have full : ∀ (listed : Array Bool), listed.size = ops.size → Region.ready .any ops listed = [] → ∀ i, i < ops.size → listed.getD i false = true := by
    intro listed hs hr i
    induction i using Nat.strongRecOn with
    | _ i ih =>
      intro hi
      cases hd : listed.getD i false with
      | true => rfl
      | false =>
        exfalso
        have : i ∈ Region.ready .any ops listed := by
          unfold Region.ready
          refine List.mem_filter.2 ⟨List.mem_range.2 hi, ?_⟩
          rw [getD_ne listed i hs hi, hd, Array.getElem?_eq_getElem hi]
          simp only [Bool.not_false, Bool.true_and, Option.map_some, Option.getD_some]
          rw [Array.all_eq_true_iff_forall_mem]
          intro e he
          cases hb : Region.binds .any e with
          | false => rfl
          | true =>
            simp only [Bool.not_true, Bool.false_or]
            have hst := S.static
            simp only [staticOK, Bool.and_eq_true] at hst
            have h1 := List.all_eq_true.1 hst.1 i (List.mem_range.2 (by simpa using hi))
            rw [Array.getElem?_toList, Array.getElem?_eq_getElem hi] at h1
            simp only at h1
            have h2 := List.all_eq_true.1 h1 e (by simpa using he)
            rw [hb] at h2
            simp only [Bool.not_true, Bool.false_or, decide_eq_true_eq] at h2
            exact ih e.on h2 (by omega)
        rw [hr] at this
        cases this
  have done : ∀ (listed : Array Bool) a w, listed.size = ops.size → Region.ready .any ops listed = [] → Inv nt L nx T0 H0 w0 X I0 (fun j => listed.getD j false) a w → Q .normal a w := by
    intro listed a w hs hr inv
    refine hQ a w ?_
    have : (fun j => listed.getD j false) = fun j => decide (j < ops.size) := by
      funext j
      by_cases hj : j < ops.size
      · rw [full listed hs hr j hj]; simp [hj]
      · have : ¬ j < listed.size := by omega
        simp [Array.getD, this, hj]
    rw [this] at inv
    exact inv
  intro fuel
  induction fuel with
  | zero =>
    intro listed a w hs hf hcl inv
    have hr : Region.ready .any ops listed = [] := by
      cases h : Region.ready .any ops listed with
      | nil => rfl
      | cons i l =>
        exfalso
        obtain ⟨h1, h2, _⟩ := ready_mem (show i ∈ Region.ready .any ops listed by rw [h]; simp)
        have : i ∈ open_ ops.size listed := List.mem_filter.2 ⟨List.mem_range.2 h1, by rw [h2]; rfl⟩
        have := List.length_pos_of_mem this
        omega
    exact ⟨hr, done listed a w hs hr inv⟩
  | succ fuel ih =>
    intro listed a w hs hf hcl inv
    refine ⟨fun hr => done listed a w hs hr inv, fun i hi => ?_⟩
    obtain ⟨h1, h2, h3⟩ := ready_mem hi
    have hD : (fun j => (listed.setIfInBounds i true).getD j false) = fun j => listed.getD j false || j == i := by
      funext j
      by_cases hj : j = i
      · subst hj
        have : j < listed.size := by omega
        simp [Array.getD, this]
      · by_cases hjs : j < listed.size
        · have e1 : (j == i) = false := by simpa using hj
          have e2 : ¬ i = j := fun h => hj h.symm
          simp [Array.getD, hjs, e1, e2]
        · have e1 : (j == i) = false := by simpa using hj
          simp [Array.getD, hjs, e1]
    refine S.step (D := fun j => listed.getD j false) hcl h1 (by rw [← getD_ne listed i hs h1]; exact h2) h3 inv fun a w inv' => ?_
    · refine ih _ a w (by simpa using hs) ?_ (fun j o e ho hj he hb => ?_) (by rw [hD]; exact inv')
      · have hmem : i ∈ open_ ops.size listed := List.mem_filter.2 ⟨List.mem_range.2 h1, by rw [h2]; rfl⟩
        have hsub : open_ ops.size (listed.setIfInBounds i true) = (open_ ops.size listed).filter fun j => j != i := by
          unfold open_
          rw [List.filter_filter]
          apply List.filter_congr
          intro j hj
          have hj' := List.mem_range.1 hj
          rw [getD_ne _ j (by simpa using hs) hj', getD_ne _ j hs hj']
          have := congrFun hD j
          rw [this]
          cases listed.getD j false <;> cases hji : j == i <;> simp [bne, hji]
        rw [hsub]
        have : ((open_ ops.size listed).filter fun j => j != i).length < (open_ ops.size listed).length := by
          rw [List.length_filter_lt_length_iff_exists]
          exact ⟨i, hmem, by simp⟩
        omega
      · have hh := congrFun hD
        rw [hh] at hj ⊢
        simp only [Bool.or_eq_true, beq_iff_eq] at hj ⊢
        rcases hj with hj | hj
        · exact .inl (hcl j o e ho hj he hb)
        · subst hj
          exact .inl (h3 o ho e he hb)

/-- A region whose order is drawn. -/
theorem AW.draw {id : Nat} {s : St} {Q : Exit → St → Prop} (hm : P.follows .mixedOrders = true) (hd : ops.toList.all (dstOK nt) = true) (hs : staticOK ops.toList = true)
    (h : drawW P ops.toList s.nx ops.toList s.T s.H fun T H n fs => heapOK ops.toList fs = true ∧ Q .normal ⟨T, H, n⟩) : AW P nt (.region id ops true) s Q := by
  intro w0 X I0 a w ⟨σ, I, hn, m⟩
  refine wp_region_any hm ?_
  obtain ⟨rs, h1, h2, h3, h4⟩ := drawW_chain ops.toList s.nx s.T s.H _ h
  have hz : ∀ (i : Nat) o r, (ops.toList.zip rs)[i]? = some (o, r) → ops.toList[i]? = some o ∧ rs[i]? = some r := by
    intro i o r hi
    rw [List.getElem?_zip_eq_some] at hi
    exact hi
  have S : ∃ b, Sound P nt ops (ops.toList.zip rs) s.nx s.T s.H b := by
    unfold heapOK at h3
    rcases Bool.or_eq_true_iff.1 h3 with h3 | h3
    · refine ⟨false, hd, by rw [List.length_zip, h1, Nat.min_self, Array.length_toList], fun i o r hi => by rw [← Array.getElem?_toList]; exact (hz i o r hi).1, hs, fun i j o r o' r' hij hi hj => ?_, (fun h => by cases h), h2⟩
      have er : ∀ op l, eReads false op l = l := fun op l => by simp [eReads]
      rw [er, er]
      rcases Bool.or_eq_true_iff.1 h3 with h3 | h3
      · left
        have emp : ∀ (q : Nat) o r, (ops.toList.zip rs)[q]? = some (o, r) → r.writes = [] := fun q o r hq => by
          have := List.all_eq_true.1 h3 (foot r) (List.mem_map.2 ⟨r, List.mem_of_getElem? (hz q o r hq).2, rfl⟩)
          simpa [foot] using this
        rw [emp i o r hi, emp j o' r' hj]
        exact ⟨fun l hl => (by cases hl), fun l hl => (by cases hl)⟩
      · rcases pairs_spec h3 hij (by have := (List.getElem?_eq_some_iff.1 (hz j o' r' hj).1).1; exact this) with q | q
        · left
          simp only [heapApart, List.getElem?_map, (hz i o r hi).2, (hz j o' r' hj).2, Option.map_some, foot, Bool.and_eq_true] at q
          exact ⟨fun l hl => ⟨disj_spec q.1.1 hl, disj_spec q.1.2 hl⟩, fun l hl => disj_spec q.2 hl⟩
        · exact .inr q
    · obtain ⟨h3, h4⟩ := Bool.and_eq_true_iff.1 h3
      refine ⟨true, hd, by rw [List.length_zip, h1, Nat.min_self, Array.length_toList], fun i o r hi => by rw [← Array.getElem?_toList]; exact (hz i o r hi).1, hs, fun i j o r o' r' hij hi hj => ?_, fun _ x hx hw => ?_, h2⟩
      · rcases pairs_spec h4 hij (by have := (List.getElem?_eq_some_iff.1 (hz j o' r' hj).1).1; exact this) with q | q
        · left
          simp only [heapApart2, List.getElem?_map, (hz i o r hi).1, (hz j o' r' hj).1, (hz i o r hi).2, (hz j o' r' hj).2, Option.map_some, foot, Bool.and_eq_true] at q
          exact ⟨fun l hl => ⟨disj_spec q.1.1 hl, disj_spec q.1.2 hl⟩, fun l hl => disj_spec q.2 hl⟩
        · exact .inr q
      · obtain ⟨i, hi⟩ := List.getElem?_of_mem hx
        have hm : (x.1, foot x.2) ∈ ops.toList.zip (rs.map foot) := by
          refine List.mem_of_getElem? (i := i) ?_
          rw [List.getElem?_zip_eq_some]
          exact ⟨(hz i x.1 x.2 hi).1, by rw [List.getElem?_map, (hz i x.1 x.2 hi).2]; rfl⟩
        have := List.all_eq_true.1 h3 _ hm
        rcases Bool.or_eq_true_iff.1 this with h | h
        · exact h
        · exact absurd (by simpa [foot] using h) hw
  obtain ⟨b, S⟩ := S
  refine S.any (w0 := w0) (X := X) (I0 := I0) (Q := fun e a' w' => ∃ s', Matches nt w0 X I0 s' a' w' ∧ Q e s') (fun a w inv => ?_) ops.size _ a _ (by simp) (by unfold open_; exact Nat.le_trans (List.length_filter_le _ _) (by simp)) (fun j o e ho hj he hb => ?_) ?_
  · obtain ⟨σ, I, m, hσ⟩ := inv
    have eT : foldT (fun j => decide (j < ops.size)) (ops.toList.zip rs) 0 s.T = foldT (fun _ => true) (ops.toList.zip rs) 0 s.T := by
      funext t
      refine foldT_eq _ 0 _ _ rfl fun j y hj _ => ?_
      have := (List.getElem?_eq_some_iff.1 hj).1
      rw [S.len] at this
      simp [this]
    have eH : foldH (fun j => decide (j < ops.size)) (ops.toList.zip rs) 0 s.H = foldH (fun _ => true) (ops.toList.zip rs) 0 s.H := by
      funext t
      refine foldH_eq _ 0 _ _ rfl fun j y hj _ => ?_
      have := (List.getElem?_eq_some_iff.1 hj).1
      rw [S.len] at this
      simp [this]
    rw [eT, eH] at m
    refine ⟨_, ⟨σ, I, fun l hl => ?_, m⟩, h4⟩
    cases hs' : σ l with
    | none => rfl
    | some sl =>
      obtain ⟨j, h5, h6⟩ := hσ l sl (by simp only at hl; omega) hs'
      simp only [decide_eq_true_eq] at h6
      simp only [Array.length_toList] at hl
      omega
  · by_cases hj' : j < ops.size
    · simp [Array.getD, hj'] at hj
    · simp [Array.getD, hj'] at hj
  · have e0 : (fun j => (Array.replicate ops.size false).getD j false) = fun _ => false := by
      funext j
      by_cases hj : j < ops.size <;> simp [Array.getD, hj]
    rw [e0]
    have nT : ∀ (L : List (Oper × Rec)) c T, foldT (fun _ => false) L c T = T := by
      intro L
      induction L with
      | nil => intro c T; rfl
      | cons x L ih => intro c T; obtain ⟨o, r⟩ := x; simp only [foldT, Bool.false_eq_true, if_false]; exact ih _ _
    have nH : ∀ (L : List (Oper × Rec)) c T, foldH (fun _ => false) L c T = T := by
      intro L
      induction L with
      | nil => intro c T; rfl
      | cons x L ih => intro c T; obtain ⟨o, r⟩ := x; simp only [foldH, Bool.false_eq_true, if_false]; exact ih _ _
    refine ⟨σ, I, ?_, fun l sl hl hs' => ?_⟩
    · rw [nT, nH]
      exact ⟨m.defers, m.size, m.pins, m.heap.world rfl rfl rfl rfl, fun i x hx => by
        obtain ⟨u, hu, hr⟩ := m.tmps i x hx
        exact ⟨u, hu, hr.mono (fun _ _ h => h) (fun _ h => h) (fun _ _ => rfl)⟩⟩
    · rw [hn l hl] at hs'
      cases hs'

theorem AW.drawThen {id : Nat} {y : Code} {s : St} {Q : Exit → St → Prop} (hm : P.follows .mixedOrders = true) (hd : ops.toList.all (dstOK nt) = true) (hs : staticOK ops.toList = true)
    (h : ∀ K : St → Prop, (∀ s', AW P nt y s' Q → K s') → drawW P ops.toList s.nx ops.toList s.T s.H fun T H n fs => heapOK ops.toList fs = true ∧ K ⟨T, H, n⟩) : AW P nt (.seq (.region id ops true) y) s Q :=
  AW.seq (AW.draw hm hd hs (h (fun s' => AW P nt y s' Q) fun _ h => h))
theorem AW.drawEnd {id : Nat} {s : St} {Q : Exit → St → Prop} (hm : P.follows .mixedOrders = true) (hd : ops.toList.all (dstOK nt) = true) (hs : staticOK ops.toList = true)
    (h : ∀ K : St → Prop, (∀ s', Q .normal s' → K s') → drawW P ops.toList s.nx ops.toList s.T s.H fun T H n fs => heapOK ops.toList fs = true ∧ K ⟨T, H, n⟩) : AW P nt (.region id ops true) s Q :=
  AW.draw hm hd hs (h (fun s' => Q .normal s') fun _ h => h)
end
end Go.Aw
