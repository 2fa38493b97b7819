/- What a call reads, opened: data that the statement's reader takes stand for plain Lean values. -/
import Derived.Test.YtmeplhcfjihafaaAwKit
import Derived.ChangeReads
import Derived.ChangeOld
import Derived.ReadAgain
import Derived.SizedLaws
import Derived.ChangeShapes
import Derived.Below
namespace Go.Aw
open Go.RowKit Go.ChangeShapes
variable {P : Program} {w : World}
def old (w : World) : Nat → Prop := fun g => g < w.heap.size
def Opn (P : Program) (w : World) (t : TypeId) {α : Type} (e : α → List PV) (G : α → Prop) : Prop :=
  (∀ a, ∀ p ∈ e a, p.one = true) ∧ ∀ (H : Type) (enc : TypeId × Value → H) (fuel : Nat) (cs : List Value) (d : DataW H × List MemPlace), DataW.trod enc P w 0 (fun _ => true) true fuel t cs = some d →
    ∃ a, G a ∧ cs.length = (e a).length ∧ ∀ (j : Nat) u p, cs[j]? = some u → (e a)[j]? = some p → rep w (old w) u p
theorem Opn.map {t : TypeId} {α β : Type} {e : α → List PV} {G : α → Prop} {e' : β → List PV} {G' : β → Prop} (h : Opn P w t e G) (f : α → β) (he : ∀ a, e' (f a) = e a) (h1 : ∀ b, ∀ p ∈ e' b, p.one = true) (hg : ∀ a, G a → G' (f a)) : Opn P w t e' G' := by
  refine ⟨h1, fun H enc fuel cs d hd => ?_⟩
  obtain ⟨a, g, l, r⟩ := h.2 H enc fuel cs d hd
  exact ⟨f a, hg a g, by rw [he]; exact l, by rw [he]; exact r⟩
theorem opn_int {t : TypeId} {k : IntKind} (hu : P.underlying t = some (.int k)) : Opn P w t (fun n : Int => [.int k n]) (fun n => (Lit.int k n).wf = true) := by
  refine ⟨fun a p hp => by simp at hp; subst hp; rfl, fun H enc fuel cs d hd => ?_⟩
  cases fuel with
  | zero => simp [DataW.trod] at hd
  | succ n =>
    unfold DataW.trod at hd
    rw [hu] at hd
    split at hd <;> rename_i hh <;> try (cases hh; done)
    all_goals try cases hh
    · split at hd
      · rename_i hk
        obtain ⟨rfl, hw⟩ := hk
        exact ⟨_, hw, rfl, fun j u p h1 h2 => by
          cases j with
          | zero => simp at h1 h2; subst h1; subst h2; exact .int _ _
          | succ j => simp at h1⟩
      · cases hd
    all_goals cases hd
theorem opn_bool {t : TypeId} (hu : P.underlying t = some .bool) : Opn P w t (fun b : Bool => [.bool b]) (fun _ => True) := by
  refine ⟨fun a p hp => by simp at hp; subst hp; rfl, fun H enc fuel cs d hd => ?_⟩
  cases fuel with
  | zero => simp [DataW.trod] at hd
  | succ n =>
    unfold DataW.trod at hd
    rw [hu] at hd
    split at hd <;> rename_i hh <;> try (cases hh; done)
    all_goals try cases hh
    · exact ⟨_, trivial, rfl, fun j u p h1 h2 => by
          cases j with
          | zero => simp at h1 h2; subst h1; subst h2; exact .bool _
          | succ j => simp at h1⟩
    all_goals cases hd
theorem opn_str {t : TypeId} (hu : P.underlying t = some .string) : Opn P w t (fun s : List UInt8 => [.str s]) (fun s => s.length ≤ maxLen) := by
  refine ⟨fun a p hp => by simp at hp; subst hp; rfl, fun H enc fuel cs d hd => ?_⟩
  cases fuel with
  | zero => simp [DataW.trod] at hd
  | succ n =>
    unfold DataW.trod at hd
    rw [hu] at hd
    split at hd <;> rename_i hh <;> try (cases hh; done)
    all_goals try cases hh
    · split at hd
      · rename_i hl
        refine ⟨(‹ByteArray›).data.toList, by show _ ≤ _; rw [Array.length_toList]; exact hl, rfl, fun j u p h1 h2 => by
          cases j with
          | zero => simp at h1 h2; subst h1; subst h2; exact .str _
          | succ j => simp at h1⟩
      · cases hd
    all_goals cases hd
theorem mapM_get {α β : Type} {f : α → Option β} : ∀ {l : List α} {r : List β}, l.mapM f = some r → r.length = l.length ∧ ∀ (i : Nat) x, l[i]? = some x → ∃ y, r[i]? = some y ∧ f x = some y := by
  intro l
  induction l with
  | nil => intro r h; simp at h; subst h; simp
  | cons a l ih =>
    intro r h
    simp only [List.mapM_cons, Option.bind_eq_bind, Option.bind_eq_some_iff, Option.pure_def, Option.some.injEq] at h
    obtain ⟨y, hy, ys, hys, rfl⟩ := h
    obtain ⟨h1, h2⟩ := ih hys
    refine ⟨by simp [h1], fun i x hx => ?_⟩
    cases i with
    | zero => simp at hx; subst hx; exact ⟨y, rfl, hy⟩
    | succ i => simpa using h2 i x (by simpa using hx)
theorem list_choose {α : Type} {Q : Nat → α → Prop} : ∀ (n : Nat), (∀ i, i < n → ∃ a, Q i a) → ∃ l : List α, l.length = n ∧ ∀ i a, l[i]? = some a → Q i a := by
  intro n
  induction n with
  | zero => intro _; exact ⟨[], rfl, fun i a h => by simp at h⟩
  | succ n ih =>
    intro h
    obtain ⟨l, h1, h2⟩ := ih fun i hi => h i (by omega)
    obtain ⟨a, ha⟩ := h n (by omega)
    refine ⟨l ++ [a], by simp [h1], fun i b hb => ?_⟩
    rcases Nat.lt_or_ge i n with hi | hi
    · rw [List.getElem?_append_left (by omega)] at hb; exact h2 i b hb
    · rw [List.getElem?_append_right (by omega)] at hb
      have : i = n := by
        have := (List.getElem?_eq_some_iff.1 hb).1
        simp at this; omega
      subst this
      simp [h1] at hb
      subst hb; exact ha
theorem opn_slice {t te : TypeId} {sz : Nat} {α : Type} {e : α → List PV} {G : α → Prop} (hu : P.underlying t = some (.slice te)) (hz : P.cellsOf te = sz) (hp : 0 < sz) (h : Opn P w te e G) (hs : ∀ a, (e a).length = sz) :
    Opn P w t (fun l : List α => [.slice (l.map e)]) (fun l => l.length ≤ maxLen ∧ ∀ a ∈ l, G a) := by
  refine ⟨fun a p hp => by simp at hp; subst hp; rfl, fun H enc fuel cs d hd => ?_⟩
  have one : ∀ (v : Value) (l : List α), rep w (old w) v (.slice (l.map e)) → ∀ (j : Nat) u p, [v][j]? = some u → ([PV.slice (l.map e)])[j]? = some p → rep w (old w) u p := by
    intro v l hr j u p h1 h2
    cases j with
    | zero => simp at h1 h2; subst h1; subst h2; exact hr
    | succ j => simp at h1
  cases fuel with
  | zero => simp [DataW.trod] at hd
  | succ n =>
    unfold DataW.trod at hd
    rw [hu] at hd
    split at hd <;> rename_i hh <;> try (cases hh; done)
    all_goals try cases hh
    · exact ⟨[], ⟨by simp, by simp⟩, rfl, one _ [] (.empty _ _)⟩
    · rename_i a len cap
      dsimp only at hd
      split at hd
      · rename_i hc
        obtain ⟨_, hlc, hcm⟩ := hc
        simp only [Option.bind_eq_some_iff] at hd
        obtain ⟨els, he, _⟩ := hd
        obtain ⟨hl, hg⟩ := mapM_get he
        have each : ∀ i, i < len → ∃ x : List Value × α, w.cells? 0 (a.add (i * sz)) sz = some x.1 ∧ G x.2 ∧ x.1.length = (e x.2).length ∧ ∀ (j : Nat) u p, x.1[j]? = some u → (e x.2)[j]? = some p → rep w (old w) u p := by
          intro i hi
          obtain ⟨y, _, hy⟩ := hg i i (by simp [hi])
          obtain ⟨c, hc1, hc2⟩ := Option.bind_eq_some_iff.1 hy
          rw [hz] at hc1
          obtain ⟨b, g, l, r⟩ := h.2 H enc n c y hc2
          exact ⟨(c, b), hc1, g, l, r⟩
        obtain ⟨xs, hxl, hx⟩ := list_choose len each
        have hgl : (xs.map (·.2)).length ≤ maxLen ∧ ∀ b ∈ xs.map (·.2), G b := by
          refine ⟨by rw [List.length_map, hxl]; exact Nat.le_trans hlc hcm, fun b hb => ?_⟩
          obtain ⟨x, hx1, rfl⟩ := List.mem_map.1 hb
          obtain ⟨i, hi⟩ := List.getElem?_of_mem hx1
          exact (hx i x hi).2.1
        refine ⟨xs.map (·.2), hgl, rfl, one _ _ ?_⟩
        rcases Nat.eq_zero_or_pos len with h0 | h0
        · subst h0
          have : xs = [] := List.eq_nil_of_length_eq_zero hxl
          subst this
          exact .empty _ _
        · obtain ⟨x0, hx0⟩ : ∃ x, xs[0]? = some x := ⟨_, List.getElem?_eq_getElem (by omega)⟩
          obtain ⟨c0, _, l0, _⟩ := hx 0 x0 hx0
          obtain ⟨_, cl0, cg0⟩ := World.cells?_some c0
          have q0 := cg0 0 hp
          rw [Nat.zero_mul] at q0
          have hadd : (a.add 0).add 0 = a := by simp [Addr.add]
          rw [hadd, List.getElem?_eq_getElem (by omega)] at q0
          have hsp : a.spot = none ∧ a.block < w.heap.size := by
            unfold World.cell? at q0
            split at q0
            · rename_i hb
              split at q0
              · cases q0
              · rename_i hs'
                refine ⟨by simpa using hs', ?_⟩
                rcases Nat.lt_or_ge a.block w.heap.size with h' | h'
                · exact h'
                · rw [Array.getElem?_eq_none h'] at hb; cases hb
            · cases q0
          obtain ⟨b, o, sp⟩ := a
          obtain ⟨hsp, hbl⟩ := hsp
          dsimp only at hsp hbl
          subst hsp
          refine rep.slice (I := old w) b o len cap sz ((xs.map (·.2)).map e) (fun i j => ((xs.getD i ([], x0.2)).1.getD j .nilIface)) (by simp [hxl]) hlc ?_ hbl ?_ ?_ ?_
          · intro x hx
            simp only [List.map_map, List.mem_map] at hx
            obtain ⟨y, _, rfl⟩ := hx
            exact hs _
          · intro x hx p hp'
            simp only [List.map_map, List.mem_map] at hx
            obtain ⟨y, _, rfl⟩ := hx
            exact h.1 _ _ hp'
          · intro i x j p hi hj
            simp only [List.map_map, List.getElem?_map, Option.map_eq_some_iff] at hi
            obtain ⟨y, hy, rfl⟩ := hi
            obtain ⟨c1, _, l1, r1⟩ := hx i y hy
            obtain ⟨_, cl1, cg1⟩ := World.cells?_some c1
            have hjl : j < sz := by rw [← hs y.2]; exact (List.getElem?_eq_some_iff.1 hj).1
            have := cg1 j hjl
            have ea : ((⟨b, o, none⟩ : Addr).add (i * sz)).add j = ⟨b, o + (i * sz + j), none⟩ := by
              unfold Addr.add
              repeat' split
              all_goals simp <;> omega
            rw [ea, List.getElem?_eq_getElem (by omega)] at this
            rw [this]
            simp [List.getD, hy, List.getElem?_eq_getElem (show j < y.1.length by omega)]
          · intro i x j p hi hj
            simp only [List.map_map, List.getElem?_map, Option.map_eq_some_iff] at hi
            obtain ⟨y, hy, rfl⟩ := hi
            obtain ⟨c1, _, l1, r1⟩ := hx i y hy
            obtain ⟨_, cl1, cg1⟩ := World.cells?_some c1
            have hjl : j < sz := by rw [← hs y.2]; exact (List.getElem?_eq_some_iff.1 hj).1
            refine r1 j _ p ?_ hj
            simp [List.getD, hy, List.getElem?_eq_getElem (show j < y.1.length by omega)]
      · cases hd
    all_goals cases hd
/-- Fields one behind the other, from a place on. -/
def OpnF (P : Program) (w : World) (off : Nat) (fs : List Field) {α : Type} (e : α → List PV) (G : α → Prop) : Prop :=
  (∀ a, ∀ p ∈ e a, p.one = true) ∧ (∀ a, (e a).length = (fs.map fun f => P.cellsOf f.type).sum) ∧ ∀ (H : Type) (enc : TypeId × Value → H) (n : Nat) (cs : List Value) (xs : List (DataW H × List MemPlace)),
    fs.mapM (fun f => DataW.trod enc P w 0 (fun _ => true) true n f.type ((cs.drop f.offset).take (P.cellsOf f.type))) = some xs →
    ∃ a, G a ∧ ∀ (j : Nat) u p, cs[off + j]? = some u → (e a)[j]? = some p → rep w (old w) u p
theorem opnF_nil {off : Nat} : OpnF P w off [] (fun _ : Unit => []) (fun _ => True) :=
  ⟨fun a p hp => by simp at hp, fun a => rfl, fun H enc n cs xs h => ⟨(), trivial, fun j u p h1 h2 => by simp at h2⟩⟩
theorem opnF_cons {off sz : Nat} {f : Field} {fs : List Field} {α β : Type} {e : α → List PV} {G : α → Prop} {e' : β → List PV} {G' : β → Prop} (ho : f.offset = off) (hz : P.cellsOf f.type = sz) (h : Opn P w f.type e G) (hs : ∀ a, (e a).length = sz) (h' : OpnF P w (off + sz) fs e' G') :
    OpnF P w off (f :: fs) (fun x : α × β => e x.1 ++ e' x.2) (fun x => G x.1 ∧ G' x.2) := by
  refine ⟨fun a p hp => ?_, fun a => by simp [hs, hz, h'.2.1], fun H enc n cs xs hx => ?_⟩
  · rcases List.mem_append.1 hp with hp | hp
    · exact h.1 _ _ hp
    · exact h'.1 _ _ hp
  · simp only [List.mapM_cons, Option.bind_eq_bind, Option.bind_eq_some_iff, Option.pure_def, Option.some.injEq] at hx
    obtain ⟨y, hy, ys, hys, rfl⟩ := hx
    obtain ⟨a, ga, la, ra⟩ := h.2 H enc n _ y hy
    obtain ⟨b, gb, rb⟩ := h'.2.2 H enc n cs ys hys
    refine ⟨(a, b), ⟨ga, gb⟩, fun j u p h1 h2 => ?_⟩
    rcases Nat.lt_or_ge j sz with hj | hj
    · rw [List.getElem?_append_left (by rw [hs]; exact hj)] at h2
      refine ra j u p ?_ h2
      rw [ho, hz, List.getElem?_take, if_pos hj, List.getElem?_drop]
      exact h1
    · rw [List.getElem?_append_right (by rw [hs]; exact hj), hs] at h2
      exact rb (j - sz) u p (by rw [← h1]; congr 1; omega) h2
theorem opn_struct {t : TypeId} {fs : Array Field} {α : Type} {e : α → List PV} {G : α → Prop} (hu : P.underlying t = some (.struct fs)) (hz : P.cellsOf t = (fs.toList.map fun f => P.cellsOf f.type).sum) (h : OpnF P w 0 fs.toList e G) : Opn P w t e G := by
  refine ⟨h.1, fun H enc fuel cs d hd => ?_⟩
  cases fuel with
  | zero => simp [DataW.trod] at hd
  | succ n =>
    unfold DataW.trod at hd
    rw [hu] at hd
    split at hd <;> rename_i hh <;> try (cases hh; done)
    all_goals try cases hh
    all_goals try (cases hd; done)
    all_goals
      split at hd
      · rename_i hl
        obtain ⟨xs, hx, _⟩ := Option.map_eq_some_iff.1 hd
        obtain ⟨a, ga, ra⟩ := h.2.2 H enc n _ xs hx
        exact ⟨a, ga, by rw [hl, hz, h.2.1], fun j u p h1 h2 => ra j u p (by rw [Nat.zero_add]; exact h1) h2⟩
      · cases hd
def flat (P : Program) (t : TypeId) : Bool := match P.underlying t with | some (.struct _) | some (.array _ _) => false | _ => true
theorem cells_flat {t : TypeId} {v : Value} {r : Reach} {base : Nat} (hf : flat P t = true) (h : Value.okWide P w r base t v) : v.cells = #[v] := by
  cases v with
  | agg cs =>
    exfalso
    unfold flat at hf
    unfold Value.okWide at h
    split at h
    · rename_i hu; rw [hu] at hf; cases hf
    · rename_i hu; rw [hu] at hf; cases hf
    · unfold Cell.okWide at h
      split at h <;> rename_i hh <;> first | (cases hh; done) | skip
      all_goals try (unfold Cell.ok at h; split at h <;> first | (exact h.elim) | skip)
      all_goals simp_all
  | _ => rfl
/-- The arguments of a call, opened. -/
def OpnA (P : Program) (w : World) (ts : List TypeId) {α : Type} (e : α → List PV) (G : α → Prop) : Prop :=
  ∀ (H : Type) (enc : TypeId × Value → H) (vs : List Value) (ds : List (DataW H)) (ps : List MemPlace), DataW.TrodAll enc P w 0 (fun _ => true) true ts vs ds ps →
    (∀ (j : Nat) t v, ts[j]? = some t → vs[j]? = some v → ∃ base, Value.okWide P w .any base t v) → (DataW.weightsEach P ts ds).all (· ≤ reachBytes) = true →
    ∃ a, G a ∧ vs.length = (e a).length ∧ ∀ (j : Nat) u p, vs[j]? = some u → (e a)[j]? = some p → rep w (old w) u p
theorem opnA_nil : OpnA P w [] (fun _ : Unit => []) (fun _ => True) := by
  intro H enc vs ds ps h _ _
  obtain ⟨rfl, _, _⟩ := trodAll_nil h
  exact ⟨(), trivial, rfl, fun j u p h1 h2 => by simp at h2⟩
theorem opnA_flat {t : TypeId} {ts : List TypeId} {α β : Type} {e : α → PV} {G : α → Prop} {e' : β → List PV} {G' : β → Prop} (hf : flat P t = true) (h : Opn P w t (fun a => [e a]) G) (h' : OpnA P w ts e' G') : OpnA P w (t :: ts) (fun x : α × β => e x.1 :: e' x.2) (fun x => G x.1 ∧ G' x.2) := by
  intro H enc vs ds ps hh hv hwt
  obtain ⟨v, vs1, d, ds1, p, q, rfl, rfl, rfl, h1, h2⟩ := trodAll_cons hh
  rw [DataW.weightsEach, List.all_append, Bool.and_eq_true] at hwt
  obtain ⟨n, hn⟩ := h1
  obtain ⟨base, hv0⟩ := hv 0 t v rfl rfl
  rw [cells_flat hf hv0] at hn
  obtain ⟨a, ga, la, ra⟩ := h.2 H enc n _ _ hn
  obtain ⟨b, gb, lb, rb⟩ := h' H enc vs1 ds1 q h2 (fun j t v h1 h2 => hv (j + 1) t v (by simpa using h1) (by simpa using h2)) hwt.2
  refine ⟨(a, b), ⟨ga, gb⟩, by simp [lb], fun j u p h1 h2 => ?_⟩
  cases j with
  | zero =>
    simp at h1 h2
    subst h1; subst h2
    exact ra 0 _ (e a) rfl rfl
  | succ j => exact rb j u p (by simpa using h1) (by simpa using h2)
theorem opnA_agg {t : TypeId} {ts : List TypeId} {fs : Array Field} {α β : Type} {e : α → List PV} {G : α → Prop} {e' : β → List PV} {G' : β → Prop} (hu : P.underlying t = some (.struct fs)) (h : Opn P w t e G) (h' : OpnA P w ts e' G') : OpnA P w (t :: ts) (fun x : α × β => .agg (e x.1) :: e' x.2) (fun x => G x.1 ∧ G' x.2) := by
  intro H enc vs ds ps hh hv hwt
  obtain ⟨v, vs1, d, ds1, p, q, rfl, rfl, rfl, h1, h2⟩ := trodAll_cons hh
  rw [DataW.weightsEach, List.all_append, Bool.and_eq_true] at hwt
  obtain ⟨n, hn⟩ := h1
  obtain ⟨base, hv0⟩ := hv 0 t v rfl rfl
  unfold Value.okWide at hv0
  rw [hu] at hv0
  obtain ⟨cs, rfl, _, _⟩ := hv0
  obtain ⟨a, ga, la, ra⟩ := h.2 H enc n _ _ hn
  obtain ⟨b, gb, lb, rb⟩ := h' H enc vs1 ds1 q h2 (fun j t v h1 h2 => hv (j + 1) t v (by simpa using h1) (by simpa using h2)) hwt.2
  refine ⟨(a, b), ⟨ga, gb⟩, by simp [lb], fun j u p h1 h2 => ?_⟩
  cases j with
  | zero =>
    simp at h1 h2
    subst h1; subst h2
    exact .agg (by simpa [Value.cells] using la) fun j u p h1 h2 => ra j u p (by simpa [Value.cells] using h1) h2
  | succ j => exact rb j u p (by simpa using h1) (by simpa using h2)

theorem trod_weight {t te : TypeId} (hu : P.underlying t = some (.slice te)) {H : Type} {enc : TypeId × Value → H} {fuel : Nat} {ad : Option Addr} {len cap : Nat} {d : DataW H × List MemPlace}
    (hd : DataW.trod enc P w 0 (fun _ => true) true fuel t [.slice ad len cap] = some d) {R : Nat} (hw : (d.1.weights P t).all (· ≤ R) = true) : len * P.bytesOf te ≤ R := by
  cases fuel with
  | zero => simp [DataW.trod] at hd
  | succ n =>
    unfold DataW.trod at hd
    rw [hu] at hd
    split at hd <;> rename_i hh <;> try (cases hh; done)
    all_goals try cases hh
    · simp
    · dsimp only at hd
      split at hd
      · simp only [Option.bind_eq_some_iff] at hd
        obtain ⟨els, he, hd⟩ := hd
        obtain ⟨hl, hg⟩ := mapM_get he
        have : ∃ sp, d.1 = .slice (els.map (·.1)) sp := by
          clear hw
          revert hd
          simp only [Option.map_eq_some_iff]
          intro hd
          first
          | (obtain ⟨sp, _, rfl⟩ := hd; exact ⟨_, rfl⟩)
          | (obtain ⟨sp, _, hd⟩ := hd; injection hd with hd; subst hd; exact ⟨_, rfl⟩)
          | (subst hd; exact ⟨_, rfl⟩)
        obtain ⟨sp, hsp⟩ := this
        rw [hsp] at hw
        simp only [DataW.weights, hu, List.all_cons, Bool.and_eq_true, decide_eq_true_eq, List.length_map] at hw
        have hl' : els.length = len := by simpa using hl
        rw [hl'] at hw
        exact Nat.le_trans (Nat.mul_le_mul_right _ (Nat.le_add_right _ _)) hw.1
      · cases hd
    · cases hd
theorem opnA_slice {t te : TypeId} {ts : List TypeId} {α β : Type} {e : α → List PV} {G : List α → Prop} {e' : β → List PV} {G' : β → Prop} (hf : flat P t = true) (hu : P.underlying t = some (.slice te)) (h : Opn P w t (fun l : List α => [.slice (l.map e)]) G) (h' : OpnA P w ts e' G') :
    OpnA P w (t :: ts) (fun x : List α × β => .slice (x.1.map e) :: e' x.2) (fun x => (G x.1 ∧ x.1.length * P.bytesOf te ≤ reachBytes) ∧ G' x.2) := by
  intro H enc vs ds ps hh hv hwt
  obtain ⟨v, vs1, d, ds1, p, q, rfl, rfl, rfl, h1, h2⟩ := trodAll_cons hh
  rw [DataW.weightsEach, List.all_append, Bool.and_eq_true] at hwt
  obtain ⟨n, hn⟩ := h1
  obtain ⟨base, hv0⟩ := hv 0 t v rfl rfl
  rw [cells_flat hf hv0] at hn
  obtain ⟨a, ga, la, ra⟩ := h.2 H enc n _ _ hn
  obtain ⟨b, gb, lb, rb⟩ := h' H enc vs1 ds1 q h2 (fun j t v h1 h2 => hv (j + 1) t v (by simpa using h1) (by simpa using h2)) hwt.2
  have hr := ra 0 v _ rfl rfl
  obtain ⟨ad, c, rfl⟩ := slice_len hr
  have hwl := trod_weight hu hn hwt.1
  rw [List.length_map] at hwl
  refine ⟨(a, b), ⟨⟨ga, hwl⟩, gb⟩, by simp [lb], fun j u p h1 h2 => ?_⟩
  cases j with
  | zero =>
    simp at h1 h2
    subst h1; subst h2
    rw [List.length_map] at hr; exact hr
  | succ j => exact rb j u p (by simpa using h1) (by simpa using h2)
theorem weightsEach_app {H : Type} (P : Program) : ∀ (ts us : List TypeId) (ds : List (DataW H)), ds.length = ts.length → DataW.weightsEach P (ts ++ us) ds = DataW.weightsEach P ts ds := by
  intro ts
  induction ts with
  | nil =>
    intro us ds h
    have : ds = [] := List.eq_nil_of_length_eq_zero (by simpa using h)
    subst this
    cases us <;> simp [DataW.weightsEach]
  | cons t ts ih =>
    intro us ds h
    cases ds with
    | nil => simp at h
    | cons d ds => rw [List.cons_append, DataW.weightsEach, DataW.weightsEach, ih us ds (by simpa using h)]

/-- Of what nothing that was there has turned, the reader reads the same. -/
theorem carryAll {H : Type} {enc : TypeId × Value → H} {w' : World} (hw : Below w.heap.size w w') {sp : Nat → Bool} {held : Bool} : ∀ {ts : List TypeId} {vs : List Value} {ds : List (DataW H)} {ps : List MemPlace},
    DataW.TrodAll enc P w 0 sp held ts vs ds ps → (∀ p ∈ ps, p.block < w.heap.size) → DataW.TrodAll enc P w' 0 sp held ts vs ds ps
  | [], vs, ds, ps, h, _ => by
    obtain ⟨rfl, rfl, rfl⟩ := trodAll_nil h
    exact trodAll_mk0
  | t :: ts, vs, ds, ps, h, hl => by
    obtain ⟨v, vs1, d, ds1, p, q, rfl, rfl, rfl, ⟨n, hn⟩, h2⟩ := trodAll_cons h
    exact ⟨p, q, ⟨n, DataW.trod_carry n _ _ _ hn fun x hx => hw.same (hl x (List.mem_append_left _ hx))⟩, carryAll hw h2 fun x hx => hl x (List.mem_append_right _ hx), rfl⟩
theorem Fr.below {w' : World} (h : Fr w (fun _ => False) w') : Below w.heap.size w w' := ⟨h.os, h.tape, h.output, h.size, fun k hk => h.block k hk (fun h => h)⟩

/-- A law: whatever it reads, it answers true, and what it read reads as it did. -/
theorem law_post {H : Type} {enc : TypeId × Value → H} {P : Program} {f : FuncId} {fn : Func} {s : ChangeSpec} {W : World} {base : Nat} {args : Array Value} {ds gs : List (DataW H)} {before : List MemPlace} {apart fresh handsOn : Bool}
    {α : Type} {e : α → List PV} {G : α → Prop} {tb : TypeId} (hl : laidOutB P = true) (hm : mapsRowed P = true) (hz : ((List.range P.types.size).all fun t => match P.underlying t with | some (.slice e) => decide (0 < P.cellsOf e) | _ => true) = true)
    (hp : ∀ t ∈ fn.params.toList, t < P.types.size) (hb : P.underlying tb = some .bool) (hr : fn.resultTypes = #[tb]) (hv : s.vars = [])
    (hs : ∀ ds : List (DataW H), ds.length = fn.params.toList.length → s.fn H ds = { results := [.lit (.bool true)], args := ds })
    (hlen : ∀ {ds : List (DataW H)} {vs ps}, DataW.TrodAll enc P W 0 (fun _ => true) true fn.params.toList vs ds ps → ds.length = fn.params.toList.length)
    (ho : OpnA P W fn.params.toList e G) (hval : ∀ (j : Nat) t v, fn.params[j]? = some t → args[j]? = some v → Value.okWide P W .any base t v)
    (hW : DataW.Whole enc P fn.params.toList s.vars apart W args.toList ds gs before) {vt : List TypeId} (hsz : (DataW.weightsEach P (fn.params.toList ++ vt) (ds ++ gs)).all (· ≤ reachBytes) = true) (hf : ∀ a, G a → PFn P f (e a) (.bool true)) :
    Calls P f args W fun x W' => ∃ v, x = .returned v ∧ s.post enc P fn apart fresh handsOn false W args v W' := by
  have hW' := hW
  obtain ⟨p, q, hA, hV, rfl, hfz, hnd⟩ := hW
  rw [hv] at hV
  have hg : gs = [] ∧ q = [] := by cases gs <;> simp_all [DataW.TrodVars]
  obtain ⟨rfl, rfl⟩ := hg
  rw [List.append_nil, weightsEach_app P _ _ _ (hlen hA)] at hsz
  obtain ⟨a, ga, la, ra⟩ := ho H enc _ _ _ hA (fun j t v h1 h2 => ⟨base, hval j t v (by simpa using h1) (by simpa using h2)⟩) hsz
  refine ((hf a ga).2 W (old W) args (by simpa using la) (fun j u p h1 h2 => ra j u p (by simpa using h1) h2) fun g h => h).mono fun x W' ⟨v, hx, fr, hrep⟩ => ⟨v, hx, ?_⟩
  cases hrep
  have hlt := hW'.lt
  refine ⟨ds, [], p ++ [], [], p, [], hW', ?_, ?_, ?_, fr.below.frame _, fun h => by cases h⟩
  · rw [List.append_nil, hs ds (hlen hA), hr]
    exact trodAll_mk1 (shut_bool hb true)
  · rw [List.append_nil, hs ds (hlen hA)]
    refine carryAll fr.below (DataW.TrodAll.respare (kids_rows hl hm) (fun t e ht hu => slices_full_of P hz t e ht hu) hp hA ?_) ?_
    · intro x hx; simpa using hlt x (List.mem_append_left _ hx)
    · intro x hx; exact hlt x (List.mem_append_left _ hx)
  · rw [List.append_nil, hs ds (hlen hA), hv]; rfl
end Go.Aw
