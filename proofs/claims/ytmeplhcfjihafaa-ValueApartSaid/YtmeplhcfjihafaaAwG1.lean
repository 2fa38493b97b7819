/- What a call reads, opened; calls that hand out memory of their own, or write what is lent; more ways to tell a state anew. -/
import Derived.Test.YtmeplhcfjihafaaAwM3
import Derived.ChangeReads
import Derived.ChangeOld
import Derived.ReadAgain
import Derived.SizedLaws
import Derived.ChangeShapes
import Derived.Below
/- What a call reads, opened: data that the statement's reader takes stand for plain Lean values. -/
namespace Go.Aw
open Go.RowKit Go.ChangeShapes
variable {P : Program} {w : World}
def old (w : World) : Nat → Prop := fun g => g < w.heap.size
def Opn (P : Program) (w : World) (t : TypeId) {α : Type} (e : α → List PV) (G : α → Prop) : Prop :=
  (∀ a, ∀ p ∈ e a, p.one = true) ∧ ∀ (H : Type) (enc : TypeId × Value → H) (fuel : Nat) (cs : List Value) (d : DataW H × List MemPlace), DataW.trod enc P w 0 (fun _ => true) true fuel t cs = some d →
    ∃ a, G a ∧ cs.length = (e a).length ∧ ∀ (j : Nat) u p, cs[j]? = some u → (e a)[j]? = some p → rep w (old w) u p
theorem Opn.map {t : TypeId} {α β : Type} {e : α → List PV} {G : α → Prop} {e' : β → List PV} {G' : β → Prop} (h : Opn P w t e G) (f : α → β) (he : ∀ a, e' (f a) = e a) (h1 : ∀ b, ∀ p ∈ e' b, p.one = true) (hg : ∀ a, G a → G' (f a)) : Opn P w t e' G' := by
  refine ⟨h1, fun H enc fuel cs d hd => ?_⟩
  obtain ⟨a, g, l, r⟩ := h.2 H enc fuel cs d hd
  exact ⟨f a, hg a g, by rw [he]; exact l, by rw [he]; exact r⟩
theorem opn_int {t : TypeId} {k : IntKind} (hu : P.underlying t = some (.int k)) : Opn P w t (fun n : Int => [.int k n]) (fun n => (Lit.int k n).wf = true) := by
  refine ⟨fun a p hp => by simp at hp; subst hp; rfl, fun H enc fuel cs d hd => ?_⟩
  cases fuel with
  | zero => simp [DataW.trod] at hd
  | succ n =>
    unfold DataW.trod at hd
    rw [hu] at hd
    split at hd <;> rename_i hh <;> try (cases hh; done)
    all_goals try cases hh
    · split at hd
      · rename_i hk
        obtain ⟨rfl, hw⟩ := hk
        exact ⟨_, hw, rfl, fun j u p h1 h2 => by
          cases j with
          | zero => simp at h1 h2; subst h1; subst h2; exact .int _ _
          | succ j => simp at h1⟩
      · cases hd
    all_goals cases hd
theorem opn_bool {t : TypeId} (hu : P.underlying t = some .bool) : Opn P w t (fun b : Bool => [.bool b]) (fun _ => True) := by
  refine ⟨fun a p hp => by simp at hp; subst hp; rfl, fun H enc fuel cs d hd => ?_⟩
  cases fuel with
  | zero => simp [DataW.trod] at hd
  | succ n =>
    unfold DataW.trod at hd
    rw [hu] at hd
    split at hd <;> rename_i hh <;> try (cases hh; done)
    all_goals try cases hh
    · exact ⟨_, trivial, rfl, fun j u p h1 h2 => by
          cases j with
          | zero => simp at h1 h2; subst h1; subst h2; exact .bool _
          | succ j => simp at h1⟩
    all_goals cases hd
theorem opn_str {t : TypeId} (hu : P.underlying t = some .string) : Opn P w t (fun s : List UInt8 => [.str s]) (fun s => s.length ≤ maxLen) := by
  refine ⟨fun a p hp => by simp at hp; subst hp; rfl, fun H enc fuel cs d hd => ?_⟩
  cases fuel with
  | zero => simp [DataW.trod] at hd
  | succ n =>
    unfold DataW.trod at hd
    rw [hu] at hd
    split at hd <;> rename_i hh <;> try (cases hh; done)
    all_goals try cases hh
    · split at hd
      · rename_i hl
        refine ⟨(‹ByteArray›).data.toList, by show _ ≤ _; rw [Array.length_toList]; exact hl, rfl, fun j u p h1 h2 => by
          cases j with
          | zero => simp at h1 h2; subst h1; subst h2; exact .str _
          | succ j => simp at h1⟩
      · cases hd
    all_goals cases hd
theorem mapM_get {α β : Type} {f : α → Option β} : ∀ {l : List α} {r : List β}, l.mapM f = some r → r.length = l.length ∧ ∀ (i : Nat) x, l[i]? = some x → ∃ y, r[i]? = some y ∧ f x = some y := by
  intro l
  induction l with
  | nil => intro r h; simp at h; subst h; simp
  | cons a l ih =>
    intro r h
    simp only [List.mapM_cons, Option.bind_eq_bind, Option.bind_eq_some_iff, Option.pure_def, Option.some.injEq] at h
    obtain ⟨y, hy, ys, hys, rfl⟩ := h
    obtain ⟨h1, h2⟩ := ih hys
    refine ⟨by simp [h1], fun i x hx => ?_⟩
    cases i with
    | zero => simp at hx; subst hx; exact ⟨y, rfl, hy⟩
    | succ i => simpa using h2 i x (by simpa using hx)
theorem list_choose {α : Type} {Q : Nat → α → Prop} : ∀ (n : Nat), (∀ i, i < n → ∃ a, Q i a) → ∃ l : List α, l.length = n ∧ ∀ i a, l[i]? = some a → Q i a := by
  intro n
  induction n with
  | zero => intro _; exact ⟨[], rfl, fun i a h => by simp at h⟩
  | succ n ih =>
    intro h
    obtain ⟨l, h1, h2⟩ := ih fun i hi => h i (by omega)
    obtain ⟨a, ha⟩ := h n (by omega)
    refine ⟨l ++ [a], by simp [h1], fun i b hb => ?_⟩
    rcases Nat.lt_or_ge i n with hi | hi
    · rw [List.getElem?_append_left (by omega)] at hb; exact h2 i b hb
    · rw [List.getElem?_append_right (by omega)] at hb
      have : i = n := by
        have := (List.getElem?_eq_some_iff.1 hb).1
        simp at this; omega
      subst this
      simp [h1] at hb
      subst hb; exact ha
theorem opn_slice {t te : TypeId} {sz : Nat} {α : Type} {e : α → List PV} {G : α → Prop} (hu : P.underlying t = some (.slice te)) (hz : P.cellsOf te = sz) (hp : 0 < sz) (h : Opn P w te e G) (hs : ∀ a, (e a).length = sz) :
    Opn P w t (fun l : List α => [.slice (l.map e)]) (fun l => l.length ≤ maxLen ∧ ∀ a ∈ l, G a) := by
  refine ⟨fun a p hp => by simp at hp; subst hp; rfl, fun H enc fuel cs d hd => ?_⟩
  have one : ∀ (v : Value) (l : List α), rep w (old w) v (.slice (l.map e)) → ∀ (j : Nat) u p, [v][j]? = some u → ([PV.slice (l.map e)])[j]? = some p → rep w (old w) u p := by
    intro v l hr j u p h1 h2
    cases j with
    | zero => simp at h1 h2; subst h1; subst h2; exact hr
    | succ j => simp at h1
  cases fuel with
  | zero => simp [DataW.trod] at hd
  | succ n =>
    unfold DataW.trod at hd
    rw [hu] at hd
    split at hd <;> rename_i hh <;> try (cases hh; done)
    all_goals try cases hh
    · exact ⟨[], ⟨by simp, by simp⟩, rfl, one _ [] (.empty _ _)⟩
    · rename_i a len cap
      dsimp only at hd
      split at hd
      · rename_i hc
        obtain ⟨_, hlc, hcm⟩ := hc
        simp only [Option.bind_eq_some_iff] at hd
        obtain ⟨els, he, _⟩ := hd
        obtain ⟨hl, hg⟩ := mapM_get he
        have each : ∀ i, i < len → ∃ x : List Value × α, w.cells? 0 (a.add (i * sz)) sz = some x.1 ∧ G x.2 ∧ x.1.length = (e x.2).length ∧ ∀ (j : Nat) u p, x.1[j]? = some u → (e x.2)[j]? = some p → rep w (old w) u p := by
          intro i hi
          obtain ⟨y, _, hy⟩ := hg i i (by simp [hi])
          obtain ⟨c, hc1, hc2⟩ := Option.bind_eq_some_iff.1 hy
          rw [hz] at hc1
          obtain ⟨b, g, l, r⟩ := h.2 H enc n c y hc2
          exact ⟨(c, b), hc1, g, l, r⟩
        obtain ⟨xs, hxl, hx⟩ := list_choose len each
        have hgl : (xs.map (·.2)).length ≤ maxLen ∧ ∀ b ∈ xs.map (·.2), G b := by
          refine ⟨by rw [List.length_map, hxl]; exact Nat.le_trans hlc hcm, fun b hb => ?_⟩
          obtain ⟨x, hx1, rfl⟩ := List.mem_map.1 hb
          obtain ⟨i, hi⟩ := List.getElem?_of_mem hx1
          exact (hx i x hi).2.1
        refine ⟨xs.map (·.2), hgl, rfl, one _ _ ?_⟩
        rcases Nat.eq_zero_or_pos len with h0 | h0
        · subst h0
          have : xs = [] := List.eq_nil_of_length_eq_zero hxl
          subst this
          exact .empty _ _
        · obtain ⟨x0, hx0⟩ : ∃ x, xs[0]? = some x := ⟨_, List.getElem?_eq_getElem (by omega)⟩
          obtain ⟨c0, _, l0, _⟩ := hx 0 x0 hx0
          obtain ⟨_, cl0, cg0⟩ := World.cells?_some c0
          have q0 := cg0 0 hp
          rw [Nat.zero_mul] at q0
          have hadd : (a.add 0).add 0 = a := by simp [Addr.add]
          rw [hadd, List.getElem?_eq_getElem (by omega)] at q0
          have hsp : a.spot = none ∧ a.block < w.heap.size := by
            unfold World.cell? at q0
            split at q0
            · rename_i hb
              split at q0
              · cases q0
              · rename_i hs'
                refine ⟨by simpa using hs', ?_⟩
                rcases Nat.lt_or_ge a.block w.heap.size with h' | h'
                · exact h'
                · rw [Array.getElem?_eq_none h'] at hb; cases hb
            · cases q0
          obtain ⟨b, o, sp⟩ := a
          obtain ⟨hsp, hbl⟩ := hsp
          dsimp only at hsp hbl
          subst hsp
          refine rep.slice (I := old w) b o len cap sz ((xs.map (·.2)).map e) (fun i j => ((xs.getD i ([], x0.2)).1.getD j .nilIface)) (by simp [hxl]) hlc ?_ hbl ?_ ?_ ?_
          · intro x hx
            simp only [List.map_map, List.mem_map] at hx
            obtain ⟨y, _, rfl⟩ := hx
            exact hs _
          · intro x hx p hp'
            simp only [List.map_map, List.mem_map] at hx
            obtain ⟨y, _, rfl⟩ := hx
            exact h.1 _ _ hp'
          · intro i x j p hi hj
            simp only [List.map_map, List.getElem?_map, Option.map_eq_some_iff] at hi
            obtain ⟨y, hy, rfl⟩ := hi
            obtain ⟨c1, _, l1, r1⟩ := hx i y hy
            obtain ⟨_, cl1, cg1⟩ := World.cells?_some c1
            have hjl : j < sz := by rw [← hs y.2]; exact (List.getElem?_eq_some_iff.1 hj).1
            have := cg1 j hjl
            have ea : ((⟨b, o, none⟩ : Addr).add (i * sz)).add j = ⟨b, o + (i * sz + j), none⟩ := by
              unfold Addr.add
              repeat' split
              all_goals simp <;> omega
            rw [ea, List.getElem?_eq_getElem (by omega)] at this
            rw [this]
            simp [List.getD, hy, List.getElem?_eq_getElem (show j < y.1.length by omega)]
          · intro i x j p hi hj
            simp only [List.map_map, List.getElem?_map, Option.map_eq_some_iff] at hi
            obtain ⟨y, hy, rfl⟩ := hi
            obtain ⟨c1, _, l1, r1⟩ := hx i y hy
            obtain ⟨_, cl1, cg1⟩ := World.cells?_some c1
            have hjl : j < sz := by rw [← hs y.2]; exact (List.getElem?_eq_some_iff.1 hj).1
            refine r1 j _ p ?_ hj
            simp [List.getD, hy, List.getElem?_eq_getElem (show j < y.1.length by omega)]
      · cases hd
    all_goals cases hd
/-- Fields one behind the other, from a place on. -/
def OpnF (P : Program) (w : World) (off : Nat) (fs : List Field) {α : Type} (e : α → List PV) (G : α → Prop) : Prop :=
  (∀ a, ∀ p ∈ e a, p.one = true) ∧ (∀ a, (e a).length = (fs.map fun f => P.cellsOf f.type).sum) ∧ ∀ (H : Type) (enc : TypeId × Value → H) (n : Nat) (cs : List Value) (xs : List (DataW H × List MemPlace)),
    fs.mapM (fun f => DataW.trod enc P w 0 (fun _ => true) true n f.type ((cs.drop f.offset).take (P.cellsOf f.type))) = some xs →
    ∃ a, G a ∧ ∀ (j : Nat) u p, cs[off + j]? = some u → (e a)[j]? = some p → rep w (old w) u p
theorem opnF_nil {off : Nat} : OpnF P w off [] (fun _ : Unit => []) (fun _ => True) :=
  ⟨fun a p hp => by simp at hp, fun a => rfl, fun H enc n cs xs h => ⟨(), trivial, fun j u p h1 h2 => by simp at h2⟩⟩
theorem opnF_cons {off sz : Nat} {f : Field} {fs : List Field} {α β : Type} {e : α → List PV} {G : α → Prop} {e' : β → List PV} {G' : β → Prop} (ho : f.offset = off) (hz : P.cellsOf f.type = sz) (h : Opn P w f.type e G) (hs : ∀ a, (e a).length = sz) (h' : OpnF P w (off + sz) fs e' G') :
    OpnF P w off (f :: fs) (fun x : α × β => e x.1 ++ e' x.2) (fun x => G x.1 ∧ G' x.2) := by
  refine ⟨fun a p hp => ?_, fun a => by simp [hs, hz, h'.2.1], fun H enc n cs xs hx => ?_⟩
  · rcases List.mem_append.1 hp with hp | hp
    · exact h.1 _ _ hp
    · exact h'.1 _ _ hp
  · simp only [List.mapM_cons, Option.bind_eq_bind, Option.bind_eq_some_iff, Option.pure_def, Option.some.injEq] at hx
    obtain ⟨y, hy, ys, hys, rfl⟩ := hx
    obtain ⟨a, ga, la, ra⟩ := h.2 H enc n _ y hy
    obtain ⟨b, gb, rb⟩ := h'.2.2 H enc n cs ys hys
    refine ⟨(a, b), ⟨ga, gb⟩, fun j u p h1 h2 => ?_⟩
    rcases Nat.lt_or_ge j sz with hj | hj
    · rw [List.getElem?_append_left (by rw [hs]; exact hj)] at h2
      refine ra j u p ?_ h2
      rw [ho, hz, List.getElem?_take, if_pos hj, List.getElem?_drop]
      exact h1
    · rw [List.getElem?_append_right (by rw [hs]; exact hj), hs] at h2
      exact rb (j - sz) u p (by rw [← h1]; congr 1; omega) h2
theorem opn_struct {t : TypeId} {fs : Array Field} {α : Type} {e : α → List PV} {G : α → Prop} (hu : P.underlying t = some (.struct fs)) (hz : P.cellsOf t = (fs.toList.map fun f => P.cellsOf f.type).sum) (h : OpnF P w 0 fs.toList e G) : Opn P w t e G := by
  refine ⟨h.1, fun H enc fuel cs d hd => ?_⟩
  cases fuel with
  | zero => simp [DataW.trod] at hd
  | succ n =>
    unfold DataW.trod at hd
    rw [hu] at hd
    split at hd <;> rename_i hh <;> try (cases hh; done)
    all_goals try cases hh
    all_goals try (cases hd; done)
    all_goals
      split at hd
      · rename_i hl
        obtain ⟨xs, hx, _⟩ := Option.map_eq_some_iff.1 hd
        obtain ⟨a, ga, ra⟩ := h.2.2 H enc n _ xs hx
        exact ⟨a, ga, by rw [hl, hz, h.2.1], fun j u p h1 h2 => ra j u p (by rw [Nat.zero_add]; exact h1) h2⟩
      · cases hd
def flat (P : Program) (t : TypeId) : Bool := match P.underlying t with | some (.struct _) | some (.array _ _) => false | _ => true
theorem cells_flat {t : TypeId} {v : Value} {r : Reach} {base : Nat} (hf : flat P t = true) (h : Value.okWide P w r base t v) : v.cells = #[v] := by
  cases v with
  | agg cs =>
    exfalso
    unfold flat at hf
    unfold Value.okWide at h
    split at h
    · rename_i hu; rw [hu] at hf; cases hf
    · rename_i hu; rw [hu] at hf; cases hf
    · unfold Cell.okWide at h
      split at h <;> rename_i hh <;> first | (cases hh; done) | skip
      all_goals try (unfold Cell.ok at h; split at h <;> first | (exact h.elim) | skip)
      all_goals simp_all
  | _ => rfl
/-- The arguments of a call, opened. -/
def OpnA (P : Program) (w : World) (ts : List TypeId) {α : Type} (e : α → List PV) (G : α → Prop) : Prop :=
  ∀ (H : Type) (enc : TypeId × Value → H) (vs : List Value) (ds : List (DataW H)) (ps : List MemPlace), DataW.TrodAll enc P w 0 (fun _ => true) true ts vs ds ps →
    (∀ (j : Nat) t v, ts[j]? = some t → vs[j]? = some v → ∃ base, Value.okWide P w .any base t v) → (DataW.weightsEach P ts ds).all (· ≤ reachBytes) = true →
    ∃ a, G a ∧ vs.length = (e a).length ∧ ∀ (j : Nat) u p, vs[j]? = some u → (e a)[j]? = some p → rep w (old w) u p
theorem opnA_nil : OpnA P w [] (fun _ : Unit => []) (fun _ => True) := by
  intro H enc vs ds ps h _ _
  obtain ⟨rfl, _, _⟩ := trodAll_nil h
  exact ⟨(), trivial, rfl, fun j u p h1 h2 => by simp at h2⟩
theorem opnA_flat {t : TypeId} {ts : List TypeId} {α β : Type} {e : α → PV} {G : α → Prop} {e' : β → List PV} {G' : β → Prop} (hf : flat P t = true) (h : Opn P w t (fun a => [e a]) G) (h' : OpnA P w ts e' G') : OpnA P w (t :: ts) (fun x : α × β => e x.1 :: e' x.2) (fun x => G x.1 ∧ G' x.2) := by
  intro H enc vs ds ps hh hv hwt
  obtain ⟨v, vs1, d, ds1, p, q, rfl, rfl, rfl, h1, h2⟩ := trodAll_cons hh
  rw [DataW.weightsEach, List.all_append, Bool.and_eq_true] at hwt
  obtain ⟨n, hn⟩ := h1
  obtain ⟨base, hv0⟩ := hv 0 t v rfl rfl
  rw [cells_flat hf hv0] at hn
  obtain ⟨a, ga, la, ra⟩ := h.2 H enc n _ _ hn
  obtain ⟨b, gb, lb, rb⟩ := h' H enc vs1 ds1 q h2 (fun j t v h1 h2 => hv (j + 1) t v (by simpa using h1) (by simpa using h2)) hwt.2
  refine ⟨(a, b), ⟨ga, gb⟩, by simp [lb], fun j u p h1 h2 => ?_⟩
  cases j with
  | zero =>
    simp at h1 h2
    subst h1; subst h2
    exact ra 0 _ (e a) rfl rfl
  | succ j => exact rb j u p (by simpa using h1) (by simpa using h2)
theorem opnA_agg {t : TypeId} {ts : List TypeId} {fs : Array Field} {α β : Type} {e : α → List PV} {G : α → Prop} {e' : β → List PV} {G' : β → Prop} (hu : P.underlying t = some (.struct fs)) (h : Opn P w t e G) (h' : OpnA P w ts e' G') : OpnA P w (t :: ts) (fun x : α × β => .agg (e x.1) :: e' x.2) (fun x => G x.1 ∧ G' x.2) := by
  intro H enc vs ds ps hh hv hwt
  obtain ⟨v, vs1, d, ds1, p, q, rfl, rfl, rfl, h1, h2⟩ := trodAll_cons hh
  rw [DataW.weightsEach, List.all_append, Bool.and_eq_true] at hwt
  obtain ⟨n, hn⟩ := h1
  obtain ⟨base, hv0⟩ := hv 0 t v rfl rfl
  unfold Value.okWide at hv0
  rw [hu] at hv0
  obtain ⟨cs, rfl, _, _⟩ := hv0
  obtain ⟨a, ga, la, ra⟩ := h.2 H enc n _ _ hn
  obtain ⟨b, gb, lb, rb⟩ := h' H enc vs1 ds1 q h2 (fun j t v h1 h2 => hv (j + 1) t v (by simpa using h1) (by simpa using h2)) hwt.2
  refine ⟨(a, b), ⟨ga, gb⟩, by simp [lb], fun j u p h1 h2 => ?_⟩
  cases j with
  | zero =>
    simp at h1 h2
    subst h1; subst h2
    exact .agg (by simpa [Value.cells] using la) fun j u p h1 h2 => ra j u p (by simpa [Value.cells] using h1) h2
  | succ j => exact rb j u p (by simpa using h1) (by simpa using h2)

theorem trod_weight {t te : TypeId} (hu : P.underlying t = some (.slice te)) {H : Type} {enc : TypeId × Value → H} {fuel : Nat} {ad : Option Addr} {len cap : Nat} {d : DataW H × List MemPlace}
    (hd : DataW.trod enc P w 0 (fun _ => true) true fuel t [.slice ad len cap] = some d) {R : Nat} (hw : (d.1.weights P t).all (· ≤ R) = true) : len * P.bytesOf te ≤ R := by
  cases fuel with
  | zero => simp [DataW.trod] at hd
  | succ n =>
    unfold DataW.trod at hd
    rw [hu] at hd
    split at hd <;> rename_i hh <;> try (cases hh; done)
    all_goals try cases hh
    · simp
    · dsimp only at hd
      split at hd
      · simp only [Option.bind_eq_some_iff] at hd
        obtain ⟨els, he, hd⟩ := hd
        obtain ⟨hl, hg⟩ := mapM_get he
        have : ∃ sp, d.1 = .slice (els.map (·.1)) sp := by
          clear hw
          revert hd
          simp only [Option.map_eq_some_iff]
          intro hd
          first
          | (obtain ⟨sp, _, rfl⟩ := hd; exact ⟨_, rfl⟩)
          | (obtain ⟨sp, _, hd⟩ := hd; injection hd with hd; subst hd; exact ⟨_, rfl⟩)
          | (subst hd; exact ⟨_, rfl⟩)
        obtain ⟨sp, hsp⟩ := this
        rw [hsp] at hw
        simp only [DataW.weights, hu, List.all_cons, Bool.and_eq_true, decide_eq_true_eq, List.length_map] at hw
        have hl' : els.length = len := by simpa using hl
        rw [hl'] at hw
        exact Nat.le_trans (Nat.mul_le_mul_right _ (Nat.le_add_right _ _)) hw.1
      · cases hd
    · cases hd
theorem opnA_slice {t te : TypeId} {ts : List TypeId} {α β : Type} {e : α → List PV} {G : List α → Prop} {e' : β → List PV} {G' : β → Prop} (hf : flat P t = true) (hu : P.underlying t = some (.slice te)) (h : Opn P w t (fun l : List α => [.slice (l.map e)]) G) (h' : OpnA P w ts e' G') :
    OpnA P w (t :: ts) (fun x : List α × β => .slice (x.1.map e) :: e' x.2) (fun x => (G x.1 ∧ x.1.length * P.bytesOf te ≤ reachBytes) ∧ G' x.2) := by
  intro H enc vs ds ps hh hv hwt
  obtain ⟨v, vs1, d, ds1, p, q, rfl, rfl, rfl, h1, h2⟩ := trodAll_cons hh
  rw [DataW.weightsEach, List.all_append, Bool.and_eq_true] at hwt
  obtain ⟨n, hn⟩ := h1
  obtain ⟨base, hv0⟩ := hv 0 t v rfl rfl
  rw [cells_flat hf hv0] at hn
  obtain ⟨a, ga, la, ra⟩ := h.2 H enc n _ _ hn
  obtain ⟨b, gb, lb, rb⟩ := h' H enc vs1 ds1 q h2 (fun j t v h1 h2 => hv (j + 1) t v (by simpa using h1) (by simpa using h2)) hwt.2
  have hr := ra 0 v _ rfl rfl
  obtain ⟨ad, c, rfl⟩ := slice_len hr
  have hwl := trod_weight hu hn hwt.1
  rw [List.length_map] at hwl
  refine ⟨(a, b), ⟨⟨ga, hwl⟩, gb⟩, by simp [lb], fun j u p h1 h2 => ?_⟩
  cases j with
  | zero =>
    simp at h1 h2
    subst h1; subst h2
    rw [List.length_map] at hr; exact hr
  | succ j => exact rb j u p (by simpa using h1) (by simpa using h2)
theorem weightsEach_app {H : Type} (P : Program) : ∀ (ts us : List TypeId) (ds : List (DataW H)), ds.length = ts.length → DataW.weightsEach P (ts ++ us) ds = DataW.weightsEach P ts ds := by
  intro ts
  induction ts with
  | nil =>
    intro us ds h
    have : ds = [] := List.eq_nil_of_length_eq_zero (by simpa using h)
    subst this
    cases us <;> simp [DataW.weightsEach]
  | cons t ts ih =>
    intro us ds h
    cases ds with
    | nil => simp at h
    | cons d ds => rw [List.cons_append, DataW.weightsEach, DataW.weightsEach, ih us ds (by simpa using h)]

/-- Of what nothing that was there has turned, the reader reads the same. -/
theorem carryAll {H : Type} {enc : TypeId × Value → H} {w' : World} (hw : Below w.heap.size w w') {sp : Nat → Bool} {held : Bool} : ∀ {ts : List TypeId} {vs : List Value} {ds : List (DataW H)} {ps : List MemPlace},
    DataW.TrodAll enc P w 0 sp held ts vs ds ps → (∀ p ∈ ps, p.block < w.heap.size) → DataW.TrodAll enc P w' 0 sp held ts vs ds ps
  | [], vs, ds, ps, h, _ => by
    obtain ⟨rfl, rfl, rfl⟩ := trodAll_nil h
    exact trodAll_mk0
  | t :: ts, vs, ds, ps, h, hl => by
    obtain ⟨v, vs1, d, ds1, p, q, rfl, rfl, rfl, ⟨n, hn⟩, h2⟩ := trodAll_cons h
    exact ⟨p, q, ⟨n, DataW.trod_carry n _ _ _ hn fun x hx => hw.same (hl x (List.mem_append_left _ hx))⟩, carryAll hw h2 fun x hx => hl x (List.mem_append_right _ hx), rfl⟩
theorem Fr.below {w' : World} (h : Fr w (fun _ => False) w') : Below w.heap.size w w' := ⟨h.os, h.tape, h.output, h.size, fun k hk => h.block k hk (fun h => h)⟩

/-- A law: whatever it reads, it answers true, and what it read reads ags it did. -/
theorem law_post {H : Type} {enc : TypeId × Value → H} {P : Program} {f : FuncId} {fn : Func} {s : ChangeSpec} {W : World} {base : Nat} {args : Array Value} {ds gs : List (DataW H)} {before : List MemPlace} {apart fresh handsOn : Bool}
    {α : Type} {e : α → List PV} {G : α → Prop} {tb : TypeId} (hl : laidOutB P = true) (hm : mapsRowed P = true) (hz : ((List.range P.types.size).all fun t => match P.underlying t with | some (.slice e) => decide (0 < P.cellsOf e) | _ => true) = true)
    (hp : ∀ t ∈ fn.params.toList, t < P.types.size) (hb : P.underlying tb = some .bool) (hr : fn.resultTypes = #[tb]) (hv : s.vars = [])
    (hs : ∀ ds : List (DataW H), ds.length = fn.params.toList.length → s.fn H ds = { results := [.lit (.bool true)], args := ds })
    (hlen : ∀ {ds : List (DataW H)} {vs ps}, DataW.TrodAll enc P W 0 (fun _ => true) true fn.params.toList vs ds ps → ds.length = fn.params.toList.length)
    (ho : OpnA P W fn.params.toList e G) (hval : ∀ (j : Nat) t v, fn.params[j]? = some t → args[j]? = some v → Value.okWide P W .any base t v)
    (hW : DataW.Whole enc P fn.params.toList s.vars apart W args.toList ds gs before) {vt : List TypeId} (hsz : (DataW.weightsEach P (fn.params.toList ++ vt) (ds ++ gs)).all (· ≤ reachBytes) = true) (htab : tabOK W (old W)) (hf : ∀ a, G a → PFn P f (e a) (.bool true)) :
    Calls P f args W fun x W' => ∃ v, x = .returned v ∧ s.post enc P fn apart fresh handsOn false W args v W' := by
  have hW' := hW
  obtain ⟨p, q, hA, hV, rfl, hfz, hnd⟩ := hW
  rw [hv] at hV
  have hg : gs = [] ∧ q = [] := by cases gs <;> simp_all [DataW.TrodVars]
  obtain ⟨rfl, rfl⟩ := hg
  rw [List.append_nil, weightsEach_app P _ _ _ (hlen hA)] at hsz
  obtain ⟨a, ga, la, ra⟩ := ho H enc _ _ _ hA (fun j t v h1 h2 => ⟨base, hval j t v (by simpa using h1) (by simpa using h2)⟩) hsz
  refine ((hf a ga).2 W (old W) args (by simpa using la) (fun j u p h1 h2 => ra j u p (by simpa using h1) h2) (fun g h => h) htab).mono fun x W' ⟨v, hx, fr, hrep⟩ => ⟨v, hx, ?_⟩
  cases hrep
  have hlt := hW'.lt
  refine ⟨ds, [], p ++ [], [], p, [], hW', ?_, ?_, ?_, fr.below.frame _, fun h => by cases h⟩
  · rw [List.append_nil, hs ds (hlen hA), hr]
    exact trodAll_mk1 (shut_bool hb true)
  · rw [List.append_nil, hs ds (hlen hA)]
    refine carryAll fr.below (DataW.TrodAll.respare (kids_rows hl hm) (fun t e ht hu => slices_full_of P hz t e ht hu) hp hA ?_) ?_
    · intro x hx; simpa using hlt x (List.mem_append_left _ hx)
    · intro x hx; exact hlt x (List.mem_append_left _ hx)
  · rw [List.append_nil, hs ds (hlen hA), hv]; rfl
end Go.Aw
/- The contract of a function that hands back a row of its own. -/
namespace Go.Aw
open Go.RowKit
variable {P : Program}
def EndO (rs : Array ResultVar) (sz : Nat) (es : List (List PV)) : Exit → St → Prop
  | .normal, s | .ret, s => ∃ t lb, rs = #[.tmp t] ∧ s.T t = some (.own lb) ∧ s.H lb = some (.row sz (liftE es))
  | _, _ => False
theorem row_out {s : Slot} {σ : Lab} {w : World} {J : Nat → Prop} {lab sz : Nat} {es : List (List PV)} (hs : σ lab = some s) (h : repB σ w J lab (.row sz (liftE es))) : repB (only 0 s) w J 0 (.row sz (liftE es)) := by
  have e0 : ∀ {s'}, σ lab = some s' → only 0 s 0 = some s' := fun h => by rw [hs] at h; unfold only; rw [if_pos rfl]; exact h
  generalize he : liftE es = ls at h
  cases h with
  | emp h => exact .emp (e0 h)
  | row h hg hcur hc hsz ho hr =>
    refine .row (e0 h) hg hcur hc hsz ho fun i e j x q1 q2 => ?_
    obtain ⟨u, hu, hru⟩ := hr i e j x q1 q2
    refine ⟨u, hu, ?_⟩
    subst he
    simp only [liftE, List.getElem?_map, Option.map_eq_some_iff] at q1
    obtain ⟨e', _, rfl⟩ := q1
    simp only [List.getElem?_map, Option.map_eq_some_iff] at q2
    obtain ⟨p, _, rfl⟩ := q2
    cases hru with
    | p h => exact .p h
theorem own_out {s : Slot} {σ : Lab} {w : World} {J : Nat → Prop} {v : Value} {lab : Nat} (hs : σ lab = some s) (h : repA σ w J v (.own lab)) : repA (only 0 s) w J v (.own 0) := by
  have e0 : ∀ {s'}, σ lab = some s' → only 0 s 0 = some s' := fun h => by rw [hs] at h; unfold only; rw [if_pos rfl]; exact h
  cases h with
  | ownE h => exact .ownE (e0 h)
  | own h => exact .own (e0 h)
theorem OFn.of {f : FuncId} {fn : Func} {c : Code} {args : List PV} {sz : Nat} {es : List (List PV)} (hf : P.funcs[f]? = some fn) (hb : fn.body = some c) (hn : fn.name ≠ "runtime.NumGoroutine") {nt : Nat} (hnt : fn.ntmps = nt) {rs : Array ResultVar} (hrs : fn.results = rs) (hnt' : args.length ≤ nt)
    (h : AW P (fm nt) c ⟨argsT args 0, fun _ => none, 0⟩ (EndO rs sz es)) : OFn P f args sz es := by
  subst hnt hrs
  refine ⟨by simp [enters, hf, hb, hn], fun w I vals hs hr hI ht => ?_⟩
  have tx : TabX w (fun _ => False) I := ⟨ht, hI, fun _ h => h.elim⟩
  refine calls_of_wp hf hb ?_
  have m : Matches (fm fn.ntmps) w (fun _ => False) I ⟨argsT args 0, fun _ => none, 0⟩ { tmps := vals ++ Array.replicate (fn.ntmps - vals.size) undef, defers := [] } w := by
    refine ⟨fun _ => none, I, fun _ _ => rfl, rfl, (by simp; omega), (fun i hi => by cases hi), ⟨(fun l b h => by cases h), fun l l' g s s' h => absurd rfl h, fun l g s h => absurd rfl h, fun g hg => ⟨hI g hg, .inl hg⟩, fun _ h => h, Fr.refl _ _⟩, fun i x hx => ?_⟩
    obtain ⟨p, rfl, h0, hp⟩ := argsT_some hx
    rw [Nat.sub_zero] at hp
    have hi : i < vals.size := by rw [hs]; exact (List.getElem?_eq_some_iff.1 hp).1
    exact ⟨vals[i], by rw [Array.getElem?_append_left hi, Array.getElem?_eq_getElem hi], .p (hr i _ p (Array.getElem?_eq_getElem hi) hp)⟩
  refine wp_mono (h w _ I _ w tx m) ?_
  rintro e a' w' ⟨s', ⟨σ', I', hn', m'⟩, q⟩
  have fin : (∃ t lb, fn.results = #[.tmp t] ∧ s'.T t = some (.own lb) ∧ s'.H lb = some (.row sz (liftE es))) → a'.defers = [] ∧ ∃ v, (results fn a'.tmps).run P w' = .ok v w' ∧ ∃ v' s, Ending.returned v = .returned v' ∧ Fr w (fun _ => False) w' ∧ (∀ g, s.block = some g → w.heap.size ≤ g ∧ g < w'.heap.size) ∧
      repA (only 0 s) w' (fun g => I g ∨ (w.heap.size ≤ g ∧ g < w'.heap.size ∧ s.block ≠ some g)) v' (.own 0) ∧
      repB (only 0 s) w' (fun g => I g ∨ (w.heap.size ≤ g ∧ g < w'.heap.size ∧ s.block ≠ some g)) 0 (.row sz (liftE es)) := by
    rintro ⟨t, lb, q1, q2, q3⟩
    obtain ⟨u, hu, hru⟩ := m'.tmps t _ q2
    have hrb := m'.heap.rows lb _ q3
    obtain ⟨s, hs', hlt⟩ := hrb.block
    have hmine := fun g (hg : s.block = some g) => m'.heap.mine lb g s (by rw [q3]; simp) hs' hg
    have hJ : ∀ g, I' g → I g ∨ (w.heap.size ≤ g ∧ g < w'.heap.size ∧ s.block ≠ some g) := fun g hg => by
      obtain ⟨p1, p2⟩ := m'.heap.imm g hg
      rcases p2 with p2 | p2 | p2
      · exact .inl p2
      · exact p2.elim
      · exact .inr ⟨p2, p1, fun e => (hmine g e).1 hg⟩
    refine ⟨m'.defers, u, ?_, u, s, rfl, m'.heap.fr, fun g hg => ⟨?_, hlt g hg⟩, own_out hs' (hru.mono (fun _ _ h => h) hJ (fun _ _ => rfl)), row_out hs' (hrb.mono (fun _ _ h => h) hJ (fun _ _ => rfl) (fun _ _ _ _ => rfl))⟩
    · rw [results_eq, q1]
      have : a'.tmps.getD t undef = u := by simp [Array.getD_eq_getD_getElem?, hu]
      simp [resF, this]
    · rcases (hmine g hg).2 with h | h
      · exact h.elim
      · exact h
  cases e with
  | normal => exact fin q
  | ret => exact fin q
  | exit _ => exact q.elim
  | goto _ => exact q.elim
  | panic _ => exact q.elim
  | outgrown => exact q.elim
/-- A row of one's own may be read. -/
theorem OFn.pure {f : FuncId} {args : List PV} {sz : Nat} {es : List (List PV)} (h : OFn P f args sz es) : PFn P f args (.slice es) := by
  refine ⟨h.1, fun w I vals h1 h2 h3 h4 => (h.2 w I vals h1 h2 h3 h4).mono fun e w' ⟨v, s, he, hf, hb, hra, hrb⟩ => ⟨v, he, hf, ?_⟩⟩
  refine rep_own hrb hra (unlift_liftE es) (fun g s' q1 q2 => ?_) (fun g hg => ?_)
  · rw [only_at q1] at q2
    exact .inr (hb g q2)
  · rcases hg with hg | ⟨h1, h2, _⟩
    · exact .inl hg
    · exact .inr ⟨h1, h2⟩
/-- A temp may be told less of. -/
theorem Ghost.weak {nt : Fm} {s : St} {t : Nat} {x y : AV} (ht : s.T t = some x) (h : ∀ σ w I v, repA σ w I v x → repA σ w I v y) : Ghost nt s ⟨upd s.T t (some y), s.H, s.nx⟩ := by
  rintro w0 X I0 a w ⟨σ, I, hσ, m⟩
  refine ⟨σ, I, hσ, m.defers, m.size, m.pins, m.heap, fun i z hz => ?_⟩
  simp only at hz
  by_cases hi : i = t
  · subst hi
    rw [upd_same] at hz
    injection hz with hz
    subst hz
    obtain ⟨u, hu, hr⟩ := m.tmps _ _ ht
    exact ⟨u, hu, h _ _ _ _ hr⟩
  · rw [upd_ne _ _ hi] at hz
    exact m.tmps i z hz
theorem Ghost.exP {nt : Fm} {s : St} {t : Nat} {es : List (List PV)} (ht : s.T t = some (.ex es)) : Ghost nt s ⟨upd s.T t (some (.p (.slice es))), s.H, s.nx⟩ :=
  Ghost.weak ht fun _ _ _ _ h => by
    cases h with
    | ex _ h => exact .p h
end Go.Aw
/- The contract of a function to which something is lent. -/
namespace Go.Aw
open Go.RowKit
variable {P : Program}
def laT : List LA → Nat → Nat → Option AV
  | [], _ => fun _ => none
  | a :: la, i => upd (laT la (i + 1)) i (some (a.av i))
def laH : List LA → Nat → Nat → Option Blk
  | [], _ => fun _ => none
  | .v _ :: la, i => laH la (i + 1)
  | .ptr _ _ sz es :: la, i => upd (laH la (i + 1)) i (some (.row sz (liftE es)))
  | .map es :: la, i => upd (laH la (i + 1)) i (some (.map (liftM es)))
def laPins : List LA → Nat → List Nat
  | [], _ => []
  | .v _ :: la, i => laPins la (i + 1)
  | _ :: la, i => i :: laPins la (i + 1)
theorem laT_at : ∀ (la : List LA) (i j : Nat), laT la i j = if j < i then none else (la[j - i]?).map (·.av j) := by
  intro la
  induction la with
  | nil => intro i j; simp [laT]
  | cons a la ih =>
    intro i j
    rw [laT]
    by_cases h : j = i
    · subst h; rw [upd_same, if_neg (by omega), Nat.sub_self]; rfl
    · rw [upd_ne _ _ h, ih]
      by_cases h2 : j < i
      · rw [if_pos (by omega), if_pos h2]
      · rw [if_neg (by omega), if_neg h2, show j - i = (j - (i + 1)) + 1 by omega, List.getElem?_cons_succ]
theorem laH_at : ∀ (la : List LA) (i j : Nat), laH la i j = if j < i then none else (la[j - i]?).bind fun a => a.lb.map LB.blk := by
  intro la
  induction la with
  | nil => intro i j; simp [laH]
  | cons a la ih =>
    intro i j
    have key : ∀ b, (a.lb = b) → laH (a :: la) i = (match b with | some b => upd (laH la (i + 1)) i (some b.blk) | none => laH la (i + 1)) := by
      rintro b rfl
      cases a <;> rfl
    rw [key _ rfl]
    by_cases h : j = i
    · subst h
      rw [if_neg (by omega), Nat.sub_self, List.getElem?_cons_zero, Option.bind_some]
      cases hlb : a.lb with
      | none => simp only; rw [ih, if_pos (by omega)]; rfl
      | some b => simp only; rw [upd_same]; rfl
    · have e : (match a.lb with | some b => upd (laH la (i + 1)) i (some b.blk) | none => laH la (i + 1)) j = laH la (i + 1) j := by
        cases a.lb with
        | none => rfl
        | some b => exact upd_ne _ _ h
      rw [e, ih]
      by_cases h2 : j < i
      · rw [if_pos (by omega), if_pos h2]
      · rw [if_neg (by omega), if_neg h2, show j - i = (j - (i + 1)) + 1 by omega, List.getElem?_cons_succ]
def lentEnd (s : St) : List LA → List (Option LB) → Nat → Prop
  | [], [], _ => True
  | .v _ :: la, none :: bs, j => lentEnd s la bs (j + 1)
  | .ptr i off sz es :: la, some (.row sz' es') :: bs, j => (∃ l, s.T j = some (.ptr l i off) ∧ s.H l = some (.row sz' (liftE es'))) ∧ (sz' = sz ∧ 0 < sz ∧ es'.length = es.length) ∧ lentEnd s la bs (j + 1)
  | .map _ :: la, some (.map es') :: bs, j => (∃ l, s.T j = some (.map l) ∧ s.H l = some (.map (liftM es'))) ∧ lentEnd s la bs (j + 1)
  | _, _, _ => False
def lentAt (s : St) (a : LA) (b : LB) (j : Nat) : Prop :=
  match a, b with
  | .ptr k off sz es, .row sz' es' => (∃ l, s.T j = some (.ptr l k off) ∧ s.H l = some (.row sz' (liftE es'))) ∧ sz' = sz ∧ 0 < sz ∧ es'.length = es.length
  | .map _, .map es' => ∃ l, s.T j = some (.map l) ∧ s.H l = some (.map (liftM es'))
  | _, _ => False
theorem lentEnd_spec {s : St} : ∀ {la : List LA} {bs : List (Option LB)} {i : Nat}, lentEnd s la bs i → bs.map Option.isSome = la.map (fun a => a.lb.isSome) ∧
    ∀ (j : Nat) b, bs[j]? = some (some b) → ∃ a, la[j]? = some a ∧ lentAt s a b (i + j) := by
  intro la
  induction la with
  | nil =>
    intro bs i h
    cases bs with
    | nil => exact ⟨rfl, fun j b h => by simp at h⟩
    | cons b bs => simp [lentEnd] at h
  | cons a la ih =>
    intro bs i h
    have step : ∀ {c : Option LB} {bs' : List (Option LB)}, lentEnd s la bs' (i + 1) → c.isSome = a.lb.isSome → (∀ b, c = some b → lentAt s a b i) → (c :: bs').map Option.isSome = (a :: la).map (fun a => a.lb.isSome) ∧ ∀ (j : Nat) b, (c :: bs')[j]? = some (some b) → ∃ a', (a :: la)[j]? = some a' ∧ lentAt s a' b (i + j) := by
      intro c bs' h1 h2 h3
      obtain ⟨q1, q2⟩ := ih h1
      refine ⟨by simp only [List.map_cons, h2, q1], fun j b hb => ?_⟩
      cases j with
      | zero => exact ⟨a, rfl, h3 b (by simpa using hb)⟩
      | succ j =>
        obtain ⟨a', r1, r2⟩ := q2 j b (by simpa using hb)
        refine ⟨a', by simpa using r1, ?_⟩
        rw [show i + (j + 1) = i + 1 + j by omega]
        exact r2
    cases bs with
    | nil => cases a <;> simp [lentEnd] at h
    | cons c bs =>
      cases a with
      | v x =>
        cases c with
        | none => exact step h rfl (fun b hb => by cases hb)
        | some b => simp [lentEnd] at h
      | ptr k off sz es =>
        cases c with
        | none => simp [lentEnd] at h
        | some b =>
          cases b with
          | row sz' es' =>
            obtain ⟨h1, h2, h3⟩ := h
            exact step h3 rfl (fun b hb => by injection hb with hb; subst hb; exact ⟨h1, h2⟩)
          | map es' => simp [lentEnd] at h
      | map es =>
        cases c with
        | none => simp [lentEnd] at h
        | some b =>
          cases b with
          | row sz' es' => simp [lentEnd] at h
          | map es' => exact step h.2 rfl (fun b hb => by injection hb with hb; subst hb; exact h.1)
theorem laPins_lt : ∀ {la : List LA} {i j : Nat}, j ∈ laPins la i → i ≤ j ∧ j < i + la.length := by
  intro la
  induction la with
  | nil => intro i j h; simp [laPins] at h
  | cons a la ih =>
    intro i j h
    cases a with
    | v x => have := ih (i := i + 1) h; simp; omega
    | ptr a b c d =>
      rcases List.mem_cons.1 h with h | h
      · subst h; simp
      · have := ih h; simp; omega
    | map es =>
      rcases List.mem_cons.1 h with h | h
      · subst h; simp
      · have := ih h; simp; omega
theorem laPins_mem : ∀ {la : List LA} {i j : Nat} {a : LA}, la[j]? = some a → a.lb.isSome = true → i + j ∈ laPins la i := by
  intro la
  induction la with
  | nil => intro i j a h; simp at h
  | cons b la ih =>
    intro i j a h hl
    cases j with
    | zero =>
      simp at h; subst h
      cases b with
      | v x => simp [LA.lb] at hl
      | ptr => simp [laPins]
      | map => simp [laPins]
    | succ j =>
      have := ih (i := i + 1) (by simpa using h) hl
      rw [show i + (j + 1) = i + 1 + j by omega]
      cases b with
      | v x => exact this
      | ptr => exact List.mem_cons_of_mem _ this
      | map => exact List.mem_cons_of_mem _ this
def EndL (P : Program) (rs : Array ResultVar) (la : List LA) (bs : List (Option LB)) (r : PV) : Exit → St → Prop
  | .normal, s | .ret, s => (resW P ⟨s.T, fun _ => none, s.nx⟩ rs.toList).map oneOr = some r ∧ lentEnd s la bs 0
  | _, _ => False
theorem LFn.of {f : FuncId} {fn : Func} {c : Code} {la : List LA} {bs : List (Option LB)} {r : PV} (hf : P.funcs[f]? = some fn) (hb : fn.body = some c) (hn : fn.name ≠ "runtime.NumGoroutine") {nt : Nat} (hnt : fn.ntmps = nt) {rs : Array ResultVar} (hrs : fn.results = rs) (hnt' : la.length ≤ nt)
    (hbs : bs.map Option.isSome = la.map (fun a => a.lb.isSome)) (h : ∀ val : Nat → Value, AW P ⟨nt, laPins la 0, val⟩ c ⟨laT la 0, laH la 0, la.length⟩ (EndL P rs la bs r)) : LFn P f la bs r := by
  subst hnt hrs
  refine ⟨by simp [enters, hf, hb, hn], hbs, fun w I σ vals hs hσ hr hH ht => ?_⟩
  have tx : TabX w (lentX σ (lendH la)) I := ⟨ht, fun g hg => (hH.imm g hg).1, fun g ⟨l, s, q1, q2, q3⟩ => (hH.mine l g s q1 q2 q3).1⟩
  refine calls_of_wp hf hb ?_
  have eH : laH la 0 = lendH la := by
    funext j
    rw [laH_at, if_neg (by omega), Nat.sub_zero]; rfl
  have at_ : ∀ i, i < vals.size → (vals ++ Array.replicate (fn.ntmps - vals.size) undef)[i]? = vals[i]? := fun i hi => by rw [Array.getElem?_append_left hi]
  have m : Matches ⟨fn.ntmps, laPins la 0, fun i => vals.getD i undef⟩ w (lentX σ (lendH la)) I ⟨laT la 0, laH la 0, la.length⟩ { tmps := vals ++ Array.replicate (fn.ntmps - vals.size) undef, defers := [] } w := by
    refine ⟨σ, I, hσ, rfl, (by simp; omega), fun i hi => ?_, by simp only; rw [eH]; exact hH, fun i x hx => ?_⟩
    · have hlt := (laPins_lt hi).2
      rw [Nat.zero_add, ← hs] at hlt
      simp only
      rw [at_ i hlt, Array.getD_eq_getD_getElem?, Array.getElem?_eq_getElem hlt]
      rfl
    · simp only at hx
      rw [laT_at, if_neg (by omega), Nat.sub_zero] at hx
      obtain ⟨a, ha, rfl⟩ := Option.map_eq_some_iff.1 hx
      have hi : i < vals.size := by rw [hs]; exact (List.getElem?_eq_some_iff.1 ha).1
      exact ⟨vals[i], by rw [at_ i hi, Array.getElem?_eq_getElem hi], hr i _ a (Array.getElem?_eq_getElem hi) ha⟩
  refine wp_mono (h _ w _ I _ w tx m) ?_
  rintro e a' w' ⟨s', ⟨σ', I', hn', m'⟩, q⟩
  have fin : ((resW P ⟨s'.T, fun _ => none, s'.nx⟩ fn.results.toList).map oneOr = some r ∧ lentEnd s' la bs 0) → a'.defers = [] ∧ ∃ v, (results fn a'.tmps).run P w' = .ok v w' ∧
      ∃ v' I', Ending.returned v = .returned v' ∧ HOK σ w' I' (outH bs) w (lentX σ (lendH la)) I ∧ rep w' I' v' r := by
    rintro ⟨q, hend⟩
    obtain ⟨l, hl, rfl⟩ := Option.map_eq_some_iff.1 q
    obtain ⟨_, spec⟩ := lentEnd_spec hend
    have m0 : Match ⟨fn.ntmps, laPins la 0, fun i => vals.getD i undef⟩ w (lentX σ (lendH la)) I σ' I' s'.T (fun _ => none) a' w' := ⟨m'.defers, m'.size, m'.pins, m'.heap.less (fun l b h => by cases h), m'.tmps⟩
    obtain ⟨vs, h1, h2, h3⟩ := run_results (s := ⟨s'.T, fun _ => none, s'.nx⟩) tx m0 (J := I') (fun _ h => h) (fun lb g sl q1 q2 q3 => absurd rfl q1) (hn' _ (Nat.le_refl _)) (resF a'.tmps) (fun t => rfl) (fun t ty => rfl) fn.results.toList l hl
    have hrun : (results fn a'.tmps).run P w' = .ok (if h : vs.length = 1 then vs[0] else .tuple vs.toArray) w' := by
      rw [results_eq, show fn.results = fn.results.toList.toArray by simp, List.mapM_toArray]
      simp only [Sem.run_bind, Sem.run_map, h1, Result.andThen_ok, Sem.run_pure, List.size_toArray, List.getElem_toArray]
    have slot : ∀ (j : Nat) b, bs[j]? = some (some b) → ∃ lb, σ' lb = σ j ∧ s'.H lb = some b.blk ∧ lendH la j ≠ none := fun j b hj => by
      obtain ⟨a, ha, hm⟩ := spec j b hj
      rw [Nat.zero_add] at hm
      have hjl : j < vals.size := by rw [hs]; exact (List.getElem?_eq_some_iff.1 ha).1
      have hv := hr j _ a (Array.getElem?_eq_getElem hjl) ha
      have pin : ∀ x, s'.T j = some x → a.lb.isSome = true → repA σ' w' I' vals[j] x := fun x hx hls => by
        have hp := m'.pins j (by have := laPins_mem (i := 0) ha hls; rwa [Nat.zero_add] at this)
        obtain ⟨u, hu, hru⟩ := m'.tmps j x hx
        rw [hp] at hu
        simp only [Option.some.injEq] at hu
        rw [Array.getD_eq_getD_getElem?, Array.getElem?_eq_getElem hjl] at hu
        simp only [Option.getD_some] at hu
        subst hu
        exact hru
      cases a with
      | v x => cases b <;> exact hm.elim
      | ptr k off sz es =>
        cases b with
        | map es' => exact hm.elim
        | row sz' es' =>
          obtain ⟨⟨lb, t1, t2⟩, rfl, hpos, hlen⟩ := hm
          have hv' := pin _ t1 rfl
          have hl0 : lendH la j = some (.row sz' (liftE es)) := by simp [lendH, ha, LA.lb, LB.blk]
          have b0 := hH.rows j _ hl0
          have b1 := m'.heap.rows lb _ t2
          simp only [LA.av] at hv
          generalize vals[j] = xv at hv hv'
          cases hv with
          | ptr s0 =>
            rename_i g n c sz0
            generalize hxe : Value.pointer (some ⟨g, k * sz0 + off, none⟩) = xv at hv'
            cases hv' with
            | ptr s1 =>
              rename_i g1 n1 c1 sz1
              injection hxe with hxe
              injection hxe with hxe
              injection hxe with hg _ _
              subst hg
              refine ⟨lb, ?_, t2, by rw [hl0]; simp⟩
              obtain ⟨cur0, et0, p0, e0, f0⟩ := cells_slot b0 s0
              obtain ⟨cur1, et1, p1, e1, f1⟩ := cells_slot b1 s1
              obtain ⟨cur2, et2, p2, e2, f2⟩ := m'.heap.fr.shape g cur0 et0 p0 e0
              rw [e1] at e2
              injection e2 with e2
              injection e2 with e2
              subst e2
              have n0 : n = es.length ∧ sz0 = sz' := by
                generalize he : liftE es = ls at b0
                cases b0 with
                | emp h => rw [s0] at h; cases h
                | row h => rw [s0] at h; injection h with h; injection h with _ h2 _ h4; subst he; exact ⟨by rw [h2]; simp [liftE], h4⟩
              have n1' : n1 = es'.length ∧ sz1 = sz' := by
                generalize he : liftE es' = ls at b1
                cases b1 with
                | emp h => rw [s1] at h; cases h
                | row h => rw [s1] at h; injection h with h; injection h with _ h2 _ h4; subst he; exact ⟨by rw [h2]; simp [liftE], h4⟩
              obtain ⟨rfl, rfl⟩ := n0
              obtain ⟨rfl, rfl⟩ := n1'
              have hc : c1 = c := Nat.eq_of_mul_eq_mul_right hpos (by rw [← f1, f2, f0])
              rw [s0, s1, hc, hlen]
      | map es =>
        cases b with
        | row sz' es' => exact hm.elim
        | map es' =>
          obtain ⟨lb, t1, t2⟩ := hm
          have hv' := pin _ t1 rfl
          simp only [LA.av] at hv
          generalize vals[j] = xv at hv hv'
          cases hv with
          | map s0 =>
            cases hv' with
            | map s1 => exact ⟨lb, by rw [s0, s1], t2, by simp [lendH, ha, LA.lb]⟩
    have outs : ∀ j b, outH bs j = some b → ∃ b', bs[j]? = some (some b') ∧ b = b'.blk := fun j b hj => by
      unfold outH at hj
      obtain ⟨c, q1, q2⟩ := Option.bind_eq_some_iff.1 hj
      obtain ⟨b', rfl, rfl⟩ := Option.map_eq_some_iff.1 q2
      exact ⟨b', q1, rfl⟩
    refine ⟨m'.defers, _, hrun, _, I', rfl, ⟨fun j b hj => ?_, fun j j' g s1 s2 q1 q2 => ?_, fun j g s1 q1 q2 q3 => ?_, m'.heap.imm, m'.heap.sub, m'.heap.fr⟩, ?_⟩
    · obtain ⟨b', q1, rfl⟩ := outs j b hj
      obtain ⟨lb, r1, r2, _⟩ := slot j b' q1
      exact blk_rel (fun s hs' => by rw [← r1]; exact hs') (m'.heap.rows lb _ r2)
    · obtain ⟨b1, hb1⟩ := Option.ne_none_iff_exists'.1 q1
      obtain ⟨b2, hb2⟩ := Option.ne_none_iff_exists'.1 q2
      obtain ⟨b1', r1, _⟩ := outs j b1 hb1
      obtain ⟨b2', r2, _⟩ := outs j' b2 hb2
      obtain ⟨_, _, _, t1⟩ := slot j b1' r1
      obtain ⟨_, _, _, t2⟩ := slot j' b2' r2
      exact hH.inj j j' g s1 s2 t1 t2
    · obtain ⟨b1, hb1⟩ := Option.ne_none_iff_exists'.1 q1
      obtain ⟨b1', r1, _⟩ := outs j b1 hb1
      obtain ⟨lb, t1, t2, t3⟩ := slot j b1' r1
      exact ⟨(m'.heap.mine lb g s1 (by rw [t2]; simp) (by rw [t1]; exact q2) q3).1, .inl ⟨j, s1, t3, q2, q3⟩⟩
    · by_cases h4 : vs.length = 1
      · rw [dif_pos h4]
        obtain ⟨p, rfl⟩ : ∃ p, l = [p] := List.length_eq_one_iff.1 (by omega)
        exact h3 0 _ p (List.getElem?_eq_getElem (by omega)) rfl
      · rw [dif_neg h4]
        have : oneOr l = .tuple l := by
          unfold oneOr
          split
          · exact absurd h2 h4
          · rfl
        rw [this]
        exact .tuple (by simpa using h2) (fun j u p q1 q2 => h3 j u p (by simpa using q1) q2)
  cases e with
  | normal => exact fin q
  | ret => exact fin q
  | exit _ => exact q.elim
  | goto _ => exact q.elim
  | panic _ => exact q.elim
  | outgrown => exact q.elim
end Go.Aw
/- More ways to tell a state anew: a place of one's own that nobody writes any more; nil or not. -/
namespace Go.Aw
open Go.RowKit
section
variable {σ : Lab} {w : World} {I : Nat → Prop} {nt : Fm} {s : St}
theorem rep_ptr {J : Nat → Prop} {l sz i off : Nat} {es : List (List AV)} {ps : List (List PV)} {cs : List PV} {v : Value} (hb : repB σ w I l (.row sz es)) (hv : repA σ w I v (.ptr l i off)) (hp : unlift es = some ps) (hcs : ps[i]? = some cs) (hg : ∀ g s, σ l = some s → s.block = some g → J g) (hI : ∀ b, I b → J b) : rep w J v (.box cs off) := by
  obtain ⟨hl, hcells⟩ := unlift_spec hp
  cases hb with
  | emp h' =>
    have : ps = [] := List.eq_nil_of_length_eq_zero (by rw [← hl]; rfl)
    subst this
    simp at hcs
  | row h' hh hcur hc hs ho hr =>
    rename_i g0 c0 cur et
    cases hv with
    | ptr hs' =>
      rename_i g n c szz
      rw [hs'] at h'
      injection h' with h'
      injection h' with e1 e2 e3 e4
      subst e1 e2 e3 e4
      have hi : i < es.length := by rw [hl]; exact (List.getElem?_eq_some_iff.1 hcs).1
      have he := List.getElem?_eq_getElem hi
      obtain ⟨k1, k2⟩ := pureL_spec (hcells i _ cs he hcs)
      have at_ : ∀ (j : Nat) p, cs[j]? = some p → ∃ x, es[i][j]? = some x ∧ pure1 x = some p := by
        intro j p h2
        have hj : j < (es[i]).length := by rw [k1]; exact (List.getElem?_eq_some_iff.1 h2).1
        exact ⟨_, List.getElem?_eq_getElem hj, k2 j _ p (List.getElem?_eq_getElem hj) h2⟩
      refine .box g (i * szz) off cs (fun j => (w.cell? ⟨g, i * szz + j, none⟩).getD undef) (hg _ _ hs' rfl) (fun p hp' => ?_) (fun j p h2 => ?_) (fun j p h2 => ?_)
      · obtain ⟨j, hj, rfl⟩ := List.mem_iff_getElem.1 hp'
        obtain ⟨x, q2, q3⟩ := at_ j _ (List.getElem?_eq_getElem hj)
        exact pure1_one q3 (ho _ (List.mem_of_getElem? he) x (List.mem_of_getElem? q2))
      · obtain ⟨x, q2, q3⟩ := at_ j p h2
        obtain ⟨u, hu, hru⟩ := hr i _ j x he q2
        have : w.cell? ⟨g, i * szz + j, none⟩ = some u := by simp [World.cell?, hh, hu]
        rw [this]
        rfl
      · obtain ⟨x, q2, q3⟩ := at_ j p h2
        obtain ⟨u, hu, hru⟩ := hr i _ j x he q2
        have : w.cell? ⟨g, i * szz + j, none⟩ = some u := by simp [World.cell?, hh, hu]
        rw [this]
        exact (rep_pure1 hru q3).mono hI (fun _ _ => rfl)
def thawP1 (lb : Nat) (ps : List (List PV)) : AV → AV
  | .own l => if l = lb then .p (.slice ps) else .own l
  | .ptr l i off => if l = lb then (match ps[i]? with | some cs => .p (.box cs off) | none => .ptr l i off) else .ptr l i off
  | x => x
def thawP (lb : Nat) (ps : List (List PV)) : AV → AV
  | .agg cs => mkAgg (cs.map (thawP1 lb ps))
  | x => thawP1 lb ps x
theorem thawP1_rep {J : Nat → Prop} {lb : Nat} {ps : List (List PV)} {v : Value} {x : AV} (hI : ∀ b, I b → J b) (hl : ∀ v, repA σ w I v (.own lb) → rep w J v (.slice ps)) (hp : ∀ v i off cs, ps[i]? = some cs → repA σ w I v (.ptr lb i off) → rep w J v (.box cs off)) (h : repA σ w I v x) : repA σ w J v (thawP1 lb ps x) := by
  unfold thawP1
  split
  · split
    · rename_i e
      subst e
      exact .p (hl v h)
    · exact h.mono (fun _ _ h => h) hI (fun _ _ => rfl)
  · split
    · rename_i e
      subst e
      split
      · rename_i cs hc
        exact .p (hp v _ _ cs hc h)
      · exact h.mono (fun _ _ h => h) hI (fun _ _ => rfl)
    · exact h.mono (fun _ _ h => h) hI (fun _ _ => rfl)
  · exact h.mono (fun _ _ h => h) hI (fun _ _ => rfl)
theorem thawP1_one (lb : Nat) (ps : List (List PV)) (x : AV) (h : x.one = true) : (thawP1 lb ps x).one = true := by
  unfold thawP1
  split
  · split <;> rfl
  · split
    · split <;> rfl
    · exact h
  · exact h
theorem thawP_lift (lb : Nat) (qs ps : List (List PV)) : (liftE ps).map (fun e => e.map (thawP1 lb qs)) = liftE ps := by
  simp [liftE, thawP1]
/-- A place of one's own, ags what is only read. -/
theorem Ghost.freezeP {lb sz : Nat} {es : List (List AV)} {ps : List (List PV)} (hl : s.H lb = some (.row sz es)) (hp : unlift es = some ps) :
    Ghost nt s ⟨fun i => (s.T i).map (thawP lb ps), fun l => if l = lb then none else (s.H l).map fun | .row sz es => .row sz (es.map fun e => e.map (thawP1 lb ps)) | b => b, s.nx⟩ := by
  rintro w0 X I0 a w ⟨σ, I, hσ, m⟩
  have hb := m.heap.rows lb _ hl
  obtain ⟨sl, hs, hlt⟩ := hb.block
  have key : ∃ J : Nat → Prop, (∀ b, I b → J b) ∧ HOK σ w J (upd s.H lb none) w0 X I0 ∧ ∀ g s', σ lb = some s' → s'.block = some g → J g := by
    cases hsb : sl.block with
    | none =>
      refine ⟨I, fun _ h => h, m.heap.less fun l b hb => ?_, fun g s' q1 q2 => ?_⟩
      · by_cases hl : l = lb
        · subst hl; rw [upd_same] at hb; cases hb
        · rwa [upd_ne _ _ hl] at hb
      · rw [hs] at q1; injection q1 with q1; subst q1; rw [hsb] at q2; cases q2
    | some g =>
      refine ⟨_, fun _ h => .inl h, m.heap.freeze (by rw [hl]; simp) hs hsb, fun g' s' q1 q2 => ?_⟩
      rw [hs] at q1; injection q1 with q1; subst q1; rw [hsb] at q2; injection q2 with q2; exact .inr q2.symm
  obtain ⟨J, hIJ, hJ, hg⟩ := key
  have hown : ∀ v, repA σ w I v (.own lb) → rep w J v (.slice ps) := fun v hv => rep_own hb hv hp hg hIJ
  have hptr : ∀ v i off cs, ps[i]? = some cs → repA σ w I v (.ptr lb i off) → rep w J v (.box cs off) := fun v i off cs q hv => rep_ptr hb hv hp q hg hIJ
  refine ⟨σ, J, hσ, m.defers, m.size, m.pins, ⟨fun l b hb' => ?_, fun l1 l2 g s1 s2 h1 h2 => ?_, fun l g s' h1 => ?_, hJ.imm, hJ.sub, hJ.fr⟩, fun i x hx => ?_⟩
  · simp only at hb'
    split at hb'
    · cases hb'
    · rename_i hne
      rw [Option.map_eq_some_iff] at hb'
      obtain ⟨b0, hb0, hb'⟩ := hb'
      have hr := m.heap.rows l b0 hb0
      subst hb'
      cases hr with
      | emp h' => exact .emp h'
      | row h' hh hcur hc hs' ho hrr =>
        refine .row (by rw [List.length_map]; exact h') hh hcur (by rw [List.length_map]; exact hc) (fun e he => ?_) (fun e he x hx => ?_) fun i e j x q1 q2 => ?_
        · obtain ⟨e', he', rfl⟩ := List.mem_map.1 he
          rw [List.length_map]
          exact hs' e' he'
        · obtain ⟨e', he', rfl⟩ := List.mem_map.1 he
          obtain ⟨x', hx', rfl⟩ := List.mem_map.1 hx
          exact thawP1_one _ _ _ (ho e' he' x' hx')
        · rw [List.getElem?_map, Option.map_eq_some_iff] at q1
          obtain ⟨e', he', rfl⟩ := q1
          rw [List.getElem?_map, Option.map_eq_some_iff] at q2
          obtain ⟨x', hx', rfl⟩ := q2
          obtain ⟨u, hu, hru⟩ := hrr i e' j x' he' hx'
          exact ⟨u, hu, thawP1_rep hIJ hown hptr hru⟩
      | map h' hh hn hrr => exact .map h' hh hn fun i m e q1 q2 => ⟨(hrr i m e q1 q2).1, ((hrr i m e q1 q2).2).mono (fun _ _ h => h) hIJ (fun _ _ => rfl)⟩
      | iter h' hh => exact .iter h' hh
  · refine hJ.inj l1 l2 g s1 s2 ?_ ?_
    · intro h
      apply h1
      simp only
      split
      · rfl
      · rename_i hne; rw [upd_ne _ _ hne] at h; rw [h]; rfl
    · intro h
      apply h2
      simp only
      split
      · rfl
      · rename_i hne; rw [upd_ne _ _ hne] at h; rw [h]; rfl
  · refine hJ.mine l g s' fun h => h1 ?_
    simp only
    split
    · rfl
    · rename_i hne; rw [upd_ne _ _ hne] at h; rw [h]; rfl
  · simp only at hx
    rw [Option.map_eq_some_iff] at hx
    obtain ⟨x', hx', rfl⟩ := hx
    obtain ⟨u, hu, hru⟩ := m.tmps i x' hx'
    refine ⟨u, hu, ?_⟩
    unfold thawP
    split
    · cases hru with
      | agg hs' hr =>
        refine repA_agg (by rw [List.length_map]; exact hs') fun j u p q1 q2 => ?_
        rw [List.getElem?_map, Option.map_eq_some_iff] at q2
        obtain ⟨x'', hx'', rfl⟩ := q2
        exact thawP1_rep hIJ hown hptr (hr j u x'' q1 hx'')
    · exact thawP1_rep hIJ hown hptr hru
/-- An empty slice is a constant: nil, or not. -/
theorem AW.nilSplit {P : Program} {c : Code} {Q : Exit → St → Prop} {t : Nat} (ht : s.T t = some (.p (.slice []))) (h : ∀ a n, AW P nt c ⟨upd s.T t (some (.p (.cst (.slice a 0 n)))), s.H, s.nx⟩ Q) : AW P nt c s Q := by
  rintro w0 X I0 a w tx hm
  obtain ⟨σ, I, hσ, m⟩ := hm
  obtain ⟨u, hu, hr⟩ := m.tmps _ _ ht
  obtain ⟨ad, n, rfl⟩ : ∃ ad n, u = .slice ad 0 n := by
    cases hr with
    | p hr =>
      generalize hv : PV.slice [] = x at hr
      cases hr with
      | empty ad n => exact ⟨_, _, rfl⟩
      | slice b o n c sz es us hn =>
        injection hv with hv
        subst hv
        subst hn
        exact ⟨_, _, rfl⟩
      | _ => cases hv
  refine h ad n w0 X I0 a w tx ⟨σ, I, hσ, m.defers, m.size, m.pins, m.heap, fun i z hz => ?_⟩
  simp only at hz
  by_cases hi : i = t
  · subst hi
    rw [upd_same] at hz
    injection hz with hz
    subst hz
    exact ⟨_, hu, .p (.cst _)⟩
  · rw [upd_ne _ _ hi] at hz
    exact m.tmps i z hz
theorem Ghost.unNil {t n : Nat} {a : Option Addr} (ht : s.T t = some (.p (.cst (.slice a 0 n)))) : Ghost nt s ⟨upd s.T t (some (.p (.slice []))), s.H, s.nx⟩ :=
  Ghost.weak ht fun _ _ _ _ h => by
    cases h with
    | p h => cases h with
      | cst => exact .p (.empty _ _)
theorem eqIn_nil {P : Program} {t te : TypeId} (hu : P.underlying t = some (.slice te)) (w : World) (d : Nat) (a : Option Addr) (n c : Nat) : (Op.equalIn (d + 1) t (.slice a n c) (.slice none 0 0)).run P w = .ok a.isNone w := by
  cases a <;> simp [Op.equalIn, run_underlying hu]
theorem eqP_nil {P : Program} {t te : TypeId} (hu : P.underlying t = some (.slice te)) (a : Option Addr) (n : Nat) : EqP P t (.cst (.slice a 0 n)) (.cst (.slice none 0 0)) a.isNone := by
  intro w I u v h1 h2
  cases h1
  cases h2
  have e : (Op.equalIn 10000 t (.slice a 0 n) (.slice none 0 0)).run P w = .ok a.isNone w := eqIn_nil hu w 9999 a 0 n
  refine ⟨?_, ?_, fun op x y => by cases op <;> rfl⟩
  · simp only [binOp]; simp [Op.equal, Op.maxDepth, e]
  · simp only [binOp]; simp [Op.equal, Op.maxDepth, e]
theorem eqP_some {P : Program} {t te : TypeId} (hu : P.underlying t = some (.slice te)) (e : List PV) (es : List (List PV)) : EqP P t (.slice (e :: es)) (.cst (.slice none 0 0)) false := by
  intro w I u v h1 h2
  cases h2
  generalize hx : PV.slice (e :: es) = x at h1
  cases h1 with
  | slice b o n c sz es' us =>
    have e : (Op.equalIn 10000 t (.slice (some ⟨b, o, none⟩) n c) (.slice none 0 0)).run P w = .ok false w := eqIn_nil hu w 9999 _ n c
    refine ⟨?_, ?_, fun op x y => by cases op <;> rfl⟩
    · simp only [binOp]; simp [Op.equal, Op.maxDepth, e]
    · simp only [binOp]; simp [Op.equal, Op.maxDepth, e]
  | empty a c => injection hx with hx; cases hx
  | _ => cases hx
end
end Go.Aw
/- A cell of one's own may be told less of. -/
namespace Go.Aw
theorem Ghost.weakH {nt : Fm} {s : St} {l i j sz : Nat} {es : List (List AV)} {e : List AV} {x y : AV} (hl : s.H l = some (.row sz es)) (hi : es[i]? = some e) (hj : e[j]? = some x) (hy : y.one = true) (hw : ∀ σ w I v, repA σ w I v x → repA σ w I v y) :
    Ghost nt s ⟨s.T, upd s.H l (some (.row sz (es.set i (e.set j y)))), s.nx⟩ := by
  rintro w0 X I0 a w ⟨σ, I, hσ, m⟩
  have hb := m.heap.rows l _ hl
  cases hb with
  | emp h => simp at hi
  | row h hg hcur hc hs ho hr =>
    rename_i g c cur et
    refine ⟨σ, I, hσ, m.defers, m.size, m.pins, ⟨fun l' b' h' => ?_, fun l1 l2 g s1 s2 h1 h2 => ?_, fun l' g s' h1 => ?_, m.heap.imm, m.heap.sub, m.heap.fr⟩, m.tmps⟩
    · simp only at h'
      by_cases e2 : l' = l
      · subst e2
        rw [upd_same] at h'
        injection h' with h'
        subst h'
        refine .row (by rw [List.length_set]; exact h) hg hcur (by rw [List.length_set]; exact hc) (fun e' he' => ?_) (fun e' he' x hx => ?_) fun i' e' j' x q1 q2 => ?_
        · rcases List.mem_or_eq_of_mem_set he' with he' | rfl
          · exact hs e' he'
          · rw [List.length_set]; exact hs e (List.mem_of_getElem? hi)
        · rcases List.mem_or_eq_of_mem_set he' with he' | rfl
          · exact ho e' he' x hx
          · rcases List.mem_or_eq_of_mem_set hx with hx | rfl
            · exact ho e (List.mem_of_getElem? hi) x hx
            · exact hy
        · rw [List.getElem?_set] at q1
          split at q1
          · rename_i e3
            subst e3
            split at q1
            · injection q1 with q1
              subst q1
              rw [List.getElem?_set] at q2
              split at q2
              · rename_i e4
                subst e4
                split at q2
                · injection q2 with q2
                  subst q2
                  obtain ⟨u, hu, hru⟩ := hr i e j _ hi hj
                  exact ⟨u, hu, hw _ _ _ _ hru⟩
                · cases q2
              · exact hr i e j' x hi q2
            · cases q1
          · exact hr i' e' j' x q1 q2
      · rw [upd_ne _ _ e2] at h'
        exact m.heap.rows l' b' h'
    · refine m.heap.inj l1 l2 g s1 s2 ?_ ?_
      · intro h0; apply h1
        show upd s.H l _ l1 = none
        by_cases e2 : l1 = l
        · subst e2; rw [hl] at h0; cases h0
        · rw [upd_ne _ _ e2]; exact h0
      · intro h0; apply h2
        show upd s.H l _ l2 = none
        by_cases e2 : l2 = l
        · subst e2; rw [hl] at h0; cases h0
        · rw [upd_ne _ _ e2]; exact h0
    · refine m.heap.mine l' g s' ?_
      intro h0; apply h1
      show upd s.H l _ l' = none
      by_cases e2 : l' = l
      · subst e2; rw [hl] at h0; cases h0
      · rw [upd_ne _ _ e2]; exact h0
theorem Ghost.exH {nt : Fm} {s : St} {l i j sz : Nat} {es : List (List AV)} {e : List AV} {x : List (List PV)} (hl : s.H l = some (.row sz es)) (hi : es[i]? = some e) (hj : e[j]? = some (.ex x)) :
    Ghost nt s ⟨s.T, upd s.H l (some (.row sz (es.set i (e.set j (.p (.slice x)))))), s.nx⟩ :=
  Ghost.weakH hl hi hj rfl fun _ _ _ _ h => by
    cases h with
    | ex _ h => exact .p h
end Go.Aw
