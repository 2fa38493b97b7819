/- Data opened, with the bounds of their weights. -/
import Derived.Test.YtmeplhcfjihafaaDoorAwG1
namespace Go.Aw
open Go.RowKit Go.ChangeShapes
variable {P : Program} {w : World}
def OpnW (P : Program) (w : World) (t : TypeId) {α : Type} (e : α → List PV) (G : α → Prop) : Prop :=
  (∀ a, ∀ p ∈ e a, p.one = true) ∧ ∀ (H : Type) (enc : TypeId × Value → H) (fuel : Nat) (cs : List Value) (d : DataW H × List MemPlace), DataW.trod enc P w 0 (fun _ => true) true fuel t cs = some d → (d.1.weights P t).all (· ≤ reachBytes) = true →
    ∃ a, G a ∧ cs.length = (e a).length ∧ ∀ (j : Nat) u p, cs[j]? = some u → (e a)[j]? = some p → rep w (old w) u p
theorem Opn.toW {t : TypeId} {α : Type} {e : α → List PV} {G : α → Prop} (h : Opn P w t e G) : OpnW P w t e G := ⟨h.1, fun H enc fuel cs d hd _ => h.2 H enc fuel cs d hd⟩
theorem OpnW.map {t : TypeId} {α β : Type} {e : α → List PV} {G : α → Prop} {e' : β → List PV} {G' : β → Prop} (h : OpnW P w t e G) (f : α → β) (he : ∀ a, e' (f a) = e a) (h1 : ∀ b, ∀ p ∈ e' b, p.one = true) (hg : ∀ a, G a → G' (f a)) : OpnW P w t e' G' := by
  refine ⟨h1, fun H enc fuel cs d hd hw => ?_⟩
  obtain ⟨a, g, l, r⟩ := h.2 H enc fuel cs d hd hw
  exact ⟨f a, hg a g, by rw [he]; exact l, by rw [he]; exact r⟩
theorem opnW_str {t : TypeId} (hu : P.underlying t = some .string) : OpnW P w t (fun s : List UInt8 => [.str s]) (fun s => s.length ≤ reachBytes) := by
  refine ⟨fun a p hp => by simp at hp; subst hp; rfl, fun H enc fuel cs d hd hwt => ?_⟩
  cases fuel with
  | zero => simp [DataW.trod] at hd
  | succ n =>
    unfold DataW.trod at hd
    rw [hu] at hd
    split at hd <;> rename_i hh <;> try (cases hh; done)
    all_goals try cases hh
    · split at hd
      · injection hd with hd
        subst hd
        simp only [DataW.weights, List.all_cons, Bool.and_eq_true, decide_eq_true_eq] at hwt
        refine ⟨(‹ByteArray›).data.toList, hwt.1, rfl, fun j u p h1 h2 => by
          cases j with
          | zero => simp at h1 h2; subst h1; subst h2; exact .str _
          | succ j => simp at h1⟩
      · cases hd
    all_goals cases hd
theorem weightsAll_mem {H : Type} {te : TypeId} {R : Nat} : ∀ {l : List (DataW H)} {x : DataW H}, (DataW.weightsAll P te l).all (· ≤ R) = true → x ∈ l → (x.weights P te).all (· ≤ R) = true
  | [], x, _, hx => by cases hx
  | y :: l, x, h, hx => by
    rw [DataW.weightsAll, List.all_append, Bool.and_eq_true] at h
    rcases List.mem_cons.1 hx with rfl | hx
    · exact h.1
    · exact weightsAll_mem h.2 hx
theorem opnW_slice {t te : TypeId} {sz : Nat} {α : Type} {e : α → List PV} {G : α → Prop} (hu : P.underlying t = some (.slice te)) (hz : P.cellsOf te = sz) (hp : 0 < sz) (h : OpnW P w te e G) (hs : ∀ a, (e a).length = sz) :
    OpnW P w t (fun l : List α => [.slice (l.map e)]) (fun l => (l.length ≤ maxLen ∧ l.length * P.bytesOf te ≤ reachBytes) ∧ ∀ a ∈ l, G a) := by
  refine ⟨fun a p hp => by simp at hp; subst hp; rfl, fun H enc fuel cs d hd hwt => ?_⟩
  have one : ∀ (v : Value) (l : List α), rep w (old w) v (.slice (l.map e)) → ∀ (j : Nat) u p, [v][j]? = some u → ([PV.slice (l.map e)])[j]? = some p → rep w (old w) u p := by
    intro v l hr j u p h1 h2
    cases j with
    | zero => simp at h1 h2; subst h1; subst h2; exact hr
    | succ j => simp at h1
  cases fuel with
  | zero => simp [DataW.trod] at hd
  | succ n =>
    unfold DataW.trod at hd
    rw [hu] at hd
    split at hd <;> rename_i hh <;> try (cases hh; done)
    all_goals try cases hh
    · exact ⟨[], ⟨⟨by simp, by simp⟩, by simp⟩, rfl, one _ [] (.empty _ _)⟩
    · rename_i a len cap
      dsimp only at hd
      split at hd
      · rename_i hc
        obtain ⟨_, hlc, hcm⟩ := hc
        simp only [Option.bind_eq_some_iff] at hd
        obtain ⟨els, he, hrest⟩ := hd
        obtain ⟨hl, hg⟩ := mapM_get he
        have hd1 : ∃ sp, d.1 = .slice (els.map (·.1)) sp := by
          clear hwt
          revert hrest
          simp only [Option.map_eq_some_iff]
          intro hrest
          first
          | (obtain ⟨sp, _, rfl⟩ := hrest; exact ⟨_, rfl⟩)
          | (obtain ⟨sp, _, hd⟩ := hrest; injection hd with hd; subst hd; exact ⟨_, rfl⟩)
          | (subst hrest; exact ⟨_, rfl⟩)
        obtain ⟨sp, hsp⟩ := hd1
        rw [hsp] at hwt
        simp only [DataW.weights, hu, List.all_cons, Bool.and_eq_true, decide_eq_true_eq, List.length_map, List.all_append] at hwt
        obtain ⟨hw1, hw2, _⟩ := hwt
        have hl' : els.length = len := by simpa using hl
        rw [hl'] at hw1
        have hwlen : len * P.bytesOf te ≤ reachBytes := Nat.le_trans (Nat.mul_le_mul_right _ (Nat.le_add_right _ _)) hw1
        have each : ∀ i, i < len → ∃ x : List Value × α, w.cells? 0 (a.add (i * sz)) sz = some x.1 ∧ G x.2 ∧ x.1.length = (e x.2).length ∧ ∀ (j : Nat) u p, x.1[j]? = some u → (e x.2)[j]? = some p → rep w (old w) u p := by
          intro i hi
          obtain ⟨y, hyi, hy⟩ := hg i i (by simp [hi])
          obtain ⟨c, hc1, hc2⟩ := Option.bind_eq_some_iff.1 hy
          rw [hz] at hc1
          obtain ⟨b, g, l, r⟩ := h.2 H enc n c y hc2 (weightsAll_mem hw2 (List.mem_map.2 ⟨y, List.mem_of_getElem? hyi, rfl⟩))
          exact ⟨(c, b), hc1, g, l, r⟩
        obtain ⟨xs, hxl, hx⟩ := list_choose len each
        have hgl : ((xs.map (·.2)).length ≤ maxLen ∧ (xs.map (·.2)).length * P.bytesOf te ≤ reachBytes) ∧ ∀ b ∈ xs.map (·.2), G b := by
          refine ⟨⟨by rw [List.length_map, hxl]; exact Nat.le_trans hlc hcm, by rw [List.length_map, hxl]; exact hwlen⟩, fun b hb => ?_⟩
          obtain ⟨x, hx1, rfl⟩ := List.mem_map.1 hb
          obtain ⟨i, hi⟩ := List.getElem?_of_mem hx1
          exact (hx i x hi).2.1
        refine ⟨xs.map (·.2), hgl, rfl, one _ _ ?_⟩
        rcases Nat.eq_zero_or_pos len with h0 | h0
        · subst h0
          have : xs = [] := List.eq_nil_of_length_eq_zero hxl
          subst this
          exact .empty _ _
        · obtain ⟨x0, hx0⟩ : ∃ x, xs[0]? = some x := ⟨_, List.getElem?_eq_getElem (by omega)⟩
          obtain ⟨c0, _, l0, _⟩ := hx 0 x0 hx0
          obtain ⟨_, cl0, cg0⟩ := World.cells?_some c0
          have q0 := cg0 0 hp
          rw [Nat.zero_mul] at q0
          have hadd : (a.add 0).add 0 = a := by simp [Addr.add]
          rw [hadd, List.getElem?_eq_getElem (by omega)] at q0
          have hsp : a.spot = none ∧ a.block < w.heap.size := by
            unfold World.cell? at q0
            split at q0
            · rename_i hb
              split at q0
              · cases q0
              · rename_i hs'
                refine ⟨by simpa using hs', ?_⟩
                rcases Nat.lt_or_ge a.block w.heap.size with h' | h'
                · exact h'
                · rw [Array.getElem?_eq_none h'] at hb; cases hb
            · cases q0
          obtain ⟨b, o, sp⟩ := a
          obtain ⟨hsp, hbl⟩ := hsp
          dsimp only at hsp hbl
          subst hsp
          refine rep.slice (I := old w) b o len cap sz ((xs.map (·.2)).map e) (fun i j => ((xs.getD i ([], x0.2)).1.getD j .nilIface)) (by simp [hxl]) hlc ?_ hbl ?_ ?_ ?_
          · intro x hx
            simp only [List.map_map, List.mem_map] at hx
            obtain ⟨y, _, rfl⟩ := hx
            exact hs _
          · intro x hx p hp'
            simp only [List.map_map, List.mem_map] at hx
            obtain ⟨y, _, rfl⟩ := hx
            exact h.1 _ _ hp'
          · intro i x j p hi hj
            simp only [List.map_map, List.getElem?_map, Option.map_eq_some_iff] at hi
            obtain ⟨y, hy, rfl⟩ := hi
            obtain ⟨c1, _, l1, r1⟩ := hx i y hy
            obtain ⟨_, cl1, cg1⟩ := World.cells?_some c1
            have hjl : j < sz := by rw [← hs y.2]; exact (List.getElem?_eq_some_iff.1 hj).1
            have := cg1 j hjl
            have ea : ((⟨b, o, none⟩ : Addr).add (i * sz)).add j = ⟨b, o + (i * sz + j), none⟩ := by
              unfold Addr.add
              repeat' split
              all_goals simp <;> omega
            rw [ea, List.getElem?_eq_getElem (by omega)] at this
            rw [this]
            simp [List.getD, hy, List.getElem?_eq_getElem (show j < y.1.length by omega)]
          · intro i x j p hi hj
            simp only [List.map_map, List.getElem?_map, Option.map_eq_some_iff] at hi
            obtain ⟨y, hy, rfl⟩ := hi
            obtain ⟨c1, _, l1, r1⟩ := hx i y hy
            obtain ⟨_, cl1, cg1⟩ := World.cells?_some c1
            have hjl : j < sz := by rw [← hs y.2]; exact (List.getElem?_eq_some_iff.1 hj).1
            refine r1 j _ p ?_ hj
            simp [List.getD, hy, List.getElem?_eq_getElem (show j < y.1.length by omega)]
      · cases hd
    all_goals cases hd
/-- Fields one behind the other, from a place on. -/
def OpnFW (P : Program) (w : World) (off : Nat) (fs : List Field) {α : Type} (e : α → List PV) (G : α → Prop) : Prop :=
  (∀ a, ∀ p ∈ e a, p.one = true) ∧ (∀ a, (e a).length = (fs.map fun f => P.cellsOf f.type).sum) ∧ ∀ (H : Type) (enc : TypeId × Value → H) (n : Nat) (cs : List Value) (xs : List (DataW H × List MemPlace)),
    fs.mapM (fun f => DataW.trod enc P w 0 (fun _ => true) true n f.type ((cs.drop f.offset).take (P.cellsOf f.type))) = some xs → (DataW.weightsEach P (fs.map (·.type)) (xs.map (·.1))).all (· ≤ reachBytes) = true →
    ∃ a, G a ∧ ∀ (j : Nat) u p, cs[off + j]? = some u → (e a)[j]? = some p → rep w (old w) u p
theorem opnFW_nil {off : Nat} : OpnFW P w off [] (fun _ : Unit => []) (fun _ => True) :=
  ⟨fun a p hp => by simp at hp, fun a => rfl, fun H enc n cs xs h _ => ⟨(), trivial, fun j u p h1 h2 => by simp at h2⟩⟩
theorem opnFW_cons {off sz : Nat} {f : Field} {fs : List Field} {α β : Type} {e : α → List PV} {G : α → Prop} {e' : β → List PV} {G' : β → Prop} (ho : f.offset = off) (hz : P.cellsOf f.type = sz) (h : OpnW P w f.type e G) (hs : ∀ a, (e a).length = sz) (h' : OpnFW P w (off + sz) fs e' G') :
    OpnFW P w off (f :: fs) (fun x : α × β => e x.1 ++ e' x.2) (fun x => G x.1 ∧ G' x.2) := by
  refine ⟨fun a p hp => ?_, fun a => by simp [hs, hz, h'.2.1], fun H enc n cs xs hx hwt => ?_⟩
  · rcases List.mem_append.1 hp with hp | hp
    · exact h.1 _ _ hp
    · exact h'.1 _ _ hp
  · simp only [List.mapM_cons, Option.bind_eq_bind, Option.bind_eq_some_iff, Option.pure_def, Option.some.injEq] at hx
    obtain ⟨y, hy, ys, hys, rfl⟩ := hx
    rw [List.map_cons, List.map_cons, DataW.weightsEach, List.all_append, Bool.and_eq_true] at hwt
    obtain ⟨a, ga, la, ra⟩ := h.2 H enc n _ y hy hwt.1
    obtain ⟨b, gb, rb⟩ := h'.2.2 H enc n cs ys hys hwt.2
    refine ⟨(a, b), ⟨ga, gb⟩, fun j u p h1 h2 => ?_⟩
    rcases Nat.lt_or_ge j sz with hj | hj
    · rw [List.getElem?_append_left (by rw [hs]; exact hj)] at h2
      refine ra j u p ?_ h2
      rw [ho, hz, List.getElem?_take, if_pos hj, List.getElem?_drop]
      exact h1
    · rw [List.getElem?_append_right (by rw [hs]; exact hj), hs] at h2
      exact rb (j - sz) u p (by rw [← h1]; congr 1; omega) h2
theorem opnW_struct {t : TypeId} {fs : Array Field} {α : Type} {e : α → List PV} {G : α → Prop} (hu : P.underlying t = some (.struct fs)) (hz : P.cellsOf t = (fs.toList.map fun f => P.cellsOf f.type).sum) (h : OpnFW P w 0 fs.toList e G) : OpnW P w t e G := by
  refine ⟨h.1, fun H enc fuel cs d hd hwt => ?_⟩
  cases fuel with
  | zero => simp [DataW.trod] at hd
  | succ n =>
    unfold DataW.trod at hd
    rw [hu] at hd
    split at hd <;> rename_i hh <;> try (cases hh; done)
    all_goals try cases hh
    all_goals try (cases hd; done)
    all_goals
      split at hd
      · rename_i hl
        obtain ⟨xs, hx, hd⟩ := Option.map_eq_some_iff.1 hd
        subst hd
        simp only [DataW.weights, hu] at hwt
        obtain ⟨a, ga, ra⟩ := h.2.2 H enc n _ xs hx hwt
        exact ⟨a, ga, by rw [hl, hz, h.2.1], fun j u p h1 h2 => ra j u p (by rw [Nat.zero_add]; exact h1) h2⟩
      · cases hd
theorem opnAW_flat {t : TypeId} {ts : List TypeId} {α β : Type} {e : α → PV} {G : α → Prop} {e' : β → List PV} {G' : β → Prop} (hf : flat P t = true) (h : OpnW P w t (fun a => [e a]) G) (h' : OpnA P w ts e' G') : OpnA P w (t :: ts) (fun x : α × β => e x.1 :: e' x.2) (fun x => G x.1 ∧ G' x.2) := by
  intro H enc vs ds ps hh hv hwt
  obtain ⟨v, vs1, d, ds1, p, q, rfl, rfl, rfl, h1, h2⟩ := trodAll_cons hh
  rw [DataW.weightsEach, List.all_append, Bool.and_eq_true] at hwt
  obtain ⟨n, hn⟩ := h1
  obtain ⟨base, hv0⟩ := hv 0 t v rfl rfl
  rw [cells_flat hf hv0] at hn
  obtain ⟨a, ga, la, ra⟩ := h.2 H enc n _ _ hn hwt.1
  obtain ⟨b, gb, lb, rb⟩ := h' H enc vs1 ds1 q h2 (fun j t v h1 h2 => hv (j + 1) t v (by simpa using h1) (by simpa using h2)) hwt.2
  refine ⟨(a, b), ⟨ga, gb⟩, by simp [lb], fun j u p h1 h2 => ?_⟩
  cases j with
  | zero =>
    simp at h1 h2
    subst h1; subst h2
    exact ra 0 _ (e a) rfl rfl
  | succ j => exact rb j u p (by simpa using h1) (by simpa using h2)
theorem opnAW_agg {t : TypeId} {ts : List TypeId} {fs : Array Field} {α β : Type} {e : α → List PV} {G : α → Prop} {e' : β → List PV} {G' : β → Prop} (hu : P.underlying t = some (.struct fs)) (h : OpnW P w t e G) (h' : OpnA P w ts e' G') : OpnA P w (t :: ts) (fun x : α × β => .agg (e x.1) :: e' x.2) (fun x => G x.1 ∧ G' x.2) := by
  intro H enc vs ds ps hh hv hwt
  obtain ⟨v, vs1, d, ds1, p, q, rfl, rfl, rfl, h1, h2⟩ := trodAll_cons hh
  rw [DataW.weightsEach, List.all_append, Bool.and_eq_true] at hwt
  obtain ⟨n, hn⟩ := h1
  obtain ⟨base, hv0⟩ := hv 0 t v rfl rfl
  unfold Value.okWide at hv0
  rw [hu] at hv0
  obtain ⟨cs, rfl, _, _⟩ := hv0
  obtain ⟨a, ga, la, ra⟩ := h.2 H enc n _ _ hn hwt.1
  obtain ⟨b, gb, lb, rb⟩ := h' H enc vs1 ds1 q h2 (fun j t v h1 h2 => hv (j + 1) t v (by simpa using h1) (by simpa using h2)) hwt.2
  refine ⟨(a, b), ⟨ga, gb⟩, by simp [lb], fun j u p h1 h2 => ?_⟩
  cases j with
  | zero =>
    simp at h1 h2
    subst h1; subst h2
    exact .agg (by simpa [Value.cells] using la) fun j u p h1 h2 => ra j u p (by simpa [Value.cells] using h1) h2
  | succ j => exact rb j u p (by simpa using h1) (by simpa using h2)

end Go.Aw
