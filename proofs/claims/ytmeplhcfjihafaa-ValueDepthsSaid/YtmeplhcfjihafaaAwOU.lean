/- Data of a type that holds itself, opened: with a bound on the reader's fuel. -/
import Derived.Test.YtmeplhcfjihafaaAwVB
import Derived.Test.YtmeplhcfjihafaaAwWO
namespace Go.Aw
open Go.RowKit Go.ChangeShapes
open Go.Proofs
variable {P : Program} {w : World}
def OpnB (B : Nat → Prop) (P : Program) (w : World) (t : TypeId) {α : Type} (e : α → List PV) (G : α → Prop) : Prop :=
  (∀ a, ∀ p ∈ e a, p.one = true) ∧ ∀ (H : Type) (enc : TypeId × Value → H) (fuel : Nat), B fuel → ∀ (cs : List Value) (d : DataW H × List MemPlace), DataW.trod enc P w 0 (fun _ => true) true fuel t cs = some d →
    ∃ a, G a ∧ cs.length = (e a).length ∧ ∀ (j : Nat) u p, cs[j]? = some u → (e a)[j]? = some p → rep w (old w) u p
theorem OpnB.mapG {B : Nat → Prop} {t : TypeId} {α β : Type} {e : α → List PV} {G : α → Prop} {e' : β → List PV} {G' : β → Prop} (h : OpnB B P w t e G) (f : α → β) (he : ∀ a, e' (f a) = e a) (h1 : ∀ b, ∀ p ∈ e' b, p.one = true) (hg : ∀ a, G a → G' (f a)) : OpnB B P w t e' G' := by
  refine ⟨h1, fun H enc fuel hB cs d hd => ?_⟩
  obtain ⟨a, g, l, r⟩ := h.2 H enc fuel hB cs d hd
  exact ⟨f a, hg a g, by rw [he]; exact l, by rw [he]; exact r⟩
theorem OpnB.mono {B B' : Nat → Prop} {t : TypeId} {α : Type} {e : α → List PV} {G : α → Prop} (h : OpnB B P w t e G) (hb : ∀ n, B' n → B n) : OpnB B' P w t e G := ⟨h.1, fun H enc fuel hB cs d hd => h.2 H enc fuel (hb _ hB) cs d hd⟩
theorem Opn.toB {B : Nat → Prop} {t : TypeId} {α : Type} {e : α → List PV} {G : α → Prop} (h : Opn P w t e G) : OpnB B P w t e G := ⟨h.1, fun H enc fuel _ cs d hd => h.2 H enc fuel cs d hd⟩
theorem opn_of_B {t : TypeId} {α : Type} {e : α → List PV} {G : α → Prop} (h : ∀ N, OpnB (fun n => n < N) P w t e G) : Opn P w t e G := ⟨(h 0).1, fun H enc fuel cs d hd => (h (fuel + 1)).2 H enc fuel (Nat.lt_succ_self _) cs d hd⟩
theorem opnB_slice {B : Nat → Prop} {t te : TypeId} {sz : Nat} {α : Type} {e : α → List PV} {G : α → Prop} (hu : P.underlying t = some (.slice te)) (hz : P.cellsOf te = sz) (hp : 0 < sz) (h : OpnB (fun n => B (n + 1)) P w te e G) (hs : ∀ a, (e a).length = sz) :
    OpnB B P w t (fun l : List α => [.slice (l.map e)]) (fun l => l.length ≤ maxLen ∧ ∀ a ∈ l, G a) := by
  refine ⟨fun a p hp => by simp at hp; subst hp; rfl, fun H enc fuel hB cs d hd => ?_⟩
  have one : ∀ (v : Value) (l : List α), rep w (old w) v (.slice (l.map e)) → ∀ (j : Nat) u p, [v][j]? = some u → ([PV.slice (l.map e)])[j]? = some p → rep w (old w) u p := by
    intro v l hr j u p h1 h2
    cases j with
    | zero => simp at h1 h2; subst h1; subst h2; exact hr
    | succ j => simp at h1
  cases fuel with
  | zero => simp [DataW.trod] at hd
  | succ n =>
    unfold DataW.trod at hd
    rw [hu] at hd
    split at hd <;> rename_i hh <;> try (cases hh; done)
    all_goals try cases hh
    · exact ⟨[], ⟨by simp, by simp⟩, rfl, one _ [] (.empty _ _)⟩
    · rename_i a len cap
      dsimp only at hd
      split at hd
      · rename_i hc
        obtain ⟨_, hlc, hcm⟩ := hc
        simp only [Option.bind_eq_some_iff] at hd
        obtain ⟨els, he, _⟩ := hd
        obtain ⟨hl, hg⟩ := mapM_get he
        have each : ∀ i, i < len → ∃ x : List Value × α, w.cells? 0 (a.add (i * sz)) sz = some x.1 ∧ G x.2 ∧ x.1.length = (e x.2).length ∧ ∀ (j : Nat) u p, x.1[j]? = some u → (e x.2)[j]? = some p → rep w (old w) u p := by
          intro i hi
          obtain ⟨y, _, hy⟩ := hg i i (by simp [hi])
          obtain ⟨c, hc1, hc2⟩ := Option.bind_eq_some_iff.1 hy
          rw [hz] at hc1
          obtain ⟨b, g, l, r⟩ := h.2 H enc n hB c y hc2
          exact ⟨(c, b), hc1, g, l, r⟩
        obtain ⟨xs, hxl, hx⟩ := list_choose len each
        have hgl : (xs.map (·.2)).length ≤ maxLen ∧ ∀ b ∈ xs.map (·.2), G b := by
          refine ⟨by rw [List.length_map, hxl]; exact Nat.le_trans hlc hcm, fun b hb => ?_⟩
          obtain ⟨x, hx1, rfl⟩ := List.mem_map.1 hb
          obtain ⟨i, hi⟩ := List.getElem?_of_mem hx1
          exact (hx i x hi).2.1
        refine ⟨xs.map (·.2), hgl, rfl, one _ _ ?_⟩
        rcases Nat.eq_zero_or_pos len with h0 | h0
        · subst h0
          have : xs = [] := List.eq_nil_of_length_eq_zero hxl
          subst this
          exact .empty _ _
        · obtain ⟨x0, hx0⟩ : ∃ x, xs[0]? = some x := ⟨_, List.getElem?_eq_getElem (by omega)⟩
          obtain ⟨c0, _, l0, _⟩ := hx 0 x0 hx0
          obtain ⟨_, cl0, cg0⟩ := World.cells?_some c0
          have q0 := cg0 0 hp
          rw [Nat.zero_mul] at q0
          have hadd : (a.add 0).add 0 = a := by simp [Addr.add]
          rw [hadd, List.getElem?_eq_getElem (by omega)] at q0
          have hsp : a.spot = none ∧ a.block < w.heap.size := by
            unfold World.cell? at q0
            split at q0
            · rename_i hb
              split at q0
              · cases q0
              · rename_i hs'
                refine ⟨by simpa using hs', ?_⟩
                rcases Nat.lt_or_ge a.block w.heap.size with h' | h'
                · exact h'
                · rw [Array.getElem?_eq_none h'] at hb; cases hb
            · cases q0
          obtain ⟨b, o, sp⟩ := a
          obtain ⟨hsp, hbl⟩ := hsp
          dsimp only at hsp hbl
          subst hsp
          refine rep.slice (I := old w) b o len cap sz ((xs.map (·.2)).map e) (fun i j => ((xs.getD i ([], x0.2)).1.getD j .nilIface)) (by simp [hxl]) hlc ?_ hbl ?_ ?_ ?_
          · intro x hx
            simp only [List.map_map, List.mem_map] at hx
            obtain ⟨y, _, rfl⟩ := hx
            exact hs _
          · intro x hx p hp'
            simp only [List.map_map, List.mem_map] at hx
            obtain ⟨y, _, rfl⟩ := hx
            exact h.1 _ _ hp'
          · intro i x j p hi hj
            simp only [List.map_map, List.getElem?_map, Option.map_eq_some_iff] at hi
            obtain ⟨y, hy, rfl⟩ := hi
            obtain ⟨c1, _, l1, r1⟩ := hx i y hy
            obtain ⟨_, cl1, cg1⟩ := World.cells?_some c1
            have hjl : j < sz := by rw [← hs y.2]; exact (List.getElem?_eq_some_iff.1 hj).1
            have := cg1 j hjl
            have ea : ((⟨b, o, none⟩ : Addr).add (i * sz)).add j = ⟨b, o + (i * sz + j), none⟩ := by
              unfold Addr.add
              repeat' split
              all_goals simp <;> omega
            rw [ea, List.getElem?_eq_getElem (by omega)] at this
            rw [this]
            simp [List.getD, hy, List.getElem?_eq_getElem (show j < y.1.length by omega)]
          · intro i x j p hi hj
            simp only [List.map_map, List.getElem?_map, Option.map_eq_some_iff] at hi
            obtain ⟨y, hy, rfl⟩ := hi
            obtain ⟨c1, _, l1, r1⟩ := hx i y hy
            obtain ⟨_, cl1, cg1⟩ := World.cells?_some c1
            have hjl : j < sz := by rw [← hs y.2]; exact (List.getElem?_eq_some_iff.1 hj).1
            refine r1 j _ p ?_ hj
            simp [List.getD, hy, List.getElem?_eq_getElem (show j < y.1.length by omega)]
      · cases hd
    all_goals cases hd
def OpnFB (B : Nat → Prop) (P : Program) (w : World) (off : Nat) (fs : List Field) {α : Type} (e : α → List PV) (G : α → Prop) : Prop :=
  (∀ a, ∀ p ∈ e a, p.one = true) ∧ (∀ a, (e a).length = (fs.map fun f => P.cellsOf f.type).sum) ∧ ∀ (H : Type) (enc : TypeId × Value → H) (n : Nat), B n → ∀ (cs : List Value) (xs : List (DataW H × List MemPlace)),
    fs.mapM (fun f => DataW.trod enc P w 0 (fun _ => true) true n f.type ((cs.drop f.offset).take (P.cellsOf f.type))) = some xs →
    ∃ a, G a ∧ ∀ (j : Nat) u p, cs[off + j]? = some u → (e a)[j]? = some p → rep w (old w) u p
theorem opnFB_nil {B : Nat → Prop} {off : Nat} : OpnFB B P w off [] (fun _ : Unit => []) (fun _ => True) :=
  ⟨fun a p hp => by simp at hp, fun a => rfl, fun H enc n hB cs xs h => ⟨(), trivial, fun j u p h1 h2 => by simp at h2⟩⟩
theorem opnFB_cons {B : Nat → Prop} {off sz : Nat} {f : Field} {fs : List Field} {α β : Type} {e : α → List PV} {G : α → Prop} {e' : β → List PV} {G' : β → Prop} (ho : f.offset = off) (hz : P.cellsOf f.type = sz) (h : OpnB B P w f.type e G) (hs : ∀ a, (e a).length = sz) (h' : OpnFB B P w (off + sz) fs e' G') :
    OpnFB B P w off (f :: fs) (fun x : α × β => e x.1 ++ e' x.2) (fun x => G x.1 ∧ G' x.2) := by
  refine ⟨fun a p hp => ?_, fun a => by simp [hs, hz, h'.2.1], fun H enc n hB cs xs hx => ?_⟩
  · rcases List.mem_append.1 hp with hp | hp
    · exact h.1 _ _ hp
    · exact h'.1 _ _ hp
  · simp only [List.mapM_cons, Option.bind_eq_bind, Option.bind_eq_some_iff, Option.pure_def, Option.some.injEq] at hx
    obtain ⟨y, hy, ys, hys, rfl⟩ := hx
    obtain ⟨a, ga, la, ra⟩ := h.2 H enc n hB _ y hy
    obtain ⟨b, gb, rb⟩ := h'.2.2 H enc n hB cs ys hys
    refine ⟨(a, b), ⟨ga, gb⟩, fun j u p h1 h2 => ?_⟩
    rcases Nat.lt_or_ge j sz with hj | hj
    · rw [List.getElem?_append_left (by rw [hs]; exact hj)] at h2
      refine ra j u p ?_ h2
      rw [ho, hz, List.getElem?_take, if_pos hj, List.getElem?_drop]
      exact h1
    · rw [List.getElem?_append_right (by rw [hs]; exact hj), hs] at h2
      exact rb (j - sz) u p (by rw [← h1]; congr 1; omega) h2
theorem opnB_struct {B : Nat → Prop} {t : TypeId} {fs : Array Field} {α : Type} {e : α → List PV} {G : α → Prop} (hu : P.underlying t = some (.struct fs)) (hz : P.cellsOf t = (fs.toList.map fun f => P.cellsOf f.type).sum) (h : OpnFB (fun n => B (n + 1)) P w 0 fs.toList e G) : OpnB B P w t e G := by
  refine ⟨h.1, fun H enc fuel hB cs d hd => ?_⟩
  cases fuel with
  | zero => simp [DataW.trod] at hd
  | succ n =>
    unfold DataW.trod at hd
    rw [hu] at hd
    split at hd <;> rename_i hh <;> try (cases hh; done)
    all_goals try cases hh
    all_goals try (cases hd; done)
    all_goals
      split at hd
      · rename_i hl
        obtain ⟨xs, hx, _⟩ := Option.map_eq_some_iff.1 hd
        obtain ⟨a, ga, ra⟩ := h.2.2 H enc n hB _ xs hx
        exact ⟨a, ga, by rw [hl, hz, h.2.1], fun j u p h1 h2 => ra j u p (by rw [Nat.zero_add]; exact h1) h2⟩
      · cases hd

inductive okTr : Tr → Prop
  | mk (k n : Int) (s : List UInt8) (es : List (Int × List Tr)) (rest : List Raw) : i64ok k → i64ok n → strOK s → es.length ≤ maxLen → (∀ e ∈ es, i64ok e.1) → (∀ e ∈ es, e.2.length ≤ maxLen) → (∀ e ∈ es, ∀ x ∈ e.2, okTr x) → rest.length ≤ maxLen → (∀ r ∈ rest, rawOK r) → okTr (.mk k n s es rest)
theorem opn_tree (W : World) : Opn Try.prog W 46 encTr okTr := by
  refine opn_of_B fun N => ?_
  induction N with
  | zero => exact ⟨fun a p hp => by rw [encTr_eq] at hp; simp at hp; rcases hp with rfl | rfl | rfl | rfl | rfl <;> rfl, fun H enc fuel hB => absurd hB (Nat.not_lt_zero _)⟩
  | succ N ih => 
    have i3 : ∀ B : Nat → Prop, OpnB B Try.prog W 3 (fun n : Int => [.int .i64 n]) i64ok := fun B => (opn_i64 W).toB
    have s9 : ∀ B : Nat → Prop, OpnB B Try.prog W 9 (fun s : List UInt8 => [.str s]) strOK := fun B => (opn_str Try.underlying9).toB
    have r22 : ∀ B : Nat → Prop, OpnB B Try.prog W 22 (fun l : List Raw => [.slice (l.map encRaw)]) (fun l => l.length ≤ maxLen ∧ ∀ a ∈ l, rawOK a) := fun B => (opn_raws W).toB
    have c3 : Try.prog.cellsOf 3 = 1 := by kernel_rfl
    have c9 : Try.prog.cellsOf 9 = 1 := by kernel_rfl
    have c22 : Try.prog.cellsOf 22 = 1 := by kernel_rfl
    have c44 : Try.prog.cellsOf 44 = 1 := by kernel_rfl
    have c51 : Try.prog.cellsOf 51 = 1 := by kernel_rfl
    have ts : OpnB (fun n => n + 1 + 1 + 1 < N + 1) Try.prog W 51 (fun l : List Tr => [.slice (l.map encTr)]) (fun l => l.length ≤ maxLen ∧ ∀ a ∈ l, okTr a) :=
      opnB_slice (sz := 5) Try.underlying51 (by kernel_rfl) (by decide) (ih.mono fun n h => by omega) (fun a => by rw [encTr_eq]; rfl)
    have en : OpnB (fun n => n + 1 + 1 < N + 1) Try.prog W 53 encEn (fun e => i64ok e.1 ∧ e.2.length ≤ maxLen ∧ ∀ a ∈ e.2, okTr a) := by
      refine OpnB.mapG (G := fun x : Int × List Tr × Unit => i64ok x.1 ∧ (x.2.1.length ≤ maxLen ∧ ∀ a ∈ x.2.1, okTr a) ∧ True) (opnB_struct Try.underlying53 (by kernel_rfl) ?_) (fun x : Int × List Tr × Unit => ((x.1, x.2.1) : Int × List Tr)) (fun a => rfl) (fun b p hp => by simp [encEn] at hp; rcases hp with rfl | rfl <;> rfl) (fun a h => ⟨h.1, h.2.1.1, h.2.1.2⟩)
      have f1 := opnFB_cons (B := fun n => n + 1 + 1 + 1 < N + 1) (P := Try.prog) (w := W) (off := 1) (f := { name := "Trees", type := 51, offset := 1, embedded := false, tag := "", pkgPath := "", byteOffset := 8 }) rfl c51 ts (fun _ => rfl) opnFB_nil
      have f0 := opnFB_cons (B := fun n => n + 1 + 1 + 1 < N + 1) (P := Try.prog) (w := W) (off := 0) (f := { name := "Tag", type := 3, offset := 0, embedded := false, tag := "", pkgPath := "", byteOffset := 0 }) rfl c3 (i3 _) (fun _ => rfl) f1
      exact f0
    have es : OpnB (fun n => n + 1 < N + 1) Try.prog W 44 (fun l : List (Int × List Tr) => [.slice (l.map encEn)]) (fun l => l.length ≤ maxLen ∧ ∀ e ∈ l, i64ok e.1 ∧ e.2.length ≤ maxLen ∧ ∀ a ∈ e.2, okTr a) :=
      opnB_slice (sz := 2) Try.underlying44 (by kernel_rfl) (by decide) en (fun a => rfl)
    refine OpnB.mapG (G := fun x : Int × Int × List UInt8 × List (Int × List Tr) × List Raw × Unit => i64ok x.1 ∧ i64ok x.2.1 ∧ strOK x.2.2.1 ∧ (x.2.2.2.1.length ≤ maxLen ∧ ∀ e ∈ x.2.2.2.1, i64ok e.1 ∧ e.2.length ≤ maxLen ∧ ∀ a ∈ e.2, okTr a) ∧ (x.2.2.2.2.1.length ≤ maxLen ∧ ∀ a ∈ x.2.2.2.2.1, rawOK a) ∧ True) (opnB_struct Try.underlying46 (by kernel_rfl) ?_)
      (fun x : Int × Int × List UInt8 × List (Int × List Tr) × List Raw × Unit => Tr.mk x.1 x.2.1 x.2.2.1 x.2.2.2.1 x.2.2.2.2.1) (fun a => encTr_eq _) (fun b p hp => by rw [encTr_eq] at hp; simp at hp; rcases hp with rfl | rfl | rfl | rfl | rfl <;> rfl) ?_
    · have f4 := opnFB_cons (B := fun n => n + 1 < N + 1) (P := Try.prog) (w := W) (off := 4) (f := { name := "Rest", type := 22, offset := 4, embedded := false, tag := "", pkgPath := "", byteOffset := 56 }) rfl c22 (r22 _) (fun _ => rfl) opnFB_nil
      have f3 := opnFB_cons (B := fun n => n + 1 < N + 1) (P := Try.prog) (w := W) (off := 3) (f := { name := "Entries", type := 44, offset := 3, embedded := false, tag := "", pkgPath := "", byteOffset := 32 }) rfl c44 es (fun _ => rfl) f4
      have f2 := opnFB_cons (B := fun n => n + 1 < N + 1) (P := Try.prog) (w := W) (off := 2) (f := { name := "S", type := 9, offset := 2, embedded := false, tag := "", pkgPath := "", byteOffset := 16 }) rfl c9 (s9 _) (fun _ => rfl) f3
      have f1 := opnFB_cons (B := fun n => n + 1 < N + 1) (P := Try.prog) (w := W) (off := 1) (f := { name := "N", type := 3, offset := 1, embedded := false, tag := "", pkgPath := "", byteOffset := 8 }) rfl c3 (i3 _) (fun _ => rfl) f2
      have f0 := opnFB_cons (B := fun n => n + 1 < N + 1) (P := Try.prog) (w := W) (off := 0) (f := { name := "Kind", type := 3, offset := 0, embedded := false, tag := "", pkgPath := "", byteOffset := 0 }) rfl c3 (i3 _) (fun _ => rfl) f1
      exact f0
    · intro x h
      obtain ⟨h1, h2, h3, ⟨h4, h5⟩, ⟨h6, h7⟩, _⟩ := h
      exact .mk _ _ _ _ _ h1 h2 h3 h4 (fun e he => (h5 e he).1) (fun e he => (h5 e he).2.1) (fun e he => (h5 e he).2.2) h6 h7
end Go.Aw
