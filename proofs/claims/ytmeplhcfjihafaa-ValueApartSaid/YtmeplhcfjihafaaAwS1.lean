/- A region's operations in two parts: between them the state may be told anew. -/
import Derived.Test.YtmeplhcfjihafaaAwM3
namespace Go.Aw
open Go.RowKit
variable {P : Program}
theorem seq_part {w0 : World} {X I0 : Nat → Prop} {nt : Fm} {ops : Array Oper} {Q : Exit → Act → World → Prop} {K : (Nat → Option AV) → (Nat → Option Blk) → Nat → Prop} (hd : ops.toList.all (dstOK nt) = true) (tx : TabX w0 X I0) {r' : List Oper} :
    ∀ (r : List Oper) (i nx : Nat) (T : Nat → Option AV) (H : Nat → Option Blk) (σ : Lab) (I : Nat → Prop) (a : Act) (w : World), ops.toList.drop i = r ++ r' → Match nt w0 X I0 σ I T H a w → (∀ l, nx ≤ l → σ l = none) → seqW P ops.toList nx r T H K →
      (∀ T H n σ I a w, Match nt w0 X I0 σ I T H a w → (∀ l, n ≤ l → σ l = none) → K T H n → wpOps P ops Q (List.range' (i + r.length) r'.length) a w) → wpOps P ops Q (List.range' i (r ++ r').length) a w := by
  intro r
  induction r with
  | nil => intro i nx T H σ I a w _ m hn hk hK; exact hK T H nx σ I a w m hn hk
  | cons o r ih =>
    intro i nx T H σ I a w hr m hn hk hK
    have hi : ops[i]? = some o := by
      rw [← Array.getElem?_toList, show i = i + 0 from rfl, ← List.getElem?_drop, hr]; rfl
    have hdr : ops.toList.drop (i + 1) = r ++ r' := by rw [← List.drop_drop, hr]; rfl
    have hdo : dstOK nt o = true := List.all_eq_true.1 hd o (List.mem_of_getElem? (by rw [Array.getElem?_toList]; exact hi))
    have hK' : ∀ T H n σ I a w, Match nt w0 X I0 σ I T H a w → (∀ l, n ≤ l → σ l = none) → K T H n → wpOps P ops Q (List.range' (i + 1 + r.length) r'.length) a w := by
      intro T H n σ I a w h1 h2 h3
      have := hK T H n σ I a w h1 h2 h3
      rwa [List.length_cons, show i + (r.length + 1) = i + 1 + r.length by omega] at this
    rw [List.cons_append, List.length_cons, List.range'_succ]
    simp only [wpOps, hi]
    simp only [seqW] at hk
    have run : (opW P nx o.op T H fun e => seqW P ops.toList (nx + 1) r (putT T o.dst e.val) (putH H e.upd) K) → o.wp P a w (wpOps P ops Q (List.range' (i + 1) (r ++ r').length)) Q := by
      intro hop
      refine snd_op (w0 := w0) (X := X) (I0 := I0) ⟨m.heap, m.tmps, hn nx (Nat.le_refl _), tx⟩ hop _ _ fun e v w' σ' I' hk' out => ?_
      refine ih (i + 1) (nx + 1) _ _ σ' I' _ w' hdr (m.put hdo out.heap out.ext out.imm out.same out.val) (fun l hl => ?_) hk' hK'
      rw [out.lab l (by omega)]
      exact hn l (by omega)
    have skip : seqW P ops.toList (nx + 1) r (putT T o.dst (some (.p (.cst undef)))) H K → wpOps P ops Q (List.range' (i + 1) (r ++ r').length) (a.put o.dst undef) w := by
      intro hk'
      exact ih (i + 1) (nx + 1) _ _ σ I _ w hdr (m.put hdo m.heap (fun _ _ h => h) (fun _ h => h) (fun _ _ => rfl) (fun y hy => by injection hy with hy; subst hy; exact .p (.cst undef))) (fun l hl => hn l (by omega)) hk' hK'
    unfold guardS at hk
    cases hg : o.guard with
    | none =>
      rw [hg] at hk
      have : Region.wanted o (yielded ops a.tmps) = true := by simp [Region.wanted, hg]
      rw [if_pos this]
      exact .inl (run hk)
    | some jw =>
      obtain ⟨j, want⟩ := jw
      rw [hg] at hk
      simp only at hk
      split at hk
      · rename_i b hb
        obtain ⟨d, hd1, hd2⟩ := Option.bind_eq_some_iff.1 hb
        rw [Array.getElem?_toList] at hd1
        obtain ⟨u, hu, hru⟩ := m.tmps d _ hd2
        have hy : yielded ops a.tmps j = some b := by
          cases hru with
          | p h => cases h; simp [yielded, hd1, hu]
        have hw : Region.wanted o (yielded ops a.tmps) = (b == want) := by
          simp only [Region.wanted, hg, hy]
          cases b <;> cases want <;> rfl
        split at hk
        · rename_i hbw
          rw [hw, if_pos (by simp [hbw])]
          exact .inl (run hk)
        · rename_i hbw
          rw [hw, if_neg (by simp [hbw])]
          exact skip hk
      · rename_i x hb
        obtain ⟨d, hd1, hd2⟩ := Option.bind_eq_some_iff.1 hb
        rw [Array.getElem?_toList] at hd1
        obtain ⟨u, hu, hru⟩ := m.tmps d _ hd2
        have hy : yielded ops a.tmps j = none := by
          cases hru with
          | p h =>
            cases h
            simp only [yielded, hd1, Option.bind_some, hd2, hu]
            have := hk.1
            cases x <;> first | rfl | exact this.elim
        have hw : Region.wanted o (yielded ops a.tmps) = false := by
          simp only [Region.wanted, hg, hy]
          cases want <;> rfl
        rw [hw, if_neg (by simp)]
        exact skip hk.2
      · exact hk.elim
theorem AW.rS {nt : Fm} {id : Nat} {ops : Array Oper} {y : Code} {s : St} {Q : Exit → St → Prop} (k : Nat) (hd : ops.toList.all (dstOK nt) = true)
    (h : seqO P ops.toList s.nx (ops.toList.take k) s.T s.H fun T H n => ∃ s', Ghost nt ⟨T, H, n⟩ s' ∧ ∀ K : St → Prop, (∀ s'', AW P nt y s'' Q → K s'') → seqO P ops.toList s'.nx (ops.toList.drop k) s'.T s'.H fun T H n => K ⟨T, H, n⟩) : AW P nt (.seq (.region id ops false) y) s Q := by
  refine AW.seq ?_
  intro w0 X I0 a w tx ⟨σ, I, hn, m⟩
  refine wp_region ?_
  rw [seqO_eq] at h
  have main := seq_part (P := P) (w0 := w0) (X := X) (I0 := I0) (r' := ops.toList.drop k) (Q := fun e a' w' => ∃ s', Matches nt w0 X I0 s' a' w' ∧ andThen (fun s' => AW P nt y s' Q) Q e s') hd tx (ops.toList.take k) 0 s.nx s.T s.H σ I a w (by rw [List.drop_zero, List.take_append_drop]) m hn h
    (fun T H n σ I a w m hn hq => by
      obtain ⟨s', hg, hs⟩ := hq
      obtain ⟨σ', I', hn', m'⟩ := hg w0 X I0 a w ⟨σ, I, hn, m⟩
      have hs := hs (fun s'' => AW P nt y s'' Q) fun _ h => h
      rw [seqO_eq] at hs
      rcases Nat.lt_or_ge ops.toList.length k with hk | hk
      · rw [List.drop_of_length_le (by omega)] at hs ⊢
        exact ⟨s', ⟨σ', I', hn', m'⟩, hs⟩
      · refine seq_sound hd tx (fun T H n σ I a w m hn hq => ⟨⟨T, H, n⟩, ⟨σ, I, hn, m⟩, hq⟩) (ops.toList.drop k) (0 + (ops.toList.take k).length) s'.nx s'.T s'.H σ' I' a w ?_ m' hn' hs
        rw [List.length_take, Nat.min_eq_left hk, Nat.zero_add])
  rw [List.take_append_drop] at main
  rw [List.range_eq_range']
  simpa using main
end Go.Aw
