/- The drawn region reckoned with the feet gathered, so that the terms stay small. -/
import Derived.Test.YtmeplhcfjihafaaAwDraw3
namespace Go.Aw
theorem opW_mono {P : Program} {nx : Nat} {op : Op} {T : Nat → Option AV} {H : Nat → Option Blk} {k k' : Eff → Prop} (h : opW P nx op T H k) (hk : ∀ e, k e → k' e) : opW P nx op T H k' := by
  obtain ⟨e, h1, h2⟩ := one_op P nx T H op k h
  exact h2 k' (hk e h1)
def drawA (P : Program) (all : List Oper) (nx : Nat) : List Oper → (Nat → Option AV) → (Nat → Option Blk) → List (List Nat × List Nat) → ((Nat → Option AV) → (Nat → Option Blk) → Nat → List (List Nat × List Nat) → Prop) → Prop
  | [], T, H, fs, K => K T H nx fs
  | o :: r, T, H, fs, K => guardW all o T (opW P nx o.op T H fun e => drawA P all (nx + 1) r (putT T o.dst e.val) (putH H e.upd) ((readsA T o.op, e.upd.map (·.1)) :: fs) K)
      (drawA P all (nx + 1) r (putT T o.dst none) H (([], []) :: fs) K)
theorem drawA_W {P : Program} {all : List Oper} : ∀ (ops : List Oper) (nx : Nat) (T : Nat → Option AV) (H : Nat → Option Blk) (acc : List (List Nat × List Nat)) K, drawA P all nx ops T H acc K → drawW P all nx ops T H fun T' H' n fs => K T' H' n (fs.reverse ++ acc) := by
  intro ops
  induction ops with
  | nil => intro nx T H acc K h; simpa only [drawW, drawA, List.reverse_nil, List.nil_append] using h
  | cons o r ih =>
    intro nx T H acc K h
    simp only [drawA] at h
    simp only [drawW]
    have e : ∀ (x : List Nat × List Nat) (fs : List (List Nat × List Nat)), (x :: fs).reverse ++ acc = fs.reverse ++ x :: acc := by intro x fs; simp
    try simp only [e]
    unfold guardW at h ⊢
    split at h
    · exact opW_mono h fun e h => ih _ _ _ _ _ h
    · split at h
      · rename_i h3
        try simp only [h3]
        split at h
        · rename_i h4; rw [if_pos h4]; exact opW_mono h fun e h => ih _ _ _ _ _ h
        · rename_i h4; rw [if_neg h4]; exact ih _ _ _ _ _ h
      · exact h.elim
theorem AW.drawThen' {P : Program} {nt : Fm} {ops : Array Oper} {id : Nat} {y : Code} {s : St} {Q : Exit → St → Prop} (hm : P.follows .mixedOrders = true) (hd : ops.toList.all (dstOK nt) = true) (hs : staticOK ops.toList = true)
    (h : ∀ K : St → Prop, (∀ s', AW P nt y s' Q → K s') → drawA P ops.toList s.nx ops.toList s.T s.H [] fun T H n fs => heapOK ops.toList fs.reverse = true ∧ K ⟨T, H, n⟩) : AW P nt (.seq (.region id ops true) y) s Q :=
  AW.drawThen hm hd hs fun K hK => by simpa only [List.append_nil, List.reverse_reverse] using drawA_W _ _ _ _ _ _ (h K hK)
theorem AW.drawEnd' {P : Program} {nt : Fm} {ops : Array Oper} {id : Nat} {s : St} {Q : Exit → St → Prop} (hm : P.follows .mixedOrders = true) (hd : ops.toList.all (dstOK nt) = true) (hs : staticOK ops.toList = true)
    (h : ∀ K : St → Prop, (∀ s', Q .normal s' → K s') → drawA P ops.toList s.nx ops.toList s.T s.H [] fun T H n fs => heapOK ops.toList fs.reverse = true ∧ K ⟨T, H, n⟩) : AW P nt (.region id ops true) s Q :=
  AW.drawEnd hm hd hs fun K hK => by simpa only [List.append_nil, List.reverse_reverse] using drawA_W _ _ _ _ _ _ (h K hK)
end Go.Aw
