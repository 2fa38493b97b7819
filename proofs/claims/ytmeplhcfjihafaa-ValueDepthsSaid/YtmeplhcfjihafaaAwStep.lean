/- One step of a region at a time. The evaluators are sealed here, so that the kernel never unfolds them: it sees only the equations. -/
import Derived.Test.YtmeplhcfjihafaaAwDraw4
namespace Go.Aw
abbrev KS := (Nat → Option AV) → (Nat → Option Blk) → Nat → Prop
abbrev KD := (Nat → Option AV) → (Nat → Option Blk) → Nat → List (List Nat × List Nat) → Prop
theorem seqPack : ∃ f : Program → List Oper → Nat → List Oper → (Nat → Option AV) → (Nat → Option Blk) → KS → Prop, f = seqW := ⟨seqW, rfl⟩
noncomputable def seqO (P : Program) (ops : List Oper) (nx : Nat) (r : List Oper) (T : Nat → Option AV) (H : Nat → Option Blk) (K : KS) : Prop := Classical.choose seqPack P ops nx r T H K
theorem seqO_eq (P : Program) (ops : List Oper) (nx : Nat) (r : List Oper) (T : Nat → Option AV) (H : Nat → Option Blk) (K : KS) : seqO P ops nx r T H K = seqW P ops nx r T H K := by
  unfold seqO; rw [Classical.choose_spec seqPack]
theorem drawPack : ∃ f : Program → List Oper → Nat → List Oper → (Nat → Option AV) → (Nat → Option Blk) → List (List Nat × List Nat) → KD → Prop, f = drawA := ⟨drawA, rfl⟩
noncomputable def drawO (P : Program) (ops : List Oper) (nx : Nat) (r : List Oper) (T : Nat → Option AV) (H : Nat → Option Blk) (fs : List (List Nat × List Nat)) (K : KD) : Prop := Classical.choose drawPack P ops nx r T H fs K
theorem drawO_eq (P : Program) (ops : List Oper) (nx : Nat) (r : List Oper) (T : Nat → Option AV) (H : Nat → Option Blk) (fs : List (List Nat × List Nat)) (K : KD) : drawO P ops nx r T H fs K = drawA P ops nx r T H fs K := by
  unfold drawO; rw [Classical.choose_spec drawPack]
abbrev SC := Program → List Oper → Nat → List Oper → Option Tmp → (Nat → Option AV) → (Nat → Option Blk) → KS → Eff → Prop
theorem seqCPack : ∃ f : SC, f = fun P ops nx r d T H K e => seqO P ops (nx + 1) r (putT T d e.val) (putH H e.upd) K := ⟨_, rfl⟩
noncomputable def seqC (P : Program) (ops : List Oper) (nx : Nat) (r : List Oper) (d : Option Tmp) (T : Nat → Option AV) (H : Nat → Option Blk) (K : KS) (e : Eff) : Prop := Classical.choose seqCPack P ops nx r d T H K e
abbrev DC := Program → List Oper → Nat → List Oper → Option Tmp → (Nat → Option AV) → (Nat → Option Blk) → List Nat → List (List Nat × List Nat) → KD → Eff → Prop
theorem drawCPack : ∃ f : DC, f = fun P ops nx r d T H rd fs K e => drawO P ops (nx + 1) r (putT T d e.val) (putH H e.upd) ((rd, e.upd.map (·.1)) :: fs) K := ⟨_, rfl⟩
noncomputable def drawC (P : Program) (ops : List Oper) (nx : Nat) (r : List Oper) (d : Option Tmp) (T : Nat → Option AV) (H : Nat → Option Blk) (rd : List Nat) (fs : List (List Nat × List Nat)) (K : KD) (e : Eff) : Prop := Classical.choose drawCPack P ops nx r d T H rd fs K e
section
variable {P : Program} {ops : List Oper} {nx : Nat} {r : List Oper} {d : Option Tmp} {op : Op} {ty : TypeId} {p : String} {af : Array Edge} {j : Nat} {want : Bool} {T : Nat → Option AV} {H : Nat → Option Blk} {rd : List Nat} {fs : List (List Nat × List Nat)} {K : KS} {D : KD} {v : Option AV} {u : List (Nat × Option Blk)}
theorem seqC_mk : seqC P ops nx r d T H K ⟨v, u⟩ = seqO P ops (nx + 1) r (putT T d v) (putH H u) K := by unfold seqC; rw [Classical.choose_spec seqCPack]
theorem drawC_mk : drawC P ops nx r d T H rd fs D ⟨v, u⟩ = drawO P ops (nx + 1) r (putT T d v) (putH H u) ((rd, u.map (·.1)) :: fs) D := by unfold drawC; rw [Classical.choose_spec drawCPack]
theorem seqC_fun : seqC P ops nx r d T H K = fun e => seqW P ops (nx + 1) r (putT T d e.val) (putH H e.upd) K := by
  funext e; unfold seqC; rw [Classical.choose_spec seqCPack]; exact seqO_eq _ _ _ _ _ _ _
theorem drawC_fun : drawC P ops nx r d T H rd fs D = fun e => drawA P ops (nx + 1) r (putT T d e.val) (putH H e.upd) ((rd, e.upd.map (·.1)) :: fs) D := by
  funext e; unfold drawC; rw [Classical.choose_spec drawCPack]; exact drawO_eq _ _ _ _ _ _ _ _
theorem seqO_nil : seqO P ops nx [] T H K = K T H nx := seqO_eq ..
theorem seqO_none : seqO P ops nx (⟨d, op, ty, p, af, none⟩ :: r) T H K = opW P nx op T H (seqC P ops nx r d T H K) := by
  rw [seqO_eq, seqC_fun]; rfl
theorem seqO_some : seqO P ops nx (⟨d, op, ty, p, af, some (j, want)⟩ :: r) T H K = match ((ops[j]?).bind (·.dst)).bind T with
      | some (.p (.bool b)) => if b = want then opW P nx op T H (seqC P ops nx r d T H K) else seqO P ops (nx + 1) r (putT T d none) H K
      | _ => False := by
  rw [seqO_eq, seqC_fun, seqO_eq]; rfl
theorem drawO_nil : drawO P ops nx [] T H fs D = D T H nx fs := drawO_eq ..
theorem drawO_none : drawO P ops nx (⟨d, op, ty, p, af, none⟩ :: r) T H fs D = opW P nx op T H (drawC P ops nx r d T H (readsA T op) fs D) := by
  rw [drawO_eq, drawC_fun]; rfl
theorem drawO_some : drawO P ops nx (⟨d, op, ty, p, af, some (j, want)⟩ :: r) T H fs D = match ((ops[j]?).bind (·.dst)).bind T with
      | some (.p (.bool b)) => if b = want then opW P nx op T H (drawC P ops nx r d T H (readsA T op) fs D) else drawO P ops (nx + 1) r (putT T d none) H (([], []) :: fs) D
      | _ => False := by
  rw [drawO_eq, drawC_fun, drawO_eq]; rfl
end
theorem AW.rT {P : Program} {nt : Fm} {id : Nat} {ops : Array Oper} {y : Code} {s : St} {Q : Exit → St → Prop} (hd : ops.toList.all (dstOK nt) = true)
    (h : ∀ K : St → Prop, (∀ s', AW P nt y s' Q → K s') → seqO P ops.toList s.nx ops.toList s.T s.H fun T H n => K ⟨T, H, n⟩) : AW P nt (.seq (.region id ops false) y) s Q :=
  AW.regThen hd fun K hK => by rw [← seqO_eq]; exact h K hK
theorem AW.rE {P : Program} {nt : Fm} {id : Nat} {ops : Array Oper} {s : St} {Q : Exit → St → Prop} (hd : ops.toList.all (dstOK nt) = true)
    (h : ∀ K : St → Prop, (∀ s', Q .normal s' → K s') → seqO P ops.toList s.nx ops.toList s.T s.H fun T H n => K ⟨T, H, n⟩) : AW P nt (.region id ops false) s Q :=
  AW.regEnd hd fun K hK => by rw [← seqO_eq]; exact h K hK
theorem AW.dT {P : Program} {nt : Fm} {ops : Array Oper} {id : Nat} {y : Code} {s : St} {Q : Exit → St → Prop} (hm : P.follows .mixedOrders = true) (hd : ops.toList.all (dstOK nt) = true) (hs : staticOK ops.toList = true)
    (h : ∀ K : St → Prop, (∀ s', AW P nt y s' Q → K s') → drawO P ops.toList s.nx ops.toList s.T s.H [] fun T H n fs => heapOK ops.toList fs.reverse = true ∧ K ⟨T, H, n⟩) : AW P nt (.seq (.region id ops true) y) s Q :=
  AW.drawThen' hm hd hs fun K hK => by rw [← drawO_eq]; exact h K hK
theorem AW.dE {P : Program} {nt : Fm} {ops : Array Oper} {id : Nat} {s : St} {Q : Exit → St → Prop} (hm : P.follows .mixedOrders = true) (hd : ops.toList.all (dstOK nt) = true) (hs : staticOK ops.toList = true)
    (h : ∀ K : St → Prop, (∀ s', Q .normal s' → K s') → drawO P ops.toList s.nx ops.toList s.T s.H [] fun T H n fs => heapOK ops.toList fs.reverse = true ∧ K ⟨T, H, n⟩) : AW P nt (.region id ops true) s Q :=
  AW.drawEnd' hm hd hs fun K hK => by rw [← drawO_eq]; exact h K hK
end Go.Aw
