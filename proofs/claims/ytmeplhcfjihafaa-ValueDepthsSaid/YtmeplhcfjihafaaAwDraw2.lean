/- Regions whose order Go leaves open: the law. -/
import Derived.Test.YtmeplhcfjihafaaAwDraw
namespace Go.Aw
open Go.RowKit

structure Rec where
  eff : Option Eff
  reads : List Nat
def Rec.val (r : Rec) : Option AV := r.eff.bind (·.val)
def Rec.upds (r : Rec) : List (Nat × Option Blk) := match r.eff with | some e => e.upd | none => []
def Rec.writes (r : Rec) : List Nat := r.upds.map (·.1)
def recT (T : Nat → Option AV) (o : Oper) (r : Rec) : Nat → Option AV := putT T o.dst r.val
def recH (H : Nat → Option Blk) (r : Rec) : Nat → Option Blk := putH H r.upds

theorem putH_out {l : Nat} : ∀ (us : List (Nat × Option Blk)) (H : Nat → Option Blk), l ∉ us.map (·.1) → putH H us l = H l := by
  intro us
  induction us with
  | nil => intro H _; rfl
  | cons u us ih =>
    intro H h
    obtain ⟨m, b⟩ := u
    simp only [List.map_cons, List.mem_cons, not_or] at h
    rw [putH, ih _ h.2, upd_ne _ _ h.1]
theorem putH_in {l : Nat} : ∀ (us : List (Nat × Option Blk)) (H H' : Nat → Option Blk), l ∈ us.map (·.1) → putH H us l = putH H' us l := by
  intro us
  induction us with
  | nil => intro H H' h; cases h
  | cons u us ih =>
    intro H H' h
    obtain ⟨m, b⟩ := u
    rw [putH, putH]
    by_cases hl : l ∈ us.map (·.1)
    · exact ih _ _ hl
    · rw [putH_out us _ hl, putH_out us _ hl]
      simp only [List.map_cons, List.mem_cons] at h
      rcases h with h | h
      · subst h; rw [upd_same, upd_same]
      · exact absurd h hl

/-! ### What stands after some of the operations -/
def foldT (D : Nat → Bool) : List (Oper × Rec) → Nat → (Nat → Option AV) → Nat → Option AV
  | [], _, T => T
  | (o, r) :: l, i, T => foldT D l (i + 1) (if D i = true then recT T o r else T)
def foldH (D : Nat → Bool) : List (Oper × Rec) → Nat → (Nat → Option Blk) → Nat → Option Blk
  | [], _, H => H
  | (_, r) :: l, i, H => foldH D l (i + 1) (if D i = true then recH H r else H)

theorem putT_ne {T : Nat → Option AV} {d : Option Tmp} {v : Option AV} {t : Nat} (h : d ≠ some t) : putT T d v t = T t := by
  cases d with
  | none => rfl
  | some d => exact upd_ne _ _ (fun e => h (by rw [e]))

theorem foldT_eq {D D' : Nat → Bool} {t : Nat} : ∀ (L : List (Oper × Rec)) (c : Nat) (T T' : Nat → Option AV), T t = T' t → (∀ (j : Nat) x, L[j]? = some x → x.1.dst = some t → D (c + j) = D' (c + j)) → foldT D L c T t = foldT D' L c T' t := by
  intro L
  induction L with
  | nil => intro c T T' h _; exact h
  | cons x L ih =>
    intro c T T' h hD
    obtain ⟨o, r⟩ := x
    simp only [foldT]
    refine ih (c + 1) _ _ ?_ (fun j y hj hy => by have := hD (j + 1) y (by simpa using hj) hy; rwa [show c + 1 + j = c + (j + 1) by omega])
    by_cases ho : o.dst = some t
    · have := hD 0 (o, r) rfl ho
      rw [Nat.add_zero] at this
      rw [this]
      split
      · simp only [recT, ho, putT, upd_same]
      · exact h
    · have e1 : (if D c = true then recT T o r else T) t = T t := by split; exact putT_ne ho; rfl
      have e2 : (if D' c = true then recT T' o r else T') t = T' t := by split; exact putT_ne ho; rfl
      rw [e1, e2, h]
theorem foldT_at {D : Nat → Bool} {t : Nat} : ∀ (L : List (Oper × Rec)) (c : Nat) (T : Nat → Option AV) (i : Nat) (o : Oper) (r : Rec), L[i]? = some (o, r) → o.dst = some t → D (c + i) = true → (∀ (j : Nat) x, i < j → L[j]? = some x → x.1.dst = some t → D (c + j) = false) → foldT D L c T t = r.val := by
  intro L
  induction L with
  | nil => intro c T i o r h; simp at h
  | cons x L ih =>
    intro c T i o r h ho hD hn
    obtain ⟨o', r'⟩ := x
    simp only [foldT]
    cases i with
    | zero =>
      simp only [List.getElem?_cons_zero, Option.some.injEq, Prod.mk.injEq] at h
      obtain ⟨rfl, rfl⟩ := h
      rw [Nat.add_zero] at hD
      rw [if_pos hD]
      have : foldT D L (c + 1) (recT T o' r') t = foldT (fun _ => false) L (c + 1) (recT T o' r') t :=
        foldT_eq L (c + 1) _ _ rfl (fun j y hj hy => by rw [show c + 1 + j = c + (j + 1) by omega]; exact hn (j + 1) y (by omega) (by simpa using hj) hy)
      rw [this]
      have none_ : ∀ (L : List (Oper × Rec)) c T, foldT (fun _ => false) L c T = T := by
        intro L
        induction L with
        | nil => intro c T; rfl
        | cons x L ih => intro c T; obtain ⟨o, r⟩ := x; simp only [foldT, Bool.false_eq_true, if_false]; exact ih _ _
      rw [none_]
      simp only [recT, ho, putT, upd_same]
    | succ i =>
      exact ih (c + 1) _ i o r (by simpa using h) ho (by rwa [show c + 1 + i = c + (i + 1) by omega]) (fun j y hj h1 h2 => by rw [show c + 1 + j = c + (j + 1) by omega]; exact hn (j + 1) y (by omega) (by simpa using h1) h2)
theorem foldH_eq {D D' : Nat → Bool} {t : Nat} : ∀ (L : List (Oper × Rec)) (c : Nat) (T T' : Nat → Option Blk), T t = T' t → (∀ (j : Nat) x, L[j]? = some x → t ∈ x.2.writes → D (c + j) = D' (c + j)) → foldH D L c T t = foldH D' L c T' t := by
  intro L
  induction L with
  | nil => intro c T T' h _; exact h
  | cons x L ih =>
    intro c T T' h hD
    obtain ⟨o, r⟩ := x
    simp only [foldH]
    refine ih (c + 1) _ _ ?_ (fun j y hj hy => by have := hD (j + 1) y (by simpa using hj) hy; rwa [show c + 1 + j = c + (j + 1) by omega])
    by_cases ho : t ∈ r.writes
    · have := hD 0 (o, r) rfl ho
      rw [Nat.add_zero] at this
      rw [this]
      split
      · exact putH_in _ _ _ ho
      · exact h
    · have e1 : (if D c = true then recH T r else T) t = T t := by split; exact putH_out _ _ ho; rfl
      have e2 : (if D' c = true then recH T' r else T') t = T' t := by split; exact putH_out _ _ ho; rfl
      rw [e1, e2, h]
theorem foldH_at {D : Nat → Bool} {t : Nat} : ∀ (L : List (Oper × Rec)) (c : Nat) (T : Nat → Option Blk) (i : Nat) (o : Oper) (r : Rec), L[i]? = some (o, r) → t ∈ r.writes → D (c + i) = true → (∀ (j : Nat) x, i < j → L[j]? = some x → t ∈ x.2.writes → D (c + j) = false) → foldH D L c T t = putH (fun _ => none) r.upds t := by
  intro L
  induction L with
  | nil => intro c T i o r h; simp at h
  | cons x L ih =>
    intro c T i o r h ho hD hn
    obtain ⟨o', r'⟩ := x
    simp only [foldH]
    cases i with
    | zero =>
      simp only [List.getElem?_cons_zero, Option.some.injEq, Prod.mk.injEq] at h
      obtain ⟨rfl, rfl⟩ := h
      rw [Nat.add_zero] at hD
      rw [if_pos hD]
      have : foldH D L (c + 1) (recH T r') t = foldH (fun _ => false) L (c + 1) (recH T r') t :=
        foldH_eq L (c + 1) _ _ rfl (fun j y hj hy => by rw [show c + 1 + j = c + (j + 1) by omega]; exact hn (j + 1) y (by omega) (by simpa using hj) hy)
      rw [this]
      have none_ : ∀ (L : List (Oper × Rec)) c T, foldH (fun _ => false) L c T = T := by
        intro L
        induction L with
        | nil => intro c T; rfl
        | cons x L ih => intro c T; obtain ⟨o, r⟩ := x; simp only [foldH, Bool.false_eq_true, if_false]; exact ih _ _
      rw [none_]
      exact putH_in _ _ _ ho
    | succ i =>
      exact ih (c + 1) _ i o r (by simpa using h) ho (by rwa [show c + 1 + i = c + (i + 1) by omega]) (fun j y hj h1 h2 => by rw [show c + 1 + j = c + (j + 1) by omega]; exact hn (j + 1) y (by omega) (by simpa using h1) h2)

/-! ### The chain in the text's order -/
def guardIs (all : List Oper) (o : Oper) (T : Nat → Option AV) : Option Bool :=
  match o.guard with
  | none => some true
  | some (j, want) => match ((all[j]?).bind (·.dst)).bind T with
    | some (.p (.bool b)) => some (b == want)
    | _ => none
def StepOK (P : Program) (all : List Oper) (nx : Nat) (o : Oper) (r : Rec) (T : Nat → Option AV) (H : Nat → Option Blk) : Prop :=
  match r.eff with
  | some e => guardIs all o T = some true ∧ opW P nx o.op T H (fun e' => e' = e) ∧ r.reads = readsA T o.op
  | none => guardIs all o T = some false
def Chain (P : Program) (all : List Oper) : Nat → List (Oper × Rec) → (Nat → Option AV) → (Nat → Option Blk) → Prop
  | _, [], _, _ => True
  | nx, (o, r) :: l, T, H => StepOK P all nx o r T H ∧ Chain P all (nx + 1) l (recT T o r) (recH H r)

def Foot := List (List Nat × List Nat)
def foot (r : Rec) : List Nat × List Nat := (r.reads, r.writes)
def drawW (P : Program) (all : List Oper) (nx : Nat) : List Oper → (Nat → Option AV) → (Nat → Option Blk) → ((Nat → Option AV) → (Nat → Option Blk) → Nat → List (List Nat × List Nat) → Prop) → Prop
  | [], T, H, K => K T H nx []
  | o :: r, T, H, K => guardW all o T (opW P nx o.op T H fun e => drawW P all (nx + 1) r (putT T o.dst e.val) (putH H e.upd) fun T' H' n fs => K T' H' n ((readsA T o.op, e.upd.map (·.1)) :: fs))
      (drawW P all (nx + 1) r (putT T o.dst none) H fun T' H' n fs => K T' H' n (([], []) :: fs))

theorem drawW_chain {P : Program} {all : List Oper} : ∀ (ops : List Oper) (nx : Nat) (T : Nat → Option AV) (H : Nat → Option Blk) K, drawW P all nx ops T H K → ∃ rs : List Rec, rs.length = ops.length ∧ Chain P all nx (ops.zip rs) T H ∧ K (foldT (fun _ => true) (ops.zip rs) 0 T) (foldH (fun _ => true) (ops.zip rs) 0 H) (nx + ops.length) (rs.map foot) := by
  have offT : ∀ (L : List (Oper × Rec)) (c c' : Nat) (T : Nat → Option AV), foldT (fun _ => true) L c T = foldT (fun _ => true) L c' T := by
    intro L
    induction L with
    | nil => intro c c' T; rfl
    | cons x L ih => intro c c' T; obtain ⟨o, r⟩ := x; simp only [foldT, if_true]; exact ih _ _ _
  have offH : ∀ (L : List (Oper × Rec)) (c c' : Nat) (T : Nat → Option Blk), foldH (fun _ => true) L c T = foldH (fun _ => true) L c' T := by
    intro L
    induction L with
    | nil => intro c c' T; rfl
    | cons x L ih => intro c c' T; obtain ⟨o, r⟩ := x; simp only [foldH, if_true]; exact ih _ _ _
  intro ops
  induction ops with
  | nil => intro nx T H K h; exact ⟨[], rfl, trivial, h⟩
  | cons o r ih =>
    intro nx T H K h
    simp only [drawW] at h
    have run : guardIs all o T = some true → (opW P nx o.op T H fun e => drawW P all (nx + 1) r (putT T o.dst e.val) (putH H e.upd) fun T' H' n fs => K T' H' n ((readsA T o.op, e.upd.map (·.1)) :: fs)) → ∃ rs : List Rec, rs.length = (o :: r).length ∧ Chain P all nx ((o :: r).zip rs) T H ∧ K (foldT (fun _ => true) ((o :: r).zip rs) 0 T) (foldH (fun _ => true) ((o :: r).zip rs) 0 H) (nx + (o :: r).length) (rs.map foot) := by
      intro hg hop
      obtain ⟨e, h1, h2⟩ := one_op P nx T H o.op _ hop
      obtain ⟨rs, q1, q2, q3⟩ := ih (nx + 1) _ _ _ h1
      refine ⟨⟨some e, readsA T o.op⟩ :: rs, by simp [q1], ⟨⟨hg, h2 _ rfl, rfl⟩, q2⟩, ?_⟩
      simp only [List.zip_cons_cons, foldT, foldH, if_true, List.length_cons, List.map_cons]
      rw [offT _ (0 + 1) 0, offH _ (0 + 1) 0, show nx + (r.length + 1) = nx + 1 + r.length by omega]
      exact q3
    have skip : guardIs all o T = some false → (drawW P all (nx + 1) r (putT T o.dst none) H fun T' H' n fs => K T' H' n (([], []) :: fs)) → ∃ rs : List Rec, rs.length = (o :: r).length ∧ Chain P all nx ((o :: r).zip rs) T H ∧ K (foldT (fun _ => true) ((o :: r).zip rs) 0 T) (foldH (fun _ => true) ((o :: r).zip rs) 0 H) (nx + (o :: r).length) (rs.map foot) := by
      intro hg h1
      obtain ⟨rs, q1, q2, q3⟩ := ih (nx + 1) _ _ _ h1
      refine ⟨⟨none, []⟩ :: rs, by simp [q1], ⟨hg, q2⟩, ?_⟩
      simp only [List.zip_cons_cons, foldT, foldH, if_true, List.length_cons, List.map_cons]
      rw [offT _ (0 + 1) 0, offH _ (0 + 1) 0, show nx + (r.length + 1) = nx + 1 + r.length by omega]
      exact q3
    unfold guardW at h
    unfold guardIs at run skip
    cases hg : o.guard with
    | none =>
      rw [hg] at h run
      exact run rfl h
    | some jw =>
      obtain ⟨j, want⟩ := jw
      rw [hg] at h run skip
      simp only at h run skip
      split at h
      · rename_i b hb
        rw [hb] at run skip
        split at h
        · rename_i hw
          exact run (by simp [hw]) h
        · rename_i hw
          exact skip (by simp [hw]) h
      · exact h.elim

theorem chain_at {P : Program} {all : List Oper} : ∀ (L : List (Oper × Rec)) (c nx : Nat) (T : Nat → Option AV) (H : Nat → Option Blk), Chain P all nx L T H → ∀ (i : Nat) o r, L[i]? = some (o, r) → StepOK P all (nx + i) o r (foldT (fun j => decide (j < c + i)) L c T) (foldH (fun j => decide (j < c + i)) L c H) := by
  intro L
  induction L with
  | nil => intro c nx T H _ i o r h; simp at h
  | cons x L ih =>
    intro c nx T H h i o r hi
    obtain ⟨o', r'⟩ := x
    obtain ⟨h1, h2⟩ := h
    cases i with
    | zero =>
      simp only [List.getElem?_cons_zero, Option.some.injEq, Prod.mk.injEq] at hi
      obtain ⟨rfl, rfl⟩ := hi
      have e1 : foldT (fun j => decide (j < c + 0)) ((o', r') :: L) c T = T := by
        funext t
        have : ∀ (L : List (Oper × Rec)) c' T, c ≤ c' → foldT (fun j => decide (j < c + 0)) L c' T = T := by
          intro L
          induction L with
          | nil => intro c' T _; rfl
          | cons x L ih => intro c' T hc; obtain ⟨o, r⟩ := x; simp only [foldT, decide_eq_true_eq]; rw [if_neg (by omega)]; exact ih _ _ (by omega)
        rw [this _ _ _ (Nat.le_refl _)]
      have e2 : foldH (fun j => decide (j < c + 0)) ((o', r') :: L) c H = H := by
        funext t
        have : ∀ (L : List (Oper × Rec)) c' T, c ≤ c' → foldH (fun j => decide (j < c + 0)) L c' T = T := by
          intro L
          induction L with
          | nil => intro c' T _; rfl
          | cons x L ih => intro c' T hc; obtain ⟨o, r⟩ := x; simp only [foldH, decide_eq_true_eq]; rw [if_neg (by omega)]; exact ih _ _ (by omega)
        rw [this _ _ _ (Nat.le_refl _)]
      rw [e1, e2]
      exact h1
    | succ i =>
      have := ih (c + 1) (nx + 1) _ _ h2 i o r (by simpa using hi)
      rw [show nx + 1 + i = nx + (i + 1) by omega, show c + 1 + i = c + (i + 1) by omega] at this
      simp only [foldT, foldH, decide_eq_true_eq]
      rw [if_pos (by omega), if_pos (by omega)]
      exact this

/-! ### Who may change places -/
/-- Is the operation at i ahead of the one at j in every order? -/
def ahead (ops : List Oper) : Nat → Nat → Nat → Bool
  | 0, _, _ => false
  | f + 1, i, j => match ops[j]? with
    | some o => o.after.toList.any fun e => Region.binds .any e && (e.on == i || (decide (i < e.on) && ahead ops f i e.on))
    | none => false
def acyclic (ops : List Oper) : Bool := (List.range ops.length).all fun j => match ops[j]? with
  | some o => o.after.toList.all fun e => !Region.binds .any e || decide (e.on < j)
  | none => true
def pairsOK (ops : List Oper) (c : Nat → Nat → Bool) : Bool := (List.range ops.length).all fun j => (List.range j).all fun i => c i j || ahead ops ops.length i j
def tmpsApart (ops : List Oper) (i j : Nat) : Bool := match ops[i]?, ops[j]? with
  | some x, some y => Oper.apart ops.toArray x y
  | _, _ => true
def disj (a b : List Nat) : Bool := a.all fun x => !b.contains x
def heapApart (fs : List (List Nat × List Nat)) (i j : Nat) : Bool := match fs[i]?, fs[j]? with
  | some (r, w), some (r', w') => disj w r' && disj w w' && disj w' r
  | _, _ => true
def staticOK (ops : List Oper) : Bool := acyclic ops && pairsOK ops (tmpsApart ops)
/-- Operations that look at no more of a row than its shape. -/
def softOp : Op → Bool
  | .move _ | .assign _ | .pick .. | .binOp .. | .unOp .. | .fieldAddr .. | .indexAddr .. => true
  | _ => false
def isStore : Op → Bool
  | .store .. => true
  | _ => false
def onlyStores (ops : List Oper) (fs : List (List Nat × List Nat)) : Bool := (ops.zip fs).all fun x => isStore x.1.op || x.2.2.isEmpty
def eReads (b : Bool) (op : Op) (r : List Nat) : List Nat := if (b && softOp op) = true then [] else r
def heapApart2 (ops : List Oper) (fs : List (List Nat × List Nat)) (i j : Nat) : Bool := match ops[i]?, ops[j]?, fs[i]?, fs[j]? with
  | some x, some y, some (r, w), some (r', w') => disj w (eReads true y.op r') && disj w w' && disj w' (eReads true x.op r)
  | _, _, _, _ => true
def heapOK (ops : List Oper) (fs : List (List Nat × List Nat)) : Bool := ((fs.all fun f => f.2.isEmpty) || pairsOK ops (heapApart fs)) || (onlyStores ops fs && pairsOK ops (heapApart2 ops fs))

theorem ahead_done {ops : List Oper} {D : Nat → Bool} (hc : ∀ j o e, ops[j]? = some o → D j = true → e ∈ o.after.toList → Region.binds .any e = true → D e.on = true) : ∀ f i j, ahead ops f i j = true → D j = true → D i = true := by
  intro f
  induction f with
  | zero => intro i j h; simp [ahead] at h
  | succ f ih =>
    intro i j h hj
    simp only [ahead] at h
    split at h
    · rename_i o ho
      obtain ⟨e, he, h⟩ := List.any_eq_true.1 h
      simp only [Bool.and_eq_true, Bool.or_eq_true, beq_iff_eq] at h
      have hd := hc j o e ho hj he h.1
      rcases h.2 with h2 | h2
      · rw [← h2]; exact hd
      · exact ih i e.on h2.2 hd
    · cases h
theorem ahead_dep {ops : List Oper} {D : Nat → Bool} (hc : ∀ j o e, ops[j]? = some o → D j = true → e ∈ o.after.toList → Region.binds .any e = true → D e.on = true) {j : Nat} {o : Oper} (ho : ops[j]? = some o) (hd : ∀ e ∈ o.after.toList, Region.binds .any e = true → D e.on = true) : ∀ f i, ahead ops f i j = true → D i = true := by
  intro f i h
  cases f with
  | zero => simp [ahead] at h
  | succ f =>
    simp only [ahead, ho] at h
    obtain ⟨e, he, h⟩ := List.any_eq_true.1 h
    simp only [Bool.and_eq_true, Bool.or_eq_true, beq_iff_eq] at h
    have := hd e he h.1
    rcases h.2 with h2 | h2
    · rw [← h2]; exact this
    · exact ahead_done hc f i e.on h2.2 this
theorem pairs_spec {ops : List Oper} {c : Nat → Nat → Bool} (h : pairsOK ops c = true) {i j : Nat} (hij : i < j) (hj : j < ops.length) : c i j = true ∨ ahead ops ops.length i j = true := by
  have := List.all_eq_true.1 h j (List.mem_range.2 hj)
  have := List.all_eq_true.1 this i (List.mem_range.2 hij)
  simpa using this
theorem disj_spec {a b : List Nat} (h : disj a b = true) {x : Nat} (ha : x ∈ a) : x ∉ b := by
  have := List.all_eq_true.1 h x ha
  simpa using this
/-! ### Where only stores write, every row keeps its shape -/
def shp : Option Blk → Option (Nat × Nat)
  | some (.row sz es) => some (sz, es.length)
  | _ => none
theorem store_shape {P : Program} {t : TypeId} {x y : Option AV} {H : Nat → Option Blk} {e : Eff} (h : storeW P t x y H fun e' => e' = e) : ∀ (G : Nat → Option Blk), (∀ l, shp (G l) = shp (H l)) → ∀ l, shp (putH G e.upd l) = shp (G l) := by
  unfold storeW at h
  split at h
  · split at h
    · split at h
      · rename_i lb _ _ _ _ sz es hH _ ee _
        obtain ⟨_, _, _, h⟩ := h
        subst h
        intro G hG l
        simp only [putH]
        by_cases hl : l = lb
        · subst hl
          rw [upd_same, hG, hH]
          simp [shp]
        · rw [upd_ne _ _ hl]
      · exact h.elim
    · exact h.elim
  · exact h.elim
theorem shp_fold {P : Program} {all : List Oper} (D : Nat → Bool) : ∀ (L : List (Oper × Rec)) (c nx : Nat) (T : Nat → Option AV) (H G : Nat → Option Blk), Chain P all nx L T H → (∀ x ∈ L, x.2.writes ≠ [] → isStore x.1.op = true) → (∀ l, shp (G l) = shp (H l)) → ∀ l, shp (foldH D L c G l) = shp (H l) := by
  intro L
  induction L with
  | nil => intro c nx T H G _ _ hG l; exact hG l
  | cons x L ih =>
    intro c nx T H G hc hs hG l
    obtain ⟨o, r⟩ := x
    obtain ⟨h1, h2⟩ := hc
    have keep : ∀ (G : Nat → Option Blk), (∀ l, shp (G l) = shp (H l)) → ∀ l, shp (recH G r l) = shp (G l) := by
      intro G hG l
      by_cases hw : r.writes = []
      · have : r.upds = [] := by simpa [Rec.writes] using hw
        simp only [recH, this, putH]
      · have hst := hs (o, r) (by simp) hw
        unfold StepOK at h1
        cases he : r.eff with
        | none => exfalso; apply hw; simp [Rec.writes, Rec.upds, he]
        | some e =>
          rw [he] at h1
          obtain ⟨_, hop, _⟩ := h1
          have e2 : r.upds = e.upd := by simp [Rec.upds, he]
          simp only [recH, e2]
          simp only [] at hst
          cases hop' : o.op <;> rw [hop'] at hst <;> simp only [isStore, Bool.false_eq_true] at hst
          rw [hop'] at hop
          simp only [opW] at hop
          exact store_shape hop G hG l
    simp only [foldH]
    have hHr := keep H (fun _ => rfl)
    rw [← hHr l]
    refine ih (c + 1) (nx + 1) _ _ _ h2 (fun x hx => hs x (by simp [hx])) (fun l => ?_) l
    split
    · rw [keep G hG l, hG l, hHr l]
    · rw [hG l, hHr l]
theorem loc_soft {P : Program} {lab : Nat} {T T' : Nat → Option AV} {H H' : Nat → Option Blk} {k : Eff → Prop} {op : Op} (hs : softOp op = true) (hT : ∀ x ∈ op.operands.toList, ev T' x = ev T x) (hH : ∀ l, shp (H' l) = shp (H l)) : opW P lab op T' H' k = opW P lab op T H k := by
  cases op <;> simp only [softOp, Bool.false_eq_true] at hs
  case move x => simp only [opW]; rw [hT x (by simp [Op.operands])]
  case assign x => simp only [opW]; rw [hT x (by simp [Op.operands])]
  case pick c x y => simp only [opW]; rw [hT c (by simp [Op.operands]), hT x (by simp [Op.operands]), hT y (by simp [Op.operands])]
  case binOp op t x y t' => simp only [opW, binOW]; rw [hT x (by simp [Op.operands]), hT y (by simp [Op.operands])]
  case unOp op t x => simp only [opW]; rw [hT x (by simp [Op.operands])]
  case fieldAddr t x f => simp only [opW]; rw [hT x (by simp [Op.operands])]
  case indexAddr t x i =>
    simp only [opW]
    rw [hT x (by simp [Op.operands]), hT i (by simp [Op.operands])]
    unfold indexAddrW
    split
    · split
      · split
        · rename_i l _
          have := hH l
          cases h1 : H' l with
          | none =>
            cases h2 : H l with
            | none => rfl
            | some b => cases b <;> simp_all [shp]
          | some b =>
            cases h2 : H l with
            | none => cases b <;> simp_all [shp]
            | some b' => cases b <;> cases b' <;> simp_all [shp]
        · rfl
        · rfl
        · rfl
      · rfl
    · rfl
end Go.Aw
