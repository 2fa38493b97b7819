/- Single operations: what each comes to in terms of values without addresses, and why the machine does just that. -/
import Derived.Test.YtmeplhcfjihafaaAwHeap
import Derived.Lib.Bytes
import Derived.Laws.Entries
namespace Go.Aw
open Go.RowKit

structure Eff where
  val : Option AV
  upd : List (Nat × Option Blk) := []

def putH (H : Nat → Option Blk) : List (Nat × Option Blk) → Nat → Option Blk
  | [] => H
  | (l, b) :: r => putH (upd H l b) r

def constAV : Value → AV
  | .int k n => .p (.int k n)
  | .bool b => .p (.bool b)
  | .string s => .p (.str s.data.toList)
  | .slice none 0 0 => .ex []
  | x => .p (.cst x)

def ev (T : Nat → Option AV) : Operand → Option AV
  | .tmp t => T t
  | .const v => some (constAV v)
  | .func f => some (.fn f [])
  | .global _ => none

theorem repA_const (σ : Lab) (w : World) (I : Nat → Prop) (v : Value) : repA σ w I v (constAV v) := by
  unfold constAV
  split
  · exact .p (.int _ _)
  · exact .p (.bool _)
  · rename_i s
    have : s = ⟨⟨s.data.toList⟩⟩ := by cases s; rfl
    rw [this]
    exact .p (.str _)
  · exact .ex rfl (.empty none 0)
  · exact .p (.cst _)

structure In (σ : Lab) (w : World) (I : Nat → Prop) (T : Nat → Option AV) (H : Nat → Option Blk) (w0 : World) (X I0 : Nat → Prop) (a : Act) (lab : Nat) : Prop where
  heap : HOK σ w I H w0 X I0
  tmps : ∀ i x, T i = some x → ∃ u, a.tmps[i]? = some u ∧ repA σ w I u x
  lab : σ lab = none

structure Out (σ : Lab) (w : World) (I : Nat → Prop) (H : Nat → Option Blk) (w0 : World) (X I0 : Nat → Prop) (lab : Nat) (e : Eff) (v : Value) (w' : World) (σ' : Lab) (I' : Nat → Prop) : Prop where
  heap : HOK σ' w' I' (putH H e.upd) w0 X I0
  ext : ∀ l s, σ l = some s → σ' l = some s
  lab : ∀ l, l ≠ lab → σ' l = σ l
  imm : ∀ b, I b → I' b
  same : ∀ b, I b → w'.heap[b]? = w.heap[b]?
  val : ∀ x, e.val = some x → repA σ' w' I' v x

def Snd (P : Program) (o : Oper) (a : Act) (w : World) (σ : Lab) (I : Nat → Prop) (H : Nat → Option Blk) (w0 : World) (X I0 : Nat → Prop) (lab : Nat) (k : Eff → Prop) : Prop :=
  ∀ next Q, (∀ e v w' σ' I', k e → Out σ w I H w0 X I0 lab e v w' σ' I' → next (a.put o.dst v) w') → o.wp P a w next Q

section
variable {P : Program} {o : Oper} {a : Act} {w : World} {σ : Lab} {I : Nat → Prop} {T : Nat → Option AV} {H : Nat → Option Blk} {w0 : World} {X I0 : Nat → Prop} {lab : Nat} {k : Eff → Prop}

theorem In.ev (h : In σ w I T H w0 X I0 a lab) {x : Operand} {v : AV} (hx : ev T x = some v) : repA σ w I (a.eval x) v := by
  cases x with
  | tmp t =>
    obtain ⟨u, hu, hr⟩ := h.tmps t v hx
    have : a.eval (.tmp t) = u := by simp [Act.eval, hu]
    rw [this]
    exact hr
  | const c =>
    injection hx with hx
    subst hx
    exact repA_const σ w I c
  | func f =>
    injection hx with hx
    subst hx
    exact .fn f rfl (fun j u p h1 h2 => by simp at h1)
  | global g => cases hx

theorem Out.same0 (h : In σ w I T H w0 X I0 a lab) {v : Value} {x : AV} (hr : repA σ w I v x) : Out σ w I H w0 X I0 lab ⟨some x, []⟩ v w σ I :=
  ⟨h.heap, fun _ _ h => h, fun _ _ => rfl, fun _ h => h, fun _ _ => rfl, fun y hy => by injection hy with hy; subst hy; exact hr⟩

/-- The operation gives a value and turns nothing. -/
theorem Snd.val (h : In σ w I T H w0 X I0 a lab) {v : Value} {x : AV} (hrun : (execOp a.eval o).run P w = .ok (.value v) w) (hr : repA σ w I v x) (hk : k ⟨some x, []⟩) : Snd P o a w σ I H w0 X I0 lab k := by
  intro next Q hn
  unfold Oper.wp
  rw [hrun, Oper.upon_value]
  exact hn _ _ _ _ _ hk (Out.same0 h hr)

/-- The operation gives a value and another memory. -/
theorem Snd.of {e : Eff} {v : Value} {w' : World} {σ' : Lab} {I' : Nat → Prop} (hrun : (execOp a.eval o).run P w = .ok (.value v) w') (ho : Out σ w I H w0 X I0 lab e v w' σ' I') (hk : k e) : Snd P o a w σ I H w0 X I0 lab k := by
  intro next Q hn
  unfold Oper.wp
  rw [hrun, Oper.upon_value]
  exact hn _ _ _ _ _ hk ho
theorem Snd.skip {e : Eff} {w' : World} {σ' : Lab} {I' : Nat → Prop} (hrun : (execOp a.eval o).run P w = .ok .skip w') (ho : Out σ w I H w0 X I0 lab e undef w' σ' I') (hk : k e) : Snd P o a w σ I H w0 X I0 lab k := by
  intro next Q hn
  unfold Oper.wp
  rw [hrun, Oper.upon_skip]
  exact hn _ _ _ _ _ hk ho

/-! ### Moves, picks -/
def moveW (x : Option AV) (k : Eff → Prop) : Prop := match x with | some v => k ⟨some v, []⟩ | none => False
theorem snd_move (h : In σ w I T H w0 X I0 a lab) {x : Operand} (ho : o.op = .move x ∨ o.op = .assign x) (hk : moveW (ev T x) k) : Snd P o a w σ I H w0 X I0 lab k := by
  unfold moveW at hk
  split at hk
  · rename_i v hv
    refine Snd.val h (v := a.eval x) ?_ (h.ev hv) hk
    rcases ho with ho | ho <;> simp [execOp, ho]
  · exact hk.elim

def pickW (c x y : Option AV) (k : Eff → Prop) : Prop :=
  match c with
  | some (.p (.bool b)) => if b = true then moveW x k else moveW y k
  | _ => False
theorem snd_pick (h : In σ w I T H w0 X I0 a lab) {c x y : Operand} (ho : o.op = .pick c x y) (hk : pickW (ev T c) (ev T x) (ev T y) k) : Snd P o a w σ I H w0 X I0 lab k := by
  unfold pickW at hk
  split at hk
  · rename_i b hb
    have hc := h.ev hb
    generalize hcv : a.eval c = cv at hc
    cases hc with
    | p hc =>
      cases hc with
      | bool =>
        cases b with
        | true =>
          rw [if_pos rfl] at hk
          unfold moveW at hk
          split at hk
          · rename_i v hv
            exact Snd.val h (v := a.eval x) (by simp [execOp, ho, hcv, asBool]) (h.ev hv) hk
          · exact hk.elim
        | false =>
          rw [if_neg (by simp)] at hk
          unfold moveW at hk
          split at hk
          · rename_i v hv
            exact Snd.val h (v := a.eval y) (by simp [execOp, ho, hcv, asBool]) (h.ev hv) hk
          · exact hk.elim
  · exact hk.elim

/-! ### Numbers, texts, truths -/
def andI (k : IntKind) (a b : Int) : Int := k.wrap ((BitVec.ofInt k.bits a &&& BitVec.ofInt k.bits b).toNat : Int)
def orI (k : IntKind) (a b : Int) : Int := k.wrap ((BitVec.ofInt k.bits a ||| BitVec.ofInt k.bits b).toNat : Int)
def xorI (k : IntKind) (a b : Int) : Int := k.wrap ((BitVec.ofInt k.bits a ^^^ BitVec.ofInt k.bits b).toNat : Int)
def andNotI (k : IntKind) (a b : Int) : Int := k.wrap ((BitVec.ofInt k.bits a &&& ~~~ BitVec.ofInt k.bits b).toNat : Int)
def binInt (op : BinOp) (k : IntKind) (a b : Int) : Option PV :=
  match op with
  | .add => some (.int k (k.wrap (a + b)))
  | .sub => some (.int k (k.wrap (a - b)))
  | .mul => some (.int k (k.wrap (a * b)))
  | .quo => if b = 0 then none else some (.int k (k.wrap (a.tdiv b)))
  | .rem => if b = 0 then none else some (.int k (a.tmod b))
  | .and => some (.int k (andI k a b))
  | .or => some (.int k (orI k a b))
  | .xor => some (.int k (xorI k a b))
  | .andNot => some (.int k (andNotI k a b))
  | .eql => some (.bool (a == b))
  | .neq => some (.bool (a != b))
  | .lss => some (.bool (decide (a < b)))
  | .leq => some (.bool (decide (a ≤ b)))
  | .gtr => some (.bool (decide (a > b)))
  | .geq => some (.bool (decide (a ≥ b)))
  | _ => none
def binStr (op : BinOp) (a b : List UInt8) : Option PV :=
  match op with
  | .add => if a.length + b.length ≤ 9223372036854775807 then some (.str (a ++ b)) else none
  | .eql => some (.bool (a == b))
  | .neq => some (.bool (!(a == b)))
  | _ => none
def shiftInt (op : BinOp) (k : IntKind) (a b : Int) : Option PV :=
  if b < 0 then none else
  match op with
  | .shl => some (.int k (k.wrap (a * 2 ^ min b.toNat k.bits)))
  | .shr => some (.int k (a.fdiv (2 ^ min b.toNat k.bits)))
  | _ => none
def isShift : BinOp → Bool | .shl | .shr => true | _ => false
def binPV (op : BinOp) : PV → PV → Option PV
  | .int k a, .int k' b => if isShift op = true then shiftInt op k a b else if k = k' then binInt op k a b else none
  | .str a, .str b => binStr op a b
  | _, _ => none
/-- What a comparison of two values of a type answers, as a fact of its own: for what is no number and no text. -/
def EqP (P : Program) (t : TypeId) (x y : PV) (r : Bool) : Prop := ∀ (w : World) (I : Nat → Prop) (u v : Value), rep w I u x → rep w I v y →
  (binOp .eql t u v).run P w = .ok (.bool r) w ∧ (binOp .neq t u v).run P w = .ok (.bool (!r)) w ∧ ∀ op x y, (eqGuard op t x y u v).run P w = .ok () w
def eqW (P : Program) (op : BinOp) (t : TypeId) (x y : PV) (k : Eff → Prop) : Prop :=
  match op with
  | .eql => ∃ r, EqP P t x y r ∧ k ⟨some (.p (.bool r)), []⟩
  | .neq => ∃ r, EqP P t x y r ∧ k ⟨some (.p (.bool (!r))), []⟩
  | _ => False
def binW (P : Program) (op : BinOp) (t : TypeId) (x y : Option AV) (k : Eff → Prop) : Prop :=
  match x, y with
  | some (.p x), some (.p y) => match binPV op x y with | some r => k ⟨some (.p r), []⟩ | none => eqW P op t x y k
  | _, _ => False

def nilW (P : Program) (op : BinOp) (t : TypeId) (x : Option AV) (k : Eff → Prop) : Prop :=
  match x with
  | some (.p x) => eqW P op t x (.cst (.slice none 0 0)) k
  | _ => False

theorem str_toList (l : List UInt8) : (⟨⟨l⟩⟩ : ByteArray).toList = l := by rw [ByteArray.toList_eq]

theorem run_binInt {op : BinOp} {kd : IntKind} {m n : Int} {t : TypeId} {r : PV} (hs : isShift op = false) (h : binInt op kd m n = some r) : ∃ v, (binOp op t (.int kd m) (.int kd n)).run P w = .ok v w ∧ rep w I v r := by
  cases op <;> simp only [binInt, reduceCtorEq, isShift] at h hs
  case quo => 
    split at h
    · cases h
    · rename_i hn
      injection h with h; subst h
      exact ⟨_, by simp [binOp, Op.intDiv, hn], .int _ _⟩
  case rem => 
    split at h
    · cases h
    · rename_i hn
      injection h with h; subst h
      exact ⟨_, by simp [binOp, Op.intDiv, hn], .int _ _⟩
  all_goals
    injection h with h; subst h
    first
      | exact ⟨_, by simp only [binOp, ne_eq, not_true_eq_false, if_false]; rfl, .int _ _⟩
      | exact ⟨_, by simp only [binOp, ne_eq, not_true_eq_false, if_false]; rfl, .bool _⟩

theorem run_binShift {op : BinOp} {kd kd' : IntKind} {m n : Int} {t : TypeId} {r : PV} (h : shiftInt op kd m n = some r) : ∃ v, (binOp op t (.int kd m) (.int kd' n)).run P w = .ok v w ∧ rep w I v r := by
  unfold shiftInt at h
  split at h
  · cases h
  · rename_i hn
    cases op <;> simp only [reduceCtorEq] at h
    all_goals
      injection h with h; subst h
      exact ⟨_, by simp [binOp, Op.shift, hn], .int _ _⟩

theorem run_binStr {op : BinOp} {m n : List UInt8} {t : TypeId} {r : PV} (h : binStr op m n = some r) : ∃ v, (binOp op t (.string ⟨⟨m⟩⟩) (.string ⟨⟨n⟩⟩)).run P w = .ok v w ∧ rep w I v r := by
  cases op <;> simp only [binStr, reduceCtorEq] at h
  case add =>
    split at h
    · rename_i hl
      injection h with h; subst h
      refine ⟨.string ⟨⟨m ++ n⟩⟩, ?_, .str _⟩
      have h1 : (⟨⟨m⟩⟩ : ByteArray).size = m.length := rfl
      have h2 : (⟨⟨n⟩⟩ : ByteArray).size = n.length := rfl
      have h3 : (⟨⟨m⟩⟩ : ByteArray) ++ (⟨⟨n⟩⟩ : ByteArray) = ⟨⟨m ++ n⟩⟩ := by
        apply ByteArray.ext
        simp
      have h4 : ¬ (((m.length + n.length : Nat) : Int) > IntKind.i64.max) := by
        have : IntKind.i64.max = 9223372036854775807 := by decide
        omega
      simp only [binOp, Op.stringOp, h1, h2, h3]
      rw [if_neg h4]
      rfl
    · cases h
  all_goals
    injection h with h; subst h
    exact ⟨_, by simp [binOp, Op.stringOp], .bool _⟩

theorem snd_bin (h : In σ w I T H w0 X I0 a lab) {op : BinOp} {t t' : TypeId} {x y : Operand} (ho : o.op = .binOp op t x y t') (hk : binW P op t (ev T x) (ev T y) k) : Snd P o a w σ I H w0 X I0 lab k := by
  unfold binW at hk
  split at hk
  · rename_i p q hp hq
    have hx := h.ev hp
    have hy := h.ev hq
    split at hk
    · rename_i r hr
      generalize hxv : a.eval x = xv at hx
      generalize hyv : a.eval y = yv at hy
      cases hx with
      | p hx =>
      cases hy with
      | p hy =>
      have key : ∃ v, (binOp op t xv yv).run P w = .ok v w ∧ rep w I v r ∧ (eqGuard op t x y xv yv).run P w = .ok () w := by
        unfold binPV at hr
        split at hr
        · cases hx
          cases hy
          split at hr
          · obtain ⟨v, h1, h2⟩ := run_binShift (P := P) (w := w) (I := I) (t := t) hr
            exact ⟨v, h1, h2, by unfold eqGuard; split <;> rfl⟩
          · rename_i hs
            split at hr
            · rename_i hk'
              subst hk'
              obtain ⟨v, h1, h2⟩ := run_binInt (P := P) (w := w) (I := I) (t := t) (by simpa using hs) hr
              exact ⟨v, h1, h2, by unfold eqGuard; split <;> rfl⟩
            · cases hr
        · cases hx
          cases hy
          obtain ⟨v, h1, h2⟩ := run_binStr (P := P) (w := w) (I := I) (t := t) hr
          exact ⟨v, h1, h2, by unfold eqGuard; split <;> rfl⟩
        · cases hr
      obtain ⟨v, h1, h2, h3⟩ := key
      refine Snd.val h (v := v) ?_ (.p h2) hk
      simp only [execOp, ho, hxv, hyv, Sem.run_bind, h3, Result.andThen_ok, h1]
      rfl
    · generalize hxv : a.eval x = xv at hx
      generalize hyv : a.eval y = yv at hy
      cases hx with
      | p hx =>
      cases hy with
      | p hy =>
      unfold eqW at hk
      split at hk
      · obtain ⟨r, he, hk⟩ := hk
        obtain ⟨h1, h2, h3⟩ := he w I _ _ hx hy
        refine Snd.val h (v := .bool r) ?_ (.p (.bool _)) hk
        simp only [execOp, ho, hxv, hyv, Sem.run_bind, h3, Result.andThen_ok, h1]
        rfl
      · obtain ⟨r, he, hk⟩ := hk
        obtain ⟨h1, h2, h3⟩ := he w I _ _ hx hy
        refine Snd.val h (v := .bool (!r)) ?_ (.p (.bool _)) hk
        simp only [execOp, ho, hxv, hyv, Sem.run_bind, h3, Result.andThen_ok, h2]
        rfl
      · exact hk.elim
  · exact hk.elim

def isNilC : Operand → Bool
  | .const (.slice none 0 0) => true
  | _ => false
theorem isNilC_tmp (t : Nat) : isNilC (.tmp t) = false := rfl
theorem isNilC_int (k : IntKind) (n : Int) : isNilC (.const (.int k n)) = false := rfl
theorem isNilC_bool (b : Bool) : isNilC (.const (.bool b)) = false := rfl
theorem isNilC_str (b : ByteArray) : isNilC (.const (.string b)) = false := rfl
theorem isNilC_iface : isNilC (.const .nilIface) = false := rfl
theorem isNilC_ptr (a : Option Addr) : isNilC (.const (.pointer a)) = false := rfl
theorem isNilC_map (a : Option Nat) : isNilC (.const (.map a)) = false := rfl
theorem isNilC_slice : isNilC (.const (.slice none 0 0)) = true := rfl
/-- Of two operands: where the second is nil of a slice's type, the first stands for itself. -/
def binOW (P : Program) (T : Nat → Option AV) (op : BinOp) (t : TypeId) (x y : Operand) (k : Eff → Prop) : Prop :=
  if isNilC y = true then nilW P op t (ev T x) k else binW P op t (ev T x) (ev T y) k
theorem snd_binO (h : In σ w I T H w0 X I0 a lab) {op : BinOp} {t t' : TypeId} {x y : Operand} (ho : o.op = .binOp op t x y t') (hk : binOW P T op t x y k) : Snd P o a w σ I H w0 X I0 lab k := by
  unfold binOW at hk
  split at hk
  · rename_i hy
    unfold isNilC at hy
    split at hy
    · unfold nilW at hk
      split at hk
      · rename_i p hp
        have hx := h.ev hp
        generalize hxv : a.eval x = xv at hx
        have hyv : a.eval (.const (.slice none 0 0)) = .slice none 0 0 := rfl
        cases hx with
        | p hx =>
        unfold eqW at hk
        split at hk
        · obtain ⟨r, he, hk⟩ := hk
          obtain ⟨h1, h2, h3⟩ := he w I _ _ hx (.cst _)
          refine Snd.val h (v := .bool r) ?_ (.p (.bool _)) hk
          simp only [execOp, ho, hxv, hyv, Sem.run_bind, h3, Result.andThen_ok, h1]
          rfl
        · obtain ⟨r, he, hk⟩ := hk
          obtain ⟨h1, h2, h3⟩ := he w I _ _ hx (.cst _)
          refine Snd.val h (v := .bool (!r)) ?_ (.p (.bool _)) hk
          simp only [execOp, ho, hxv, hyv, Sem.run_bind, h3, Result.andThen_ok, h2]
          rfl
        · exact hk.elim
      · exact hk.elim
    · cases hy
  · exact snd_bin h ho hk

def unPV : UnOp → PV → Option PV
  | .neg, .int k n => some (.int k (k.wrap (0 - n)))
  | .not, .bool b => some (.bool (!b))
  | .xor, .int k n => some (.int k (k.wrap ((BitVec.ofInt k.bits (if k.signed then -1 else k.max) ^^^ BitVec.ofInt k.bits n).toNat : Int)))
  | _, _ => none
def unW (op : UnOp) (x : Option AV) (k : Eff → Prop) : Prop :=
  match x with
  | some (.p x) => match unPV op x with | some r => k ⟨some (.p r), []⟩ | none => False
  | _ => False
theorem snd_un (h : In σ w I T H w0 X I0 a lab) {op : UnOp} {t : TypeId} {x : Operand} (ho : o.op = .unOp op t x) (hk : unW op (ev T x) k) : Snd P o a w σ I H w0 X I0 lab k := by
  unfold unW at hk
  split at hk
  · rename_i p hp
    have hx := h.ev hp
    split at hk
    · rename_i r hr
      generalize hxv : a.eval x = xv at hx
      cases hx with
      | p hx =>
      have key : ∃ v, (Op.unary op xv).run P w = .ok v w ∧ rep w I v r := by
        unfold unPV at hr
        split at hr
        · cases hx; injection hr with hr; subst hr
          exact ⟨_, by simp [Op.unary, Op.intArith], .int _ _⟩
        · cases hx; injection hr with hr; subst hr
          exact ⟨_, by simp [Op.unary], .bool _⟩
        · cases hx; injection hr with hr; subst hr
          exact ⟨_, rfl, .int _ _⟩
        · cases hr
      obtain ⟨v, h1, h2⟩ := key
      refine Snd.val h (v := v) ?_ (.p h2) hk
      simp only [execOp, ho, hxv, Sem.run_bind, h1, Result.andThen_ok]
      rfl
    · exact hk.elim
  · exact hk.elim
end
end Go.Aw
