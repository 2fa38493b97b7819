/- The ground of a small logic over the model: values without addresses, what of memory stands for them, states of a frame, and triples over code. -/
import Derived.Calls
import Derived.Below
import Derived.Deep.Draws
import Derived.KernelRfl
namespace Go.Aw
open Go.RowKit

/-- A value without addresses: what can be read of a Go value, to the bottom. -/
inductive PV where
  | int (k : IntKind) (n : Int)
  | bool (b : Bool)
  | str (l : List UInt8)
  | cst (x : Value)
  | agg (cs : List PV)
  | tuple (vs : List PV)
  | iface (t : TypeId) (x : PV)
  | slice (es : List (List PV))
  | box (cs : List PV) (off : Nat)

def PV.one : PV → Bool
  | .agg _ | .tuple _ => false
  | .cst x => x.oneCell'
  | _ => true

/-- In the world w the value stands for the value without addresses; what is read of memory lies in blocks of I. -/
inductive rep (w : World) (I : Nat → Prop) : Value → PV → Prop
  | int (k : IntKind) (n : Int) : rep w I (.int k n) (.int k n)
  | bool (b : Bool) : rep w I (.bool b) (.bool b)
  | str (l : List UInt8) : rep w I (.string ⟨⟨l⟩⟩) (.str l)
  | cst (x : Value) : rep w I x (.cst x)
  | agg {vs : Array Value} {cs : List PV} (h : vs.size = cs.length) (hr : ∀ (j : Nat) u p, vs[j]? = some u → cs[j]? = some p → rep w I u p) : rep w I (.agg vs) (.agg cs)
  | tuple {vs : Array Value} {cs : List PV} (h : vs.size = cs.length) (hr : ∀ (j : Nat) u p, vs[j]? = some u → cs[j]? = some p → rep w I u p) : rep w I (.tuple vs) (.tuple cs)
  | iface (t : TypeId) {v : Value} {x : PV} (h : rep w I v x) : rep w I (.iface t v) (.iface t x)
  | empty (a : Option Addr) (c : Nat) : rep w I (.slice a 0 c) (.slice [])
  | slice (b o n c sz : Nat) (es : List (List PV)) (us : Nat → Nat → Value) (hn : n = es.length) (hc : n ≤ c) (hs : ∀ e ∈ es, e.length = sz) (hI : I b)
      (ho : ∀ e ∈ es, ∀ p ∈ e, p.one = true)
      (hcell : ∀ (i : Nat) e (j : Nat) p, es[i]? = some e → e[j]? = some p → w.cell? ⟨b, o + (i * sz + j), none⟩ = some (us i j))
      (hrep : ∀ (i : Nat) e (j : Nat) p, es[i]? = some e → e[j]? = some p → rep w I (us i j) p) : rep w I (.slice (some ⟨b, o, none⟩) n c) (.slice es)
  | box (b o off : Nat) (cs : List PV) (us : Nat → Value) (hI : I b) (ho : ∀ p ∈ cs, p.one = true)
      (hcell : ∀ (j : Nat) p, cs[j]? = some p → w.cell? ⟨b, o + j, none⟩ = some (us j))
      (hrep : ∀ (j : Nat) p, cs[j]? = some p → rep w I (us j) p) : rep w I (.pointer (some ⟨b, o + off, none⟩)) (.box cs off)

theorem cell?_same {w w' : World} {a : Addr} (h : w'.heap[a.block]? = w.heap[a.block]?) : w'.cell? a = w.cell? a := by
  unfold World.cell?
  rw [h]
theorem add_block (a : Addr) (n : Nat) : (a.add n).block = a.block := by unfold Addr.add; split <;> rfl

theorem rep.mono {w w' : World} {I I' : Nat → Prop} {v : Value} {x : PV} (h : rep w I v x) (hI : ∀ b, I b → I' b) (hw : ∀ b, I b → w'.heap[b]? = w.heap[b]?) : rep w' I' v x := by
  induction h with
  | int k n => exact .int k n
  | bool b => exact .bool b
  | str l => exact .str l
  | cst x => exact .cst x
  | agg h _ ih => exact .agg h ih
  | tuple h _ ih => exact .tuple h ih
  | iface t _ ih => exact .iface t ih
  | empty a c => exact .empty a c
  | slice b o n c sz es us hn hc hs hI' ho hcell _ ih =>
    refine .slice b o n c sz es us hn hc hs (hI _ hI') ho (fun i e j p h1 h2 => ?_) ih
    rw [cell?_same (w := w) (hw _ hI')]
    exact hcell i e j p h1 h2
  | box b o off cs us hI' ho hcell _ ih =>
    refine .box b o off cs us (hI _ hI') ho (fun j p h => ?_) ih
    rw [cell?_same (w := w) (hw _ hI')]
    exact hcell j p h

theorem rep.one {w : World} {I : Nat → Prop} {v : Value} {x : PV} (h : rep w I v x) (hx : x.one = true) : v.oneCell' = true := by
  cases h <;> first | rfl | (simp [PV.one] at hx; done) | exact hx

/-- A value of a frame: without addresses, or one that knows a place of the call's own by its label. -/
inductive AV where
  | p (x : PV)
  | ex (es : List (List PV))
  | own (l : Nat)
  | cut (l lo n : Nat)
  | vw (es more : List (List PV))
  | ptr (l i off : Nat)
  | map (l : Nat)
  | it (l : Nat)
  | agg (cs : List AV)
  | tuple (vs : List AV)
  | iface (t : TypeId) (x : AV)
  | fn (f : FuncId) (caps : List AV)

def AV.one : AV → Bool
  | .agg _ | .tuple _ => false
  | .p x => x.one
  | _ => true

/-- What a label is in memory. -/
inductive Slot where
  | emp (a : Option Addr)
  | row (g n c sz : Nat)
  | obj (g : Nat)

def Slot.block : Slot → Option Nat
  | .emp _ => none
  | .row g _ _ _ | .obj g => some g

abbrev Lab := Nat → Option Slot

inductive repA (σ : Lab) (w : World) (I : Nat → Prop) : Value → AV → Prop
  | p {v : Value} {x : PV} (h : rep w I v x) : repA σ w I v (.p x)
  | ex {a : Option Addr} {n : Nat} {es : List (List PV)} (hn : n = es.length) (h : rep w I (.slice a n n) (.slice es)) : repA σ w I (.slice a n n) (.ex es)
  | ownE {l : Nat} {a : Option Addr} (h : σ l = some (.emp a)) : repA σ w I (.slice a 0 0) (.own l)
  | own {l g n c sz : Nat} (h : σ l = some (.row g n c sz)) : repA σ w I (.slice (some ⟨g, 0, none⟩) n c) (.own l)
  | cut {l g n c sz lo m : Nat} (h : σ l = some (.row g n c sz)) (hm : lo + m ≤ n) (hc : n ≤ c) : repA σ w I (.slice (if c = lo then some ⟨g, 0, none⟩ else some ⟨g, lo * sz, none⟩) m (c - lo)) (.cut l lo m)
  | vw {a : Option Addr} {n m c : Nat} {es more : List (List PV)} (hn : n = es.length) (hm : m = n + more.length) (hc : m ≤ c) (h : rep w I (.slice a m c) (.slice (es ++ more))) : repA σ w I (.slice a n c) (.vw es more)
  | ptr {l g n c sz i off : Nat} (h : σ l = some (.row g n c sz)) : repA σ w I (.pointer (some ⟨g, i * sz + off, none⟩)) (.ptr l i off)
  | map {l g : Nat} (h : σ l = some (.obj g)) : repA σ w I (.map (some g)) (.map l)
  | it {l g : Nat} (h : σ l = some (.obj g)) : repA σ w I (.pointer (some ⟨g, 0, none⟩)) (.it l)
  | agg {vs : Array Value} {cs : List AV} (h : vs.size = cs.length) (hr : ∀ (j : Nat) u p, vs[j]? = some u → cs[j]? = some p → repA σ w I u p) : repA σ w I (.agg vs) (.agg cs)
  | tuple {vs : Array Value} {cs : List AV} (h : vs.size = cs.length) (hr : ∀ (j : Nat) u p, vs[j]? = some u → cs[j]? = some p → repA σ w I u p) : repA σ w I (.tuple vs) (.tuple cs)
  | iface (t : TypeId) {v : Value} {x : AV} (h : repA σ w I v x) : repA σ w I (.iface t v) (.iface t x)
  | fn (f : FuncId) {vs : Array Value} {cs : List AV} (h : vs.size = cs.length) (hr : ∀ (j : Nat) u p, vs[j]? = some u → cs[j]? = some p → repA σ w I u p) : repA σ w I (.func (.func f) #[] vs) (.fn f cs)

theorem repA.mono {σ σ' : Lab} {w w' : World} {I I' : Nat → Prop} {v : Value} {x : AV} (h : repA σ w I v x) (hσ : ∀ l s, σ l = some s → σ' l = some s) (hI : ∀ b, I b → I' b) (hw : ∀ b, I b → w'.heap[b]? = w.heap[b]?) : repA σ' w' I' v x := by
  induction h with
  | p h => exact .p (h.mono hI hw)
  | ex hn h => exact .ex hn (h.mono hI hw)
  | ownE h => exact .ownE (hσ _ _ h)
  | own h => exact .own (hσ _ _ h)
  | cut h hm hc => exact .cut (hσ _ _ h) hm hc
  | vw hn hm hc h => exact .vw hn hm hc (h.mono hI hw)
  | ptr h => exact .ptr (hσ _ _ h)
  | map h => exact .map (hσ _ _ h)
  | it h => exact .it (hσ _ _ h)
  | agg h _ ih => exact .agg h ih
  | tuple h _ ih => exact .tuple h ih
  | iface t _ ih => exact .iface t ih
  | fn f h _ ih => exact .fn f h ih

theorem repA.one {σ : Lab} {w : World} {I : Nat → Prop} {v : Value} {x : AV} (h : repA σ w I v x) (hx : x.one = true) : v.oneCell' = true := by
  cases h with
  | p h => exact h.one hx
  | agg h _ => simp [AV.one] at hx
  | tuple h _ => simp [AV.one] at hx
  | _ => rfl

/-- What is kept at a label: a row of elements (of sz cells each), a map, an iterator over a text. -/
inductive Blk where
  | row (sz : Nat) (es : List (List AV))
  | map (es : List (PV × AV))
  | iter (s : List UInt8) (pos : Nat)

inductive repB (σ : Lab) (w : World) (I : Nat → Prop) (l : Nat) : Blk → Prop
  | emp {a : Option Addr} {sz : Nat} (h : σ l = some (.emp a)) : repB σ w I l (.row sz [])
  | row {g c sz : Nat} {cur : Array Value} {et : TypeId} {es : List (List AV)} (h : σ l = some (.row g es.length c sz)) (hg : w.heap[g]? = some (.cells cur et (0, 0)))
      (hcur : cur.size = c * sz) (hc : es.length ≤ c) (hs : ∀ e ∈ es, e.length = sz) (ho : ∀ e ∈ es, ∀ x ∈ e, x.one = true)
      (hr : ∀ (i : Nat) e (j : Nat) x, es[i]? = some e → e[j]? = some x → ∃ u, cur[i * sz + j]? = some u ∧ repA σ w I u x) : repB σ w I l (.row sz es)
  | map {g k : Nat} {ms : Array MapEntry} {es : List (PV × AV)} (h : σ l = some (.obj g)) (hg : w.heap[g]? = some (.map ms k)) (hn : ms.size = es.length)
      (hr : ∀ (i : Nat) m e, ms[i]? = some m → es[i]? = some e → rep w (fun _ => False) m.key e.1 ∧ repA σ w I m.val e.2) : repB σ w I l (.map es)
  | iter {g : Nat} {s : List UInt8} {pos : Nat} (h : σ l = some (.obj g)) (hg : w.heap[g]? = some (.stringIter ⟨⟨s⟩⟩ pos)) : repB σ w I l (.iter s pos)

/-- Of w0 nothing has turned but what lies in X. -/
structure Fr (w0 : World) (X : Nat → Prop) (w : World) : Prop where
  os : w.os = w0.os
  tape : w.tape = w0.tape
  output : w.output = w0.output
  size : w0.heap.size ≤ w.heap.size
  block : ∀ b, b < w0.heap.size → ¬ X b → w.heap[b]? = w0.heap[b]?
  shape : ∀ (b : Nat) (cur : Array Value) (et : TypeId) (p : Nat × Nat), w0.heap[b]? = some (Obj.cells cur et p) → ∃ (cur' : Array Value) (et' : TypeId) (p' : Nat × Nat), w.heap[b]? = some (Obj.cells cur' et' p') ∧ cur'.size = cur.size

/-- The memory of a call: what stands at its labels, apart from each other and from what is only read. -/
structure HOK (σ : Lab) (w : World) (I : Nat → Prop) (H : Nat → Option Blk) (w0 : World) (X I0 : Nat → Prop) : Prop where
  rows : ∀ l b, H l = some b → repB σ w I l b
  inj : ∀ l l' g s s', H l ≠ none → H l' ≠ none → σ l = some s → σ l' = some s' → s.block = some g → s'.block = some g → l = l'
  mine : ∀ l g s, H l ≠ none → σ l = some s → s.block = some g → ¬ I g ∧ (X g ∨ w0.heap.size ≤ g)
  imm : ∀ g, I g → g < w.heap.size ∧ (I0 g ∨ X g ∨ w0.heap.size ≤ g)
  sub : ∀ g, I0 g → I g
  fr : Fr w0 X w

structure St where
  T : Nat → Option AV
  H : Nat → Option Blk
  nx : Nat

/-- A frame: how many temps, which of them are held to what they were. -/
structure Fm where
  n : Nat
  pin : List Nat
  val : Nat → Value
abbrev fm (n : Nat) : Fm := ⟨n, [], fun _ => .bool false⟩
structure Match (nt : Fm) (w0 : World) (X I0 : Nat → Prop) (σ : Lab) (I : Nat → Prop) (T : Nat → Option AV) (H : Nat → Option Blk) (a : Act) (w : World) : Prop where
  defers : a.defers = []
  size : a.tmps.size = nt.n
  pins : ∀ i ∈ nt.pin, a.tmps[i]? = some (nt.val i)
  heap : HOK σ w I H w0 X I0
  tmps : ∀ i x, T i = some x → ∃ u, a.tmps[i]? = some u ∧ repA σ w I u x

def Matches (nt : Fm) (w0 : World) (X I0 : Nat → Prop) (s : St) (a : Act) (w : World) : Prop :=
  ∃ σ I, (∀ l, s.nx ≤ l → σ l = none) ∧ Match nt w0 X I0 σ I s.T s.H a w

/-- From the state s the code comes to an exit and a state of which Q holds. -/
def AW (P : Program) (nt : Fm) (c : Code) (s : St) (Q : Exit → St → Prop) : Prop :=
  ∀ w0 X I0 a w, Matches nt w0 X I0 s a w → c.wp P (fun e a' w' => ∃ s', Matches nt w0 X I0 s' a' w' ∧ Q e s') a w

/-- Whatever is in the state s is in the state s', by other labels perhaps. -/
def Ghost (nt : Fm) (s s' : St) : Prop := ∀ w0 X I0 a w, Matches nt w0 X I0 s a w → Matches nt w0 X I0 s' a w

section
variable {P : Program} {nt : Fm} {s : St} {Q : Exit → St → Prop}
theorem AW.mono {c : Code} {Q' : Exit → St → Prop} (h : AW P nt c s Q) (hq : ∀ e s, Q e s → Q' e s) : AW P nt c s Q' :=
  fun w0 X I0 a w m => wp_mono (h w0 X I0 a w m) fun _ _ _ ⟨s', m', q⟩ => ⟨s', m', hq _ _ q⟩
theorem AW.ghost {c : Code} {s' : St} (g : Ghost nt s s') (h : AW P nt c s' Q) : AW P nt c s Q :=
  fun w0 X I0 a w m => h w0 X I0 a w (g w0 X I0 a w m)
theorem AW.skip (h : Q .normal s) : AW P nt .skip s Q := fun _ _ _ _ _ m => wp_skip ⟨s, m, h⟩
theorem AW.exit {id : Nat} (h : Q (.exit id) s) : AW P nt (.exit id) s Q := fun _ _ _ _ _ m => wp_exit ⟨s, m, h⟩
theorem AW.ret (h : Q .ret s) : AW P nt .ret s Q := fun _ _ _ _ _ m => wp_ret ⟨s, m, h⟩
theorem AW.label {l : Nat} (h : Q .normal s) : AW P nt (.label l) s Q := fun _ _ _ _ _ m => wp_label ⟨s, m, h⟩

/-- What follows a piece that ends as it should. -/
def andThen (K : St → Prop) (Q : Exit → St → Prop) : Exit → St → Prop
  | .normal, s => K s
  | e, s => Q e s
theorem AW.seq {x y : Code} (h : AW P nt x s (andThen (fun s' => AW P nt y s' Q) Q)) : AW P nt (.seq x y) s Q := by
  intro w0 X I0 a w m
  refine wp_seq (wp_mono (h w0 X I0 a w m) ?_)
  rintro e a' w' ⟨s', m', q⟩
  cases e with
  | normal => exact q w0 X I0 a' w' m'
  | exit id => exact ⟨s', m', q⟩
  | goto l => exact ⟨s', m', q⟩
  | ret => exact ⟨s', m', q⟩
  | panic c => exact ⟨s', m', q⟩
  | outgrown => exact ⟨s', m', q⟩
def inBlk (id : Nat) (Q : Exit → St → Prop) : Exit → St → Prop
  | .exit id', s => if id' = id then Q .normal s else Q (.exit id') s
  | e, s => Q e s
theorem AW.block {id : Nat} {c : Code} (h : AW P nt c s (inBlk id Q)) : AW P nt (.block id c) s Q := by
  intro w0 X I0 a w m
  refine wp_block (wp_mono (h w0 X I0 a w m) ?_)
  rintro e a' w' ⟨s', m', q⟩
  cases e with
  | exit id' =>
    simp only [Exit.inBlock]
    simp only [inBlk] at q
    by_cases he : id' = id
    · rw [if_pos he] at q ⊢
      exact ⟨s', m', q⟩
    · rw [if_neg he] at q ⊢
      exact ⟨s', m', q⟩
  | normal => exact ⟨s', m', q⟩
  | goto l => exact ⟨s', m', q⟩
  | ret => exact ⟨s', m', q⟩
  | panic c => exact ⟨s', m', q⟩
  | outgrown => exact ⟨s', m', q⟩

theorem wp_loop_x {α : Type} {c : Code} {R : Exit → Act → World → Prop} (J : α → Act → World → Prop) (μ : α → Nat) {a : Act} {w : World} (x0 : α) (h₀ : J x0 a w)
    (round : ∀ x a w, J x a w → c.wp P (Exit.then (fun a' w' => ∃ y, J y a' w' ∧ μ y < μ x) R) a w) : (Code.loop c).wp P R a w := by
  intro b k cs
  have key : ∀ n x a w, μ x = n → J x a w →
      ∃ e a' w', R e a' w' ∧ Arrives P (lone (b.at a (.code c :: .inLoop c :: k)) cs w) b k cs e a' w' := by
    intro n
    induction n using Nat.strongRecOn with
    | _ n ih =>
      intro x a w hn hI
      obtain ⟨e, a₁, w₁, hq, harr⟩ := round x a w hI b (.inLoop c :: k) cs
      cases e with
      | normal =>
        obtain ⟨y, hI₁, hlt⟩ := hq
        obtain ⟨e₂, a₂, w₂, hq₂, harr₂⟩ := ih (μ y) (hn ▸ hlt) y a₁ w₁ rfl hI₁
        exact ⟨e₂, a₂, w₂, hq₂, .of_steps (Steps.trans harr (.one step_inLoop)) harr₂⟩
      | exit id => exact ⟨_, a₁, w₁, hq, .pass (x := .inLoop c) rfl (fun _ _ => .inl (by simp)) harr⟩
      | goto l => exact ⟨_, a₁, w₁, hq, .pass (x := .inLoop c) rfl (fun _ _ => .inl (by simp)) harr⟩
      | ret => exact ⟨_, a₁, w₁, hq, .pass (x := .inLoop c) rfl (fun _ _ => .inl (by simp)) harr⟩
      | panic ch => exact ⟨_, a₁, w₁, hq, .pass (x := .inLoop c) rfl (fun _ _ => .inl (by simp)) harr⟩
      | outgrown => exact ⟨_, a₁, w₁, hq, .pass (x := .inLoop c) rfl (fun _ _ => .inl (by simp)) harr⟩
  obtain ⟨e, a', w', hq, harr⟩ := key _ x0 a w rfl h₀
  exact ⟨e, a', w', hq, .of_steps (.one step_loop) harr⟩

/-- A loop: its state at each round is told by a value x; each round that goes on makes the measure smaller. -/
theorem AW.loop {α : Type} {c : Code} (S : α → St) (Inv : α → Prop) (μ : α → Nat) (x0 : α) (h0 : Ghost nt s (S x0)) (i0 : Inv x0)
    (round : ∀ x, Inv x → AW P nt c (S x) (andThen (fun s' => ∃ y, Inv y ∧ μ y < μ x ∧ Ghost nt s' (S y)) Q)) : AW P nt (.loop c) s Q := by
  intro w0 X I0 a w m
  refine wp_loop_x (fun x a w => Inv x ∧ Matches nt w0 X I0 (S x) a w) μ x0 ⟨i0, h0 w0 X I0 a w m⟩ ?_
  intro x a w ⟨hi, m⟩
  refine wp_mono (round x hi w0 X I0 a w m) ?_
  rintro e a' w' ⟨s', m', q⟩
  cases e with
  | normal =>
    obtain ⟨y, hy, hlt, g⟩ := q
    exact ⟨y, ⟨hy, g w0 X I0 a' w' m'⟩, hlt⟩
  | exit id => exact ⟨s', m', q⟩
  | goto l => exact ⟨s', m', q⟩
  | ret => exact ⟨s', m', q⟩
  | panic c => exact ⟨s', m', q⟩
  | outgrown => exact ⟨s', m', q⟩
end
end Go.Aw
