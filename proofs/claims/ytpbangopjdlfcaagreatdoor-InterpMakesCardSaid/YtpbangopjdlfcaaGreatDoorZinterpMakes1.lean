/- What the law LawInterpMakes leans on, joined (part 1). -/
import Derived.Calls
import Derived.Shelf.Unicode.DecodeSlow
import Derived.Below
import Derived.Deep.Draws
import Derived.KernelRfl
import Derived.Laws.CopyRow
import Derived.Laws.Cells
import Derived.Lib.Bytes
import Derived.Laws.Entries
import Derived.Deep.AppendSrc
import Derived.Lib.ConvBytes
import Derived.Laws.MakeOwn
import Derived.IntWalk
import Derived.Laws.BytesArg
import Derived.Laws.Build
import Derived.MapKept
import Derived.Orders
import Derived.Test.YtpbangopjdlfcaaGreatDoorProg
import Derived.Attr
import Derived.ChangeReads
import Derived.ChangeOld
import Derived.ReadAgain
import Derived.SizedLaws
import Derived.ChangeShapes
import Derived.Shelf.Unicode.Decode
import Derived.Shelf.Unicode.DecodeAny
import Derived.Test.YtpbangopjdlfcaaGreatDoorRows
import Derived.Lib.LaidU8
import Derived.WalkKit
import Derived.ProofKit
import Derived.Laws.StructEq
import Derived.Tactics
import Derived.Laws.Small
import Derived.ChangeCalls
import Derived.Tactics2
import Derived.Recover
import Derived.Laws.Pointers
import Derived.Lib.DecodeN
import Derived.Scope
set_option linter.unusedSimpArgs false
set_option linter.unusedVariables false
set_option maxRecDepth 100000
set_option maxHeartbeats 8000000
namespace Go.Aw
def tabOK (w : World) (I : Nat → Prop) : Prop:=Lib.Utf8Tabs 0 1 w ∧ I 0 ∧ I 1
theorem tab_keep {w w' : World} {I I' : Nat → Prop} (h : tabOK w I) (hi : ∀ g,I g → I' g) (hb : ∀ g,I g → w'.heap[g]? = w.heap[g]?) : tabOK w' I':=by
 obtain ⟨⟨h1,h2⟩,i0,i1⟩:=h
 have e0 : ∀ c,w'.cell? ⟨0,c,none⟩ = w.cell? ⟨0,c,none⟩:=fun c=>by unfold World.cell?; simp only [hb 0 i0]
 have e1 : ∀ c,w'.cell? ⟨1,c,none⟩ = w.cell? ⟨1,c,none⟩:=fun c=>by unfold World.cell?; simp only [hb 1 i1]
 exact ⟨⟨fun c hc=>by rw [e0]; exact h1 c hc,fun i hi=>by rw [e1,e1]; exact h2 i hi⟩,hi 0 i0,hi 1 i1⟩
structure TabX (w0 : World) (X I0 : Nat → Prop) : Prop where
 tab : tabOK w0 I0
 lt : ∀ g,I0 g → g < w0.heap.size
 off : ∀ g,X g → ¬ I0 g
end Go.Aw
namespace Go.Aw
open Go.RowKit
inductive PV where
 | int (k : IntKind) (n : Int)
 | bool (b : Bool)
 | str (l : List UInt8)
 | cst (x : Value)
 | agg (cs : List PV)
 | tuple (vs : List PV)
 | iface (t : TypeId) (x : PV)
 | slice (es : List (List PV))
 | box (cs : List PV) (off : Nat)
def PV.one : PV → Bool
 | .agg _ | .tuple _=>false
 | .cst x=>x.oneCell'
 | _=>true
inductive rep (w : World) (I : Nat → Prop) : Value → PV → Prop
 | int (k : IntKind) (n : Int) : rep w I (.int k n) (.int k n)
 | bool (b : Bool) : rep w I (.bool b) (.bool b)
 | str (l : List UInt8) : rep w I (.string ⟨⟨l⟩⟩) (.str l)
 | cst (x : Value) : rep w I x (.cst x)
 | agg {vs : Array Value} {cs : List PV} (h : vs.size = cs.length) (hr : ∀ (j : Nat) u p,vs[j]? = some u → cs[j]? = some p → rep w I u p) : rep w I (.agg vs) (.agg cs)
 | tuple {vs : Array Value} {cs : List PV} (h : vs.size = cs.length) (hr : ∀ (j : Nat) u p,vs[j]? = some u → cs[j]? = some p → rep w I u p) : rep w I (.tuple vs) (.tuple cs)
 | iface (t : TypeId) {v : Value} {x : PV} (h : rep w I v x) : rep w I (.iface t v) (.iface t x)
 | empty (a : Option Addr) (c : Nat) : rep w I (.slice a 0 c) (.slice [])
 | slice (b o n c sz : Nat) (es : List (List PV)) (us : Nat → Nat → Value) (hn : n = es.length) (hc : n ≤ c) (hs : ∀ e ∈ es,e.length = sz) (hI : I b)
   (ho : ∀ e ∈ es,∀ p ∈ e,p.one = true)
   (hcell : ∀ (i : Nat) e (j : Nat) p,es[i]? = some e → e[j]? = some p → w.cell? ⟨b,o + (i * sz + j),none⟩ = some (us i j))
   (hrep : ∀ (i : Nat) e (j : Nat) p,es[i]? = some e → e[j]? = some p → rep w I (us i j) p) : rep w I (.slice (some ⟨b,o,none⟩) n c) (.slice es)
 | box (b o off : Nat) (cs : List PV) (us : Nat → Value) (hI : I b) (ho : ∀ p ∈ cs,p.one = true)
   (hcell : ∀ (j : Nat) p,cs[j]? = some p → w.cell? ⟨b,o + j,none⟩ = some (us j))
   (hrep : ∀ (j : Nat) p,cs[j]? = some p → rep w I (us j) p) : rep w I (.pointer (some ⟨b,o + off,none⟩)) (.box cs off)
theorem cell?_same {w w' : World} {a : Addr} (h : w'.heap[a.block]? = w.heap[a.block]?) : w'.cell? a = w.cell? a:=by
 unfold World.cell?
 rw [h]
theorem rep.mono {w w' : World} {I I' : Nat → Prop} {v : Value} {x : PV} (h : rep w I v x) (hI : ∀ b,I b → I' b) (hw : ∀ b,I b → w'.heap[b]? = w.heap[b]?) : rep w' I' v x:=by
 induction h with
 | int k n=>exact .int k n
 | bool b=>exact .bool b
 | str l=>exact .str l
 | cst x=>exact .cst x
 | agg h _ ih=>exact .agg h ih
 | tuple h _ ih=>exact .tuple h ih
 | iface t _ ih=>exact .iface t ih
 | empty a c=>exact .empty a c
 | slice b o n c sz es us hn hc hs hI' ho hcell _ ih =>
  refine .slice b o n c sz es us hn hc hs (hI _ hI') ho (fun i e j p h1 h2=>?_) ih
  rw [cell?_same (w:=w) (hw _ hI')]
  exact hcell i e j p h1 h2
 | box b o off cs us hI' ho hcell _ ih =>
  refine .box b o off cs us (hI _ hI') ho (fun j p h=>?_) ih
  rw [cell?_same (w:=w) (hw _ hI')]
  exact hcell j p h
theorem rep.one {w : World} {I : Nat → Prop} {v : Value} {x : PV} (h : rep w I v x) (hx : x.one = true) : v.oneCell' = true:=by
 cases h <;> first | rfl | (simp [PV.one] at hx; done) | exact hx
inductive AV where
 | p (x : PV)
 | ex (es : List (List PV))
 | own (l : Nat)
 | cut (l lo n : Nat)
 | vw (es more : List (List PV))
 | ptr (l i off : Nat)
 | map (l : Nat)
 | it (l : Nat)
 | agg (cs : List AV)
 | tuple (vs : List AV)
 | iface (t : TypeId) (x : AV)
 | fn (f : FuncId) (caps : List AV)
def AV.one : AV → Bool
 | .agg _ | .tuple _=>false
 | .p x=>x.one
 | _=>true
inductive Slot where
 | emp (a : Option Addr)
 | row (g n c sz : Nat)
 | obj (g : Nat)
def Slot.block : Slot → Option Nat
 | .emp _=>none
 | .row g _ _ _ | .obj g=>some g
abbrev Lab:=Nat → Option Slot
inductive repA (σ : Lab) (w : World) (I : Nat → Prop) : Value → AV → Prop
 | p {v : Value} {x : PV} (h : rep w I v x) : repA σ w I v (.p x)
 | ex {a : Option Addr} {n : Nat} {es : List (List PV)} (hn : n = es.length) (h : rep w I (.slice a n n) (.slice es)) : repA σ w I (.slice a n n) (.ex es)
 | ownE {l : Nat} {a : Option Addr} (h : σ l = some (.emp a)) : repA σ w I (.slice a 0 0) (.own l)
 | own {l g n c sz : Nat} (h : σ l = some (.row g n c sz)) : repA σ w I (.slice (some ⟨g,0,none⟩) n c) (.own l)
 | cut {l g n c sz lo m : Nat} (h : σ l = some (.row g n c sz)) (hm : lo + m ≤ n) (hc : n ≤ c) : repA σ w I (.slice (if c = lo then some ⟨g,0,none⟩ else some ⟨g,lo * sz,none⟩) m (c - lo)) (.cut l lo m)
 | vw {a : Option Addr} {n m c : Nat} {es more : List (List PV)} (hn : n = es.length) (hm : m = n + more.length) (hc : m ≤ c) (h : rep w I (.slice a m c) (.slice (es ++ more))) : repA σ w I (.slice a n c) (.vw es more)
 | ptr {l g n c sz i off : Nat} (h : σ l = some (.row g n c sz)) : repA σ w I (.pointer (some ⟨g,i * sz + off,none⟩)) (.ptr l i off)
 | map {l g : Nat} (h : σ l = some (.obj g)) : repA σ w I (.map (some g)) (.map l)
 | it {l g : Nat} (h : σ l = some (.obj g)) : repA σ w I (.pointer (some ⟨g,0,none⟩)) (.it l)
 | agg {vs : Array Value} {cs : List AV} (h : vs.size = cs.length) (hr : ∀ (j : Nat) u p,vs[j]? = some u → cs[j]? = some p → repA σ w I u p) : repA σ w I (.agg vs) (.agg cs)
 | tuple {vs : Array Value} {cs : List AV} (h : vs.size = cs.length) (hr : ∀ (j : Nat) u p,vs[j]? = some u → cs[j]? = some p → repA σ w I u p) : repA σ w I (.tuple vs) (.tuple cs)
 | iface (t : TypeId) {v : Value} {x : AV} (h : repA σ w I v x) : repA σ w I (.iface t v) (.iface t x)
 | fn (f : FuncId) {vs : Array Value} {cs : List AV} (h : vs.size = cs.length) (hr : ∀ (j : Nat) u p,vs[j]? = some u → cs[j]? = some p → repA σ w I u p) : repA σ w I (.func (.func f) #[] vs) (.fn f cs)
theorem repA.mono {σ σ' : Lab} {w w' : World} {I I' : Nat → Prop} {v : Value} {x : AV} (h : repA σ w I v x) (hσ : ∀ l s,σ l = some s → σ' l = some s) (hI : ∀ b,I b → I' b) (hw : ∀ b,I b → w'.heap[b]? = w.heap[b]?) : repA σ' w' I' v x:=by
 induction h with
 | p h=>exact .p (h.mono hI hw)
 | ex hn h=>exact .ex hn (h.mono hI hw)
 | ownE h=>exact .ownE (hσ _ _ h)
 | own h=>exact .own (hσ _ _ h)
 | cut h hm hc=>exact .cut (hσ _ _ h) hm hc
 | vw hn hm hc h=>exact .vw hn hm hc (h.mono hI hw)
 | ptr h=>exact .ptr (hσ _ _ h)
 | map h=>exact .map (hσ _ _ h)
 | it h=>exact .it (hσ _ _ h)
 | agg h _ ih=>exact .agg h ih
 | tuple h _ ih=>exact .tuple h ih
 | iface t _ ih=>exact .iface t ih
 | fn f h _ ih=>exact .fn f h ih
theorem repA.one {σ : Lab} {w : World} {I : Nat → Prop} {v : Value} {x : AV} (h : repA σ w I v x) (hx : x.one = true) : v.oneCell' = true:=by
 cases h with
 | p h=>exact h.one hx
 | agg h _=>simp [AV.one] at hx
 | tuple h _=>simp [AV.one] at hx
 | _=>rfl
inductive Blk where
 | row (sz : Nat) (es : List (List AV))
 | map (es : List (PV × AV))
 | iter (s : List UInt8) (pos : Nat)
inductive repB (σ : Lab) (w : World) (I : Nat → Prop) (l : Nat) : Blk → Prop
 | emp {a : Option Addr} {sz : Nat} (h : σ l = some (.emp a)) : repB σ w I l (.row sz [])
 | row {g c sz : Nat} {cur : Array Value} {et : TypeId} {es : List (List AV)} (h : σ l = some (.row g es.length c sz)) (hg : w.heap[g]? = some (.cells cur et (0,0)))
   (hcur : cur.size = c * sz) (hc : es.length ≤ c) (hs : ∀ e ∈ es,e.length = sz) (ho : ∀ e ∈ es,∀ x ∈ e,x.one = true)
   (hr : ∀ (i : Nat) e (j : Nat) x,es[i]? = some e → e[j]? = some x → ∃ u,cur[i * sz + j]? = some u ∧ repA σ w I u x) : repB σ w I l (.row sz es)
 | map {g k : Nat} {ms : Array MapEntry} {es : List (PV × AV)} (h : σ l = some (.obj g)) (hg : w.heap[g]? = some (.map ms k)) (hn : ms.size = es.length)
   (hr : ∀ (i : Nat) m e,ms[i]? = some m → es[i]? = some e → rep w (fun _=>False) m.key e.1 ∧ repA σ w I m.val e.2) : repB σ w I l (.map es)
 | iter {g : Nat} {s : List UInt8} {pos : Nat} (h : σ l = some (.obj g)) (hg : w.heap[g]? = some (.stringIter ⟨⟨s⟩⟩ pos)) : repB σ w I l (.iter s pos)
structure Fr (w0 : World) (X : Nat → Prop) (w : World) : Prop where
 os : w.os = w0.os
 tape : w.tape = w0.tape
 output : w.output = w0.output
 size : w0.heap.size ≤ w.heap.size
 block : ∀ b,b < w0.heap.size → ¬ X b → w.heap[b]? = w0.heap[b]?
 shape : ∀ (b : Nat) (cur : Array Value) (et : TypeId) (p : Nat × Nat),w0.heap[b]? = some (Obj.cells cur et p) → ∃ (cur' : Array Value) (et' : TypeId) (p' : Nat × Nat),w.heap[b]? = some (Obj.cells cur' et' p') ∧ cur'.size = cur.size
structure HOK (σ : Lab) (w : World) (I : Nat → Prop) (H : Nat → Option Blk) (w0 : World) (X I0 : Nat → Prop) : Prop where
 rows : ∀ l b,H l = some b → repB σ w I l b
 inj : ∀ l l' g s s',H l ≠ none → H l' ≠ none → σ l = some s → σ l' = some s' → s.block = some g → s'.block = some g → l = l'
 mine : ∀ l g s,H l ≠ none → σ l = some s → s.block = some g → ¬ I g ∧ (X g ∨ w0.heap.size ≤ g)
 imm : ∀ g,I g → g < w.heap.size ∧ (I0 g ∨ X g ∨ w0.heap.size ≤ g)
 sub : ∀ g,I0 g → I g
 fr : Fr w0 X w
structure St where
 T : Nat → Option AV
 H : Nat → Option Blk
 nx : Nat
structure Fm where
 n : Nat
 pin : List Nat
 val : Nat → Value
abbrev fm (n : Nat) : Fm:=⟨n,[],fun _=>.bool false⟩
structure Match (nt : Fm) (w0 : World) (X I0 : Nat → Prop) (σ : Lab) (I : Nat → Prop) (T : Nat → Option AV) (H : Nat → Option Blk) (a : Act) (w : World) : Prop where
 defers : a.defers = []
 size : a.tmps.size = nt.n
 pins : ∀ i ∈ nt.pin,a.tmps[i]? = some (nt.val i)
 heap : HOK σ w I H w0 X I0
 tmps : ∀ i x,T i = some x → ∃ u,a.tmps[i]? = some u ∧ repA σ w I u x
def Matches (nt : Fm) (w0 : World) (X I0 : Nat → Prop) (s : St) (a : Act) (w : World) : Prop :=
 ∃ σ I,(∀ l,s.nx ≤ l → σ l = none) ∧ Match nt w0 X I0 σ I s.T s.H a w
def AW (P : Program) (nt : Fm) (c : Code) (s : St) (Q : Exit → St → Prop) : Prop :=
 ∀ w0 X I0 a w,TabX w0 X I0 → Matches nt w0 X I0 s a w → c.wp P (fun e a' w'=>∃ s',Matches nt w0 X I0 s' a' w' ∧ Q e s') a w
def Ghost (nt : Fm) (s s' : St) : Prop:=∀ w0 X I0 a w,Matches nt w0 X I0 s a w → Matches nt w0 X I0 s' a w
section
variable {P : Program} {nt : Fm} {s : St} {Q : Exit → St → Prop}
theorem AW.mono {c : Code} {Q' : Exit → St → Prop} (h : AW P nt c s Q) (hq : ∀ e s,Q e s → Q' e s) : AW P nt c s Q' :=
 fun w0 X I0 a w tx m=>wp_mono (h w0 X I0 a w tx m) fun _ _ _ ⟨s',m',q⟩=>⟨s',m',hq _ _ q⟩
theorem AW.ghost {c : Code} {s' : St} (g : Ghost nt s s') (h : AW P nt c s' Q) : AW P nt c s Q :=
 fun w0 X I0 a w tx m=>h w0 X I0 a w tx (g w0 X I0 a w m)
theorem AW.skip (h : Q .normal s) : AW P nt .skip s Q:=fun _ _ _ _ _ _ m=>wp_skip ⟨s,m,h⟩
theorem AW.exit {id : Nat} (h : Q (.exit id) s) : AW P nt (.exit id) s Q:=fun _ _ _ _ _ _ m=>wp_exit ⟨s,m,h⟩
theorem AW.ret (h : Q .ret s) : AW P nt .ret s Q:=fun _ _ _ _ _ _ m=>wp_ret ⟨s,m,h⟩
theorem AW.label {l : Nat} (h : Q .normal s) : AW P nt (.label l) s Q:=fun _ _ _ _ _ _ m=>wp_label ⟨s,m,h⟩
def andThen (K : St → Prop) (Q : Exit → St → Prop) : Exit → St → Prop
 | .normal,s=>K s
 | e,s=>Q e s
theorem AW.seq {x y : Code} (h : AW P nt x s (andThen (fun s'=>AW P nt y s' Q) Q)) : AW P nt (.seq x y) s Q:=by
 intro w0 X I0 a w tx m
 refine wp_seq (wp_mono (h w0 X I0 a w tx m) ?_)
 rintro e a' w' ⟨s',m',q⟩
 cases e with
 | normal=>exact q w0 X I0 a' w' tx m'
 | exit id=>exact ⟨s',m',q⟩
 | goto l=>exact ⟨s',m',q⟩
 | ret=>exact ⟨s',m',q⟩
 | panic c=>exact ⟨s',m',q⟩
 | outgrown=>exact ⟨s',m',q⟩
def inBlk (id : Nat) (Q : Exit → St → Prop) : Exit → St → Prop
 | .exit id',s=>if id' = id then Q .normal s else Q (.exit id') s
 | e,s=>Q e s
theorem AW.block {id : Nat} {c : Code} (h : AW P nt c s (inBlk id Q)) : AW P nt (.block id c) s Q:=by
 intro w0 X I0 a w tx m
 refine wp_block (wp_mono (h w0 X I0 a w tx m) ?_)
 rintro e a' w' ⟨s',m',q⟩
 cases e with
 | exit id' =>
  simp only [Exit.inBlock]
  simp only [inBlk] at q
  by_cases he : id' = id
  ·rw [if_pos he] at q ⊢
   exact ⟨s',m',q⟩
  ·rw [if_neg he] at q ⊢
   exact ⟨s',m',q⟩
 | normal=>exact ⟨s',m',q⟩
 | goto l=>exact ⟨s',m',q⟩
 | ret=>exact ⟨s',m',q⟩
 | panic c=>exact ⟨s',m',q⟩
 | outgrown=>exact ⟨s',m',q⟩
theorem wp_loop_x {α : Type} {c : Code} {R : Exit → Act → World → Prop} (J : α → Act → World → Prop) (μ : α → Nat) {a : Act} {w : World} (x0 : α) (h₀ : J x0 a w)
  (round : ∀ x a w,J x a w → c.wp P (Exit.then (fun a' w'=>∃ y,J y a' w' ∧ μ y < μ x) R) a w) : (Code.loop c).wp P R a w:=by
 intro b k cs
 have key : ∀ n x a w,μ x = n → J x a w →
   ∃ e a' w',R e a' w' ∧ Arrives P (lone (b.at a (.code c :: .inLoop c :: k)) cs w) b k cs e a' w':=by
  intro n
  induction n using Nat.strongRecOn with
  | _ n ih =>
   intro x a w hn hI
   obtain ⟨e,a₁,w₁,hq,harr⟩:=round x a w hI b (.inLoop c :: k) cs
   cases e with
   | normal =>
    obtain ⟨y,hI₁,hlt⟩:=hq
    obtain ⟨e₂,a₂,w₂,hq₂,harr₂⟩:=ih (μ y) (hn ▸ hlt) y a₁ w₁ rfl hI₁
    exact ⟨e₂,a₂,w₂,hq₂,.of_steps (Steps.trans harr (.one step_inLoop)) harr₂⟩
   | exit id=>exact ⟨_,a₁,w₁,hq,.pass (x:=.inLoop c) rfl (fun _ _=>.inl (by simp)) harr⟩
   | goto l=>exact ⟨_,a₁,w₁,hq,.pass (x:=.inLoop c) rfl (fun _ _=>.inl (by simp)) harr⟩
   | ret=>exact ⟨_,a₁,w₁,hq,.pass (x:=.inLoop c) rfl (fun _ _=>.inl (by simp)) harr⟩
   | panic ch=>exact ⟨_,a₁,w₁,hq,.pass (x:=.inLoop c) rfl (fun _ _=>.inl (by simp)) harr⟩
   | outgrown=>exact ⟨_,a₁,w₁,hq,.pass (x:=.inLoop c) rfl (fun _ _=>.inl (by simp)) harr⟩
 obtain ⟨e,a',w',hq,harr⟩:=key _ x0 a w rfl h₀
 exact ⟨e,a',w',hq,.of_steps (.one step_loop) harr⟩
theorem AW.loop {α : Type} {c : Code} (S : α → St) (Inv : α → Prop) (μ : α → Nat) (x0 : α) (h0 : Ghost nt s (S x0)) (i0 : Inv x0)
  (round : ∀ x,Inv x → AW P nt c (S x) (andThen (fun s'=>∃ y,Inv y ∧ μ y < μ x ∧ Ghost nt s' (S y)) Q)) : AW P nt (.loop c) s Q:=by
 intro w0 X I0 a w tx m
 refine wp_loop_x (fun x a w=>Inv x ∧ Matches nt w0 X I0 (S x) a w) μ x0 ⟨i0,h0 w0 X I0 a w m⟩ ?_
 intro x a w ⟨hi,m⟩
 refine wp_mono (round x hi w0 X I0 a w tx m) ?_
 rintro e a' w' ⟨s',m',q⟩
 cases e with
 | normal =>
  obtain ⟨y,hy,hlt,g⟩:=q
  exact ⟨y,⟨hy,g w0 X I0 a' w' m'⟩,hlt⟩
 | exit id=>exact ⟨s',m',q⟩
 | goto l=>exact ⟨s',m',q⟩
 | ret=>exact ⟨s',m',q⟩
 | panic c=>exact ⟨s',m',q⟩
 | outgrown=>exact ⟨s',m',q⟩
end
end Go.Aw
namespace Go.Aw
open Go.RowKit
def upd {α : Type} (f : Nat → Option α) (i : Nat) (v : Option α) : Nat → Option α:=fun j=>if j = i then v else f j
theorem upd_same {α : Type} (f : Nat → Option α) (i : Nat) (v : Option α) : upd f i v i = v:=if_pos rfl
theorem upd_ne {α : Type} (f : Nat → Option α) {i j : Nat} (v : Option α) (h : j ≠ i) : upd f i v j = f j:=if_neg h
theorem Fr.refl (w : World) (X : Nat → Prop) : Fr w X w:=⟨rfl,rfl,rfl,Nat.le_refl _,fun _ _ _=>rfl,fun _ cur et p h=>⟨cur,et,p,h,rfl⟩⟩
theorem Fr.step {w0 w w' : World} {X : Nat → Prop} (h : Fr w0 X w) (hs : ∀ (b : Nat) (cur : Array Value) (et : TypeId) (p : Nat × Nat),b < w0.heap.size → w.heap[b]? = some (Obj.cells cur et p) → ∃ (cur' : Array Value) (et' : TypeId) (p' : Nat × Nat),w'.heap[b]? = some (Obj.cells cur' et' p') ∧ cur'.size = cur.size) :
  ∀ (b : Nat) (cur : Array Value) (et : TypeId) (p : Nat × Nat),w0.heap[b]? = some (Obj.cells cur et p) → ∃ (cur' : Array Value) (et' : TypeId) (p' : Nat × Nat),w'.heap[b]? = some (Obj.cells cur' et' p') ∧ cur'.size = cur.size:=fun b cur et p hb=>by
 obtain ⟨c1,e1,p1,h1,h2⟩:=h.shape b cur et p hb
 obtain ⟨c2,e2,p2,h3,h4⟩:=hs b c1 e1 p1 (Array.getElem?_eq_some_iff.1 hb).1 h1
 exact ⟨c2,e2,p2,h3,h4.trans h2⟩
theorem repB.mono {σ σ' : Lab} {w w' : World} {I I' : Nat → Prop} {l : Nat} {b : Blk} (h : repB σ w I l b) (hσ : ∀ l s,σ l = some s → σ' l = some s) (hI : ∀ b,I b → I' b) (hw : ∀ b,I b → w'.heap[b]? = w.heap[b]?)
  (hg : ∀ g s,σ l = some s → s.block = some g → w'.heap[g]? = w.heap[g]?) : repB σ' w' I' l b:=by
 cases h with
 | emp h=>exact .emp (hσ _ _ h)
 | row h hh hcur hc hs ho hr =>
  refine .row (hσ _ _ h) ((hg _ _ h rfl).trans hh) hcur hc hs ho fun i e j x h1 h2=>?_
  obtain ⟨u,hu,hx⟩:=hr i e j x h1 h2
  exact ⟨u,hu,hx.mono hσ hI hw⟩
 | map h hh hn hr =>
  refine .map (hσ _ _ h) ((hg _ _ h rfl).trans hh) hn fun i m e h1 h2=>?_
  obtain ⟨hk,hv⟩:=hr i m e h1 h2
  exact ⟨hk.mono (fun _ h=>h) (fun _ h=>h.elim),hv.mono hσ hI hw⟩
 | iter h hh=>exact .iter (hσ _ _ h) ((hg _ _ h rfl).trans hh)
theorem repB.block {σ : Lab} {w : World} {I : Nat → Prop} {l : Nat} {b : Blk} (h : repB σ w I l b) : ∃ s,σ l = some s ∧ ∀ g,s.block = some g → g < w.heap.size:=by
 have lt : ∀ {g : Nat} {o : Obj},w.heap[g]? = some o → g < w.heap.size:=fun h=>(Array.getElem?_eq_some_iff.1 h).1
 cases h with
 | emp h=>exact ⟨_,h,fun g hg=>by simp [Slot.block] at hg⟩
 | row h hh _ _ _ _ _=>exact ⟨_,h,fun g hg=>by simp [Slot.block] at hg; subst hg; exact lt hh⟩
 | map h hh _ _=>exact ⟨_,h,fun g hg=>by simp [Slot.block] at hg; subst hg; exact lt hh⟩
 | iter h hh=>exact ⟨_,h,fun g hg=>by simp [Slot.block] at hg; subst hg; exact lt hh⟩
section
variable {σ : Lab} {w : World} {I : Nat → Prop} {H : Nat → Option Blk} {w0 : World} {X I0 : Nat → Prop}
theorem slot_cells {l g : Nat} {s : Slot} {b : Blk} {cur : Array Value} {et : TypeId} {p : Nat × Nat} (h : repB σ w I l b) (hs : σ l = some s) (hg : s.block = some g) (hc : w.heap[g]? = some (.cells cur et p)) : ∃ n c sz,s = .row g n c sz ∧ cur.size = c * sz:=by
 cases h with
 | emp h=>rw [hs] at h; injection h with h; subst h; simp [Slot.block] at hg
 | row h hh hcur =>
  rw [hs] at h; injection h with h; subst h
  simp only [Slot.block,Option.some.injEq] at hg
  subst hg
  rw [hh] at hc
  injection hc with hc
  injection hc with hc
  subst hc
  exact ⟨_,_,_,rfl,hcur⟩
 | map h hh =>
  rw [hs] at h; injection h with h; subst h
  simp only [Slot.block,Option.some.injEq] at hg
  subst hg
  rw [hh] at hc
  cases hc
 | iter h hh =>
  rw [hs] at h; injection h with h; subst h
  simp only [Slot.block,Option.some.injEq] at hg
  subst hg
  rw [hh] at hc
  cases hc
theorem cells_slot {l g n c sz : Nat} {b : Blk} (h : repB σ w I l b) (hs : σ l = some (.row g n c sz)) : ∃ cur et p,w.heap[g]? = some (.cells cur et p) ∧ cur.size = c * sz:=by
 cases h with
 | emp h=>rw [hs] at h; cases h
 | row h hh hcur =>
  rw [hs] at h; injection h with h; injection h with e1 e2 e3 e4
  subst e1 e2 e3 e4
  exact ⟨_,_,_,hh,hcur⟩
 | map h hh=>rw [hs] at h; cases h
 | iter h hh=>rw [hs] at h; cases h
theorem HOK.fresh (h : HOK σ w I H w0 X I0) {l : Nat} (hl : σ l = none) : H l = none:=by
 cases hh : H l with
 | none=>rfl
 | some b =>
  obtain ⟨s,hs,_⟩:=(h.rows l b hh).block
  rw [hl] at hs
  cases hs
theorem HOK.world (h : HOK σ w I H w0 X I0) {w' : World} (hh : w'.heap = w.heap) (ho : w'.os = w.os) (ht : w'.tape = w.tape) (hu : w'.output = w.output) : HOK σ w' I H w0 X I0 :=
 ⟨fun l b hl=>(h.rows l b hl).mono (fun _ _ h=>h) (fun _ h=>h) (fun _ _=>by rw [hh]) (fun _ _ _ _=>by rw [hh]),h.inj,h.mine,by rw [hh]; exact h.imm,h.sub,
  ⟨ho.trans h.fr.os,ht.trans h.fr.tape,hu.trans h.fr.output,by rw [hh]; exact h.fr.size,by rw [hh]; exact h.fr.block,by rw [hh]; exact h.fr.shape⟩⟩
theorem HOK.less (h : HOK σ w I H w0 X I0) {H' : Nat → Option Blk} (hl : ∀ l b,H' l = some b → H l = some b) : HOK σ w I H' w0 X I0:=by
 have ne : ∀ l,H' l ≠ none → H l ≠ none:=fun l hn=>by
  obtain ⟨b,hb⟩:=Option.ne_none_iff_exists'.1 hn
  rw [hl l b hb]
  simp
 exact ⟨fun l b hb=>h.rows l b (hl l b hb),fun l l' g s s' h1 h2=>h.inj l l' g s s' (ne l h1) (ne l' h2),fun l g s h1=>h.mine l g s (ne l h1),h.imm,h.sub,h.fr⟩
theorem HOK.alloc (h : HOK σ w I H w0 X I0) {w' : World} {o : Obj} (hw : w'.heap = w.heap.push o) (ho : w'.os = w.os) (ht : w'.tape = w.tape) (hu : w'.output = w.output) {l : Nat} (hl : σ l = none) {s : Slot} (hs : s.block = some w.heap.size) {b : Blk}
  (hb : repB (upd σ l (some s)) w' I l b) : HOK (upd σ l (some s)) w' I (upd H l (some b)) w0 X I0:=by
 have old : ∀ g,g < w.heap.size → w'.heap[g]? = w.heap[g]?:=fun g hg=>by rw [hw,Array.getElem?_push,if_neg (by omega)]
 have ext : ∀ l' s',σ l' = some s' → upd σ l (some s) l' = some s':=fun l' s' h'=>by
  rw [upd_ne _ _ (by rintro rfl; rw [hl] at h'; cases h')]
  exact h'
 have hsz : w'.heap.size = w.heap.size + 1:=by rw [hw]; simp
 have lab : ∀ l' s' g,upd H l (some b) l' ≠ none → upd σ l (some s) l' = some s' → s'.block = some g → (l' = l ∧ g = w.heap.size) ∨ (l' ≠ l ∧ H l' ≠ none ∧ σ l' = some s' ∧ g < w.heap.size):=by
  intro l' s' g h1 h2 h3
  by_cases he : l' = l
  ·subst he
   rw [upd_same] at h2
   injection h2 with h2
   subst h2
   rw [hs] at h3
   injection h3 with h3
   exact .inl ⟨rfl,h3.symm⟩
  ·rw [upd_ne _ _ he] at h1 h2
   refine .inr ⟨he,h1,h2,?_⟩
   obtain ⟨b',hb'⟩:=Option.ne_none_iff_exists'.1 h1
   obtain ⟨s'',hs'',hlt⟩:=(h.rows l' b' hb').block
   rw [h2] at hs''
   injection hs'' with hs''
   subst hs''
   exact hlt g h3
 refine ⟨fun l' b' h'=>?_,fun l1 l2 g s1 s2 h1 h2 e1 e2 g1 g2=>?_,fun l' g s' h1 h2 h3=>?_,fun g hg=>?_,h.sub,⟨ho.trans h.fr.os,ht.trans h.fr.tape,hu.trans h.fr.output,by rw [hsz]; have:=h.fr.size; omega,fun b hb hx=>?_,h.fr.step fun b cur et p hb hc=>⟨cur,et,p,by rw [old b (by have:=h.fr.size; omega)]; exact hc,rfl⟩⟩⟩
 ·by_cases he : l' = l
  ·subst he
   rw [upd_same] at h'
   injection h' with h'
   subst h'
   exact hb
  ·rw [upd_ne _ _ he] at h'
   obtain ⟨s',hs',hlt⟩:=(h.rows l' b' h').block
   refine (h.rows l' b' h').mono ext (fun _ h=>h) (fun g hg=>old g (h.imm g hg).1) (fun g s'' h1 h2=>old g ?_)
   rw [hs'] at h1
   injection h1 with h1
   subst h1
   exact hlt g h2
 ·rcases lab l1 s1 g h1 e1 g1 with ⟨a1,a2⟩ | ⟨a1,a2,a3,a4⟩ <;> rcases lab l2 s2 g h2 e2 g2 with ⟨b1,b2⟩ | ⟨b1,b2,b3,b4⟩
  ·exact a1.trans b1.symm
  ·omega
  ·omega
  ·exact h.inj l1 l2 g s1 s2 a2 b2 a3 b3 g1 g2
 ·rcases lab l' s' g h1 h2 h3 with ⟨a1,a2⟩ | ⟨a1,a2,a3,a4⟩
  ·exact ⟨fun hi=>by have:=(h.imm g hi).1; omega,.inr (by have:=h.fr.size; omega)⟩
  ·exact h.mine l' g s' a2 a3 h3
 ·exact ⟨by rw [hsz]; have:=(h.imm g hg).1; omega,(h.imm g hg).2⟩
 ·exact (old b (by have:=h.fr.size; omega)).trans (h.fr.block b hb hx)
theorem HOK.write (h : HOK σ w I H w0 X I0) {w' : World} {l g : Nat} {s : Slot} (hn : H l ≠ none) (hs : σ l = some s) (hg : s.block = some g) (hw : ∀ k,k ≠ g → w'.heap[k]? = w.heap[k]?) (hsz : w'.heap.size = w.heap.size)
  (ho : w'.os = w.os) (ht : w'.tape = w.tape) (hu : w'.output = w.output) {b : Blk} (hb : repB σ w' I l b) : HOK σ w' I (upd H l (some b)) w0 X I0:=by
 obtain ⟨hni,hx⟩:=h.mine l g s hn hs hg
 have hI : ∀ k,I k → w'.heap[k]? = w.heap[k]?:=fun k hk=>hw k (fun e=>hni (e ▸ hk))
 have ne : ∀ l',upd H l (some b) l' ≠ none → H l' ≠ none:=fun l' h'=>by
  by_cases he : l' = l
  ·subst he; exact hn
  ·rwa [upd_ne _ _ he] at h'
 refine ⟨fun l' b' h'=>?_,fun l1 l2 g s1 s2 h1 h2=>h.inj l1 l2 g s1 s2 (ne l1 h1) (ne l2 h2),fun l' g s' h1=>h.mine l' g s' (ne l' h1),fun k hk=>by rw [hsz]; exact h.imm k hk,h.sub,
  ⟨ho.trans h.fr.os,ht.trans h.fr.tape,hu.trans h.fr.output,by rw [hsz]; exact h.fr.size,fun k hk hxk=>?_,h.fr.step fun k cur et p hk hc=>?_⟩⟩
 ·by_cases he : l' = l
  ·subst he
   rw [upd_same] at h'
   injection h' with h'
   subst h'
   exact hb
  ·rw [upd_ne _ _ he] at h'
   refine (h.rows l' b' h').mono (fun _ _ h=>h) (fun _ h=>h) hI (fun k s' h1 h2=>hw k (fun e=>he ?_))
   subst e
   exact h.inj l' l k s' s (by rw [h']; simp) hn h1 hs h2 hg
 ·refine (hw k ?_).trans (h.fr.block k hk hxk)
  rintro rfl
  rcases hx with hx | hx
  ·exact hxk hx
  ·omega
 ·by_cases hkg : k = g
  ·subst hkg
   obtain ⟨b0,hb0⟩:=Option.ne_none_iff_exists'.1 hn
   obtain ⟨n,c,sz,rfl,e1⟩:=slot_cells (h.rows l b0 hb0) hs hg hc
   obtain ⟨cur',et',p',e2,e3⟩:=cells_slot hb hs
   exact ⟨cur',et',p',e2,by rw [e1,e3]⟩
  ·exact ⟨cur,et,p,by rw [hw k hkg]; exact hc,rfl⟩
theorem HOK.freeze (h : HOK σ w I H w0 X I0) {l g : Nat} {s : Slot} (hn : H l ≠ none) (hs : σ l = some s) (hg : s.block = some g) : HOK σ w (fun k=>I k ∨ k = g) (upd H l none) w0 X I0:=by
 obtain ⟨hni,hx⟩:=h.mine l g s hn hs hg
 have ne : ∀ l',upd H l none l' ≠ none → l' ≠ l ∧ H l' ≠ none:=fun l' h'=>by
  by_cases he : l' = l
  ·subst he; rw [upd_same] at h'; exact absurd rfl h'
  ·rw [upd_ne _ _ he] at h'; exact ⟨he,h'⟩
 have hlt : g < w.heap.size:=by
  obtain ⟨b',hb'⟩:=Option.ne_none_iff_exists'.1 hn
  obtain ⟨s'',hs'',hlt⟩:=(h.rows l b' hb').block
  rw [hs] at hs''
  injection hs'' with hs''
  subst hs''
  exact hlt g hg
 refine ⟨fun l' b' h'=>?_,fun l1 l2 g s1 s2 h1 h2=>h.inj l1 l2 g s1 s2 (ne l1 h1).2 (ne l2 h2).2,fun l' g' s' h1 h2 h3=>?_,fun k hk=>?_,fun k hk=>.inl (h.sub k hk),h.fr⟩
 ·have h'' : H l' = some b':=by
   by_cases he : l' = l
   ·subst he; rw [upd_same] at h'; cases h'
   ·rwa [upd_ne _ _ he] at h'
  exact (h.rows l' b' h'').mono (fun _ _ h=>h) (fun _ h=>.inl h) (fun _ _=>rfl) (fun _ _ _ _=>rfl)
 ·obtain ⟨a1,a2⟩:=h.mine l' g' s' (ne l' h1).2 h2 h3
  refine ⟨fun hi=>?_,a2⟩
  rcases hi with hi | hi
  ·exact a1 hi
  ·subst hi
   exact (ne l' h1).1 (h.inj l' l g' s' s (ne l' h1).2 hn h2 hs h3 hg)
 ·rcases hk with hk | hk
  ·exact h.imm k hk
  ·subst hk
   exact ⟨hlt,by rcases hx with hx | hx; exact .inr (.inl hx); exact .inr (.inr hx)⟩
end
end Go.Aw
namespace Go.Aw
open Go.RowKit
structure Eff where
 val : Option AV
 upd : List (Nat × Option Blk):=[]
def putH (H : Nat → Option Blk) : List (Nat × Option Blk) → Nat → Option Blk
 | []=>H
 | (l,b) :: r=>putH (upd H l b) r
def constAV : Value → AV
 | .int k n=>.p (.int k n)
 | .bool b=>.p (.bool b)
 | .string s=>.p (.str s.data.toList)
 | .slice none 0 0=>.ex []
 | x=>.p (.cst x)
def ev (T : Nat → Option AV) : Operand → Option AV
 | .tmp t=>T t
 | .const v=>some (constAV v)
 | .func f=>some (.fn f [])
 | .global _=>none
theorem repA_const (σ : Lab) (w : World) (I : Nat → Prop) (v : Value) : repA σ w I v (constAV v):=by
 unfold constAV
 split
 ·exact .p (.int _ _)
 ·exact .p (.bool _)
 ·rename_i s
  have : s = ⟨⟨s.data.toList⟩⟩:=by cases s; rfl
  rw [this]
  exact .p (.str _)
 ·exact .ex rfl (.empty none 0)
 ·exact .p (.cst _)
structure In (σ : Lab) (w : World) (I : Nat → Prop) (T : Nat → Option AV) (H : Nat → Option Blk) (w0 : World) (X I0 : Nat → Prop) (a : Act) (lab : Nat) : Prop where
 heap : HOK σ w I H w0 X I0
 tmps : ∀ i x,T i = some x → ∃ u,a.tmps[i]? = some u ∧ repA σ w I u x
 lab : σ lab = none
 tab : TabX w0 X I0
structure Out (σ : Lab) (w : World) (I : Nat → Prop) (H : Nat → Option Blk) (w0 : World) (X I0 : Nat → Prop) (lab : Nat) (e : Eff) (v : Value) (w' : World) (σ' : Lab) (I' : Nat → Prop) : Prop where
 heap : HOK σ' w' I' (putH H e.upd) w0 X I0
 ext : ∀ l s,σ l = some s → σ' l = some s
 lab : ∀ l,l ≠ lab → σ' l = σ l
 imm : ∀ b,I b → I' b
 same : ∀ b,I b → w'.heap[b]? = w.heap[b]?
 val : ∀ x,e.val = some x → repA σ' w' I' v x
def Snd (P : Program) (o : Oper) (a : Act) (w : World) (σ : Lab) (I : Nat → Prop) (H : Nat → Option Blk) (w0 : World) (X I0 : Nat → Prop) (lab : Nat) (k : Eff → Prop) : Prop :=
 ∀ next Q,(∀ e v w' σ' I',k e → Out σ w I H w0 X I0 lab e v w' σ' I' → next (a.put o.dst v) w') → o.wp P a w next Q
section
variable {P : Program} {o : Oper} {a : Act} {w : World} {σ : Lab} {I : Nat → Prop} {T : Nat → Option AV} {H : Nat → Option Blk} {w0 : World} {X I0 : Nat → Prop} {lab : Nat} {k : Eff → Prop}
theorem In.ev (h : In σ w I T H w0 X I0 a lab) {x : Operand} {v : AV} (hx : ev T x = some v) : repA σ w I (a.eval x) v:=by
 cases x with
 | tmp t =>
  obtain ⟨u,hu,hr⟩:=h.tmps t v hx
  have : a.eval (.tmp t) = u:=by simp [Act.eval,hu]
  rw [this]
  exact hr
 | const c =>
  injection hx with hx
  subst hx
  exact repA_const σ w I c
 | func f =>
  injection hx with hx
  subst hx
  exact .fn f rfl (fun j u p h1 h2=>by simp at h1)
 | global g=>cases hx
theorem Out.same0 (h : In σ w I T H w0 X I0 a lab) {v : Value} {x : AV} (hr : repA σ w I v x) : Out σ w I H w0 X I0 lab ⟨some x,[]⟩ v w σ I :=
 ⟨h.heap,fun _ _ h=>h,fun _ _=>rfl,fun _ h=>h,fun _ _=>rfl,fun y hy=>by injection hy with hy; subst hy; exact hr⟩
theorem Snd.val (h : In σ w I T H w0 X I0 a lab) {v : Value} {x : AV} (hrun : (execOp a.eval o).run P w = .ok (.value v) w) (hr : repA σ w I v x) (hk : k ⟨some x,[]⟩) : Snd P o a w σ I H w0 X I0 lab k:=by
 intro next Q hn
 unfold Oper.wp
 rw [hrun,Oper.upon_value]
 exact hn _ _ _ _ _ hk (Out.same0 h hr)
theorem Snd.of {e : Eff} {v : Value} {w' : World} {σ' : Lab} {I' : Nat → Prop} (hrun : (execOp a.eval o).run P w = .ok (.value v) w') (ho : Out σ w I H w0 X I0 lab e v w' σ' I') (hk : k e) : Snd P o a w σ I H w0 X I0 lab k:=by
 intro next Q hn
 unfold Oper.wp
 rw [hrun,Oper.upon_value]
 exact hn _ _ _ _ _ hk ho
theorem Snd.skip {e : Eff} {w' : World} {σ' : Lab} {I' : Nat → Prop} (hrun : (execOp a.eval o).run P w = .ok .skip w') (ho : Out σ w I H w0 X I0 lab e undef w' σ' I') (hk : k e) : Snd P o a w σ I H w0 X I0 lab k:=by
 intro next Q hn
 unfold Oper.wp
 rw [hrun,Oper.upon_skip]
 exact hn _ _ _ _ _ hk ho
def moveW (x : Option AV) (k : Eff → Prop) : Prop:=match x with | some v=>k ⟨some v,[]⟩ | none=>False
theorem snd_move (h : In σ w I T H w0 X I0 a lab) {x : Operand} (ho : o.op = .move x ∨ o.op = .assign x) (hk : moveW (ev T x) k) : Snd P o a w σ I H w0 X I0 lab k:=by
 unfold moveW at hk
 split at hk
 ·rename_i v hv
  refine Snd.val h (v:=a.eval x) ?_ (h.ev hv) hk
  rcases ho with ho | ho <;> simp [execOp,ho]
 ·exact hk.elim
def pickW (c x y : Option AV) (k : Eff → Prop) : Prop :=
 match c with
 | some (.p (.bool b))=>if b = true then moveW x k else moveW y k
 | _=>False
theorem snd_pick (h : In σ w I T H w0 X I0 a lab) {c x y : Operand} (ho : o.op = .pick c x y) (hk : pickW (ev T c) (ev T x) (ev T y) k) : Snd P o a w σ I H w0 X I0 lab k:=by
 unfold pickW at hk
 split at hk
 ·rename_i b hb
  have hc:=h.ev hb
  generalize hcv : a.eval c = cv at hc
  cases hc with
  | p hc =>
   cases hc with
   | bool =>
    cases b with
    | true =>
     rw [if_pos rfl] at hk
     unfold moveW at hk
     split at hk
     ·rename_i v hv
      exact Snd.val h (v:=a.eval x) (by simp [execOp,ho,hcv,asBool]) (h.ev hv) hk
     ·exact hk.elim
    | false =>
     rw [if_neg (by simp)] at hk
     unfold moveW at hk
     split at hk
     ·rename_i v hv
      exact Snd.val h (v:=a.eval y) (by simp [execOp,ho,hcv,asBool]) (h.ev hv) hk
     ·exact hk.elim
 ·exact hk.elim
def andI (k : IntKind) (a b : Int) : Int:=k.wrap ((BitVec.ofInt k.bits a &&& BitVec.ofInt k.bits b).toNat : Int)
def orI (k : IntKind) (a b : Int) : Int:=k.wrap ((BitVec.ofInt k.bits a ||| BitVec.ofInt k.bits b).toNat : Int)
def xorI (k : IntKind) (a b : Int) : Int:=k.wrap ((BitVec.ofInt k.bits a ^^^ BitVec.ofInt k.bits b).toNat : Int)
def andNotI (k : IntKind) (a b : Int) : Int:=k.wrap ((BitVec.ofInt k.bits a &&& ~~~ BitVec.ofInt k.bits b).toNat : Int)
def binInt (op : BinOp) (k : IntKind) (a b : Int) : Option PV :=
 match op with
 | .add=>some (.int k (k.wrap (a + b)))
 | .sub=>some (.int k (k.wrap (a - b)))
 | .mul=>some (.int k (k.wrap (a * b)))
 | .quo=>if b = 0 then none else some (.int k (k.wrap (a.tdiv b)))
 | .rem=>if b = 0 then none else some (.int k (a.tmod b))
 | .and=>some (.int k (andI k a b))
 | .or=>some (.int k (orI k a b))
 | .xor=>some (.int k (xorI k a b))
 | .andNot=>some (.int k (andNotI k a b))
 | .eql=>some (.bool (a == b))
 | .neq=>some (.bool (a != b))
 | .lss=>some (.bool (decide (a < b)))
 | .leq=>some (.bool (decide (a ≤ b)))
 | .gtr=>some (.bool (decide (a > b)))
 | .geq=>some (.bool (decide (a ≥ b)))
 | _=>none
def binStr (op : BinOp) (a b : List UInt8) : Option PV :=
 match op with
 | .add=>if a.length + b.length ≤ 9223372036854775807 then some (.str (a ++ b)) else none
 | .eql=>some (.bool (a == b))
 | .neq=>some (.bool (!(a == b)))
 | _=>none
def shiftInt (op : BinOp) (k : IntKind) (a b : Int) : Option PV :=
 if b < 0 then none else
 match op with
 | .shl=>some (.int k (k.wrap (a * 2 ^ min b.toNat k.bits)))
 | .shr=>some (.int k (a.fdiv (2 ^ min b.toNat k.bits)))
 | _=>none
def isShift : BinOp → Bool | .shl | .shr=>true | _=>false
def binPV (op : BinOp) : PV → PV → Option PV
 | .int k a,.int k' b=>if isShift op = true then shiftInt op k a b else if k = k' then binInt op k a b else none
 | .str a,.str b=>binStr op a b
 | _,_=>none
def EqP (P : Program) (t : TypeId) (x y : PV) (r : Bool) : Prop:=∀ (w : World) (I : Nat → Prop) (u v : Value),rep w I u x → rep w I v y →
 (binOp .eql t u v).run P w = .ok (.bool r) w ∧ (binOp .neq t u v).run P w = .ok (.bool (!r)) w ∧ ∀ op x y,(eqGuard op t x y u v).run P w = .ok () w
def boolE (b : Bool) : Eff:=⟨some (.p (.bool b)),[]⟩
theorem boolE_true : boolE true = ⟨some (.p (.bool true)),[]⟩:=rfl
theorem boolE_false : boolE false = ⟨some (.p (.bool false)),[]⟩:=rfl
def eqW (P : Program) (op : BinOp) (t : TypeId) (x y : PV) (k : Eff → Prop) : Prop :=
 match op with
 | .eql=>∃ r,EqP P t x y r ∧ k (boolE r)
 | .neq=>∃ r,EqP P t x y r ∧ k (boolE (!r))
 | _=>False
def binW (P : Program) (op : BinOp) (t : TypeId) (x y : Option AV) (k : Eff → Prop) : Prop :=
 match x,y with
 | some (.p x),some (.p y)=>match binPV op x y with | some r=>k ⟨some (.p r),[]⟩ | none=>eqW P op t x y k
 | _,_=>False
def nilW (P : Program) (op : BinOp) (t : TypeId) (x : Option AV) (k : Eff → Prop) : Prop :=
 match x with
 | some (.p x)=>eqW P op t x (.cst (.slice none 0 0)) k
 | _=>False
theorem run_binInt {op : BinOp} {kd : IntKind} {m n : Int} {t : TypeId} {r : PV} (hs : isShift op = false) (h : binInt op kd m n = some r) : ∃ v,(binOp op t (.int kd m) (.int kd n)).run P w = .ok v w ∧ rep w I v r:=by
 cases op <;> simp only [binInt,reduceCtorEq,isShift] at h hs
 case quo => 
  split at h
  ·cases h
  ·rename_i hn
   injection h with h; subst h
   exact ⟨_,by simp [binOp,Op.intDiv,hn],.int _ _⟩
 case rem => 
  split at h
  ·cases h
  ·rename_i hn
   injection h with h; subst h
   exact ⟨_,by simp [binOp,Op.intDiv,hn],.int _ _⟩
 all_goals
  injection h with h; subst h
  first
   | exact ⟨_,by simp only [binOp,ne_eq,not_true_eq_false,if_false]; rfl,.int _ _⟩
   | exact ⟨_,by simp only [binOp,ne_eq,not_true_eq_false,if_false]; rfl,.bool _⟩
theorem run_binShift {op : BinOp} {kd kd' : IntKind} {m n : Int} {t : TypeId} {r : PV} (h : shiftInt op kd m n = some r) : ∃ v,(binOp op t (.int kd m) (.int kd' n)).run P w = .ok v w ∧ rep w I v r:=by
 unfold shiftInt at h
 split at h
 ·cases h
 ·rename_i hn
  cases op <;> simp only [reduceCtorEq] at h
  all_goals
   injection h with h; subst h
   exact ⟨_,by simp [binOp,Op.shift,hn],.int _ _⟩
theorem run_binStr {op : BinOp} {m n : List UInt8} {t : TypeId} {r : PV} (h : binStr op m n = some r) : ∃ v,(binOp op t (.string ⟨⟨m⟩⟩) (.string ⟨⟨n⟩⟩)).run P w = .ok v w ∧ rep w I v r:=by
 cases op <;> simp only [binStr,reduceCtorEq] at h
 case add =>
  split at h
  ·rename_i hl
   injection h with h; subst h
   refine ⟨.string ⟨⟨m ++ n⟩⟩,?_,.str _⟩
   have h1 : (⟨⟨m⟩⟩ : ByteArray).size = m.length:=rfl
   have h2 : (⟨⟨n⟩⟩ : ByteArray).size = n.length:=rfl
   have h3 : (⟨⟨m⟩⟩ : ByteArray) ++ (⟨⟨n⟩⟩ : ByteArray) = ⟨⟨m ++ n⟩⟩:=by
    apply ByteArray.ext
    simp
   have h4 : ¬ (((m.length + n.length : Nat) : Int) > IntKind.i64.max):=by
    have : IntKind.i64.max = 9223372036854775807:=by decide
    omega
   simp only [binOp,Op.stringOp,h1,h2,h3]
   rw [if_neg h4]
   rfl
  ·cases h
 all_goals
  injection h with h; subst h
  exact ⟨_,by simp [binOp,Op.stringOp],.bool _⟩
theorem snd_bin (h : In σ w I T H w0 X I0 a lab) {op : BinOp} {t t' : TypeId} {x y : Operand} (ho : o.op = .binOp op t x y t') (hk : binW P op t (ev T x) (ev T y) k) : Snd P o a w σ I H w0 X I0 lab k:=by
 unfold binW at hk
 split at hk
 ·rename_i p q hp hq
  have hx:=h.ev hp
  have hy:=h.ev hq
  split at hk
  ·rename_i r hr
   generalize hxv : a.eval x = xv at hx
   generalize hyv : a.eval y = yv at hy
   cases hx with
   | p hx =>
   cases hy with
   | p hy =>
   have key : ∃ v,(binOp op t xv yv).run P w = .ok v w ∧ rep w I v r ∧ (eqGuard op t x y xv yv).run P w = .ok () w:=by
    unfold binPV at hr
    split at hr
    ·cases hx
     cases hy
     split at hr
     ·obtain ⟨v,h1,h2⟩:=run_binShift (P:=P) (w:=w) (I:=I) (t:=t) hr
      exact ⟨v,h1,h2,by unfold eqGuard; split <;> rfl⟩
     ·rename_i hs
      split at hr
      ·rename_i hk'
       subst hk'
       obtain ⟨v,h1,h2⟩:=run_binInt (P:=P) (w:=w) (I:=I) (t:=t) (by simpa using hs) hr
       exact ⟨v,h1,h2,by unfold eqGuard; split <;> rfl⟩
      ·cases hr
    ·cases hx
     cases hy
     obtain ⟨v,h1,h2⟩:=run_binStr (P:=P) (w:=w) (I:=I) (t:=t) hr
     exact ⟨v,h1,h2,by unfold eqGuard; split <;> rfl⟩
    ·cases hr
   obtain ⟨v,h1,h2,h3⟩:=key
   refine Snd.val h (v:=v) ?_ (.p h2) hk
   simp only [execOp,ho,hxv,hyv,Sem.run_bind,h3,Result.andThen_ok,h1]
   rfl
  ·generalize hxv : a.eval x = xv at hx
   generalize hyv : a.eval y = yv at hy
   cases hx with
   | p hx =>
   cases hy with
   | p hy =>
   unfold eqW at hk
   split at hk
   ·obtain ⟨r,he,hk⟩:=hk
    obtain ⟨h1,h2,h3⟩:=he w I _ _ hx hy
    refine Snd.val h (v:=.bool r) ?_ (.p (.bool _)) hk
    simp only [execOp,ho,hxv,hyv,Sem.run_bind,h3,Result.andThen_ok,h1]
    rfl
   ·obtain ⟨r,he,hk⟩:=hk
    obtain ⟨h1,h2,h3⟩:=he w I _ _ hx hy
    refine Snd.val h (v:=.bool (!r)) ?_ (.p (.bool _)) hk
    simp only [execOp,ho,hxv,hyv,Sem.run_bind,h3,Result.andThen_ok,h2]
    rfl
   ·exact hk.elim
 ·exact hk.elim
def isNilC : Operand → Bool
 | .const (.slice none 0 0)=>true
 | _=>false
theorem isNilC_tmp (t : Nat) : isNilC (.tmp t) = false:=rfl
theorem isNilC_int (k : IntKind) (n : Int) : isNilC (.const (.int k n)) = false:=rfl
theorem isNilC_str (b : ByteArray) : isNilC (.const (.string b)) = false:=rfl
theorem isNilC_slice : isNilC (.const (.slice none 0 0)) = true:=rfl
def binOW (P : Program) (T : Nat → Option AV) (op : BinOp) (t : TypeId) (x y : Operand) (k : Eff → Prop) : Prop :=
 if isNilC y = true then nilW P op t (ev T x) k else binW P op t (ev T x) (ev T y) k
theorem snd_binO (h : In σ w I T H w0 X I0 a lab) {op : BinOp} {t t' : TypeId} {x y : Operand} (ho : o.op = .binOp op t x y t') (hk : binOW P T op t x y k) : Snd P o a w σ I H w0 X I0 lab k:=by
 unfold binOW at hk
 split at hk
 ·rename_i hy
  unfold isNilC at hy
  split at hy
  ·unfold nilW at hk
   split at hk
   ·rename_i p hp
    have hx:=h.ev hp
    generalize hxv : a.eval x = xv at hx
    have hyv : a.eval (.const (.slice none 0 0)) = .slice none 0 0:=rfl
    cases hx with
    | p hx =>
    unfold eqW at hk
    split at hk
    ·obtain ⟨r,he,hk⟩:=hk
     obtain ⟨h1,h2,h3⟩:=he w I _ _ hx (.cst _)
     refine Snd.val h (v:=.bool r) ?_ (.p (.bool _)) hk
     simp only [execOp,ho,hxv,hyv,Sem.run_bind,h3,Result.andThen_ok,h1]
     rfl
    ·obtain ⟨r,he,hk⟩:=hk
     obtain ⟨h1,h2,h3⟩:=he w I _ _ hx (.cst _)
     refine Snd.val h (v:=.bool (!r)) ?_ (.p (.bool _)) hk
     simp only [execOp,ho,hxv,hyv,Sem.run_bind,h3,Result.andThen_ok,h2]
     rfl
    ·exact hk.elim
   ·exact hk.elim
  ·cases hy
 ·exact snd_bin h ho hk
def unPV : UnOp → PV → Option PV
 | .neg,.int k n=>some (.int k (k.wrap (0 - n)))
 | .not,.bool b=>some (.bool (!b))
 | .xor,.int k n=>some (.int k (k.wrap ((BitVec.ofInt k.bits (if k.signed then -1 else k.max) ^^^ BitVec.ofInt k.bits n).toNat : Int)))
 | _,_=>none
def unW (op : UnOp) (x : Option AV) (k : Eff → Prop) : Prop :=
 match x with
 | some (.p x)=>match unPV op x with | some r=>k ⟨some (.p r),[]⟩ | none=>False
 | _=>False
theorem snd_un (h : In σ w I T H w0 X I0 a lab) {op : UnOp} {t : TypeId} {x : Operand} (ho : o.op = .unOp op t x) (hk : unW op (ev T x) k) : Snd P o a w σ I H w0 X I0 lab k:=by
 unfold unW at hk
 split at hk
 ·rename_i p hp
  have hx:=h.ev hp
  split at hk
  ·rename_i r hr
   generalize hxv : a.eval x = xv at hx
   cases hx with
   | p hx =>
   have key : ∃ v,(Op.unary op xv).run P w = .ok v w ∧ rep w I v r:=by
    unfold unPV at hr
    split at hr
    ·cases hx; injection hr with hr; subst hr
     exact ⟨_,by simp [Op.unary,Op.intArith],.int _ _⟩
    ·cases hx; injection hr with hr; subst hr
     exact ⟨_,by simp [Op.unary],.bool _⟩
    ·cases hx; injection hr with hr; subst hr
     exact ⟨_,rfl,.int _ _⟩
    ·cases hr
   obtain ⟨v,h1,h2⟩:=key
   refine Snd.val h (v:=v) ?_ (.p h2) hk
   simp only [execOp,ho,hxv,Sem.run_bind,h1,Result.andThen_ok]
   rfl
  ·exact hk.elim
 ·exact hk.elim
end
end Go.Aw
namespace Go.Aw
open Go.RowKit
def tsize (P : Program) (t : TypeId) : Option Nat:=(P.info? t).map (·.size)
def tagg (P : Program) (t : TypeId) : Option Bool:=(P.underlying t).map fun | .struct _ | .array _ _=>true | _=>false
def telem (P : Program) (t : TypeId) : Option TypeId:=match P.underlying t with | some (.slice e)=>some e | _=>none
def tzero (P : Program) (t : TypeId) : Option (List Value):=(P.info? t).bind fun i=>i.zero.map (·.cells.toList)
def tfield (P : Program) (t : TypeId) (f : Nat) : Option Nat :=
 match P.underlying t with
 | some (.struct fs)=>match fs[f]? with
  | some fd=>match tsize P fd.type with
   | some (_ + 1)=>some fd.offset
   | _=>none
  | none=>none
 | _=>none
def allP : List AV → Option (List PV)
 | []=>some []
 | .p x :: l=>match allP l with | some ps=>some (x :: ps) | none=>none
 | _ :: _=>none
def mkAgg (l : List AV) : AV:=match allP l with | some ps=>.p (.agg ps) | none=>.agg l
theorem allP_map : ∀ {l : List AV} {ps : List PV},allP l = some ps → l = ps.map .p:=by
 intro l
 induction l with
 | nil=>intro ps h; simp [allP] at h; subst h; rfl
 | cons x l ih =>
  intro ps h
  cases x <;> simp only [allP,reduceCtorEq] at h
  split at h
  ·rename_i qs hq
   injection h with h; subst h
   rw [List.map_cons,← ih hq]
  ·cases h
section
variable {P : Program} {o : Oper} {a : Act} {w : World} {σ : Lab} {I : Nat → Prop} {T : Nat → Option AV} {H : Nat → Option Blk} {w0 : World} {X I0 : Nat → Prop} {lab : Nat} {k : Eff → Prop}
theorem repA_agg {vs : Array Value} {l : List AV} (h : vs.size = l.length) (hr : ∀ (j : Nat) u p,vs[j]? = some u → l[j]? = some p → repA σ w I u p) : repA σ w I (.agg vs) (mkAgg l):=by
 unfold mkAgg
 split
 ·rename_i ps hps
  obtain rfl:=allP_map hps
  refine .p (.agg (by simpa using h) fun j u p h1 h2=>?_)
  have:=hr j u (.p p) h1 (by simp [h2])
  cases this with
  | p h=>exact h
 ·exact .agg h hr
theorem run_sizeOf' {t : TypeId} {n : Nat} (h : tsize P t = some n) (w : World) : (sizeOf t).run P w = .ok n w:=by
 unfold tsize at h
 obtain ⟨i,hi,rfl⟩:=Option.map_eq_some_iff.1 h
 simp [sizeOf,typeInfo,hi]
theorem run_underlying' {t : TypeId} {d : TypeDesc} (h : P.underlying t = some d) (w : World) : (underlying t).run P w = .ok d w:=by
 simp [underlying,h]
theorem run_isAgg' {t : TypeId} {b : Bool} (h : tagg P t = some b) (w : World) : (isAgg t).run P w = .ok b w:=by
 unfold tagg at h
 obtain ⟨d,hd,rfl⟩:=Option.map_eq_some_iff.1 h
 simp only [isAgg,Sem.run_bind,run_underlying' hd,Result.andThen_ok]
 cases d <;> rfl
theorem run_zeroValue' {t : TypeId} {zs : List Value} (h : tzero P t = some zs) (w : World) : ∃ z,(zeroValue t).run P w = .ok z w ∧ z.cells.toList = zs:=by
 unfold tzero at h
 obtain ⟨i,hi,h⟩:=Option.bind_eq_some_iff.1 h
 obtain ⟨z,hz,rfl⟩:=Option.map_eq_some_iff.1 h
 exact ⟨z,by simp [zeroValue,typeInfo,hi,hz],rfl⟩
theorem telem_some {t e : TypeId} (h : telem P t = some e) : P.underlying t = some (.slice e):=by
 unfold telem at h
 split at h
 ·rename_i e' he
  injection h with h; subst h
  exact he
 ·cases h
theorem run_loadVar_agg {t : TypeId} {ad : Addr} {cs : List Value} (ht : tagg P t = some true) (hn : tsize P t = some cs.length) (h : ∀ (j : Nat) v,cs[j]? = some v → w.cell? (ad.add j) = some v) : (loadVar t ad).run P w = .ok (.agg cs.toArray) w:=by
 simp only [loadVar,Sem.run_bind,run_isAgg' ht,Result.andThen_ok,if_true,run_sizeOf' hn,run_loadCells_list w ad cs h,Sem.run_pure]
theorem run_loadVar_one {t : TypeId} {ad : Addr} {v : Value} (ht : tagg P t = some false) (h : w.cell? ad = some v) : (loadVar t ad).run P w = .ok v w:=by
 simp only [loadVar,Sem.run_bind,run_isAgg' ht,Result.andThen_ok,Bool.false_eq_true,if_false,run_load,h]
def loadA (P : Program) (t : TypeId) (off : Nat) (e : List AV) (k : Eff → Prop) : Prop :=
 match tagg P t with
 | some true=>match tsize P t with
  | some n=>off + n ≤ e.length ∧ k ⟨some (mkAgg ((e.drop off).take n)),[]⟩
  | none=>False
 | some false=>match e[off]? with
  | some x=>k ⟨some x,[]⟩
  | none=>False
 | none=>False
def loadP (P : Program) (t : TypeId) (off : Nat) (e : List PV) (k : Eff → Prop) : Prop :=
 match tagg P t with
 | some true=>match tsize P t with
  | some n=>off + n ≤ e.length ∧ k ⟨some (.p (.agg ((e.drop off).take n))),[]⟩
  | none=>False
 | some false=>match e[off]? with
  | some x=>k ⟨some (.p x),[]⟩
  | none=>False
 | none=>False
def loadW (P : Program) (t : TypeId) (x : Option AV) (H : Nat → Option Blk) (k : Eff → Prop) : Prop :=
 match x with
 | some (.ptr l i off)=>match H l with
  | some (.row _ es)=>match es[i]? with
   | some e=>loadA P t off e k
   | none=>False
  | _=>False
 | some (.p (.box cs off))=>loadP P t off cs k
 | _=>False
theorem add_none (b o n : Nat) : (⟨b,o,none⟩ : Addr).add n = ⟨b,o + n,none⟩:=by unfold Addr.add; split <;> simp_all
theorem row_cells {l g n c sz : Nat} {es : List (List AV)} (h : repB σ w I l (.row sz es)) (hs : σ l = some (.row g n c sz)) :
  ∀ (i : Nat) e,es[i]? = some e → e.length = sz ∧ ∀ (j : Nat) x,e[j]? = some x → ∃ u,w.cell? ⟨g,i * sz + j,none⟩ = some u ∧ repA σ w I u x:=by
 cases h with
 | emp h=>intro i e he; simp at he
 | row h hg hcur hc hl ho hr =>
  rw [hs] at h
  injection h with h
  injection h with h1 h2 h3 h4
  subst h1
  intro i e he
  refine ⟨hl e (List.mem_of_getElem? he),fun j x hx=>?_⟩
  obtain ⟨u,hu,hru⟩:=hr i e j x he hx
  exact ⟨u,by simp [World.cell?,hg,hu],hru⟩
theorem load_run (h : In σ w I T H w0 X I0 a lab) {t : TypeId} {x : Operand} (hk : loadW P t (ev T x) H k) : ∃ ad v y,a.eval x = .pointer (some ad) ∧ (loadVar t ad).run P w = .ok v w ∧ repA σ w I v y ∧ k ⟨some y,[]⟩:=by
 have fin : ∀ (ad : Addr) v y,a.eval x = .pointer (some ad) → (loadVar t ad).run P w = .ok v w → repA σ w I v y → k ⟨some y,[]⟩ → ∃ ad v y,a.eval x = .pointer (some ad) ∧ (loadVar t ad).run P w = .ok v w ∧ repA σ w I v y ∧ k ⟨some y,[]⟩ :=
  fun ad v y he hv hy hky=>⟨ad,v,y,he,hv,hy,hky⟩
 unfold loadW at hk
 split at hk
 ·rename_i l i off hp
  have hx:=h.ev hp
  split at hk
  ·rename_i sz es hH
   split at hk
   ·rename_i e he
    generalize hxv : a.eval x = xv at hx fin ⊢
    have hb:=h.heap.rows l _ hH
    cases hx with
    | ptr hs =>
     rename_i g n c sz'
     have hsz : sz' = sz:=by
      cases hb with
      | emp h'=>simp at he
      | row h'=>rw [hs] at h'; injection h' with h'; injection h'
     subst hsz
     obtain ⟨hel,hcells⟩:=row_cells hb hs i e he
     unfold loadA at hk
     split at hk
     ·rename_i ht
      split at hk
      ·rename_i m hm
       obtain ⟨hle,hk⟩:=hk
       have hlen : ((e.drop off).take m).length = m:=by rw [List.length_take,List.length_drop]; omega
       have hex : ∃ cs : List Value,cs.length = m ∧ ∀ (j : Nat),j < m → ∃ u y,cs[j]? = some u ∧ (e.drop off)[j]? = some y ∧ w.cell? ⟨g,i * sz' + off + j,none⟩ = some u ∧ repA σ w I u y:=by
        refine ⟨(List.range m).map fun j=>(w.cell? ⟨g,i * sz' + off + j,none⟩).getD undef,by simp,fun j hj=>?_⟩
        have hy : (e.drop off)[j]? = some (e[off + j]'(by omega)):=by rw [List.getElem?_drop,List.getElem?_eq_getElem]
        obtain ⟨u,hu,hru⟩:=hcells (off + j) _ (List.getElem?_eq_getElem (by omega))
        rw [← Nat.add_assoc] at hu
        exact ⟨u,_,by simp [List.getElem?_map,List.getElem?_range hj,hu],hy,hu,hru⟩
       obtain ⟨cs,hcl,hcs⟩:=hex
       refine fin ⟨g,i * sz' + off,none⟩ (.agg cs.toArray) _ rfl (run_loadVar_agg ht (by rw [hm,hcl]) fun j v hv=>?_) (repA_agg (by simp [hcl,hlen]) fun j u p h1 h2=>?_) hk
       ·have hj : j < m:=by rw [← hcl]; exact (List.getElem?_eq_some_iff.1 hv).1
        obtain ⟨u,y,h1,_,h3,_⟩:=hcs j hj
        rw [add_none,h3,← h1,hv]
       ·have hj : j < m:=by rw [← hlen]; exact (List.getElem?_eq_some_iff.1 h2).1
        obtain ⟨u',y,h3,h4,_,h6⟩:=hcs j hj
        rw [List.getElem?_toArray,h3] at h1
        injection h1 with h1
        rw [List.getElem?_take,if_pos hj,h4] at h2
        injection h2 with h2
        subst h1 h2
        exact h6
      ·exact hk.elim
     ·rename_i ht
      split at hk
      ·rename_i y hy
       obtain ⟨u,hu,hru⟩:=hcells off y hy
       exact fin _ u y rfl (run_loadVar_one ht hu) hru hk
      ·exact hk.elim
     ·exact hk.elim
   ·exact hk.elim
  ·exact hk.elim
 ·rename_i cs off hp
  have hx:=h.ev hp
  generalize hxv : a.eval x = xv at hx fin ⊢
  cases hx with
  | p hx =>
   cases hx with
   | box b o' off cs us hI hone hcell hrep =>
    unfold loadP at hk
    split at hk
    ·rename_i ht
     split at hk
     ·rename_i m hm
      obtain ⟨hle,hk⟩:=hk
      have hlen : ((cs.drop off).take m).length = m:=by rw [List.length_take,List.length_drop]; omega
      refine fin ⟨b,o' + off,none⟩ (.agg ((List.range m).map fun j=>us (off + j)).toArray) _ rfl (run_loadVar_agg ht (by simp [hm]) fun j v hv=>?_) (.p (.agg (by simp; omega) fun j u p h1 h2=>?_)) hk
      ·obtain ⟨hj,hv⟩:=List.getElem?_eq_some_iff.1 hv
       simp at hj hv
       subst hv
       rw [add_none,Nat.add_assoc]
       exact hcell (off + j) _ (List.getElem?_eq_getElem (by omega))
      ·have hj : j < m:=by rw [← hlen]; exact (List.getElem?_eq_some_iff.1 h2).1
       rw [List.getElem?_take,if_pos hj,List.getElem?_drop] at h2
       simp [List.getElem?_range hj] at h1
       subst h1
       exact hrep _ _ h2
     ·exact hk.elim
    ·rename_i ht
     split at hk
     ·rename_i y hy
      exact fin _ _ _ rfl (run_loadVar_one ht (hcell off y hy)) (.p (hrep off y hy)) hk
     ·exact hk.elim
    ·exact hk.elim
 ·exact hk.elim
theorem snd_load (h : In σ w I T H w0 X I0 a lab) {t : TypeId} {x : Operand} (ho : o.op = .load t x) (hk : loadW P t (ev T x) H k) : Snd P o a w σ I H w0 X I0 lab k:=by
 obtain ⟨ad,v,y,he,hv,hy,hky⟩:=load_run h hk
 refine Snd.val h (v:=v) ?_ hy hky
 simp only [execOp,ho,Instr.loadAt,he,Instr.sureAddr,Sem.run_bind,Sem.run_pure,Result.andThen_ok,hv]
end
end Go.Aw
namespace Go.Aw
open Go.RowKit
def cellsA : AV → List AV
 | .agg cs=>cs
 | .p (.agg cs)=>cs.map .p
 | x=>[x]
def oneAll : List AV → Bool
 | []=>true
 | x :: l=>x.one && oneAll l
theorem oneAll_mem {l : List AV} (h : oneAll l = true) : ∀ x ∈ l,x.one = true:=by
 induction l with
 | nil=>intro x hx; cases hx
 | cons y l ih =>
  simp only [oneAll,Bool.and_eq_true] at h
  intro x hx
  rcases List.mem_cons.1 hx with rfl | hx
  ·exact h.1
  ·exact ih h.2 x hx
section
variable {P : Program} {o : Oper} {a : Act} {w : World} {σ : Lab} {I : Nat → Prop} {T : Nat → Option AV} {H : Nat → Option Blk} {w0 : World} {X I0 : Nat → Prop} {lab : Nat} {k : Eff → Prop}
theorem cells_of {v : Value} {x : AV} (h : repA σ w I v x) (ho : oneAll (cellsA x) = true) : v.cells.size = (cellsA x).length ∧ ∀ (j : Nat) u p,v.cells[j]? = some u → (cellsA x)[j]? = some p → repA σ w I u p:=by
 have one : ∀ {v : Value} {x : AV},repA σ w I v x → v.cells = #[v] → cellsA x = [x] → v.cells.size = (cellsA x).length ∧ ∀ (j : Nat) u p,v.cells[j]? = some u → (cellsA x)[j]? = some p → repA σ w I u p:=by
  intro v x h h1 h2
  rw [h1,h2]
  refine ⟨rfl,fun j u p h3 h4=>?_⟩
  rcases j with _ | j
  ·simp at h3 h4; subst h3 h4; exact h
  ·simp at h4
 have h':=h
 cases h with
 | agg hs hr=>exact ⟨hs,hr⟩
 | tuple hs hr=>simp [cellsA,oneAll,AV.one] at ho
 | p h =>
  cases h with
  | agg hs hr =>
   refine ⟨by rw [cellsA,List.length_map]; exact hs,fun j u p h1 h2=>?_⟩
   simp only [cellsA,List.getElem?_map,Option.map_eq_some_iff] at h2
   obtain ⟨q,hq,rfl⟩:=h2
   exact .p (hr j u q h1 hq)
  | tuple hs hr=>simp [cellsA,oneAll,AV.one,PV.one] at ho
  | cst x =>
   simp only [cellsA,oneAll,AV.one,PV.one,Bool.and_true] at ho
   exact one h' (by cases v <;> first | rfl | (simp [Value.oneCell'] at ho)) rfl
  | _=>exact one h' rfl rfl
 | _=>exact one h' rfl rfl
theorem HOK.newRow (h : In σ w I T H w0 X I0 a lab) {cells : Array Value} {et : TypeId} {es : List (List AV)} {sz c : Nat} (hcur : cells.size = c * sz) (hc : es.length ≤ c) (hs : ∀ e ∈ es,e.length = sz) (ho : ∀ e ∈ es,∀ x ∈ e,x.one = true)
  (hr : ∀ (i : Nat) e (j : Nat) x,es[i]? = some e → e[j]? = some x → ∃ u,cells[i * sz + j]? = some u ∧ repA σ w I u x) {w' : World} (hw : w'.heap = w.heap.push (.cells cells et)) (hos : w'.os = w.os) (ht : w'.tape = w.tape) (hu : w'.output = w.output) :
  HOK (upd σ lab (some (.row w.heap.size es.length c sz))) w' I (upd H lab (some (.row sz es))) w0 X I0 ∧ (∀ l s,σ l = some s → upd σ lab (some (.row w.heap.size es.length c sz)) l = some s) ∧ (∀ b,I b → w'.heap[b]? = w.heap[b]?):=by
 have ext : ∀ l s,σ l = some s → upd σ lab (some (.row w.heap.size es.length c sz)) l = some s:=fun l s hl=>by
  rw [upd_ne _ _ (by rintro rfl; rw [h.lab] at hl; cases hl)]
  exact hl
 have old : ∀ b,I b → w'.heap[b]? = w.heap[b]?:=fun b hb=>by
  have:=(h.heap.imm b hb).1
  rw [hw,Array.getElem?_push,if_neg (by omega)]
 refine ⟨h.heap.alloc hw hos ht hu h.lab rfl (.row (upd_same _ _ _) (by rw [hw]; simp; rfl) hcur hc hs ho fun i e j x h1 h2=>?_),ext,old⟩
 obtain ⟨u,hu,hx⟩:=hr i e j x h1 h2
 exact ⟨u,hu,hx.mono ext (fun _ h=>h) old⟩
def newW (lab : Nat) (cs : List AV) (k : Eff → Prop) : Prop:=oneAll cs = true ∧ k ⟨some (.ptr lab 0 0),[(lab,some (.row cs.length [cs]))]⟩
theorem snd_new (h : In σ w I T H w0 X I0 a lab) {cells : Array Value} {et : TypeId} {cs : List AV} (hl : cells.size = cs.length) (hr : ∀ (j : Nat) u p,cells[j]? = some u → cs[j]? = some p → repA σ w I u p)
  (hrun : (execOp a.eval o).run P w = .ok (.value (.pointer (some ⟨w.heap.size,0,none⟩))) (w.alloc (.cells cells et))) (hk : newW lab cs k) : Snd P o a w σ I H w0 X I0 lab k:=by
 obtain ⟨ho,hk⟩:=hk
 obtain ⟨h1,h2,h3⟩:=HOK.newRow (w':=w.alloc (.cells cells et)) h (cells:=cells) (et:=et) (es:=[cs]) (sz:=cs.length) (c:=1) (by simp [hl]) (by simp) (by simp) (by simpa using oneAll_mem ho)
  (fun i e j x h1 h2=>by
   rcases i with _ | i
   ·simp at h1; subst h1
    have hj : j < cells.size:=by rw [hl]; exact (List.getElem?_eq_some_iff.1 h2).1
    exact ⟨cells[j],by simp [hj],hr j _ x (by simp [hj]) h2⟩
   ·simp at h1) rfl rfl rfl rfl
 refine Snd.of hrun ⟨h1,h2,fun l hl=>upd_ne _ _ hl,fun _ h=>h,h3,fun x hx=>?_⟩ hk
 injection hx with hx; subst hx
 have:=repA.ptr (σ:=upd σ lab (some (.row w.heap.size 1 1 cs.length))) (w:=w.alloc (.cells cells et)) (I:=I) (i:=0) (off:=0) (upd_same σ lab (some (.row w.heap.size 1 1 cs.length)))
 simpa using this
def allocW (P : Program) (lab : Nat) (t : TypeId) (k : Eff → Prop) : Prop :=
 match tzero P t with
 | some zs=>newW lab (zs.map constAV) k
 | none=>False
theorem snd_alloc (h : In σ w I T H w0 X I0 a lab) {t : TypeId} (ho : o.op = .alloc t) (hk : allocW P lab t k) : Snd P o a w σ I H w0 X I0 lab k:=by
 unfold allocW at hk
 split at hk
 ·rename_i zs hz
  obtain ⟨z,hz1,rfl⟩:=run_zeroValue' hz w
  refine snd_new h (cells:=z.cells) (et:=t) (by simp) (fun j u p h1 h2=>?_) ?_ hk
  ·rw [List.getElem?_map,Option.map_eq_some_iff] at h2
   obtain ⟨q,hq,rfl⟩:=h2
   rw [Array.getElem?_toList,h1] at hq
   injection hq with hq; subst hq
   exact repA_const σ w I u
  ·simp only [execOp,ho,Instr.alloc,Sem.run_bind,hz1,Result.andThen_ok,newVar,newRow,run_newObj,Sem.run_pure]
   rfl
 ·exact hk.elim
def boxW (lab : Nat) (x : Option AV) (k : Eff → Prop) : Prop :=
 match x with
 | some v=>newW lab (cellsA v) k
 | none=>False
theorem snd_box (h : In σ w I T H w0 X I0 a lab) {t : TypeId} {x : Operand} (ho : o.op = .box t x) (hk : boxW lab (ev T x) k) : Snd P o a w σ I H w0 X I0 lab k:=by
 unfold boxW at hk
 split at hk
 ·rename_i v hv
  obtain ⟨h1,h2⟩:=cells_of (h.ev hv) hk.1
  refine snd_new h (cells:=(a.eval x).cells) (et:=t) h1 h2 ?_ hk
  simp only [execOp,ho,Instr.box,Sem.run_bind,newVar,newRow,run_newObj,Sem.run_pure,Result.andThen_ok]
  rfl
 ·exact hk.elim
theorem splice_get {α : Type} (l vs : List α) (o : Nat) (h : o + vs.length ≤ l.length) (q : Nat) : (l.take o ++ vs ++ l.drop (o + vs.length))[q]? = if q < o then l[q]? else if q < o + vs.length then vs[q - o]? else l[q]?:=by
 have ht : (l.take o).length = o:=by rw [List.length_take]; omega
 by_cases h1 : q < o
 ·rw [if_pos h1,List.append_assoc,List.getElem?_append_left (by omega),List.getElem?_take,if_pos h1]
 ·rw [if_neg h1,List.append_assoc,List.getElem?_append_right (by omega),ht]
  by_cases h2 : q < o + vs.length
  ·rw [if_pos h2,List.getElem?_append_left (by omega)]
  ·rw [if_neg h2,List.getElem?_append_right (by omega),List.getElem?_drop]
   congr 1
   omega
theorem splice_length {α : Type} (l vs : List α) (o : Nat) (h : o + vs.length ≤ l.length) : (l.take o ++ vs ++ l.drop (o + vs.length)).length = l.length:=by
 simp only [List.length_append,List.length_take,List.length_drop]
 omega
def setCells (e : List AV) (off : Nat) (cs : List AV) : List AV:=e.take off ++ cs ++ e.drop (off + cs.length)
def storeW (P : Program) (t : TypeId) (x y : Option AV) (H : Nat → Option Blk) (k : Eff → Prop) : Prop :=
 match x,y with
 | some (.ptr l i off),some v=>match H l with
  | some (.row sz es)=>match es[i]? with
   | some e=>tsize P t = some (cellsA v).length ∧ oneAll (cellsA v) = true ∧ off + (cellsA v).length ≤ e.length ∧ k ⟨none,[(l,some (.row sz (es.set i (setCells e off (cellsA v)))))]⟩
   | none=>False
  | _=>False
 | _,_=>False
theorem snd_store (h : In σ w I T H w0 X I0 a lab) {t : TypeId} {x y : Operand} (ho : o.op = .store t x y) (hk : storeW P t (ev T x) (ev T y) H k) : Snd P o a w σ I H w0 X I0 lab k:=by
 unfold storeW at hk
 split at hk
 ·rename_i l i off v hp hq
  have hx:=h.ev hp
  have hy:=h.ev hq
  split at hk
  ·rename_i sz es hH
   split at hk
   ·rename_i e he
    obtain ⟨hsize,hone,hle,hk⟩:=hk
    obtain ⟨c1,c2⟩:=cells_of hy hone
    generalize hxv : a.eval x = xv at hx
    have hb:=h.heap.rows l _ hH
    cases hx with
    | ptr hs =>
     rename_i g n c sz'
     cases hb with
     | emp h'=>simp at he
     | row h' hg hcur hc hl hon hr =>
      rename_i g' c' cur et
      rw [hs] at h'
      injection h' with h'
      injection h' with e1 e2 e3 e4
      subst e1 e2 e3 e4
      have hel:=hl e (List.mem_of_getElem? he)
      have hi : i < es.length:=(List.getElem?_eq_some_iff.1 he).1
      have hisz : i * sz' + sz' ≤ c * sz':=by
       have : (i + 1) * sz' ≤ c * sz':=Nat.mul_le_mul_right _ (by omega)
       rwa [Nat.succ_mul] at this
      have hvl : (a.eval y).cells.toList.length = (cellsA v).length:=by simpa using c1
      have hfit : i * sz' + off + (a.eval y).cells.toList.length ≤ cur.size:=by rw [hcur,hvl]; omega
      have hone' : ∀ u ∈ (a.eval y).cells.toList,u.oneCell' = true:=fun u hu=>by
       obtain ⟨j,hj,rfl⟩:=List.mem_iff_getElem.1 hu
       have hj' : j < (cellsA v).length:=by omega
       refine (c2 j _ ((cellsA v)[j]) (by rw [← Array.getElem?_toList]; exact List.getElem?_eq_getElem hj) (List.getElem?_eq_getElem hj')).one (oneAll_mem hone _ (List.getElem_mem hj'))
      have hst:=run_storeCells_at (P:=P) g (i * sz' + off) et (a.eval y).cells.toList 0 cur w hg (by simpa using hfit) hone'
      simp only [Nat.add_zero] at hst
      generalize hcur' : (cur.toList.take (i * sz' + off) ++ (a.eval y).cells.toList ++ cur.toList.drop (i * sz' + off + (a.eval y).cells.toList.length)) = cur' at hst
      have hcl : cur'.length = c * sz':=by rw [← hcur',splice_length _ _ _ (by simpa using hfit),Array.length_toList,hcur]
      have hget : ∀ q,cur'[q]? = if q < i * sz' + off then cur[q]? else if q < i * sz' + off + (cellsA v).length then (a.eval y).cells[q - (i * sz' + off)]? else cur[q]?:=fun q=>by
       rw [← hcur',splice_get _ _ _ (by simpa using hfit)]
       simp only [Array.getElem?_toList,hvl]
      obtain ⟨hni,hxx⟩:=h.heap.mine l g _ (by rw [hH]; simp) hs rfl
      have hsame : ∀ b,I b → (w.setRow g cur'.toArray).heap[b]? = w.heap[b]?:=fun b hb=>setRow_other _ _ _ _ (fun e=>hni (e ▸ hb))
      have hset : (setCells e off (cellsA v)).length = sz':=by unfold setCells; rw [splice_length _ _ _ hle,hel]
      have hwr : HOK σ (w.setRow g cur'.toArray) I (upd H l (some (.row sz' (es.set i (setCells e off (cellsA v)))))) w0 X I0:=by
       refine h.heap.write (s:=.row g es.length c sz') (g:=g) (by rw [hH]; simp) hs rfl (fun k hk=>setRow_other _ _ _ _ hk) (by simp) rfl rfl rfl
        (.row (by rw [List.length_set]; exact hs) (setRow_heap w g cur _ et _ hg) (by simpa using hcl) (by rw [List.length_set]; exact hc) (fun e' he'=>?_) (fun e' he'=>?_) fun i' e' j x h1 h2=>?_)
       ·rcases List.mem_or_eq_of_mem_set he' with he' | rfl
        ·exact hl e' he'
        ·exact hset
       ·rcases List.mem_or_eq_of_mem_set he' with he' | rfl
        ·exact hon e' he'
        ·intro x hx
         unfold setCells at hx
         rcases List.mem_append.1 hx with hx | hx
         ·rcases List.mem_append.1 hx with hx | hx
          ·exact hon e (List.mem_of_getElem? he) x (List.mem_of_mem_take hx)
          ·exact oneAll_mem hone x hx
         ·exact hon e (List.mem_of_getElem? he) x (List.mem_of_mem_drop hx)
       ·have hj : ∀ e'' : List AV,e''[j]? = some x → e''.length = sz' → j < sz':=fun e'' h3 h4=>by rw [← h4]; exact (List.getElem?_eq_some_iff.1 h3).1
        rw [List.getElem?_toArray]
        by_cases hii : i' = i
        ·subst hii
         rw [List.getElem?_set_self hi] at h1
         injection h1 with h1
         subst h1
         have hj':=hj _ h2 hset
         unfold setCells at h2
         rw [splice_get _ _ _ hle] at h2
         rw [hget]
         by_cases q1 : j < off
         ·rw [if_pos q1] at h2
          rw [if_pos (by omega)]
          obtain ⟨u,hu,hru⟩:=hr i' e j x he h2
          exact ⟨u,hu,hru.mono (fun _ _ h=>h) (fun _ h=>h) hsame⟩
         ·rw [if_neg q1] at h2
          rw [if_neg (by omega)]
          by_cases q2 : j < off + (cellsA v).length
          ·rw [if_pos q2] at h2
           rw [if_pos (by omega)]
           have hjc : j - off < (a.eval y).cells.size:=by omega
           refine ⟨(a.eval y).cells[j - off],?_,(c2 (j - off) _ x (Array.getElem?_eq_getElem hjc) h2).mono (fun _ _ h=>h) (fun _ h=>h) hsame⟩
           rw [show i' * sz' + j - (i' * sz' + off) = j - off by omega]
           exact Array.getElem?_eq_getElem hjc
          ·rw [if_neg q2] at h2
           rw [if_neg (by omega)]
           obtain ⟨u,hu,hru⟩:=hr i' e j x he h2
           exact ⟨u,hu,hru.mono (fun _ _ h=>h) (fun _ h=>h) hsame⟩
        ·rw [List.getElem?_set_ne (fun h=>hii h.symm)] at h1
         have hj':=hj _ h2 (hl e' (List.mem_of_getElem? h1))
         obtain ⟨u,hu,hru⟩:=hr i' e' j x h1 h2
         refine ⟨u,?_,hru.mono (fun _ _ h=>h) (fun _ h=>h) hsame⟩
         rw [hget]
         rcases Nat.lt_or_gt_of_ne hii with q | q
         ·have : (i' + 1) * sz' ≤ i * sz':=Nat.mul_le_mul_right _ q
          rw [Nat.succ_mul] at this
          rw [if_pos (by omega),hu]
         ·have : (i + 1) * sz' ≤ i' * sz':=Nat.mul_le_mul_right _ q
          rw [Nat.succ_mul] at this
          rw [if_neg (by omega),if_neg (by omega),hu]
      refine Snd.skip (w':=w.setRow g cur'.toArray) ?_ ⟨hwr,fun _ _ h=>h,fun _ _=>rfl,fun _ h=>h,hsame,fun x hx=>by cases hx⟩ hk
      have hsz2 : (a.eval y).cells.size = (cellsA v).length:=c1
      simp only [execOp,ho,Instr.storeAt,hxv,Instr.sureAddr,storeVar,Sem.run_bind,Sem.run_pure,Result.andThen_ok,run_sizeOf' hsize,hsz2,ne_eq,not_true_eq_false,if_false,hst]
   ·exact hk.elim
  ·exact hk.elim
 ·exact hk.elim
end
end Go.Aw
namespace Go.Aw
open Go.RowKit
section
variable {P : Program} {o : Oper} {a : Act} {w : World} {σ : Lab} {I : Nat → Prop} {T : Nat → Option AV} {H : Nat → Option Blk} {w0 : World} {X I0 : Nat → Prop} {lab : Nat} {k : Eff → Prop}
theorem tfield_some {t : TypeId} {f off : Nat} (h : tfield P t f = some off) : ∃ fs fd n,P.underlying t = some (.struct fs) ∧ fs[f]? = some fd ∧ tsize P fd.type = some (n + 1) ∧ fd.offset = off:=by
 unfold tfield at h
 split at h
 ·rename_i fs hu
  split at h
  ·rename_i fd hf
   split at h
   ·rename_i n hn
    injection h with h
    exact ⟨fs,fd,n,hu,hf,hn,h⟩
   ·cases h
  ·cases h
 ·cases h
def fieldAddrW (P : Program) (t : TypeId) (f : Nat) (x : Option AV) (k : Eff → Prop) : Prop :=
 match tfield P t f with
 | some d=>match x with
  | some (.ptr l i off)=>k ⟨some (.ptr l i (off + d)),[]⟩
  | some (.p (.box cs off))=>k ⟨some (.p (.box cs (off + d))),[]⟩
  | _=>False
 | none=>False
theorem snd_fieldAddr (h : In σ w I T H w0 X I0 a lab) {t : TypeId} {x : Operand} {f : Nat} (ho : o.op = .fieldAddr t x f) (hk : fieldAddrW P t f (ev T x) k) : Snd P o a w σ I H w0 X I0 lab k:=by
 unfold fieldAddrW at hk
 split at hk
 ·rename_i d hd
  obtain ⟨fs,fd,n,hu,hf,hn,rfl⟩:=tfield_some hd
  have run : ∀ b off,a.eval x = .pointer (some ⟨b,off,none⟩) → (execOp a.eval o).run P w = .ok (.value (.pointer (some ⟨b,off + fd.offset,none⟩))) w:=by
   intro b off he
   simp only [execOp,ho,Instr.fieldAt,he,Sem.run_bind,run_underlying' hu,Result.andThen_ok,hf,Instr.sureAddr,Sem.run_pure,fieldPlace,run_sizeOf' hn,Nat.add_one_ne_zero,if_false,add_none]
  split at hk
  ·rename_i l i off hp
   have hx:=h.ev hp
   generalize hxv : a.eval x = xv at hx
   cases hx with
   | ptr hs =>
    refine Snd.val h (run _ _ hxv) ?_ hk
    rw [Nat.add_assoc]
    exact .ptr hs
  ·rename_i cs off hp
   have hx:=h.ev hp
   generalize hxv : a.eval x = xv at hx
   cases hx with
   | p hx =>
   cases hx with
   | box b o' off cs us hI hone hcell hrep =>
    refine Snd.val h (run _ _ hxv) ?_ hk
    rw [Nat.add_assoc]
    exact .p (.box b o' _ cs us hI hone hcell hrep)
  ·exact hk.elim
 ·exact hk.elim
def elemP (es : List (List PV)) (n : Int) : List PV:=es.getD n.toNat []
def indexAddrP (P : Program) (e : TypeId) (es : List (List PV)) (n : Int) (k : Eff → Prop) : Prop :=
 (0 ≤ n ∧ n < es.length) ∧ tsize P e = some (elemP es n).length ∧ k ⟨some (.p (.box (elemP es n) 0)),[]⟩
def indexAddrW (P : Program) (t : TypeId) (x i : Option AV) (H : Nat → Option Blk) (k : Eff → Prop) : Prop :=
 match i with
 | some (.p (.int _ n))=>match telem P t with
  | some e=>match x with
   | some (.own l)=>match H l with
    | some (.row sz es)=>(0 ≤ n ∧ n < es.length) ∧ tsize P e = some sz ∧ k ⟨some (.ptr l n.toNat 0),[]⟩
    | _=>False
   | some (.p (.slice es))=>indexAddrP P e es n k
   | some (.ex es)=>indexAddrP P e es n k
   | _=>False
  | none=>False
 | _=>False
theorem snd_indexAddr (h : In σ w I T H w0 X I0 a lab) {t : TypeId} {x i : Operand} (ho : o.op = .indexAddr t x i) (hk : indexAddrW P t (ev T x) (ev T i) H k) : Snd P o a w σ I H w0 X I0 lab k:=by
 unfold indexAddrW at hk
 split at hk
 ·rename_i kd n hi
  have hiv:=h.ev hi
  split at hk
  ·rename_i e he
   have hu:=telem_some he
   generalize hivv : a.eval i = iv at hiv
   cases hiv with
   | p hiv =>
   cases hiv with
   | int =>
   have run : ∀ b off m c sz,tsize P e = some sz → 0 ≤ n → n < (m : Nat) → a.eval x = .slice (some ⟨b,off,none⟩) m c → (execOp a.eval o).run P w = .ok (.value (.pointer (some ⟨b,off + n.toNat * sz,none⟩))) w:=by
    intro b off m c sz hsz h0 h1 hx
    simp only [execOp,ho,Instr.indexAt,hx,hivv,asIntOf,Sem.run_bind,Sem.run_pure,Result.andThen_ok,run_underlying' hu]
    rw [if_pos ⟨h0,h1⟩]
    simp only [Sem.run_bind,run_sizeOf' hsz,Result.andThen_ok,Sem.run_pure,add_none]
   have pure : ∀ es,repA σ w I (a.eval x) (.p (.slice es)) → indexAddrP P e es n k → Snd P o a w σ I H w0 X I0 lab k:=by
    intro es hx hk
    obtain ⟨⟨h0,h1⟩,hsz,hk⟩:=hk
    generalize hxv : a.eval x = xv at hx
    cases hx with
    | p hx =>
    cases hx with
    | empty a' c=>simp at h1; omega
    | slice b off m c sz es us hn hc hs hI hone hcell hrep =>
     have hlt : n.toNat < es.length:=by omega
     have hel : es[n.toNat]? = some (elemP es n):=by
      unfold elemP
      rw [List.getD_eq_getElem?_getD,List.getElem?_eq_getElem hlt]
      rfl
     have hmem:=List.mem_of_getElem? hel
     have hsz':=hs _ hmem
     refine Snd.val h (run b off m c _ hsz h0 (by omega) hxv) (.p ?_) hk
     have:=rep.box (w:=w) (I:=I) b (off + n.toNat * sz) 0 (elemP es n) (us n.toNat) hI (hone _ hmem) (fun j p hj=>by rw [Nat.add_assoc]; exact hcell _ _ j p hel hj) (fun j p hj=>hrep _ _ j p hel hj)
     rw [hsz']
     simpa using this
   split at hk
   ·rename_i l hp
    have hx:=h.ev hp
    split at hk
    ·rename_i sz es hH
     obtain ⟨⟨h0,h1⟩,hsz,hk⟩:=hk
     have hb:=h.heap.rows l _ hH
     generalize hxv : a.eval x = xv at hx
     cases hb with
     | emp h'=>simp at h1; omega
     | row h' hg hcur hc hl hon hr =>
      cases hx with
      | ownE hs=>rw [hs] at h'; cases h'
      | own hs =>
       rw [hs] at h'
       injection h' with h'
       injection h' with e1 e2 e3 e4
       subst e1 e2 e3 e4
       refine Snd.val h (run _ 0 _ _ _ hsz h0 h1 hxv) ?_ hk
       have:=repA.ptr (w:=w) (I:=I) (i:=n.toNat) (off:=0) hs
       simpa using this
    ·exact hk.elim
   ·rename_i es hp
    exact pure es (h.ev hp) hk
   ·rename_i es hp
    have hx:=h.ev hp
    refine pure es ?_ hk
    generalize a.eval x = xv at hx
    cases hx with
    | ex hn hx=>exact .p hx
   ·exact hk.elim
  ·exact hk.elim
 ·exact hk.elim
def indexW (P : Program) (t : TypeId) (x i : Option AV) (k : Eff → Prop) : Prop :=
 match i with
 | some (.p (.int _ n))=>match P.underlying t with
  | some .string=>match x with
   | some (.p (.str l))=>(0 ≤ n ∧ n < l.length) ∧ k ⟨some (.p (.int .u8 ((l.getD n.toNat 0).toNat : Int))),[]⟩
   | _=>False
  | some (.array m e)=>match tsize P e with
   | some sz=>match x with
    | some (.agg cs)=>(0 ≤ n ∧ n < m) ∧ loadA P e (n.toNat * sz) cs k
    | some (.p (.agg cs))=>(0 ≤ n ∧ n < m) ∧ loadP P e (n.toNat * sz) cs k
    | _=>False
   | none=>False
  | _=>False
 | _=>False
theorem run_part {t : TypeId} {vs : Array Value} {off : Nat} {cs : List AV} (hs : vs.size = cs.length) (hr : ∀ (j : Nat) u p,vs[j]? = some u → cs[j]? = some p → repA σ w I u p) (hk : loadA P t off cs k) :
  ∃ v x,(part t vs off).run P w = .ok v w ∧ repA σ w I v x ∧ k ⟨some x,[]⟩:=by
 unfold loadA at hk
 split at hk
 ·rename_i ht
  split at hk
  ·rename_i m hm
   obtain ⟨hle,hk⟩:=hk
   refine ⟨.agg (vs.extract off (off + m)),_,?_,repA_agg ?_ fun j u p h1 h2=>?_,hk⟩
   ·simp only [part,Sem.run_bind,run_isAgg' ht,Result.andThen_ok,if_true,run_sizeOf' hm,Sem.run_pure]
   ·simp; omega
   ·rw [List.getElem?_take] at h2
    split at h2
    ·rename_i hj
     rw [List.getElem?_drop] at h2
     refine hr (off + j) u p ?_ h2
     rw [Array.getElem?_extract] at h1
     split at h1
     ·exact h1
     ·cases h1
    ·cases h2
  ·exact hk.elim
 ·rename_i ht
  split at hk
  ·rename_i y hy
   have hj : off < vs.size:=by rw [hs]; exact (List.getElem?_eq_some_iff.1 hy).1
   refine ⟨vs[off],y,?_,hr off _ y (Array.getElem?_eq_getElem hj) hy,hk⟩
   simp only [part,Sem.run_bind,run_isAgg' ht,Result.andThen_ok,Bool.false_eq_true,if_false,Array.getElem?_eq_getElem hj,Sem.run_pure]
  ·exact hk.elim
 ·exact hk.elim
theorem run_partP {t : TypeId} {vs : Array Value} {off : Nat} {cs : List PV} (hs : vs.size = cs.length) (hr : ∀ (j : Nat) u p,vs[j]? = some u → cs[j]? = some p → rep w I u p) (hk : loadP P t off cs k) :
  ∃ v x,(part t vs off).run P w = .ok v w ∧ repA σ w I v x ∧ k ⟨some x,[]⟩:=by
 unfold loadP at hk
 split at hk
 ·rename_i ht
  split at hk
  ·rename_i m hm
   obtain ⟨hle,hk⟩:=hk
   refine ⟨.agg (vs.extract off (off + m)),_,?_,.p (.agg ?_ fun j u p h1 h2=>?_),hk⟩
   ·simp only [part,Sem.run_bind,run_isAgg' ht,Result.andThen_ok,if_true,run_sizeOf' hm,Sem.run_pure]
   ·simp; omega
   ·rw [List.getElem?_take] at h2
    split at h2
    ·rename_i hj
     rw [List.getElem?_drop] at h2
     refine hr (off + j) u p ?_ h2
     rw [Array.getElem?_extract] at h1
     split at h1
     ·exact h1
     ·cases h1
    ·cases h2
  ·exact hk.elim
 ·rename_i ht
  split at hk
  ·rename_i y hy
   have hj : off < vs.size:=by rw [hs]; exact (List.getElem?_eq_some_iff.1 hy).1
   refine ⟨vs[off],.p y,?_,.p (hr off _ y (Array.getElem?_eq_getElem hj) hy),hk⟩
   simp only [part,Sem.run_bind,run_isAgg' ht,Result.andThen_ok,Bool.false_eq_true,if_false,Array.getElem?_eq_getElem hj,Sem.run_pure]
  ·exact hk.elim
 ·exact hk.elim
theorem str_get (l : List UInt8) (n : Nat) : (⟨⟨l⟩⟩ : ByteArray)[n]? = l[n]?:=by
 have hs : (⟨⟨l⟩⟩ : ByteArray).size = l.length:=rfl
 by_cases h : n < l.length
 ·rw [getElem?_pos _ _ (by rw [hs]; exact h),List.getElem?_eq_getElem h]
  rfl
 ·rw [getElem?_neg _ _ (by rw [hs]; exact h),List.getElem?_eq_none (by omega)]
theorem snd_index (h : In σ w I T H w0 X I0 a lab) {t : TypeId} {x i : Operand} (ho : o.op = .index t x i) (hk : indexW P t (ev T x) (ev T i) k) : Snd P o a w σ I H w0 X I0 lab k:=by
 unfold indexW at hk
 split at hk
 ·rename_i kd n hi
  have hiv:=h.ev hi
  generalize hivv : a.eval i = iv at hiv
  cases hiv with
  | p hiv =>
  cases hiv with
  | int =>
  split at hk
  ·rename_i hu
   split at hk
   ·rename_i l hp
    obtain ⟨⟨h0,h1⟩,hk⟩:=hk
    have hx:=h.ev hp
    generalize hxv : a.eval x = xv at hx
    cases hx with
    | p hx =>
    cases hx with
    | str =>
    refine Snd.val h (v:=.int .u8 ((l.getD n.toNat 0).toNat : Int)) ?_ (.p (.int _ _)) hk
    have hlt : n.toNat < l.length:=by omega
    simp only [execOp,ho,Instr.index,hxv,hivv,asIntOf,Sem.run_bind,Sem.run_pure,Result.andThen_ok,run_underlying' hu]
    rw [if_pos h0,str_get,List.getElem?_eq_getElem hlt]
    simp [List.getD_eq_getElem?_getD,List.getElem?_eq_getElem hlt]
   ·exact hk.elim
  ·rename_i m e hu
   split at hk
   ·rename_i sz hsz
    split at hk
    ·rename_i cs hp
     obtain ⟨⟨h0,h1⟩,hk⟩:=hk
     have hx:=h.ev hp
     generalize hxv : a.eval x = xv at hx
     cases hx with
     | agg hs hr =>
     obtain ⟨v,y,r1,r2,r3⟩:=run_part hs hr hk
     refine Snd.val h (v:=v) ?_ r2 r3
     simp only [execOp,ho,Instr.index,hxv,hivv,asIntOf,Sem.run_bind,Sem.run_pure,Result.andThen_ok,run_underlying' hu]
     rw [if_pos ⟨h0,h1⟩]
     simp only [Sem.run_bind,run_sizeOf' hsz,Result.andThen_ok,r1]
    ·rename_i cs hp
     obtain ⟨⟨h0,h1⟩,hk⟩:=hk
     have hx:=h.ev hp
     generalize hxv : a.eval x = xv at hx
     cases hx with
     | p hx =>
     cases hx with
     | agg hs hr =>
     obtain ⟨v,y,r1,r2,r3⟩:=run_partP (σ:=σ) hs hr hk
     refine Snd.val h (v:=v) ?_ r2 r3
     simp only [execOp,ho,Instr.index,hxv,hivv,asIntOf,Sem.run_bind,Sem.run_pure,Result.andThen_ok,run_underlying' hu]
     rw [if_pos ⟨h0,h1⟩]
     simp only [Sem.run_bind,run_sizeOf' hsz,Result.andThen_ok,r1]
    ·exact hk.elim
   ·exact hk.elim
  ·exact hk.elim
 ·exact hk.elim
def fieldW (P : Program) (t : TypeId) (f : Nat) (x : Option AV) (k : Eff → Prop) : Prop :=
 match P.underlying t with
 | some (.struct fs)=>match fs[f]? with
  | some fd=>match x with
   | some (.agg cs)=>loadA P fd.type fd.offset cs k
   | some (.p (.agg cs))=>loadP P fd.type fd.offset cs k
   | _=>False
  | none=>False
 | _=>False
theorem snd_field (h : In σ w I T H w0 X I0 a lab) {t : TypeId} {x : Operand} {f : Nat} (ho : o.op = .field t x f) (hk : fieldW P t f (ev T x) k) : Snd P o a w σ I H w0 X I0 lab k:=by
 unfold fieldW at hk
 split at hk
 ·rename_i fs hu
  split at hk
  ·rename_i fd hf
   have run : ∀ vs v,a.eval x = .agg vs → (part fd.type vs fd.offset).run P w = .ok v w → (execOp a.eval o).run P w = .ok (.value v) w:=by
    intro vs v he hv
    simp only [execOp,ho,Instr.field,he,Sem.run_bind,run_underlying' hu,Result.andThen_ok,hf,asAgg,Sem.run_pure,hv]
   split at hk
   ·rename_i cs hp
    have hx:=h.ev hp
    generalize hxv : a.eval x = xv at hx
    cases hx with
    | agg hs hr =>
    obtain ⟨v,y,r1,r2,r3⟩:=run_part hs hr hk
    exact Snd.val h (run _ _ hxv r1) r2 r3
   ·rename_i cs hp
    have hx:=h.ev hp
    generalize hxv : a.eval x = xv at hx
    cases hx with
    | p hx =>
    cases hx with
    | agg hs hr =>
    obtain ⟨v,y,r1,r2,r3⟩:=run_partP (σ:=σ) hs hr hk
    exact Snd.val h (run _ _ hxv r1) r2 r3
   ·exact hk.elim
  ·exact hk.elim
 ·exact hk.elim
def extractW (x : Option AV) (i : Nat) (k : Eff → Prop) : Prop :=
 match x with
 | some (.tuple vs)=>match vs[i]? with | some y=>k ⟨some y,[]⟩ | none=>False
 | some (.p (.tuple vs))=>match vs[i]? with | some y=>k ⟨some (.p y),[]⟩ | none=>False
 | _=>False
theorem snd_extract (h : In σ w I T H w0 X I0 a lab) {x : Operand} {i : Nat} (ho : o.op = .extract x i) (hk : extractW (ev T x) i k) : Snd P o a w σ I H w0 X I0 lab k:=by
 have run : ∀ (vs : Array Value) v,a.eval x = .tuple vs → vs[i]? = some v → (execOp a.eval o).run P w = .ok (.value v) w:=by
  intro vs v he hv
  simp only [execOp,ho,Instr.extract,he,Sem.run_bind,hv,Sem.run_pure,Result.andThen_ok]
 unfold extractW at hk
 split at hk
 ·rename_i cs hp
  have hx:=h.ev hp
  split at hk
  ·rename_i y hy
   generalize hxv : a.eval x = xv at hx
   cases hx with
   | tuple hs hr =>
    rename_i vs
    have hj : i < vs.size:=by rw [hs]; exact (List.getElem?_eq_some_iff.1 hy).1
    exact Snd.val h (run _ _ hxv (Array.getElem?_eq_getElem hj)) (hr i _ y (Array.getElem?_eq_getElem hj) hy) hk
  ·exact hk.elim
 ·rename_i cs hp
  have hx:=h.ev hp
  split at hk
  ·rename_i y hy
   generalize hxv : a.eval x = xv at hx
   cases hx with
   | p hx =>
   cases hx with
   | tuple hs hr =>
    rename_i vs
    have hj : i < vs.size:=by rw [hs]; exact (List.getElem?_eq_some_iff.1 hy).1
    exact Snd.val h (run _ _ hxv (Array.getElem?_eq_getElem hj)) (.p (hr i _ y (Array.getElem?_eq_getElem hj) hy)) hk
  ·exact hk.elim
 ·exact hk.elim
end
end Go.Aw
namespace Go.Aw
open Go.RowKit
section
variable {P : Program} {o : Oper} {a : Act} {w : World} {σ : Lab} {I : Nat → Prop} {T : Nat → Option AV} {H : Nat → Option Blk} {w0 : World} {X I0 : Nat → Prop} {lab : Nat} {k : Eff → Prop}
theorem slice_len {v : Value} {es : List (List PV)} (h : rep w I v (.slice es)) : ∃ ad c,v = .slice ad es.length c:=by
 cases h with
 | empty a' c=>exact ⟨a',c,rfl⟩
 | slice b off m c sz es us hn hc hs hI hone hcell hrep=>subst hn; exact ⟨_,c,rfl⟩
def lenW (P : Program) (t : TypeId) (x : Option AV) (H : Nat → Option Blk) (k : Eff → Prop) : Prop :=
 match P.underlying t with
 | some .string=>match x with
  | some (.p (.str l))=>k ⟨some (.p (.int .i64 (l.length : Int))),[]⟩
  | _=>False
 | some (.slice _)=>match x with
  | some (.p (.slice es))=>k ⟨some (.p (.int .i64 (es.length : Int))),[]⟩
  | some (.ex es)=>k ⟨some (.p (.int .i64 (es.length : Int))),[]⟩
  | some (.own l)=>match H l with
   | some (.row _ es)=>k ⟨some (.p (.int .i64 (es.length : Int))),[]⟩
   | _=>False
  | some (.cut _ _ n)=>k ⟨some (.p (.int .i64 (n : Int))),[]⟩
  | _=>False
 | _=>False
theorem own_len {l : Nat} {sz : Nat} {es : List (List AV)} {v : Value} (hb : repB σ w I l (.row sz es)) (hx : repA σ w I v (.own l)) : ∃ ad c,v = .slice ad es.length c:=by
 cases hb with
 | emp h'=>cases hx with
  | ownE hs=>rename_i a'; exact ⟨a',0,rfl⟩
  | own hs=>rw [hs] at h'; cases h'
 | row h'=>cases hx with
  | ownE hs=>rw [hs] at h'; cases h'
  | own hs =>
   rw [hs] at h'
   injection h' with h'
   injection h' with e1 e2 e3 e4
   subst e2
   exact ⟨_,_,rfl⟩
theorem snd_len (h : In σ w I T H w0 X I0 a lab) {t : TypeId} {x : Operand} (ho : o.op = .call { callee:=.builtin .len,args:=#[x],argTypes:=#[t] }) (hk : lenW P t (ev T x) H k) : Snd P o a w σ I H w0 X I0 lab k:=by
 have run : ∀ v,(Builtin.len_ #[t] o.type #[a.eval x]).run P w = .ok v w → (execOp a.eval o).run P w = .ok (.value v) w:=by
  intro v hv
  simp only [execOp,ho,resolve,invoke,builtin,Sem.run_bind,Sem.run_pure,Result.andThen_ok,List.map_toArray,List.map_cons,List.map_nil,hv]
 unfold lenW at hk
 split at hk
 ·rename_i hu
  split at hk
  ·rename_i l hp
   have hx:=h.ev hp
   generalize hxv : a.eval x = xv at hx run
   cases hx with
   | p hx =>
   cases hx with
   | str =>
   exact Snd.val h (run _ (by simp [Builtin.len_,run_underlying' hu]; rfl)) (.p (.int _ _)) hk
  ·exact hk.elim
 ·rename_i e hu
  have fin : ∀ ad (n c : Nat),a.eval x = .slice ad n c → k ⟨some (.p (.int .i64 (n : Int))),[]⟩ → Snd P o a w σ I H w0 X I0 lab k:=by
   intro ad n c he hk
   exact Snd.val h (run _ (by rw [he]; simp [Builtin.len_,run_underlying' hu]; rfl)) (.p (.int _ _)) hk
  split at hk
  ·rename_i es hp
   have hx:=h.ev hp
   generalize hxv : a.eval x = xv at hx
   cases hx with
   | p hx =>
   obtain ⟨ad,c,rfl⟩:=slice_len hx
   exact fin _ _ _ hxv hk
  ·rename_i es hp
   have hx:=h.ev hp
   generalize hxv : a.eval x = xv at hx
   cases hx with
   | ex hn hx=>subst hn; exact fin _ _ _ hxv hk
  ·rename_i l hp
   split at hk
   ·rename_i sz es hH
    obtain ⟨ad,c,he⟩:=own_len (h.heap.rows l _ hH) (h.ev hp)
    exact fin _ _ _ he hk
   ·exact hk.elim
  ·rename_i l lo n hp
   have hx:=h.ev hp
   generalize hxv : a.eval x = xv at hx
   cases hx with
   | cut hs hm hc=>exact fin _ _ _ hxv hk
  ·exact hk.elim
 ·exact hk.elim
def bnd (x : Option (Option AV)) (d : Nat) : Option Int :=
 match x with
 | none=>some d
 | some (some (.p (.int _ n)))=>some n
 | some _=>none
def sliceStr (l : List UInt8) (lo hi : Option (Option AV)) (k : Eff → Prop) : Prop :=
 match bnd lo 0,bnd hi l.length with
 | some i,some j=>(0 ≤ i ∧ i ≤ j ∧ j ≤ l.length) ∧ k ⟨some (.p (.str ((l.take j.toNat).drop i.toNat))),[]⟩
 | _,_=>False
theorem run_bound {x : Operand} {n : Int} {y : Nat} {code : BoundsCode} (h : In σ w I T H w0 X I0 a lab) {kd : IntKind} (hx : ev T x = some (.p (.int kd n))) (h0 : 0 ≤ n) (h1 : n ≤ y) : (Instr.sliceBound (a.eval x) y code).run P w = .ok n.toNat w:=by
 have hx':=h.ev hx
 generalize a.eval x = xv at hx' ⊢
 cases hx' with
 | p hx' =>
 cases hx' with
 | int =>
 simp only [Instr.sliceBound,asIntOf,Sem.run_bind,Sem.run_pure,Result.andThen_ok]
 rw [if_pos ⟨h0,h1⟩]
 rfl
theorem run_bounds (h : In σ w I T H w0 X I0 a lab) (isS : Bool) {len cap : Nat} {lo hi mx : Option Operand} {i j m : Int} (hi0 : bnd (lo.map (ev T)) 0 = some i) (hj0 : bnd (hi.map (ev T)) len = some j) (hm0 : bnd (mx.map (ev T)) cap = some m)
  (hmh : mx.isSome = true → hi.isSome = true) (h1 : 0 ≤ i) (h2 : i ≤ j) (h3 : j ≤ m) (h4 : m ≤ cap) :
  (Instr.sliceBounds isS len cap (lo.map a.eval) (hi.map a.eval) (mx.map a.eval)).run P w = .ok (i.toNat,j.toNat,m.toNat) w:=by
 have bnd_some : ∀ {x : Operand} {d : Nat} {n : Int},bnd (some (ev T x)) d = some n → ∃ kd,ev T x = some (.p (.int kd n)):=by
  intro x d n hb
  unfold bnd at hb
  split at hb
  ·rename_i he; cases he
  ·rename_i kd n' he
   injection hb with hb; subst hb
   injection he with he
   exact ⟨kd,he⟩
  ·cases hb
 have bnd_none : ∀ {d : Nat} {n : Int},bnd none d = some n → n = d:=fun hb=>by injection hb with hb; exact hb.symm
 unfold Instr.sliceBounds
 cases mx with
 | none =>
  have hm:=bnd_none hm0
  subst hm
  cases hi with
  | none =>
   have hj:=bnd_none hj0
   subst hj
   cases lo with
   | none =>
    have:=bnd_none hi0
    subst this
    simp
   | some lo =>
    obtain ⟨kd,hl⟩:=bnd_some hi0
    simp [run_bound h hl h1 h2]
  | some hi =>
   obtain ⟨kd,hj⟩:=bnd_some hj0
   cases lo with
   | none =>
    have:=bnd_none hi0
    subst this
    simp [run_bound h hj (by omega) h3]
   | some lo =>
    obtain ⟨kd',hl⟩:=bnd_some hi0
    have e : ((j.toNat : Nat) : Int) = j:=by omega
    simp [run_bound h hj (by omega) h3,run_bound (y:=j.toNat) h hl h1 (by omega)]
 | some mx =>
  obtain ⟨km,hm⟩:=bnd_some hm0
  cases hi with
  | none=>exact absurd (hmh rfl) (by simp)
  | some hi =>
   obtain ⟨kd,hj⟩:=bnd_some hj0
   cases lo with
   | none =>
    have:=bnd_none hi0
    subst this
    simp [run_bound h hm (by omega) h4,run_bound (y:=m.toNat) h hj (by omega) (by omega)]
   | some lo =>
    obtain ⟨kd',hl⟩:=bnd_some hi0
    simp [run_bound h hm (by omega) h4,run_bound (y:=m.toNat) h hj (by omega) (by omega),run_bound (y:=j.toNat) h hl h1 (by omega)]
theorem str_extract (l : List UInt8) (i j : Nat) : (⟨⟨l⟩⟩ : ByteArray).extract i j = ⟨⟨(l.take j).drop i⟩⟩:=by
 apply ByteArray.ext
 apply Array.ext'
 simp [List.drop_take]
def sliceP (es : List (List PV)) (len : Nat) (lo hi mx : Option (Option AV)) (k : Eff → Prop) : Prop :=
 match bnd lo 0,bnd hi len with
 | some i,some j=>match mx with
  | none=>(0 ≤ i ∧ i ≤ j ∧ j ≤ len) ∧ k ⟨some (.p (.slice ((es.take j.toNat).drop i.toNat))),[]⟩
  | some _=>match bnd mx len with
   | some m=>(0 ≤ i ∧ i ≤ j ∧ j ≤ m ∧ m ≤ len ∧ hi.isSome = true) ∧ (m = j ∧ k ⟨some (.ex ((es.take j.toNat).drop i.toNat)),[]⟩)
   | none=>False
 | _,_=>False
def sliceW (P : Program) (t : TypeId) (x : Option AV) (lo hi mx : Option (Option AV)) (H : Nat → Option Blk) (k : Eff → Prop) : Prop :=
 match P.underlying t with
 | some .string=>match x,mx with
  | some (.p (.str l)),none=>sliceStr l lo hi k
  | _,_=>False
 | some (.slice e)=>match x with
  | some (.p (.slice es))=>(∀ y ∈ es,tsize P e = some y.length) ∧ (tsize P e ≠ none) ∧ sliceP es es.length lo hi mx k
  | some (.ex es)=>(∀ y ∈ es,tsize P e = some y.length) ∧ (tsize P e ≠ none) ∧ sliceP es es.length lo hi mx k
  | some (.own l)=>match H l with
   | some (.row sz es)=>match bnd lo 0,bnd hi es.length,mx with
    | some i,some j,none=>tsize P e = some sz ∧ es ≠ [] ∧ (0 ≤ i ∧ i ≤ j ∧ j ≤ es.length) ∧ k ⟨some (.cut l i.toNat (j.toNat - i.toNat)),[]⟩
    | _,_,_=>False
   | _=>False
  | some (.vw es more)=>match bnd lo 0,hi,bnd hi 0,mx with
   | some i,some _,some j,none=>(∀ y ∈ es ++ more,tsize P e = some y.length) ∧ tsize P e ≠ none ∧ es ++ more ≠ [] ∧ (0 ≤ i ∧ i ≤ j ∧ j ≤ es.length + more.length) ∧ k ⟨some (.p (.slice (((es ++ more).take j.toNat).drop i.toNat))),[]⟩
   | _,_,_,_=>False
  | _=>False
 | _=>False
theorem rep_cut {b off n c sz : Nat} {es : List (List PV)} (hsz : ∀ y ∈ es,y.length = sz) (h : rep w I (.slice (some ⟨b,off,none⟩) n c) (.slice es)) {i j m : Nat} (h1 : i ≤ j) (h2 : j ≤ es.length) (h3 : j ≤ m) :
  rep w I (.slice (if m = i then some ⟨b,off,none⟩ else some ⟨b,off + i * sz,none⟩) (j - i) (m - i)) (.slice ((es.take j).drop i)):=by
 by_cases he : i = j
 ·subst he
  have : (es.take i).drop i = []:=by rw [List.drop_eq_nil_iff]; rw [List.length_take]; omega
  rw [this,Nat.sub_self]
  exact .empty _ _
 ·rw [if_neg (by omega)]
  cases h with
  | empty=>simp at h2; omega
  | slice _ _ _ _ sz' _ us hn hc hs hI hone hcell hrep =>
   have hes : sz' = sz:=by
    have : 0 < es.length:=by omega
    rw [← hs es[0] (List.getElem_mem this),hsz es[0] (List.getElem_mem this)]
   subst hes
   have hl : ((es.take j).drop i).length = j - i:=by rw [List.length_drop,List.length_take]; omega
   have hget : ∀ q e,((es.take j).drop i)[q]? = some e → es[i + q]? = some e:=fun q e hq=>by
    rw [List.getElem?_drop,List.getElem?_take] at hq
    split at hq
    ·exact hq
    ·cases hq
   refine .slice b (off + i * sz') (j - i) (m - i) sz' _ (fun q r=>us (i + q) r) hl.symm (by omega) (fun e he'=>hs e ?_) hI (fun e he'=>hone e ?_) (fun q e r p h5 h6=>?_) (fun q e r p h5 h6=>hrep _ _ _ _ (hget q e h5) h6)
   ·exact List.mem_of_mem_take (List.mem_of_mem_drop he')
   ·exact List.mem_of_mem_take (List.mem_of_mem_drop he')
   ·have:=hcell _ _ r p (hget q e h5) h6
    rw [Nat.add_mul] at this
    rw [← this]
    congr 2
    omega
theorem snd_slice (h : In σ w I T H w0 X I0 a lab) {t : TypeId} {x : Operand} {lo hi mx : Option Operand} (ho : o.op = .slice t x lo hi mx) (hk : sliceW P t (ev T x) (lo.map (ev T)) (hi.map (ev T)) (mx.map (ev T)) H k) : Snd P o a w σ I H w0 X I0 lab k:=by
 unfold sliceW at hk
 split at hk
 ·rename_i hu
  split at hk
  ·rename_i l hp hmx
   have hmx' : mx = none:=by cases mx <;> simp at hmx; rfl
   subst hmx'
   unfold sliceStr at hk
   split at hk
   ·rename_i i j hi' hj'
    obtain ⟨⟨h1,h2,h3⟩,hk⟩:=hk
    have hx:=h.ev hp
    generalize hxv : a.eval x = xv at hx
    cases hx with
    | p hx =>
    cases hx with
    | str =>
    have hb:=run_bounds (P:=P) h false (len:=l.length) (cap:=l.length) hi' hj' (mx:=none) (m:=(l.length : Int)) rfl (by simp) h1 h2 h3 (Int.le_refl _)
    refine Snd.val h (v:=.string ⟨⟨(l.take j.toNat).drop i.toNat⟩⟩) ?_ (.p (.str _)) hk
    have hs : (⟨⟨l⟩⟩ : ByteArray).size = l.length:=rfl
    simp only [Option.map_none] at hb
    simp only [execOp,ho,Instr.sliceAt,hxv,Sem.run_bind,run_underlying' hu,Result.andThen_ok,Instr.slice,Option.map_none,Option.isSome_none,Bool.false_eq_true,if_false,hs,hb,Sem.run_pure,str_extract]
   ·exact hk.elim
  ·exact hk.elim
 ·rename_i e hu
  have run : ∀ ad (len cap i j m sz : Nat),a.eval x = .slice ad len cap → tsize P e = some sz → (Instr.sliceBounds true len cap (lo.map a.eval) (hi.map a.eval) (mx.map a.eval)).run P w = .ok (i,j,m) w →
    (execOp a.eval o).run P w = .ok (.value (.slice (if m = i then ad else ad.map (·.add (i * sz))) (j - i) (m - i))) w:=by
   intro ad len cap i j m sz hx hsz hb
   simp only [execOp,ho,Instr.sliceAt,hx,Sem.run_bind,run_underlying' hu,Result.andThen_ok,Instr.slice,hb,run_sizeOf' hsz,Sem.run_pure]
  have pure : ∀ es ad cap,a.eval x = .slice ad es.length cap → (mx.isSome = true → True) → rep w I (.slice ad es.length cap) (.slice es) → (∀ y ∈ es,tsize P e = some y.length) → tsize P e ≠ none → sliceP es es.length (lo.map (ev T)) (hi.map (ev T)) (mx.map (ev T)) k → Snd P o a w σ I H w0 X I0 lab k:=by
   intro es ad cap hx _ hr hsz hsn hk2
   obtain ⟨sz,hs⟩:=Option.ne_none_iff_exists'.1 hsn
   have hlen : ∀ y ∈ es,y.length = sz:=fun y hy=>by have:=hsz y hy; rw [hs] at this; injection this with this; exact this.symm
   have hcap : es.length ≤ cap:=by
    generalize es.length = n at hr ⊢
    cases hr with
    | empty=>exact Nat.zero_le _
    | slice _ _ _ _ _ _ _ _ hc=>exact hc
   have repc : ∀ i j m : Nat,i ≤ j → j ≤ es.length → j ≤ m → rep w I (.slice (if m = i then ad else ad.map (·.add (i * sz))) (j - i) (m - i)) (.slice ((es.take j).drop i)):=by
    intro i j m q1 q2 q3
    by_cases he : es = []
    ·subst he
     have : j = 0:=by simpa using q2
     subst this
     have : i = 0:=by omega
     subst this
     simp only [List.take_nil,List.drop_nil,Nat.sub_self]
     exact .empty _ _
    ·have hr':=hr
     have hpos : 0 < es.length:=List.length_pos_iff.2 he
     cases ad with
     | none =>
      exfalso
      generalize hn : es.length = n at hr
      cases hr with
      | empty=>simp at he
     | some ad =>
      obtain ⟨b,off,rfl⟩ : ∃ b off,ad = ⟨b,off,none⟩:=by
       generalize hn : es.length = n at hr
       cases hr with
       | empty=>simp at he
       | slice b o'=>exact ⟨b,o',rfl⟩
      have:=rep_cut hlen hr' q1 q2 q3
      simpa [add_none] using this
   unfold sliceP at hk2
   split at hk2
   ·rename_i i j hi' hj'
    split at hk2
    ·rename_i hmx
     have hmx' : mx = none:=by cases mx <;> simp at hmx; rfl
     subst hmx'
     obtain ⟨⟨h1,h2,h3⟩,hk2⟩:=hk2
     have hb:=run_bounds (P:=P) h true (len:=es.length) (cap:=cap) hi' hj' (mx:=none) (m:=(cap : Int)) rfl (by simp) h1 h2 (by omega) (Int.le_refl _)
     exact Snd.val h (run _ _ _ _ _ _ _ hx hs hb) (.p (repc _ _ _ (by omega) (by omega) (by omega))) hk2
    ·rename_i mo hmx
     split at hk2
     ·rename_i m hm'
      obtain ⟨⟨h1,h2,h3,h4,h5⟩,rfl,hk2⟩:=hk2
      have hm'' : bnd (mx.map (ev T)) cap = some m:=by
       rw [hmx] at hm' ⊢
       revert hm'
       unfold bnd
       rcases mo with _ | v
       ·simp
       ·cases v with
        | p x=>cases x <;> simp
        | _=>simp
      have hb:=run_bounds (P:=P) h true (len:=es.length) (cap:=cap) hi' hj' hm'' (by intro _; cases hi <;> simp at h5 ⊢) h1 h2 h3 (by omega)
      have hr':=repc i.toNat m.toNat m.toNat (by omega) (by omega) (Nat.le_refl _)
      refine Snd.val h (run _ _ _ _ _ _ _ hx hs hb) (.ex ?_ hr') hk2
      rw [List.length_drop,List.length_take]
      omega
     ·exact hk2.elim
   ·exact hk2.elim
  split at hk
  ·rename_i es hp
   obtain ⟨q1,q2,hk⟩:=hk
   have hx:=h.ev hp
   generalize hxv : a.eval x = xv at hx
   cases hx with
   | p hx =>
   obtain ⟨ad,c,rfl⟩:=slice_len hx
   exact pure es ad c hxv (fun _=>trivial) hx q1 q2 hk
  ·rename_i es hp
   obtain ⟨q1,q2,hk⟩:=hk
   have hx:=h.ev hp
   generalize hxv : a.eval x = xv at hx
   cases hx with
   | ex hn hx=>subst hn; exact pure es _ _ hxv (fun _=>trivial) hx q1 q2 hk
  ·rename_i l hp
   split at hk
   ·rename_i sz es hH
    split at hk
    ·rename_i i j hi' hj' hmx
     have hmx' : mx = none:=by cases mx <;> simp at hmx; rfl
     subst hmx'
     obtain ⟨hs,hne,⟨h1,h2,h3⟩,hk⟩:=hk
     have hx:=h.ev hp
     have hbb:=h.heap.rows l _ hH
     generalize hxv : a.eval x = xv at hx
     cases hbb with
     | emp h'=>exact absurd rfl hne
     | row h' hg hcur hc hl hon hr =>
      cases hx with
      | ownE hs'=>rw [hs'] at h'; cases h'
      | own hs' =>
       rw [hs'] at h'
       injection h' with h'
       injection h' with e1 e2 e3 e4
       subst e1 e2 e3 e4
       rename_i gg g' szz
       have hb:=run_bounds (P:=P) h true (len:=es.length) (cap:=g') hi' hj' (mx:=none) (m:=(g' : Int)) rfl (by simp) h1 h2 (by omega) (Int.le_refl _)
       refine Snd.val h (run _ _ _ _ _ _ _ hxv hs hb) ?_ hk
       have:=repA.cut (σ:=σ) (w:=w) (I:=I) (lo:=i.toNat) (m:=j.toNat - i.toNat) hs' (by omega) hc
       simpa [add_none] using this
    ·exact hk.elim
   ·exact hk.elim
  ·rename_i es more hp
   split at hk
   ·rename_i i hh0 j hi' hhi hj' hmx
    have hmx' : mx = none:=by cases mx <;> simp at hmx; rfl
    subst hmx'
    obtain ⟨hsz,hsn,hne,⟨h1,h2,h3⟩,hk⟩:=hk
    obtain ⟨sz,hs⟩:=Option.ne_none_iff_exists'.1 hsn
    have hlen : ∀ y ∈ es ++ more,y.length = sz:=fun y hy=>by have:=hsz y hy; rw [hs] at this; injection this with this; exact this.symm
    have hx:=h.ev hp
    generalize hxv : a.eval x = xv at hx
    cases hx with
    | vw hn hm hc hx =>
     rename_i ad n m c
     subst hn hm
     have hjb : bnd (hi.map (ev T)) es.length = some j:=by
      revert hj'
      cases hi with
      | none=>simp at hhi
      | some y =>
       rw [Option.map_some]
       rcases hyv : ev T y with _ | v
       ·simp [bnd]
       ·cases v with
        | p x=>cases x <;> simp [bnd]
        | _=>simp [bnd]
     have hb:=run_bounds (P:=P) h true (len:=es.length) (cap:=c) hi' hjb (mx:=none) (m:=(c : Int)) rfl (by simp) h1 h2 (by omega) (Int.le_refl _)
     refine Snd.val h (run _ _ _ _ _ _ _ hxv hs hb) (.p ?_) hk
     obtain ⟨b,off,rfl⟩ : ∃ b off,ad = some ⟨b,off,none⟩:=by
      have hpos : 0 < es.length + more.length:=by rw [← List.length_append]; exact List.length_pos_iff.2 hne
      generalize hq : es.length + more.length = q at hx
      generalize hxs : es ++ more = xs at hx
      cases hx with
      | empty=>exact absurd hxs hne
      | slice b o'=>exact ⟨b,o',rfl⟩
     have:=rep_cut (i:=i.toNat) (j:=j.toNat) (m:=c) hlen hx (by omega) (by rw [List.length_append]; omega) (by omega)
     simpa [add_none] using this
   ·exact hk.elim
  ·exact hk.elim
 ·exact hk.elim
end
end Go.Aw
namespace Go.Aw
open Go.RowKit
theorem ncap_le {need old : Nat} (h : old < need) : Builtin.nextslicecap need old ≤ need + need / 4 + 192:=by
 unfold Builtin.nextslicecap
 split
 ·omega
 ·split
  ·omega
  ·rw [growBy_four]
   repeat' split
   all_goals omega
theorem ncap_fits {need old bytes : Nat} (h : old < need) (hb : (need + need / 4 + 192) * bytes ≤ 281474976710656) : Builtin.nextslicecap need old * bytes ≤ 281474976710656 :=
 Nat.le_trans (Nat.mul_le_mul_right _ (ncap_le h)) hb
def tbytes (P : Program) (t : TypeId) : Option Nat:=(P.info? t).map (·.bytes)
def liftE (es : List (List PV)) : List (List AV):=es.map fun e=>e.map AV.p
def byteA (b : UInt8) : AV:=.p (.int .u8 (b.toNat : Int))
def byteP (b : UInt8) : PV:=.int .u8 (b.toNat : Int)
def elems (H : Nat → Option Blk) : AV → Option (List (List AV))
 | .p (.slice es)=>some (liftE es)
 | .ex es=>some (liftE es)
 | .own l=>match H l with | some (.row _ es)=>some es | _=>none
 | _=>none
def news (P : Program) (H : Nat → Option Blk) (tx : TypeId) (x : AV) : Option (List (List AV)) :=
 match P.underlying tx with
 | some .string=>match x with | .p (.str l)=>some (l.map fun b=>[byteA b]) | _=>none
 | some (.slice _)=>elems H x
 | _=>none
section
variable {P : Program} {o : Oper} {a : Act} {w : World} {σ : Lab} {I : Nat → Prop} {T : Nat → Option AV} {H : Nat → Option Blk} {w0 : World} {X I0 : Nat → Prop} {lab : Nat} {k : Eff → Prop}
def CellsAt (σ : Lab) (w : World) (I : Nat → Prop) (cs : List Value) (sz : Nat) (es : List (List AV)) : Prop :=
 cs.length = es.length * sz ∧ ∀ (i : Nat) e (j : Nat) x,es[i]? = some e → e[j]? = some x → ∃ u,cs[i * sz + j]? = some u ∧ repA σ w I u x
theorem CellsAt.append {cs ds : List Value} {sz : Nat} {es fs : List (List AV)} (h : CellsAt σ w I cs sz es) (h' : CellsAt σ w I ds sz fs) : CellsAt σ w I (cs ++ ds) sz (es ++ fs):=by
 refine ⟨by rw [List.length_append,h.1,h'.1,List.length_append,Nat.add_mul],fun i e j x h1 h2=>?_⟩
 by_cases hi : i < es.length
 ·rw [List.getElem?_append_left hi] at h1
  obtain ⟨u,hu,hr⟩:=h.2 i e j x h1 h2
  exact ⟨u,by rw [List.getElem?_append_left (List.getElem?_eq_some_iff.1 hu).1]; exact hu,hr⟩
 ·rw [List.getElem?_append_right (by omega)] at h1
  obtain ⟨u,hu,hr⟩:=h'.2 _ e j x h1 h2
  have hle : es.length * sz ≤ i * sz:=Nat.mul_le_mul_right _ (by omega)
  refine ⟨u,?_,hr⟩
  rw [List.getElem?_append_right (by rw [h.1]; omega),h.1,show i * sz + j - es.length * sz = (i - es.length) * sz + j by rw [Nat.sub_mul]; omega]
  exact hu
theorem row_list {l g n c sz : Nat} {es : List (List AV)} (h : repB σ w I l (.row sz es)) (hs : σ l = some (.row g n c sz)) : ∃ cs : List Value,CellsAt σ w I cs sz es ∧ (∀ (j : Nat) u,cs[j]? = some u → w.cell? ⟨g,j,none⟩ = some u) ∧ ∀ e ∈ es,e.length = sz:=by
 cases h with
 | emp h=>rw [hs] at h; cases h
 | row h hg hcur hc hl ho hr =>
  rw [hs] at h
  injection h with h
  injection h with h1 h2 h3 h4
  subst h1 h2 h3
  clear h4
  rename_i cur et
  have hle : es.length * sz ≤ cur.size:=by rw [hcur]; exact Nat.mul_le_mul_right _ hc
  refine ⟨cur.toList.take (es.length * sz),⟨by rw [List.length_take]; have : cur.toList.length = cur.size:=Array.length_toList; omega,fun i e j x h1 h2=>?_⟩,fun j u hu=>?_,hl⟩
  ·obtain ⟨u,hu,hru⟩:=hr i e j x h1 h2
   refine ⟨u,?_,hru⟩
   have hj : j < sz:=by rw [← hl e (List.mem_of_getElem? h1)]; exact (List.getElem?_eq_some_iff.1 h2).1
   have hi : (i + 1) * sz ≤ es.length * sz:=Nat.mul_le_mul_right _ (List.getElem?_eq_some_iff.1 h1).1
   rw [Nat.succ_mul] at hi
   rw [List.getElem?_take,if_pos (by omega),Array.getElem?_toList]
   exact hu
  ·rw [List.getElem?_take] at hu
   split at hu
   ·rw [Array.getElem?_toList] at hu
    simp [World.cell?,hg,hu]
   ·cases hu
theorem pure_list {v : Value} {es : List (List PV)} {sz : Nat} (hsz : ∀ e ∈ es,e.length = sz) (h : rep w I v (.slice es)) :
  (es = [] ∧ ∃ ad c,v = .slice ad 0 c) ∨ ∃ b off c,∃ cs : List Value,v = .slice (some ⟨b,off,none⟩) es.length c ∧ CellsAt σ w I cs sz (liftE es) ∧ (∀ (j : Nat) u,cs[j]? = some u → w.cell? ⟨b,off + j,none⟩ = some u) ∧ I b ∧ (∀ e ∈ liftE es,∀ x ∈ e,x.one = true) ∧ es.length ≤ c:=by
 cases h with
 | empty ad c=>exact .inl ⟨rfl,ad,c,rfl⟩
 | slice b off n c sz' _ us hn hc hs hI hone hcell hrep =>
  by_cases he : es = []
  ·subst he; subst hn; exact .inl ⟨rfl,_,c,rfl⟩
  ·have hpos : 0 < es.length:=List.length_pos_iff.2 he
   have hes : sz' = sz:=by rw [← hs es[0] (List.getElem_mem hpos),hsz es[0] (List.getElem_mem hpos)]
   subst hes
   subst hn
   have hdiv : ∀ q,q < es.length * sz' → ∃ i j,∃ (hi : i < es.length),j < sz' ∧ q = i * sz' + j:=by
    intro q hq
    have hz : 0 < sz':=by
     rcases Nat.eq_zero_or_pos sz' with h0 | h0
     ·rw [h0,Nat.mul_zero] at hq; omega
     ·exact h0
    refine ⟨q / sz',q % sz',(Nat.div_lt_iff_lt_mul hz).2 hq,Nat.mod_lt _ hz,?_⟩
    rw [Nat.mul_comm]
    exact (Nat.div_add_mod q sz').symm
   refine .inr ⟨b,off,c,(List.range (es.length * sz')).map fun q=>(w.cell? ⟨b,off + q,none⟩).getD undef,rfl,⟨by simp [liftE],fun i e j x h1 h2=>?_⟩,fun q u hu=>?_,hI,fun e he x hx=>?_,hc⟩
   ·simp only [liftE,List.getElem?_map,Option.map_eq_some_iff] at h1
    obtain ⟨e',he',rfl⟩:=h1
    rw [List.getElem?_map,Option.map_eq_some_iff] at h2
    obtain ⟨p,hp,rfl⟩:=h2
    have hj : j < sz':=by rw [← hs e' (List.mem_of_getElem? he')]; exact (List.getElem?_eq_some_iff.1 hp).1
    have hi : (i + 1) * sz' ≤ es.length * sz':=Nat.mul_le_mul_right _ (List.getElem?_eq_some_iff.1 he').1
    rw [Nat.succ_mul] at hi
    refine ⟨us i j,?_,.p (hrep i e' j p he' hp)⟩
    rw [List.getElem?_map,List.getElem?_range (by omega),Option.map_some,hcell i e' j p he' hp]
    rfl
   ·rw [List.getElem?_map] at hu
    have hq : q < es.length * sz':=by
     rcases Nat.lt_or_ge q (es.length * sz') with h | h
     ·exact h
     ·rw [List.getElem?_eq_none (by simpa using h)] at hu; cases hu
    rw [List.getElem?_range hq,Option.map_some] at hu
    obtain ⟨i,j,hi,hj,rfl⟩:=hdiv q hq
    have h1:=List.getElem?_eq_getElem hi
    have h2 : (es[i])[j]? = some ((es[i])[j]'(by rw [hs _ (List.getElem_mem hi)]; exact hj)):=List.getElem?_eq_getElem _
    rw [hcell i _ j _ h1 h2] at hu ⊢
    exact hu
   ·simp only [liftE,List.mem_map] at he
    obtain ⟨e',he',rfl⟩:=he
    obtain ⟨p,hp,rfl⟩:=List.mem_map.1 hx
    exact hone e' he' p hp
theorem news_src (h : In σ w I T H w0 X I0 a lab) {tx : TypeId} {y : Operand} {yv : AV} {ns : List (List AV)} {sz : Nat} (hy : ev T y = some yv) (hn : news P H tx yv = some ns) (hs : ∀ n ∈ ns,n.length = sz) (hone : ∀ n ∈ ns,oneAll n = true)
  (hstr : P.underlying tx = some .string → sz = 1) : ∃ cs,Src P sz tx (a.eval y) ns.length cs w ∧ CellsAt σ w I cs sz ns:=by
 have hr:=h.ev hy
 generalize a.eval y = v at hr ⊢
 have one_of : ∀ cs : List Value,CellsAt σ w I cs sz ns → ∀ u ∈ cs,u.oneCell' = true:=by
  intro cs hc u hu
  obtain ⟨q,hq,rfl⟩:=List.mem_iff_getElem.1 hu
  have hz : 0 < sz:=by
   rcases Nat.eq_zero_or_pos sz with h0 | h0
   ·rw [hc.1,h0,Nat.mul_zero] at hq; omega
   ·exact h0
  have hi : q / sz < ns.length:=by rw [Nat.div_lt_iff_lt_mul hz,← hc.1]; exact hq
  have hj : q % sz < (ns[q / sz]).length:=by rw [hs _ (List.getElem_mem hi)]; exact Nat.mod_lt _ hz
  obtain ⟨u,hu,hru⟩:=hc.2 (q / sz) _ (q % sz) _ (List.getElem?_eq_getElem hi) (List.getElem?_eq_getElem hj)
  rw [Nat.mul_comm,Nat.div_add_mod,List.getElem?_eq_getElem hq] at hu
  injection hu with hu
  rw [hu]
  exact hru.one (oneAll_mem (hone _ (List.getElem_mem hi)) _ (List.getElem_mem hj))
 have nil_src : ∀ ad c,(∃ e,P.underlying tx = some (.slice e)) → ns = [] → v = .slice ad 0 c → ∃ cs,Src P sz tx v ns.length cs w ∧ CellsAt σ w I cs sz ns:=by
  rintro ad c ⟨e,he⟩ rfl rfl
  refine ⟨[],?_,by simp,fun i e j x h1 _=>by simp at h1⟩
  cases ad with
  | none=>exact Src.ofNil w he c
  | some ad=>exact Src.ofSlice w he ad 0 c [] (by simp) (by simp) (by simp)
 unfold news at hn
 split at hn
 ·rename_i hu
  split at hn
  ·rename_i l
   injection hn with hn
   subst hn
   obtain rfl:=hstr hu
   cases hr with
   | p hr =>
   cases hr with
   | str =>
   have hsz : (⟨⟨l⟩⟩ : ByteArray).size = (l.map fun b=>[byteA b]).length:=by rw [List.length_map]; rfl
   refine ⟨byteCells ⟨⟨l⟩⟩,by rw [← hsz]; exact Src.ofString w hu _,by simp [byteCells],fun i e j x h1 h2=>?_⟩
   rw [List.getElem?_map,Option.map_eq_some_iff] at h1
   obtain ⟨b,hb,rfl⟩:=h1
   rcases j with _ | j
   ·simp at h2
    subst h2
    exact ⟨.int .u8 (b.toNat : Int),by simp [byteCells,hb],.p (.int _ _)⟩
   ·simp at h2
  ·cases hn
 ·rename_i e hu
  unfold elems at hn
  split at hn
  ·rename_i es
   injection hn with hn
   subst hn
   cases hr with
   | p hr =>
   rcases pure_list (σ:=σ) (sz:=sz) (fun e he=>by simpa [liftE] using hs (e.map AV.p) (List.mem_map.2 ⟨e,he,rfl⟩)) hr with ⟨rfl,ad,c,rfl⟩ | ⟨b,off,c,cs,rfl,h1,h2,h3,h4,h5⟩
   ·exact nil_src ad c ⟨e,hu⟩ rfl rfl
   ·refine ⟨cs,?_,h1⟩
    have:=Src.ofSlice w (size:=sz) hu ⟨b,off,none⟩ es.length c cs (by rw [h1.1]; simp [liftE]) (fun j u hj=>by rw [add_none]; exact h2 j u hj) (one_of cs h1)
    simpa [liftE] using this
  ·rename_i es
   injection hn with hn
   subst hn
   cases hr with
   | ex hl hr =>
   subst hl
   rcases pure_list (σ:=σ) (sz:=sz) (fun e he=>by simpa [liftE] using hs (e.map AV.p) (List.mem_map.2 ⟨e,he,rfl⟩)) hr with ⟨rfl,ad,c,h0⟩ | ⟨b,off,c,cs,h0,h1,h2,h3,h4,h5⟩
   ·exact nil_src ad c ⟨e,hu⟩ rfl h0
   ·refine ⟨cs,?_,h1⟩
    rw [h0]
    have:=Src.ofSlice w (size:=sz) hu ⟨b,off,none⟩ es.length c cs (by rw [h1.1]; simp [liftE]) (fun j u hj=>by rw [add_none]; exact h2 j u hj) (one_of cs h1)
    simpa [liftE] using this
  ·rename_i l
   split at hn
   ·rename_i sz' es hH
    injection hn with hn
    subst hn
    have hb:=h.heap.rows l _ hH
    cases hr with
    | ownE hs' =>
     cases hb with
     | emp h'=>exact nil_src _ 0 ⟨e,hu⟩ rfl rfl
     | row h'=>rw [hs'] at h'; cases h'
    | own hs' =>
     rename_i g n c szz
     have hq : n = es.length ∧ szz = sz' ∧ es.length ≤ c:=by
      cases hb with
      | emp h'=>rw [hs'] at h'; cases h'
      | row h' hg hcur hc =>
       rw [hs'] at h'
       injection h' with h'
       injection h' with e1 e2 e3 e4
       subst e1 e2 e3 e4
       exact ⟨rfl,rfl,hc⟩
     obtain ⟨rfl,rfl,hc⟩:=hq
     obtain ⟨cs,h1,h2,h3⟩:=row_list hb hs'
     by_cases he : es = []
     ·subst he
      exact nil_src _ c ⟨e,hu⟩ rfl rfl
     ·have hpos : 0 < es.length:=List.length_pos_iff.2 he
      have : szz = sz:=by rw [← h3 es[0] (List.getElem_mem hpos),hs es[0] (List.getElem_mem hpos)]
      subst this
      exact ⟨cs,Src.ofSlice w (size:=szz) hu ⟨g,0,none⟩ es.length c cs h1.1 (fun j u hj=>by rw [add_none,Nat.zero_add]; exact h2 j u hj) (one_of cs h1),h1⟩
   ·cases hn
  ·cases hn
 ·cases hn
def exW (lab sz bytes : Nat) : List (List PV) → List (List AV) → (Eff → Prop) → Prop
 | [],ns,k=>((([] : List (List PV)) = [] ∨ ns ≠ []) ∧ (∀ e ∈ ([] : List (List PV)),e.length = sz) ∧ ((([] : List (List PV)).length + ns.length) + (([] : List (List PV)).length + ns.length) / 4 + 192) * bytes ≤ 281474976710656) ∧ k ⟨some (.own lab),[(lab,some (.row sz (liftE [] ++ ns)))]⟩
 | e :: r,[],k=>k ⟨some (.ex (e :: r)),[]⟩
 | e :: r,n :: l,k=>((e :: r = [] ∨ n :: l ≠ []) ∧ (∀ x ∈ e :: r,x.length = sz) ∧ (((e :: r).length + (n :: l).length) + ((e :: r).length + (n :: l).length) / 4 + 192) * bytes ≤ 281474976710656) ∧ k ⟨some (.own lab),[(lab,some (.row sz (liftE (e :: r) ++ n :: l)))]⟩
theorem exW_nl {lab sz bytes : Nat} {ns : List (List AV)} {k : Eff → Prop} : exW lab sz bytes [] ns k = (((([] : List (List PV)) = [] ∨ ns ≠ []) ∧ (∀ e ∈ ([] : List (List PV)),e.length = sz) ∧ ((([] : List (List PV)).length + ns.length) + (([] : List (List PV)).length + ns.length) / 4 + 192) * bytes ≤ 281474976710656) ∧ k ⟨some (.own lab),[(lab,some (.row sz (liftE [] ++ ns)))]⟩):=rfl
theorem exW_cases {lab sz bytes : Nat} {es : List (List PV)} {ns : List (List AV)} {k : Eff → Prop} (h : exW lab sz bytes es ns k) : (((es = [] ∨ ns ≠ []) ∧ (∀ e ∈ es,e.length = sz) ∧ ((es.length + ns.length) + (es.length + ns.length) / 4 + 192) * bytes ≤ 281474976710656) ∧ k ⟨some (.own lab),[(lab,some (.row sz (liftE es ++ ns)))]⟩) ∨ (ns = [] ∧ k ⟨some (.ex es),[]⟩):=by
 cases es with
 | nil=>exact .inl h
 | cons e r =>
  cases ns with
  | nil=>exact .inr ⟨rfl,h⟩
  | cons n l=>exact .inl h
def appendW (P : Program) (lab : Nat) (t tx : TypeId) (x y : Option AV) (H : Nat → Option Blk) (k : Eff → Prop) : Prop :=
 match telem P t with
 | some e=>match tsize P e,tbytes P e,tzero P e,y.bind (news P H tx) with
  | some sz,some bytes,some zs,some ns=>((1 ≤ bytes) ∧ zs.length = sz ∧ (∀ n ∈ ns,n.length = sz) ∧ (∀ n ∈ ns,oneAll n = true) ∧ (P.underlying tx = some .string → sz = 1)) ∧
   match x with
   | some (.ex es)=>exW lab sz bytes es ns k
   | some (.own l)=>match H l with
    | some (.row sz' es)=>(sz' = sz ∧ ((es.length + ns.length) + (es.length + ns.length) / 4 + 192) * bytes ≤ 281474976710656) ∧ k ⟨some (.own lab),[(l,none),(lab,some (.row sz (es ++ ns)))]⟩
    | _=>False
   | _=>False
  | _,_,_,_=>False
 | none=>False
theorem le_grownCap (w : World) (need old : Nat) (e : TypeId) : need ≤ grownCap w need old e:=by
 exact Nat.le_add_right _ _
theorem HOK.moved (h : HOK σ w I H w0 X I0) {w' : World} {l lab g n c sz n' c' sz' : Nat} (hcc : c' * sz' = c * sz) (hl : σ lab = none) (hn : H l ≠ none) (hs : σ l = some (.row g n c sz)) (hw : ∀ k,k ≠ g → w'.heap[k]? = w.heap[k]?) (hsz : w'.heap.size = w.heap.size)
  (ho : w'.os = w.os) (ht : w'.tape = w.tape) (hu : w'.output = w.output) {b : Blk} (hb : repB (upd σ lab (some (.row g n' c' sz'))) w' I lab b) : HOK (upd σ lab (some (.row g n' c' sz'))) w' I (upd (upd H l none) lab (some b)) w0 X I0:=by
 have hll : lab ≠ l:=by rintro rfl; rw [hl] at hs; cases hs
 have ext : ∀ l' s',σ l' = some s' → upd σ lab (some (.row g n' c' sz')) l' = some s':=fun l' s' h'=>by
  rw [upd_ne _ _ (by rintro rfl; rw [hl] at h'; cases h')]
  exact h'
 obtain ⟨hni,hx⟩:=h.mine l g _ hn hs rfl
 have hI : ∀ k,I k → w'.heap[k]? = w.heap[k]?:=fun k hk=>hw k (fun e=>hni (e ▸ hk))
 have old : ∀ l',l' ≠ lab → upd (upd H l none) lab (some b) l' ≠ none → l' ≠ l ∧ H l' ≠ none:=fun l' hne h'=>by
  rw [upd_ne _ _ hne] at h'
  by_cases he : l' = l
  ·subst he; rw [upd_same] at h'; exact absurd rfl h'
  ·rw [upd_ne _ _ he] at h'; exact ⟨he,h'⟩
 have lab' : ∀ l' s' k,upd (upd H l none) lab (some b) l' ≠ none → upd σ lab (some (.row g n' c' sz')) l' = some s' → s'.block = some k → (l' = lab ∧ k = g) ∨ (l' ≠ lab ∧ l' ≠ l ∧ H l' ≠ none ∧ σ l' = some s' ∧ k ≠ g):=by
  intro l' s' k h1 h2 h3
  by_cases he : l' = lab
  ·subst he
   rw [upd_same] at h2
   injection h2 with h2
   subst h2
   injection h3 with h3
   exact .inl ⟨rfl,h3.symm⟩
  ·obtain ⟨a1,a2⟩:=old l' he h1
   rw [upd_ne _ _ he] at h2
   refine .inr ⟨he,a1,a2,h2,?_⟩
   rintro rfl
   exact a1 (h.inj l' l k s' _ a2 hn h2 hs h3 rfl)
 refine ⟨fun l' b' h'=>?_,fun l1 l2 k s1 s2 h1 h2 e1 e2 g1 g2=>?_,fun l' k s' h1 h2 h3=>?_,fun k hk=>by rw [hsz]; exact h.imm k hk,h.sub,
  ⟨ho.trans h.fr.os,ht.trans h.fr.tape,hu.trans h.fr.output,by rw [hsz]; exact h.fr.size,fun k hk hxk=>?_,h.fr.step fun k cur et p hk hc=>?_⟩⟩
 ·by_cases he : l' = lab
  ·subst he
   rw [upd_same] at h'
   injection h' with h'
   subst h'
   exact hb
  ·obtain ⟨a1,a2⟩:=old l' he (by rw [h']; simp)
   rw [upd_ne _ _ he,upd_ne _ _ a1] at h'
   refine (h.rows l' b' h').mono ext (fun _ h=>h) hI (fun k s' h1 h2=>hw k ?_)
   rintro rfl
   exact a1 (h.inj l' l k s' _ a2 hn h1 hs h2 rfl)
 ·rcases lab' l1 s1 k h1 e1 g1 with ⟨a1,a2⟩ | ⟨a1,a2,a3,a4,a5⟩ <;> rcases lab' l2 s2 k h2 e2 g2 with ⟨b1,b2⟩ | ⟨b1,b2,b3,b4,b5⟩
  ·exact a1.trans b1.symm
  ·exact absurd a2 b5
  ·exact absurd b2 a5
  ·exact h.inj l1 l2 k s1 s2 a3 b3 a4 b4 g1 g2
 ·rcases lab' l' s' k h1 h2 h3 with ⟨a1,a2⟩ | ⟨a1,a2,a3,a4,a5⟩
  ·subst a2; exact ⟨hni,hx⟩
  ·exact h.mine l' k s' a3 a4 h3
 ·refine (hw k ?_).trans (h.fr.block k hk hxk)
  rintro rfl
  rcases hx with hx | hx
  ·exact hxk hx
  ·omega
 ·by_cases hkg : k = g
  ·subst hkg
   obtain ⟨b0,hb0⟩:=Option.ne_none_iff_exists'.1 hn
   obtain ⟨n1,c1,sz1,q1,e1⟩:=slot_cells (h.rows l b0 hb0) hs rfl hc
   injection q1 with q1 q2 q3 q4
   subst q2 q3 q4
   obtain ⟨cur',et',p',e2,e3⟩:=cells_slot hb (upd_same _ _ _)
   exact ⟨cur',et',p',e2,by rw [e1,e3,hcc]⟩
  ·exact ⟨cur,et,p,by rw [hw k hkg]; exact hc,rfl⟩
theorem HOK.empty (h : HOK σ w I H w0 X I0) {lab : Nat} (hl : σ lab = none) (ad : Option Addr) (sz : Nat) : HOK (upd σ lab (some (.emp ad))) w I (upd H lab (some (.row sz []))) w0 X I0:=by
 have ext : ∀ l' s',σ l' = some s' → upd σ lab (some (.emp ad)) l' = some s':=fun l' s' h'=>by
  rw [upd_ne _ _ (by rintro rfl; rw [hl] at h'; cases h')]
  exact h'
 have lab' : ∀ l' s' k,upd H lab (some (.row sz [])) l' ≠ none → upd σ lab (some (.emp ad)) l' = some s' → s'.block = some k → H l' ≠ none ∧ σ l' = some s':=by
  intro l' s' k h1 h2 h3
  by_cases he : l' = lab
  ·subst he
   rw [upd_same] at h2
   injection h2 with h2
   subst h2
   cases h3
  ·rw [upd_ne _ _ he] at h1 h2
   exact ⟨h1,h2⟩
 refine ⟨fun l' b' h'=>?_,fun l1 l2 k s1 s2 h1 h2 e1 e2 g1 g2=>?_,fun l' k s' h1 h2 h3=>?_,h.imm,h.sub,h.fr⟩
 ·by_cases he : l' = lab
  ·subst he
   rw [upd_same] at h'
   injection h' with h'
   subst h'
   exact .emp (upd_same _ _ _)
  ·rw [upd_ne _ _ he] at h'
   exact (h.rows l' b' h').mono ext (fun _ h=>h) (fun _ _=>rfl) (fun _ _ _ _=>rfl)
 ·obtain ⟨a1,a2⟩:=lab' l1 s1 k h1 e1 g1
  obtain ⟨b1,b2⟩:=lab' l2 s2 k h2 e2 g2
  exact h.inj l1 l2 k s1 s2 a1 b1 a2 b2 g1 g2
 ·obtain ⟨a1,a2⟩:=lab' l' s' k h1 h2 h3
  exact h.mine l' k s' a1 a2 h3
theorem append_grow (h : In σ w I T H w0 X I0 a lab) {t tx e : TypeId} {x y : Operand} {sz bytes : Nat} {zs : List Value} {n c : Nat} {base : Option Addr} {olds cs : List Value} {es ns : List (List AV)} {e0 : Eff}
  (ho : o.op = .call { callee:=.builtin .append,args:=#[x,y],argTypes:=#[t,tx] }) (ht : telem P t = some e) (hsz : tsize P e = some sz) (hby : tbytes P e = some bytes) (hz : tzero P e = some zs) (hzl : zs.length = sz)
  (hx : a.eval x = .slice base n c) (hn : n = es.length) (hold : (Builtin.firstCells sz n (.slice base n c)).run P w.drew = .ok olds.toArray w.drew) (hsrc : Src P sz tx (a.eval y) ns.length cs w)
  (hc1 : CellsAt σ w I olds sz es) (hc2 : CellsAt σ w I cs sz ns) (hg : c < n + ns.length) (hl1 : ∀ e ∈ es,e.length = sz) (hl2 : ∀ e ∈ ns,e.length = sz) (ho1 : ∀ e ∈ es,∀ x ∈ e,x.one = true) (ho2 : ∀ e ∈ ns,∀ x ∈ e,x.one = true)
  (hb : ((es.length + ns.length) + (es.length + ns.length) / 4 + 192) * bytes ≤ 281474976710656) (hb0 : es.length + ns.length ≤ 9223372036854775807)
  (hH : ∀ l b,putH H e0.upd l = some b → upd H lab (some (.row sz (es ++ ns))) l = some b) (hv : e0.val = some (.own lab)) (hk : k e0) : Snd P o a w σ I H w0 X I0 lab k:=by
 unfold tsize at hsz
 unfold tbytes at hby
 unfold tzero at hz
 obtain ⟨i,hi,rfl⟩:=Option.map_eq_some_iff.1 hsz
 rw [hi] at hby hz
 injection hby with hby
 subst hby
 obtain ⟨z,hz1,rfl⟩:=Option.map_eq_some_iff.1 hz
 subst hn
 have hu:=telem_some ht
 have hrun:=run_append_grow_src (P:=P) w t tx o.type e i z hu hi hz1 base es.length c olds hold (a.eval y) ns.length cs hsrc hg (by omega) (ncap_fits hg hb)
 generalize hcap : grownCap w (es.length + ns.length) c e = cap at hrun
 have hcl : es.length + ns.length ≤ cap:=by rw [← hcap]; exact le_grownCap _ _ _ _
 have hcat:=hc1.append hc2
 have hzc : (Builtin.zeroCells z.cells (cap - (es.length + ns.length))).size = (cap - (es.length + ns.length)) * i.size:=by
  rw [size_zeroCells,← Array.length_toList,hzl]
 have hex : (execOp a.eval o).run P w = .ok (.value (.slice (some ⟨w.heap.size,0,none⟩) (es.length + ns.length) cap)) (w.drew.alloc (.cells ((olds ++ cs).toArray ++ Builtin.zeroCells z.cells (cap - (es.length + ns.length))) e)):=by
  simp only [execOp,ho,resolve,invoke,builtin,Sem.run_bind,Sem.run_pure,Result.andThen_ok,List.map_toArray,List.map_cons,List.map_nil,hx,hrun]
 have hsize : ((olds ++ cs).toArray ++ Builtin.zeroCells z.cells (cap - (es.length + ns.length))).size = cap * i.size:=by
  rw [Array.size_append,hzc,List.size_toArray,hcat.1,List.length_append,← Nat.add_mul]
  congr 1
  omega
 obtain ⟨h1,h2,h3⟩:=HOK.newRow (w':=w.drew.alloc (.cells ((olds ++ cs).toArray ++ Builtin.zeroCells z.cells (cap - (es.length + ns.length))) e)) h (cells:=(olds ++ cs).toArray ++ Builtin.zeroCells z.cells (cap - (es.length + ns.length))) (et:=e) (es:=es ++ ns) (sz:=i.size) (c:=cap)
  hsize (by rw [List.length_append]; exact hcl) (fun e he=>by rcases List.mem_append.1 he with he | he; exact hl1 e he; exact hl2 e he)
  (fun e he=>by rcases List.mem_append.1 he with he | he; exact ho1 e he; exact ho2 e he)
  (fun q e r x q1 q2=>by
   obtain ⟨u,hu,hru⟩:=hcat.2 q e r x q1 q2
   refine ⟨u,?_,hru⟩
   have hlt:=(List.getElem?_eq_some_iff.1 hu).1
   rw [Array.getElem?_append_left (by rw [List.size_toArray]; exact hlt),List.getElem?_toArray]
   exact hu) rfl rfl rfl rfl
 refine Snd.of hex ⟨h1.less hH,h2,fun l hl=>upd_ne _ _ hl,fun _ h=>h,h3,fun y hy=>?_⟩ hk
 rw [hv] at hy
 injection hy with hy
 subst hy
 have:=repA.own (w:=w.drew.alloc (.cells ((olds ++ cs).toArray ++ Builtin.zeroCells z.cells (cap - (es.length + ns.length))) e)) (I:=I) (upd_same σ lab (some (.row w.heap.size (es ++ ns).length cap i.size)))
 rw [List.length_append] at this
 rw [List.length_append]
 exact this
theorem run_append_none {t tx e : TypeId} {sz : Nat} (hu : P.underlying t = some (.slice e)) (hsz : tsize P e = some sz) {x : Value} (hs : Src P sz tx x 0 [] w) (ty : TypeId) (base : Option Addr) (n c : Nat) (hc : n ≤ c) :
  (Builtin.append_ #[t,tx] ty #[.slice base n c,x]).run P w = .ok (.slice base n c) w:=by
 rcases hs.kind with ⟨e',hk⟩ | hk <;> cases base <;> simp [Builtin.append_,run_underlying' hu,run_underlying' hk,run_sizeOf' hsz,hs.len,hs.cells,hc,storeCells]
theorem run_append_room {t tx e : TypeId} {sz : Nat} (hu : P.underlying t = some (.slice e)) (hsz : tsize P e = some sz) {x : Value} {m : Nat} {cs : List Value} (hs : Src P sz tx x m cs w) (ty : TypeId) (g n c : Nat) (hc : n + m ≤ c) {cur : Array Value} {et : TypeId} (hg : w.heap[g]? = some (.cells cur et (0,0))) (hcur : cur.size = c * sz) :
  (Builtin.append_ #[t,tx] ty #[.slice (some ⟨g,0,none⟩) n c,x]).run P w = .ok (.slice (some ⟨g,0,none⟩) (n + m) c) (w.setRow g (cur.toList.take (n * sz) ++ cs ++ cur.toList.drop (n * sz + cs.length)).toArray):=by
 have hfit : n * sz + cs.length ≤ cur.size:=by
  rw [hs.newsLen,← Nat.add_mul,hcur]
  exact Nat.mul_le_mul_right _ hc
 have hst:=run_storeCells_at (P:=P) g (n * sz) et cs 0 cur w hg (by simpa using hfit) hs.one
 simp only [Nat.add_zero] at hst
 rcases hs.kind with ⟨e',hk⟩ | hk <;> simp [Builtin.append_,run_underlying' hu,run_underlying' hk,run_sizeOf' hsz,hs.len,hs.cells,hc,add_none,hst]
theorem firstCells_zero (sz : Nat) (ad : Option Addr) (c : Nat) : (Builtin.firstCells sz 0 (.slice ad 0 c)).run P w.drew = .ok ([] : List Value).toArray w.drew:=by
 cases ad <;> simp [Builtin.firstCells,loadCells,loadCellsFrom]
theorem snd_append (h : In σ w I T H w0 X I0 a lab) {t tx : TypeId} {x y : Operand} (ho : o.op = .call { callee:=.builtin .append,args:=#[x,y],argTypes:=#[t,tx] }) (hk : appendW P lab t tx (ev T x) (ev T y) H k) : Snd P o a w σ I H w0 X I0 lab k:=by
 unfold appendW at hk
 split at hk
 ·rename_i e he
  have hu:=telem_some he
  split at hk
  ·rename_i sz bytes zs ns hsz hby hz hns
   obtain ⟨yv,hy,hns⟩:=Option.bind_eq_some_iff.1 hns
   obtain ⟨⟨hb1,hzl,hl2,ho2,hstr⟩,hk⟩:=hk
   obtain ⟨cs,hsrc,hc2⟩:=news_src h hy hns hl2 ho2 hstr
   have ho2' : ∀ e ∈ ns,∀ x ∈ e,x.one = true:=fun e he=>oneAll_mem (ho2 e he)
   have exec : ∀ v w',(Builtin.append_ #[t,tx] o.type #[a.eval x,a.eval y]).run P w = .ok v w' → (execOp a.eval o).run P w = .ok (.value v) w':=by
    intro v w' hv
    simp only [execOp,ho,resolve,invoke,builtin,Sem.run_bind,Sem.run_pure,Result.andThen_ok,List.map_toArray,List.map_cons,List.map_nil,hv]
   have small : ∀ es : List (List AV),((es.length + ns.length) + (es.length + ns.length) / 4 + 192) * bytes ≤ 281474976710656 → es.length + ns.length ≤ 9223372036854775807:=by
    intro es hb
    have : (es.length + ns.length) + (es.length + ns.length) / 4 + 192 ≤ ((es.length + ns.length) + (es.length + ns.length) / 4 + 192) * bytes:=Nat.le_mul_of_pos_right _ hb1
    omega
   have emptyCase : ∀ ad c (e0 : Eff),a.eval x = .slice ad 0 c → ns = [] → (∀ l b,putH H e0.upd l = some b → upd H lab (some (.row sz [])) l = some b) → e0.val = some (.own lab) → c = 0 → k e0 → Snd P o a w σ I H w0 X I0 lab k:=by
    intro ad c e0 hx hn0 hH hv hc0 hk2
    subst hn0 hc0
    have hcs : cs = []:=List.eq_nil_of_length_eq_zero (by rw [hc2.1]; simp)
    subst hcs
    refine Snd.of (exec _ _ (by rw [hx]; exact run_append_none hu hsz hsrc o.type ad 0 0 (Nat.le_refl _))) ⟨(h.heap.empty h.lab ad sz).less hH,fun l s hl=>?_,fun l hl=>upd_ne _ _ hl,fun _ h=>h,fun _ _=>rfl,fun y hy=>?_⟩ hk2
    ·rw [upd_ne _ _ (by rintro rfl; rw [h.lab] at hl; cases hl)]
     exact hl
    ·rw [hv] at hy
     injection hy with hy
     subst hy
     exact .ownE (upd_same _ _ _)
   split at hk
   ·rename_i es hxx
    have hx:=h.ev hxx
    rcases exW_cases hk with ⟨⟨hen,hl1,hb⟩,hk⟩ | ⟨hn0,hk'⟩
    rotate_left
    ·subst hn0
     have hcs : cs = []:=List.eq_nil_of_length_eq_zero (by rw [hc2.1]; simp)
     subst hcs
     generalize hxv : a.eval x = xv at hx
     cases hx with
     | ex hn hx =>
      rename_i ad n
      exact Snd.val h (exec _ _ (by rw [hxv]; exact run_append_none hu hsz hsrc o.type ad n n (Nat.le_refl _))) (.ex hn hx) hk'
    generalize hxv : a.eval x = xv at hx
    cases hx with
    | ex hn hx =>
    rename_i ad n
    subst hn
    by_cases hn0 : ns = []
    ·have hes : es = []:=by
      rcases hen with h | h
      ·exact h
      ·exact absurd hn0 h
     subst hes
     refine emptyCase ad 0 _ hxv hn0 (fun l b hl=>?_) rfl rfl hk
     rw [hn0] at hl
     exact hl
    ·have hpos : 0 < ns.length:=List.length_pos_iff.2 hn0
     have hle : (liftE es).length = es.length:=by simp [liftE]
     have hl1' : ∀ e ∈ liftE es,e.length = sz:=fun e he=>by
      simp only [liftE,List.mem_map] at he
      obtain ⟨e',he',rfl⟩:=he
      simpa using hl1 e' he'
     have nilCells : CellsAt σ w I [] sz []:=⟨by simp,fun i e j x h1 _=>by simp at h1⟩
     rcases pure_list (σ:=σ) hl1 hx with ⟨rfl,ad',c',h0⟩ | ⟨b,off,c',os,h0,q1,q2,q3,q4,q5⟩
     ·exact append_grow h ho he hsz hby hz hzl hxv rfl (firstCells_zero sz ad 0) hsrc nilCells hc2 (by simpa using hpos) (by simp) hl2 (by simp) ho2' (by simpa [liftE] using hb) (small [] (by simpa using hb)) (fun l b hl=>by simpa [putH,liftE] using hl) rfl hk
     ·injection h0 with e1 e2 e3
      subst e1 e3
      have hold : (Builtin.firstCells sz es.length (.slice (some ⟨b,off,none⟩) es.length es.length)).run P w.drew = .ok os.toArray w.drew :=
       run_firstCells_some w.drew sz es.length ⟨b,off,none⟩ es.length es.length os (by rw [q1.1,hle]) (fun j v hj=>by rw [add_none]; exact q2 j v hj)
      exact append_grow h ho he hsz hby hz hzl hxv hle.symm hold hsrc q1 hc2 (by omega) hl1' hl2 q4 ho2' (by rw [hle]; exact hb) (small (liftE es) (by rw [hle]; exact hb)) (fun l b hl=>by simpa [putH,liftE] using hl) rfl hk
   ·rename_i l hxx
    have hx:=h.ev hxx
    split at hk
    ·rename_i sz' es hH
     obtain ⟨⟨hss,hb⟩,hk⟩:=hk
     subst hss
     have hbb:=h.heap.rows l _ hH
     have nilCells : CellsAt σ w I [] sz' []:=⟨by simp,fun i e j x h1 _=>by simp at h1⟩
     have drop : ∀ (es' : List (List AV)) l' b,putH H [(l,none),(lab,some (.row sz' es'))] l' = some b → upd H lab (some (.row sz' es')) l' = some b:=by
      intro es' l' b hl
      simp only [putH] at hl
      by_cases q1 : l' = lab
      ·subst q1; rw [upd_same] at hl ⊢; exact hl
      ·rw [upd_ne _ _ q1] at hl ⊢
       by_cases q2 : l' = l
       ·subst q2; rw [upd_same] at hl; cases hl
       ·rwa [upd_ne _ _ q2] at hl
     generalize hxv : a.eval x = xv at hx
     cases hx with
     | ownE hs =>
      rename_i ad
      have hes : es = []:=by
       cases hbb with
       | emp h'=>rfl
       | row h'=>rw [hs] at h'; cases h'
      subst hes
      by_cases hn0 : ns = []
      ·refine emptyCase ad 0 _ hxv hn0 (fun l' b hl=>?_) rfl rfl hk
       rw [hn0] at hl
       exact drop [] l' b hl
      ·have hpos : 0 < ns.length:=List.length_pos_iff.2 hn0
       exact append_grow h ho he hsz hby hz hzl hxv rfl (firstCells_zero sz' ad 0) hsrc nilCells hc2 (by simpa using hpos) (by simp) hl2 (by simp) ho2' (by simpa using hb) (small [] hb) (drop _) rfl hk
     | own hs =>
      rename_i g n c szz
      obtain ⟨os,r1,r2,r3⟩ : ∃ os,CellsAt σ w I os sz' es ∧ (∀ (j : Nat) u,os[j]? = some u → w.cell? ⟨g,j,none⟩ = some u) ∧ ∀ e ∈ es,e.length = sz':=by
       have hq : szz = sz':=by
        cases hbb with
        | emp h'=>rw [hs] at h'; cases h'
        | row h'=>rw [hs] at h'; injection h' with h'; injection h'
       subst hq
       exact row_list hbb hs
      have hbb':=hbb
      cases hbb with
      | emp h'=>rw [hs] at h'; cases h'
      | row h' hg hcur hc hl hon hr =>
       rename_i g' c' cur et
       rw [hs] at h'
       injection h' with h'
       injection h' with e1 e2 e3 e4
       subst e1 e2 e3 e4
       by_cases hroom : es.length + ns.length ≤ c
       ·have hrun:=run_append_room (P:=P) hu hsz hsrc o.type g es.length c hroom hg hcur
        have hfit : es.length * szz + cs.length ≤ cur.size:=by
         rw [hc2.1,← Nat.add_mul,hcur]
         exact Nat.mul_le_mul_right _ hroom
        generalize hcur' : (cur.toList.take (es.length * szz) ++ cs ++ cur.toList.drop (es.length * szz + cs.length)) = cur' at hrun
        have hcl : cur'.length = c * szz:=by rw [← hcur',splice_length _ _ _ (by simpa using hfit)]; simpa using hcur
        have hget : ∀ q,cur'[q]? = if q < es.length * szz then cur[q]? else if q < es.length * szz + cs.length then cs[q - es.length * szz]? else cur[q]?:=fun q=>by
         rw [← hcur',splice_get _ _ _ (by simpa using hfit)]
         simp only [Array.getElem?_toList]
        have hni:=(h.heap.mine l g _ (by rw [hH]; simp) hs rfl).1
        have hsame : ∀ b,I b → (w.setRow g cur'.toArray).heap[b]? = w.heap[b]?:=fun b hb=>setRow_other _ _ _ _ (fun e=>hni (e ▸ hb))
        have ext : ∀ l' s',σ l' = some s' → upd σ lab (some (.row g (es ++ ns).length c szz)) l' = some s':=fun l' s' h'=>by
         rw [upd_ne _ _ (by rintro rfl; rw [h.lab] at h'; cases h')]
         exact h'
        have hmv : HOK (upd σ lab (some (.row g (es ++ ns).length c szz))) (w.setRow g cur'.toArray) I (upd (upd H l none) lab (some (.row szz (es ++ ns)))) w0 X I0:=by
         refine h.heap.moved rfl h.lab (by rw [hH]; simp) hs (fun k hk=>setRow_other _ _ _ _ hk) (by simp) rfl rfl rfl
          (.row (upd_same _ _ _) (setRow_heap w g cur _ et _ hg) (by simpa using hcl) (by rw [List.length_append]; exact hroom) (fun e he=>?_) (fun e he=>?_) fun i e j x q1 q2=>?_)
         ·rcases List.mem_append.1 he with he | he
          ·exact hl e he
          ·exact hl2 e he
         ·rcases List.mem_append.1 he with he | he
          ·exact hon e he
          ·exact ho2' e he
         ·rw [List.getElem?_toArray,hget]
          by_cases hi : i < es.length
          ·rw [List.getElem?_append_left hi] at q1
           have hj : j < szz:=by rw [← hl e (List.mem_of_getElem? q1)]; exact (List.getElem?_eq_some_iff.1 q2).1
           have hm : (i + 1) * szz ≤ es.length * szz:=Nat.mul_le_mul_right _ hi
           rw [Nat.succ_mul] at hm
           obtain ⟨u,hu,hru⟩:=hr i e j x q1 q2
           exact ⟨u,by rw [if_pos (by omega)]; exact hu,hru.mono ext (fun _ h=>h) hsame⟩
          ·rw [List.getElem?_append_right (by omega)] at q1
           have hj : j < szz:=by rw [← hl2 e (List.mem_of_getElem? q1)]; exact (List.getElem?_eq_some_iff.1 q2).1
           have hin:=(List.getElem?_eq_some_iff.1 q1).1
           have hm : (i - es.length + 1) * szz ≤ ns.length * szz:=Nat.mul_le_mul_right _ (by omega)
           rw [Nat.succ_mul] at hm
           have hle : es.length * szz ≤ i * szz:=Nat.mul_le_mul_right _ (by omega)
           have hsub : (i - es.length) * szz = i * szz - es.length * szz:=Nat.sub_mul _ _ _
           obtain ⟨u,hu,hru⟩:=hc2.2 _ e j x q1 q2
           refine ⟨u,?_,hru.mono ext (fun _ h=>h) hsame⟩
           rw [if_neg (by omega),if_pos (by rw [hc2.1]; omega),show i * szz + j - es.length * szz = (i - es.length) * szz + j by omega]
           exact hu
        refine Snd.of (exec _ _ (by rw [hxv]; exact hrun)) ⟨hmv,ext,fun l' hl'=>upd_ne _ _ hl',fun _ h=>h,hsame,fun y hy=>?_⟩ hk
        injection hy with hy
        subst hy
        have:=repA.own (w:=w.setRow g cur'.toArray) (I:=I) (upd_same σ lab (some (.row g (es ++ ns).length c szz)))
        rw [List.length_append] at this
        rw [List.length_append]
        exact this
       ·have hold : (Builtin.firstCells szz es.length (.slice (some ⟨g,0,none⟩) es.length c)).run P w.drew = .ok os.toArray w.drew :=
         run_firstCells_some w.drew szz es.length ⟨g,0,none⟩ es.length c os r1.1 (fun j v hj=>by rw [add_none,Nat.zero_add]; exact r2 j v hj)
        exact append_grow h ho he hsz hby hz hzl hxv rfl hold hsrc r1 hc2 (by omega) hl hl2 hon ho2' hb (small es hb) (drop _) rfl hk
    ·exact hk.elim
   ·exact hk.elim
  ·exact hk.elim
 ·exact hk.elim
end
end Go.Aw
namespace Go.Aw
open Go.RowKit
section
variable {P : Program} {o : Oper} {a : Act} {w : World} {σ : Lab} {I : Nat → Prop} {T : Nat → Option AV} {H : Nat → Option Blk} {w0 : World} {X I0 : Nat → Prop} {lab : Nat} {k : Eff → Prop}
def fillA (place : Nat → Option (Nat × Nat)) (cs : List AV) : List (Nat × AV) → Option (List AV)
 | []=>some cs
 | (i,v) :: r=>match place i with
  | some (off,size)=>if (cellsA v).length = size ∧ off + (cellsA v).length ≤ cs.length ∧ oneAll (cellsA v) = true then fillA place (setCells cs off (cellsA v)) r else none
  | none=>none
def Both (σ : Lab) (w : World) (I : Nat → Prop) (vs : Array Value) (cs : List AV) : Prop:=vs.size = cs.length ∧ ∀ (j : Nat) u p,vs[j]? = some u → cs[j]? = some p → repA σ w I u p
theorem foldl_set_size (vs : List (Value × Nat)) (off : Nat) : ∀ (cs : Array Value),(vs.foldl (fun cs (x : Value × Nat)=>cs.setIfInBounds (off + x.2) x.1) cs).size = cs.size:=by
 induction vs with
 | nil=>intro cs; rfl
 | cons v r ih=>intro cs; rw [List.foldl_cons,ih,Array.size_setIfInBounds]
theorem foldl_set_get (off : Nat) : ∀ (vs : List Value) (i : Nat) (cs : Array Value),off + i + vs.length ≤ cs.size → ∀ q,((vs.zipIdx i).foldl (fun cs (x : Value × Nat)=>cs.setIfInBounds (off + x.2) x.1) cs)[q]? = if q < off + i then cs[q]? else if q < off + i + vs.length then vs[q - (off + i)]? else cs[q]?:=by
 intro vs
 induction vs with
 | nil =>
  intro i cs h q
  simp only [List.zipIdx_nil,List.foldl_nil,List.length_nil]
  split
  ·rfl
  ·rw [if_neg (by omega)]
 | cons v r ih =>
  intro i cs h q
  rw [List.zipIdx_cons,List.foldl_cons,ih (i + 1) _ (by rw [Array.size_setIfInBounds]; simp at h; omega) q]
  simp only [List.length_cons] at h ⊢
  by_cases h1 : q < off + i
  ·rw [if_pos (by omega),if_pos h1,Array.getElem?_setIfInBounds_ne (by omega)]
  ·rw [if_neg h1]
   by_cases h2 : q = off + i
   ·subst h2
    rw [if_pos (by omega),if_pos (by omega),Array.getElem?_setIfInBounds_self_of_lt (by omega),Nat.sub_self]
    rfl
   ·rw [if_neg (by omega)]
    by_cases h3 : q < off + (i + 1) + r.length
    ·rw [if_pos h3,if_pos (by omega),show q - (off + i) = (q - (off + (i + 1))) + 1 by omega]
     rfl
    ·rw [if_neg h3,if_neg (by omega),Array.getElem?_setIfInBounds_ne (by omega)]
theorem fill_both (h : In σ w I T H w0 X I0 a lab) (place : Nat → Option (Nat × Nat)) : ∀ (ps : List (Nat × Operand)) (ws : List (Nat × AV)) (vs : Array Value) (cs rs : List AV),Both σ w I vs cs → ps.map (fun p=>(p.1,ev T p.2)) = ws.map (fun p=>(p.1,some p.2)) → fillA place cs ws = some rs →
  ∃ us,Instr.fill place vs (ps.map fun p=>(p.1,a.eval p.2)) = some us ∧ Both σ w I us rs:=by
 intro ps
 induction ps with
 | nil =>
  intro ws vs cs rs hb hm hf
  cases ws with
  | nil=>simp only [fillA] at hf; injection hf with hf; subst hf; exact ⟨vs,rfl,hb⟩
  | cons x r=>simp at hm
 | cons p ps ih =>
  intro ws vs cs rs hb hm hf
  cases ws with
  | nil=>simp at hm
  | cons x r =>
   obtain ⟨i,v⟩:=x
   simp only [List.map_cons,List.cons.injEq,Prod.mk.injEq] at hm
   obtain ⟨⟨rfl,hv⟩,hm⟩:=hm
   simp only [fillA] at hf
   split at hf
   ·rename_i off size hpl
    split at hf
    ·rename_i hc
     obtain ⟨c1,c2,c3⟩:=hc
     obtain ⟨d1,d2⟩:=cells_of (h.ev hv) c3
     have hfit : off + (a.eval p.2).cells.toList.length ≤ vs.size:=by rw [Array.length_toList,d1,hb.1]; exact c2
     have hzip : (a.eval p.2).cells.zipIdx.toList = (a.eval p.2).cells.toList.zipIdx 0:=by simp
     obtain ⟨us,h1,h2⟩:=ih r ((a.eval p.2).cells.zipIdx.foldl (fun cs (c,j)=>cs.setIfInBounds (off + j) c) vs) (setCells cs off (cellsA v)) rs (by
      rw [← Array.foldl_toList,hzip]
      refine ⟨by rw [foldl_set_size,setCells,splice_length _ _ _ c2,hb.1],fun q u x q1 q2=>?_⟩
      rw [foldl_set_get off _ 0 vs (by simpa using hfit) q] at q1
      unfold setCells at q2
      rw [splice_get _ _ _ c2] at q2
      simp only [Nat.add_zero,Array.length_toList,d1,Array.getElem?_toList] at q1
      by_cases t1 : q < off
      ·rw [if_pos t1] at q1 q2
       exact hb.2 q u x q1 q2
      ·rw [if_neg t1] at q1 q2
       by_cases t2 : q < off + (cellsA v).length
       ·rw [if_pos t2] at q1 q2
        exact d2 _ u x q1 q2
       ·rw [if_neg t2] at q1 q2
        exact hb.2 q u x q1 q2) hm hf
     refine ⟨us,?_,h2⟩
     simp only [List.map_cons,Instr.fill,hpl]
     rw [if_neg (by rw [d1,hb.1,c1]; simp; omega)]
     exact h1
    ·cases hf
   ·cases hf
def partsA (T : Nat → Option AV) : List (Nat × Operand) → Option (List (Nat × AV))
 | []=>some []
 | (i,x) :: r=>match ev T x,partsA T r with
  | some v,some l=>some ((i,v) :: l)
  | _,_=>none
theorem partsA_map : ∀ {ps : List (Nat × Operand)} {ws : List (Nat × AV)},partsA T ps = some ws → ps.map (fun p=>(p.1,ev T p.2)) = ws.map (fun p=>(p.1,some p.2)):=by
 intro ps
 induction ps with
 | nil=>intro ws h; simp only [partsA] at h; injection h with h; subst h; rfl
 | cons p ps ih =>
  intro ws h
  simp only [partsA] at h
  split at h
  ·rename_i v l hv hl
   injection h with h
   subst h
   simp only [List.map_cons,hv,ih hl]
  ·cases h
def tplaces (P : Program) (t : TypeId) : Option (Nat → Option (Nat × Nat)) :=
 match P.underlying t with
 | some (.struct fs)=>match fs.toList.mapM fun f=>(tsize P f.type).map fun n=>(f.offset,n) with
  | some l=>some fun i=>l[i]?
  | none=>none
 | some (.array _ e)=>match tsize P e with
  | some n=>some fun i=>some (i * n,n)
  | none=>none
 | _=>none
theorem run_places (fs : List Field) (w : World) : ∀ {l : List (Nat × Nat)},(fs.mapM fun f=>(tsize P f.type).map fun n=>(f.offset,n)) = some l → (fs.mapM (m:=Sem) fun f=>do pure (f.offset,← sizeOf f.type)).run P w = .ok l w:=by
 induction fs with
 | nil=>intro l h; simp at h; subst h; rfl
 | cons f r ih =>
  intro l h
  rw [List.mapM_cons] at h
  cases hn : tsize P f.type with
  | none=>rw [hn] at h; simp at h
  | some n =>
   rw [hn] at h
   cases hr : (r.mapM fun f=>(tsize P f.type).map fun n=>(f.offset,n)) with
   | none=>rw [hr] at h; simp at h
   | some l' =>
    rw [hr] at h
    simp at h
    subst h
    rw [List.mapM_cons]
    simp only [Sem.run_bind,run_sizeOf' hn,Result.andThen_ok,Sem.run_pure,ih hr]
def buildW (P : Program) (t : TypeId) (ps : Option (List (Nat × AV))) (k : Eff → Prop) : Prop :=
 match ps,tzero P t,tplaces P t with
 | some ws,some zs,some place=>match fillA place (zs.map constAV) ws with
  | some cs=>k ⟨some (mkAgg cs),[]⟩
  | none=>False
 | _,_,_=>False
theorem snd_build (h : In σ w I T H w0 X I0 a lab) {t : TypeId} {ps : Array (Nat × Operand)} (ho : o.op = .build t ps) (hk : buildW P t (partsA T ps.toList) k) : Snd P o a w σ I H w0 X I0 lab k:=by
 unfold buildW at hk
 split at hk
 ·rename_i ws zs place hw hz hp
  split at hk
  ·rename_i cs hc
   obtain ⟨z,hz1,rfl⟩:=run_zeroValue' hz w
   have hb : Both σ w I z.cells (z.cells.toList.map constAV):=⟨by simp,fun j u p h1 h2=>by
    rw [List.getElem?_map,Option.map_eq_some_iff] at h2
    obtain ⟨q,hq,rfl⟩:=h2
    rw [Array.getElem?_toList,h1] at hq
    injection hq with hq; subst hq
    exact repA_const σ w I u⟩
   obtain ⟨us,h1,h2⟩:=fill_both h place ps.toList ws z.cells _ cs hb (partsA_map hw) hc
   refine Snd.val h (v:=.agg us) ?_ (repA_agg h2.1 h2.2) hk
   have hl : (ps.map fun x=>(x.1,a.eval x.2)).toList = ps.toList.map fun p=>(p.1,a.eval p.2):=by simp
   unfold tplaces at hp
   split at hp
   ·rename_i fs hu
    split at hp
    ·rename_i l hl'
     injection hp with hp
     subst hp
     have hpl:=run_places fs.toList w hl'
     have hpl' : (fs.mapM (m:=Sem) fun f=>do pure (f.offset,← sizeOf f.type)).run P w = .ok l.toArray w:=by
      have : fs = fs.toList.toArray:=by simp
      rw [this,List.mapM_toArray]
      simp only [Sem.run_map,hpl,Result.andThen_ok]
     have he : (fun i : Nat=>l.toArray[i]?) = fun i : Nat=>l[i]?:=by funext i; simp
     simp only [execOp,ho,Instr.build,Sem.run_bind,hz1,Result.andThen_ok,run_underlying' hu,hpl',he,hl,h1,Sem.run_pure]
    ·cases hp
   ·rename_i n e hu
    split at hp
    ·rename_i m hm
     injection hp with hp
     subst hp
     simp only [execOp,ho,Instr.build,Sem.run_bind,hz1,Result.andThen_ok,run_underlying' hu,run_sizeOf' hm,hl,h1,Sem.run_pure]
    ·cases hp
   ·cases hp
  ·exact hk.elim
 ·exact hk.elim
def idxOK : List (Nat × AV) → Nat → Bool
 | [],_=>true
 | (i,_) :: r,j=>i == j && idxOK r (j + 1)
def cellsOK (sz : Nat) : List (Nat × AV) → Bool
 | []=>true
 | (_,v) :: r=>(cellsA v).length == sz && oneAll (cellsA v) && cellsOK sz r
theorem fillA_all (sz : Nat) : ∀ (ws : List (Nat × AV)) (i : Nat) (cs : List AV),idxOK ws i = true → cellsOK sz ws = true → (i + ws.length) * sz ≤ cs.length →
  fillA (fun i=>some (i * sz,sz)) cs ws = some (cs.take (i * sz) ++ (ws.map fun w=>cellsA w.2).flatten ++ cs.drop ((i + ws.length) * sz)):=by
 intro ws
 induction ws with
 | nil=>intro i cs _ _ _; simp [fillA]
 | cons x r ih =>
  intro i cs h1 h2 h3
  obtain ⟨j,v⟩:=x
  simp only [idxOK,Bool.and_eq_true,beq_iff_eq] at h1
  simp only [cellsOK,Bool.and_eq_true,beq_iff_eq] at h2
  obtain ⟨rfl,h1⟩:=h1
  obtain ⟨⟨h4,h5⟩,h6⟩:=h2
  simp only [List.length_cons] at h3
  have hm : j * sz + sz ≤ (j + (r.length + 1)) * sz:=by rw [← Nat.succ_mul]; exact Nat.mul_le_mul_right _ (by omega)
  simp only [fillA,h4]
  rw [if_pos ⟨trivial,by omega,h5⟩,ih (j + 1) _ h1 h6 (by rw [setCells,splice_length _ _ _ (by rw [h4]; omega),show j + 1 + r.length = j + (r.length + 1) by omega]; exact h3)]
  congr 1
  have ht : (cs.take (j * sz)).length = j * sz:=by rw [List.length_take]; omega
  have e1 : (setCells cs (j * sz) (cellsA v)).take ((j + 1) * sz) = cs.take (j * sz) ++ cellsA v:=by
   unfold setCells
   rw [List.take_left' (by rw [List.length_append,ht,h4,Nat.succ_mul])]
  have e2 : (setCells cs (j * sz) (cellsA v)).drop ((j + 1 + r.length) * sz) = cs.drop ((j + (r.length + 1)) * sz):=by
   unfold setCells
   have hle : (j + 1) * sz ≤ (j + 1 + r.length) * sz:=Nat.mul_le_mul_right _ (by omega)
   rw [List.drop_append,List.drop_eq_nil_of_le (by rw [List.length_append,ht,h4,← Nat.succ_mul]; exact hle),List.nil_append,List.length_append,ht,h4,List.drop_drop]
   congr 1
   rw [Nat.succ_mul] at hle
   have : (j + 1 + r.length) * sz = (j + (r.length + 1)) * sz:=by congr 1; omega
   omega
  rw [e1,e2]
  simp [List.append_assoc]
theorem flatten_get {sz : Nat} : ∀ (es : List (List AV)),(∀ e ∈ es,e.length = sz) → ∀ (i : Nat) e (j : Nat) x,es[i]? = some e → e[j]? = some x → es.flatten[i * sz + j]? = some x:=by
 intro es
 induction es with
 | nil=>intro _ i e j x h1 _; simp at h1
 | cons f r ih =>
  intro hs i e j x h1 h2
  have hf:=hs f (List.mem_cons_self ..)
  rw [List.flatten_cons]
  cases i with
  | zero =>
   simp at h1
   subst h1
   rw [Nat.zero_mul,Nat.zero_add,List.getElem?_append_left (List.getElem?_eq_some_iff.1 h2).1]
   exact h2
  | succ i =>
   rw [Nat.succ_mul,List.getElem?_append_right (by omega),hf,show i * sz + sz + j - sz = i * sz + j by omega]
   exact ih (fun e he=>hs e (List.mem_cons_of_mem _ he)) i e j x (by simpa using h1) h2
theorem flatten_length {sz : Nat} : ∀ (es : List (List AV)),(∀ e ∈ es,e.length = sz) → es.flatten.length = es.length * sz:=by
 intro es
 induction es with
 | nil=>intro _; simp
 | cons f r ih =>
  intro hs
  rw [List.flatten_cons,List.length_append,hs f (List.mem_cons_self ..),ih (fun e he=>hs e (List.mem_cons_of_mem _ he)),List.length_cons,Nat.succ_mul,Nat.add_comm]
theorem cellsOK_mem {sz : Nat} : ∀ {ws : List (Nat × AV)},cellsOK sz ws = true → ∀ e ∈ ws.map (fun w=>cellsA w.2),e.length = sz ∧ oneAll e = true:=by
 intro ws
 induction ws with
 | nil=>intro _ e he; simp at he
 | cons x r ih =>
  intro h e he
  obtain ⟨j,v⟩:=x
  simp only [cellsOK,Bool.and_eq_true,beq_iff_eq] at h
  rw [List.map_cons] at he
  rcases List.mem_cons.1 he with rfl | he
  ·exact h.1
  ·exact ih h.2 e he
theorem snd_row (h : In σ w I T H w0 X I0 a lab) {cells : Array Value} {et : TypeId} {es : List (List AV)} {sz : Nat} (hcur : cells.size = es.length * sz) (hs : ∀ e ∈ es,e.length = sz) (ho : ∀ e ∈ es,∀ x ∈ e,x.one = true)
  (hr : ∀ (i : Nat) e (j : Nat) x,es[i]? = some e → e[j]? = some x → ∃ u,cells[i * sz + j]? = some u ∧ repA σ w I u x)
  (hrun : (execOp a.eval o).run P w = .ok (.value (.slice (some ⟨w.heap.size,0,none⟩) es.length es.length)) (w.alloc (.cells cells et))) (hk : k ⟨some (.own lab),[(lab,some (.row sz es))]⟩) : Snd P o a w σ I H w0 X I0 lab k:=by
 obtain ⟨h1,h2,h3⟩:=HOK.newRow (w':=w.alloc (.cells cells et)) h (cells:=cells) (et:=et) (es:=es) (sz:=sz) (c:=es.length) hcur (Nat.le_refl _) hs ho hr rfl rfl rfl rfl
 refine Snd.of hrun ⟨h1,h2,fun l hl=>upd_ne _ _ hl,fun _ h=>h,h3,fun x hx=>?_⟩ hk
 injection hx with hx; subst hx
 exact .own (upd_same _ _ _)
def buildSliceW (P : Program) (lab : Nat) (t : TypeId) (len : Nat) (ps : Option (List (Nat × AV))) (k : Eff → Prop) : Prop :=
 match telem P t with
 | some e=>match tsize P e,tzero P e,ps with
  | some sz,some zs,some ws=>(ws.length = len ∧ idxOK ws 0 = true ∧ cellsOK sz ws = true ∧ zs.length = sz ∧ len * sz ≤ 16777216) ∧ k ⟨some (.own lab),[(lab,some (.row sz (ws.map fun w=>cellsA w.2)))]⟩
  | _,_,_=>False
 | none=>False
theorem snd_buildSlice (h : In σ w I T H w0 X I0 a lab) {t : TypeId} {len : Nat} {ps : Array (Nat × Operand)} (ho : o.op = .buildSlice t len ps) (hk : buildSliceW P lab t len (partsA T ps.toList) k) : Snd P o a w σ I H w0 X I0 lab k:=by
 unfold buildSliceW at hk
 split at hk
 ·rename_i e he
  have hu:=telem_some he
  split at hk
  ·rename_i sz zs ws hsz hz hw
   obtain ⟨⟨rfl,hidx,hcells,hzl,hsm⟩,hk⟩:=hk
   obtain ⟨z,hz1,rfl⟩:=run_zeroValue' hz w
   generalize hzc : (if ws.length * sz = 0 then #[] else z.cells) = zc
   generalize hinit : ((Array.range (ws.length * sz)).map (zc[· % zc.size]!)) = init
   have hil : init.size = ws.length * sz:=by rw [← hinit]; simp
   have hb : Both σ w I init (init.toList.map constAV):=⟨by simp,fun j u p h1 h2=>by
    rw [List.getElem?_map,Option.map_eq_some_iff] at h2
    obtain ⟨q,hq,rfl⟩:=h2
    rw [Array.getElem?_toList,h1] at hq
    injection hq with hq; subst hq
    exact repA_const σ w I u⟩
   have hfa:=fillA_all sz ws 0 (init.toList.map constAV) hidx hcells (by simp [hil])
   obtain ⟨us,h1,h2⟩:=fill_both h (fun i=>some (i * sz,sz)) ps.toList ws init _ _ hb (partsA_map hw) hfa
   have hes:=cellsOK_mem hcells
   have hres : (init.toList.map constAV).take (0 * sz) ++ (ws.map fun w=>cellsA w.2).flatten ++ (init.toList.map constAV).drop ((0 + ws.length) * sz) = (ws.map fun w=>cellsA w.2).flatten:=by
    rw [Nat.zero_mul,List.take_zero,List.nil_append,Nat.zero_add,List.drop_eq_nil_of_le (by simp [hil]),List.append_nil]
   rw [hres] at h2
   have hlm : (ws.map fun w=>cellsA w.2).length = ws.length:=by simp
   refine snd_row h (cells:=us) (et:=e) (by rw [h2.1,flatten_length _ (fun e he=>(hes e he).1)]) (fun e he=>(hes e he).1) (fun e he=>oneAll_mem (hes e he).2) (fun i f j x q1 q2=>?_) ?_ hk
   ·have hfl:=flatten_get _ (fun e he=>(hes e he).1) i f j x q1 q2
    have hlt : i * sz + j < us.size:=by rw [h2.1]; exact (List.getElem?_eq_some_iff.1 hfl).1
    exact ⟨us[i * sz + j],Array.getElem?_eq_getElem hlt,h2.2 _ _ x (Array.getElem?_eq_getElem hlt) hfl⟩
   ·rw [hlm]
    have hl : (ps.map fun x=>(x.1,a.eval x.2)).toList = ps.toList.map fun p=>(p.1,a.eval p.2):=by simp
    have hns : ¬ (ws.length * sz > 2 ^ 24):=by omega
    simp only [execOp,ho,Instr.buildSlice,Sem.run_bind,run_underlying' hu,Result.andThen_ok,run_sizeOf' hsz,hns,if_false]
    by_cases hz0 : ws.length * sz = 0
    ·rw [if_pos hz0] at hzc ⊢
     subst hzc
     simp only [Sem.run_bind,Sem.run_pure,Result.andThen_ok,hinit,hl,h1,newRow,run_newObj]
     rfl
    ·rw [if_neg hz0] at hzc ⊢
     subst hzc
     simp only [Sem.run_bind,Sem.run_pure,hz1,Result.andThen_ok,hinit,hl,h1,newRow,run_newObj]
     rfl
  ·exact hk.elim
 ·exact hk.elim
def makeSliceW (P : Program) (lab : Nat) (t : TypeId) (l c : Option AV) (k : Eff → Prop) : Prop :=
 match telem P t,l,c with
 | some e,some (.p (.int _ n)),some (.p (.int _ m))=>match tsize P e,tzero P e,tbytes P e with
  | some sz,some zs,some bytes=>(n = m ∧ 0 ≤ n ∧ 1 ≤ bytes ∧ (bytes : Int) * n ≤ 281474976710656 ∧ zs.length = sz ∧ oneAll (zs.map constAV) = true) ∧ k ⟨some (.own lab),[(lab,some (.row sz (List.replicate n.toNat (zs.map constAV))))]⟩
  | _,_,_=>False
 | _,_,_=>False
theorem snd_makeSlice (h : In σ w I T H w0 X I0 a lab) {t : TypeId} {l c : Operand} (ho : o.op = .makeSlice t l c) (hk : makeSliceW P lab t (ev T l) (ev T c) k) : Snd P o a w σ I H w0 X I0 lab k:=by
 unfold makeSliceW at hk
 split at hk
 ·rename_i e kn n km m he hl hc
  have hu:=telem_some he
  have hlv:=h.ev hl
  have hcv:=h.ev hc
  split at hk
  ·rename_i sz zs bytes hsz hz hby
   obtain ⟨⟨rfl,h0,hb1,hb,hzl,hone⟩,hk⟩:=hk
   generalize hlx : a.eval l = lx at hlv
   generalize hcx : a.eval c = cx at hcv
   cases hlv with
   | p hlv =>
   cases hlv with
   | int =>
   cases hcv with
   | p hcv =>
   cases hcv with
   | int =>
   obtain ⟨i,hi,rfl⟩:=Option.map_eq_some_iff.1 hby
   obtain ⟨z,hz1,rfl⟩:=run_zeroValue' hz w
   have hn : n ≤ 281474976710656:=by
    have : n * 1 ≤ n * (i.bytes : Int):=Int.mul_le_mul_of_nonneg_left (by omega) h0
    rw [Int.mul_comm n i.bytes] at this
    omega
   have hw : IntKind.i64.wrap n = n:=IntWalk.i64_in n (by omega)
   generalize hzc : (if n.toNat * sz = 0 then #[] else z.cells) = zc
   generalize hinit : ((Array.range (n.toNat * sz)).map (zc[· % zc.size]!)) = init
   have hil : init.size = n.toNat * sz:=by rw [← hinit]; simp
   have hrl : (List.replicate n.toNat (z.cells.toList.map constAV)).length = n.toNat:=by simp
   refine snd_row h (cells:=init) (et:=e) (es:=List.replicate n.toNat (z.cells.toList.map constAV)) (by rw [hrl]; exact hil) (fun f hf=>?_) (fun f hf=>?_) (fun q f j x q1 q2=>?_) ?_ hk
   ·rw [List.eq_of_mem_replicate hf]
    simpa using hzl
   ·rw [List.eq_of_mem_replicate hf]
    exact oneAll_mem hone
   ·obtain ⟨hq,rfl⟩:=List.getElem?_eq_some_iff.1 q1
    rw [hrl] at hq
    rw [List.getElem_replicate,List.getElem?_map,Option.map_eq_some_iff] at q2
    obtain ⟨v,hv,rfl⟩:=q2
    rw [Array.getElem?_toList] at hv
    have hj : j < sz:=by rw [← hzl,Array.length_toList]; exact (Array.getElem?_eq_some_iff.1 hv).1
    have hm : (q + 1) * sz ≤ n.toNat * sz:=Nat.mul_le_mul_right _ hq
    rw [Nat.succ_mul] at hm
    have hne : ¬ (n.toNat * sz = 0):=by omega
    rw [if_neg hne] at hzc
    subst hzc
    have hzs : z.cells.size = sz:=by rw [← hzl,Array.length_toList]
    refine ⟨v,?_,repA_const σ w I v⟩
    rw [← hinit,Array.getElem?_map,Array.getElem?_range,if_pos (by omega)]
    simp only [Option.map_some,hzs,Nat.mul_comm q sz,Nat.mul_add_mod,Nat.mod_eq_of_lt hj]
    rw [getElem!_def,hv]
   ·rw [hrl]
    have t1 : ¬ (n < 0):=by omega
    have t2 : ¬ ((i.bytes : Int) * n > 2 ^ 48):=by omega
    have hti : (typeInfo e).run P w = .ok i w:=by simp [typeInfo,hi]
    simp only [execOp,ho,Instr.makeSlice,Sem.run_bind,run_underlying' hu,Result.andThen_ok,asInt,asIntOf,hlx,hcx,Sem.run_pure,hti,hw,t1,t2,Int.lt_irrefl,decide_false,Bool.or_self,Bool.false_eq_true,if_false,gt_iff_lt,run_askRoom,run_sizeOf' hsz]
    by_cases hz0 : n.toNat * sz = 0
    ·rw [if_pos hz0] at hzc ⊢
     subst hzc
     simp only [Sem.run_bind,Sem.run_pure,Result.andThen_ok,hinit,newRow,run_newObj]
     rfl
    ·rw [if_neg hz0] at hzc ⊢
     subst hzc
     simp only [Sem.run_bind,Sem.run_pure,hz1,Result.andThen_ok,hinit,newRow,run_newObj]
     rfl
  ·exact hk.elim
 ·exact hk.elim
end
end Go.Aw
namespace Go.Aw
open Go.RowKit
def byteOf1 : List AV → Option UInt8
 | [.p (.int .u8 n)]=>some (UInt8.ofNat n.toNat)
 | _=>none
def bytesOf : List (List AV) → Option (List UInt8)
 | []=>some []
 | e :: r=>match byteOf1 e,bytesOf r with
  | some b,some l=>some (b :: l)
  | _,_=>none
section
variable {P : Program} {o : Oper} {a : Act} {w : World} {σ : Lab} {I : Nat → Prop} {T : Nat → Option AV} {H : Nat → Option Blk} {w0 : World} {X I0 : Nat → Prop} {lab : Nat} {k : Eff → Prop}
theorem bytesOf_cells {es : List (List AV)} {l : List UInt8} (h : bytesOf es = some l) : ∃ xs : List Int,(xs.map fun n=>UInt8.ofNat n.toNat) = l ∧ es = xs.map fun n=>[.p (.int .u8 n)]:=by
 induction es generalizing l with
 | nil=>simp only [bytesOf] at h; injection h with h; subst h; exact ⟨[],rfl,rfl⟩
 | cons e r ih =>
  simp only [bytesOf] at h
  split at h
  ·rename_i b l' hb hl
   injection h with h
   subst h
   obtain ⟨xs,h1,h2⟩:=ih hl
   unfold byteOf1 at hb
   split at hb
   ·rename_i n
    injection hb with hb
    subst hb
    exact ⟨n :: xs,by rw [List.map_cons,h1],by rw [List.map_cons,h2]⟩
   ·cases hb
  ·cases h
theorem elems_at (h : In σ w I T H w0 X I0 a lab) {x : Operand} {xv : AV} {es : List (List AV)} {sz : Nat} (hx : ev T x = some xv) (he : elems H xv = some es) (hs : ∀ e ∈ es,e.length = sz) :
  (es = [] ∧ ∃ ad c,a.eval x = .slice ad 0 c) ∨ ∃ b off c cs,a.eval x = .slice (some ⟨b,off,none⟩) es.length c ∧ CellsAt σ w I cs sz es ∧ (∀ (j : Nat) u,cs[j]? = some u → w.cell? ⟨b,off + j,none⟩ = some u) ∧ ∀ e ∈ es,∀ y ∈ e,y.one = true:=by
 have hr:=h.ev hx
 generalize a.eval x = v at hr ⊢
 unfold elems at he
 split at he
 ·rename_i ps
  injection he with he
  subst he
  cases hr with
  | p hr =>
  rcases pure_list (σ:=σ) (sz:=sz) (fun e he=>by simpa [liftE] using hs (e.map AV.p) (List.mem_map.2 ⟨e,he,rfl⟩)) hr with ⟨rfl,ad,c,rfl⟩ | ⟨b,off,c,cs,rfl,h1,h2,h3,h4,h5⟩
  ·exact .inl ⟨rfl,ad,c,rfl⟩
  ·exact .inr ⟨b,off,c,cs,by simp [liftE],h1,h2,h4⟩
 ·rename_i ps
  injection he with he
  subst he
  cases hr with
  | ex hl hr =>
  subst hl
  rcases pure_list (σ:=σ) (sz:=sz) (fun e he=>by simpa [liftE] using hs (e.map AV.p) (List.mem_map.2 ⟨e,he,rfl⟩)) hr with ⟨rfl,ad,c,h0⟩ | ⟨b,off,c,cs,h0,h1,h2,h3,h4,h5⟩
  ·exact .inl ⟨rfl,ad,c,h0⟩
  ·exact .inr ⟨b,off,c,cs,by rw [h0]; simp [liftE],h1,h2,h4⟩
 ·rename_i l
  split at he
  ·rename_i sz' es' hH
   injection he with he
   subst he
   have hb:=h.heap.rows l _ hH
   cases hr with
   | ownE hs' =>
    cases hb with
    | emp h'=>exact .inl ⟨rfl,_,0,rfl⟩
    | row h'=>rw [hs'] at h'; cases h'
   | own hs' =>
    rename_i g n c szz
    have hq : n = es'.length ∧ szz = sz' ∧ ∀ e ∈ es',∀ y ∈ e,y.one = true:=by
     cases hb with
     | emp h'=>rw [hs'] at h'; cases h'
     | row h' hg hcur hc hl hon hr =>
      rw [hs'] at h'
      injection h' with h'
      injection h' with e1 e2 e3 e4
      subst e1 e2 e3 e4
      exact ⟨rfl,rfl,hon⟩
    obtain ⟨rfl,rfl,hon⟩:=hq
    obtain ⟨cs,h1,h2,h3⟩:=row_list hb hs'
    by_cases hne : es' = []
    ·subst hne
     exact .inl ⟨rfl,_,c,rfl⟩
    ·have hpos : 0 < es'.length:=List.length_pos_iff.2 hne
     have : szz = sz:=by rw [← h3 es'[0] (List.getElem_mem hpos),hs es'[0] (List.getElem_mem hpos)]
     subst this
     exact .inr ⟨g,0,c,cs,rfl,h1,fun j u hj=>by rw [Nat.zero_add]; exact h2 j u hj,hon⟩
  ·cases he
 ·cases he
def convertW (P : Program) (src dst : TypeId) (x : Option AV) (H : Nat → Option Blk) (k : Eff → Prop) : Prop :=
 match P.underlying src,P.underlying dst with
 | some (.slice e),some .string=>match P.underlying e,x with
  | some (.int .u8),some y=>match (elems H y).bind bytesOf with
   | some l=>k ⟨some (.p (.str l)),[]⟩
   | none=>False
  | _,_=>False
 | some .string,some .string=>match x with
  | some (.p (.str l))=>k ⟨some (.p (.str l)),[]⟩
  | _=>False
 | some .string,some (.slice e)=>match P.underlying e,x with
  | some (.int .u8),some (.p (.str l))=>k ⟨some (.p (.slice (l.map fun b=>[byteP b]))),[]⟩
  | _,_=>False
 | some (.int _),some (.int kd)=>match x with
  | some (.p (.int _ n))=>k ⟨some (.p (.int kd (kd.wrap n))),[]⟩
  | _=>False
 | _,_=>False
theorem snd_convert (h : In σ w I T H w0 X I0 a lab) {src dst : TypeId} {x : Operand} (ho : o.op = .convert src dst x) (hk : convertW P src dst (ev T x) H k) : Snd P o a w σ I H w0 X I0 lab k:=by
 have exec : ∀ v w',(convert src dst (a.eval x)).run P w = .ok v w' → (execOp a.eval o).run P w = .ok (.value v) w':=by
  intro v w' hv
  simp only [execOp,ho,Sem.run_bind,hv,Result.andThen_ok,Sem.run_pure]
 unfold convertW at hk
 split at hk
 ·rename_i e hs hd
  split at hk
  ·rename_i y he hy
   split at hk
   ·rename_i l hl
    obtain ⟨es,hes,hb⟩:=Option.bind_eq_some_iff.1 hl
    obtain ⟨xs,rfl,rfl⟩:=bytesOf_cells hb
    rcases elems_at (sz:=1) h hy hes (fun e he=>by obtain ⟨n,_,rfl⟩:=List.mem_map.1 he; rfl) with ⟨hn,ad,c,hv⟩ | ⟨b,off,c,cs,hv,h1,h2,_⟩
    ·have : xs = []:=by simpa using hn
     subst this
     refine Snd.val h (v:=.string ⟨⟨[]⟩⟩) (exec _ _ ?_) (.p (.str _)) hk
     rw [hv]
     cases ad with
     | none=>exact run_convert_bytes_nil w src e hs he 0 c dst hd
     | some ad =>
      rw [run_convert_bytes_string w src dst e _ 0 c hs he hd,run_bytesToString w _ 0 c [] (by simp [loadCells,loadCellsFrom])]
      rfl
    ·refine Snd.val h (v:=.string (strOfNums xs)) (exec _ _ ?_) (.p (.str _)) hk
     rw [hv]
     refine run_convert_bytes_arg w src e hs he b off _ c xs (by simp) (fun i hi=>?_) dst hd
     have hi' : i < xs.length:=by simpa using hi
     obtain ⟨u,hu,hru⟩:=h1.2 i _ 0 _ (by rw [List.getElem?_map,List.getElem?_eq_getElem hi']; rfl) rfl
     simp only [Nat.mul_one,Nat.add_zero] at hu
     rw [h2 i u hu]
     cases hru with
     | p hru=>cases hru; simp [List.getD_eq_getElem?_getD,List.getElem?_eq_getElem hi']
   ·exact hk.elim
  ·exact hk.elim
 ·rename_i hs hd
  split at hk
  ·rename_i l hy
   have hx:=h.ev hy
   generalize hxv : a.eval x = xv at hx exec
   cases hx with
   | p hx =>
   cases hx with
   | str =>
   exact Snd.val h (exec _ _ (by simp [convert,run_underlying' hs,run_underlying' hd])) (.p (.str _)) hk
  ·exact hk.elim
 ·rename_i e hs hd
  split at hk
  ·rename_i l he hy
   have hx:=h.ev hy
   generalize hxv : a.eval x = xv at hx exec
   cases hx with
   | p hx =>
   cases hx with
   | str =>
   have hrun:=Lib.run_convert_string_bytes (P:=P) w src dst e ⟨⟨l⟩⟩ hs hd he
   have hsz : (⟨⟨l⟩⟩ : ByteArray).size = l.length:=rfl
   have hI : ∀ g,I g → g < w.heap.size:=fun g hg=>(h.heap.imm g hg).1
   have old : ∀ g,I g → (Lib.bytesWorld w e ⟨⟨l⟩⟩).heap[g]? = w.heap[g]?:=fun g hg=>Lib.bytesWorld_at_old w e _ g (hI g hg)
   have hw0:=h.heap.fr.size
   have hh : HOK σ (Lib.bytesWorld w e ⟨⟨l⟩⟩) (fun g=>I g ∨ g = w.heap.size) H w0 X I0:=by
    refine ⟨fun l' b hb=>?_,h.heap.inj,fun l' g s q1 q2 q3=>?_,fun g hg=>?_,fun g hg=>.inl (h.heap.sub g hg),⟨h.heap.fr.os,h.heap.fr.tape,h.heap.fr.output,by rw [Lib.bytesWorld_size]; omega,fun b hb hx=>?_,h.heap.fr.step fun b cur et p hb hc=>⟨cur,et,p,by rw [Lib.bytesWorld_at_old w e _ b (by omega)]; exact hc,rfl⟩⟩⟩
    ·obtain ⟨s,hs',hlt⟩:=(h.heap.rows l' b hb).block
     refine (h.heap.rows l' b hb).mono (fun _ _ h=>h) (fun _ h=>.inl h) old (fun g s' q1 q2=>Lib.bytesWorld_at_old w e _ g ?_)
     rw [hs'] at q1
     injection q1 with q1
     subst q1
     exact hlt g q2
    ·obtain ⟨a1,a2⟩:=h.heap.mine l' g s q1 q2 q3
     refine ⟨fun hg=>?_,a2⟩
     rcases hg with hg | hg
     ·exact a1 hg
     ·obtain ⟨b,hb⟩:=Option.ne_none_iff_exists'.1 q1
      obtain ⟨s',hs',hlt⟩:=(h.heap.rows l' b hb).block
      rw [q2] at hs'
      injection hs' with hs'
      subst hs'
      have:=hlt g q3
      omega
    ·rw [Lib.bytesWorld_size]
     rcases hg with hg | hg
     ·exact ⟨by have:=hI g hg; omega,(h.heap.imm g hg).2⟩
     ·exact ⟨by omega,.inr (.inr (by omega))⟩
    ·rw [Lib.bytesWorld_at_old w e _ b (by omega)]
     exact h.heap.fr.block b hb hx
   refine Snd.of (exec _ _ hrun) ⟨hh,fun _ _ h=>h,fun _ _=>rfl,fun _ h=>.inl h,old,fun y hy=>?_⟩ hk
   injection hy with hy
   subst hy
   refine .p (.slice w.heap.size 0 _ _ 1 _ (fun i _=>.int .u8 ((l.getD i 0).toNat : Int)) (by simp [hsz]) (le_grownCap _ _ _ _) (fun e he=>?_) (.inr rfl) (fun e he p hp=>?_) (fun i f j p q1 q2=>?_) (fun i f j p q1 q2=>?_))
   ·obtain ⟨b,_,rfl⟩:=List.mem_map.1 he
    rfl
   ·obtain ⟨b,_,rfl⟩:=List.mem_map.1 he
    simp at hp; subst hp; rfl
   ·rw [List.getElem?_map,Option.map_eq_some_iff] at q1
    obtain ⟨b,hb,rfl⟩:=q1
    have hi : i < l.length:=(List.getElem?_eq_some_iff.1 hb).1
    rcases j with _ | j
    ·simp only [Nat.mul_one,Nat.add_zero,Nat.zero_add]
     rw [Lib.bytesWorld_cell w e _ i (by rw [hsz]; exact hi)]
    ·simp at q2
   ·rw [List.getElem?_map,Option.map_eq_some_iff] at q1
    obtain ⟨b,hb,rfl⟩:=q1
    rcases j with _ | j
    ·simp at q2; subst q2
     simp only [List.getD_eq_getElem?_getD,hb,Option.getD_some]
     exact .int _ _
    ·simp at q2
  ·exact hk.elim
 ·rename_i kd' kd hs hd
  split at hk
  ·rename_i kn n hy
   have hx:=h.ev hy
   generalize hxv : a.eval x = xv at hx exec
   cases hx with
   | p hx =>
   cases hx with
   | int =>
   exact Snd.val h (exec _ _ (by simp [convert,run_underlying' hs,run_underlying' hd,Conv.intToInt])) (.p (.int _ _)) hk
  ·exact hk.elim
 ·exact hk.elim
def minmaxW (mx : Bool) (x y : Option AV) (k : Eff → Prop) : Prop :=
 match x,y with
 | some (.p (.int kd m)),some (.p (.int _ n))=>k ⟨some (.p (.int kd (if mx = true then (if n > m then n else m) else (if n < m then n else m)))),[]⟩
 | _,_=>False
theorem snd_max (h : In σ w I T H w0 X I0 a lab) {ts : Array TypeId} {x y : Operand} (ho : o.op = .call { callee:=.builtin .max,args:=#[x,y],argTypes:=ts }) (hk : minmaxW true (ev T x) (ev T y) k) : Snd P o a w σ I H w0 X I0 lab k:=by
 unfold minmaxW at hk
 split at hk
 ·rename_i kd m kd' n hx hy
  have hx:=h.ev hx
  have hy:=h.ev hy
  generalize hxv : a.eval x = xv at hx
  generalize hyv : a.eval y = yv at hy
  cases hx with
  | p hx =>
  cases hx with
  | int =>
  cases hy with
  | p hy =>
  cases hy with
  | int =>
  refine Snd.val h (v:=.int kd (if n > m then n else m)) ?_ (by simpa using repA.p (rep.int _ _)) hk
  simp [execOp,ho,resolve,invoke,builtin,hxv,hyv,Builtin.max_,Builtin.max2]
 ·exact hk.elim
theorem snd_min (h : In σ w I T H w0 X I0 a lab) {ts : Array TypeId} {x y : Operand} (ho : o.op = .call { callee:=.builtin .min,args:=#[x,y],argTypes:=ts }) (hk : minmaxW false (ev T x) (ev T y) k) : Snd P o a w σ I H w0 X I0 lab k:=by
 unfold minmaxW at hk
 split at hk
 ·rename_i kd m kd' n hx hy
  have hx:=h.ev hx
  have hy:=h.ev hy
  generalize hxv : a.eval x = xv at hx
  generalize hyv : a.eval y = yv at hy
  cases hx with
  | p hx =>
  cases hx with
  | int =>
  cases hy with
  | p hy =>
  cases hy with
  | int =>
  refine Snd.val h (v:=.int kd (if n < m then n else m)) ?_ (by simpa using repA.p (rep.int _ _)) hk
  simp [execOp,ho,resolve,invoke,builtin,hxv,hyv,Builtin.min_,Builtin.min2]
 ·exact hk.elim
end
end Go.Aw
namespace Go.Aw
open Go.RowKit
section
variable {P : Program} {o : Oper} {a : Act} {w : World} {σ : Lab} {I : Nat → Prop} {T : Nat → Option AV} {H : Nat → Option Blk} {w0 : World} {X I0 : Nat → Prop} {lab : Nat} {k : Eff → Prop}
theorem row_splice (h : HOK σ w I H w0 X I0) {l g c sz : Nat} {es fs : List (List AV)} {cs : List Value} {lo : Nat} (hH : H l = some (.row sz es)) (hs : σ l = some (.row g es.length c sz)) (hc : CellsAt σ w I cs sz fs) (hfl : ∀ e ∈ fs,e.length = sz) (hfo : ∀ e ∈ fs,∀ x ∈ e,x.one = true)
  (hone : ∀ u ∈ cs,u.oneCell' = true) (hle : lo + fs.length ≤ es.length) :
  ∃ w',(storeCells ⟨g,lo * sz,none⟩ cs).run P w = .ok () w' ∧ HOK σ w' I (upd H l (some (.row sz (es.take lo ++ fs ++ es.drop (lo + fs.length))))) w0 X I0 ∧ ∀ b,I b → w'.heap[b]? = w.heap[b]?:=by
 have hb:=h.rows l _ hH
 cases hb with
 | emp h'=>rw [hs] at h'; cases h'
 | row h' hg hcur hcc hl hon hr =>
  rename_i g' c' cur et
  rw [hs] at h'
  injection h' with h'
  injection h' with e1 e2 e3 e4
  subst e1 e3
  clear e2 e4
  have hm : (lo + fs.length) * sz ≤ c * sz:=Nat.mul_le_mul_right _ (by omega)
  have hadd : (lo + fs.length) * sz = lo * sz + fs.length * sz:=Nat.add_mul _ _ _
  have hfit : lo * sz + cs.length ≤ cur.size:=by rw [hc.1,hcur]; omega
  have hst:=run_storeCells_at (P:=P) g (lo * sz) et cs 0 cur w hg (by simpa using hfit) hone
  simp only [Nat.add_zero] at hst
  generalize hcur' : (cur.toList.take (lo * sz) ++ cs ++ cur.toList.drop (lo * sz + cs.length)) = cur' at hst
  have hcl : cur'.length = c * sz:=by rw [← hcur',splice_length _ _ _ (by simpa using hfit)]; simpa using hcur
  have hget : ∀ q,cur'[q]? = if q < lo * sz then cur[q]? else if q < lo * sz + cs.length then cs[q - lo * sz]? else cur[q]?:=fun q=>by
   rw [← hcur',splice_get _ _ _ (by simpa using hfit)]
   simp only [Array.getElem?_toList]
  have hni:=(h.mine l g _ (by rw [hH]; simp) hs rfl).1
  have hsame : ∀ b,I b → (w.setRow g cur'.toArray).heap[b]? = w.heap[b]?:=fun b hb=>setRow_other _ _ _ _ (fun e=>hni (e ▸ hb))
  refine ⟨_,hst,?_,hsame⟩
  have hlen:=splice_length es fs lo hle
  refine h.write (s:=.row g es.length c sz) (g:=g) (by rw [hH]; simp) hs rfl (fun k hk=>setRow_other _ _ _ _ hk) (by simp) rfl rfl rfl
   (.row (by rw [hlen]; exact hs) (setRow_heap w g cur _ et _ hg) (by simpa using hcl) (by rw [hlen]; exact hcc) (fun e he=>?_) (fun e he=>?_) fun i e j x q1 q2=>?_)
  ·rcases List.mem_append.1 he with he | he
   ·rcases List.mem_append.1 he with he | he
    ·exact hl e (List.mem_of_mem_take he)
    ·exact hfl e he
   ·exact hl e (List.mem_of_mem_drop he)
  ·rcases List.mem_append.1 he with he | he
   ·rcases List.mem_append.1 he with he | he
    ·exact hon e (List.mem_of_mem_take he)
    ·exact hfo e he
   ·exact hon e (List.mem_of_mem_drop he)
  ·rw [List.getElem?_toArray,hget]
   rw [splice_get _ _ _ hle] at q1
   by_cases t1 : i < lo
   ·rw [if_pos t1] at q1
    have hj : j < sz:=by rw [← hl e (List.mem_of_getElem? q1)]; exact (List.getElem?_eq_some_iff.1 q2).1
    have hm : (i + 1) * sz ≤ lo * sz:=Nat.mul_le_mul_right _ t1
    rw [Nat.succ_mul] at hm
    obtain ⟨u,hu,hru⟩:=hr i e j x q1 q2
    exact ⟨u,by rw [if_pos (by omega)]; exact hu,hru.mono (fun _ _ h=>h) (fun _ h=>h) hsame⟩
   ·rw [if_neg t1] at q1
    have hle' : lo * sz ≤ i * sz:=Nat.mul_le_mul_right _ (by omega)
    by_cases t2 : i < lo + fs.length
    ·rw [if_pos t2] at q1
     have hj : j < sz:=by rw [← hfl e (List.mem_of_getElem? q1)]; exact (List.getElem?_eq_some_iff.1 q2).1
     have hm : (i - lo + 1) * sz ≤ fs.length * sz:=Nat.mul_le_mul_right _ (by omega)
     have hsub : (i - lo) * sz = i * sz - lo * sz:=Nat.sub_mul _ _ _
     rw [Nat.succ_mul] at hm
     obtain ⟨u,hu,hru⟩:=hc.2 _ e j x q1 q2
     exact ⟨u,by rw [if_neg (by omega),if_pos (by rw [hc.1]; omega),show i * sz + j - lo * sz = (i - lo) * sz + j by omega]; exact hu,hru.mono (fun _ _ h=>h) (fun _ h=>h) hsame⟩
    ·rw [if_neg t2] at q1
     have hm : (lo + fs.length) * sz ≤ i * sz:=Nat.mul_le_mul_right _ (by omega)
     obtain ⟨u,hu,hru⟩:=hr i e j x q1 q2
     exact ⟨u,by rw [if_neg (by omega),if_neg (by rw [hc.1]; omega)]; exact hu,hru.mono (fun _ _ h=>h) (fun _ h=>h) hsame⟩
def cutElems (H : Nat → Option Blk) : AV → Option (List (List AV))
 | .cut l lo n=>match H l with
  | some (.row _ es)=>some ((es.drop lo).take n)
  | _=>none
 | x=>elems H x
def dstPart (H : Nat → Option Blk) : AV → Option (Nat × Nat × Nat × Nat × List (List AV))
 | .cut l lo n=>match H l with
  | some (.row sz es)=>some (l,lo,n,sz,es)
  | _=>none
 | .own l=>match H l with
  | some (.row sz es)=>some (l,0,es.length,sz,es)
  | _=>none
 | _=>none
def copyW (P : Program) (t : TypeId) (x y : Option AV) (H : Nat → Option Blk) (k : Eff → Prop) : Prop :=
 match telem P t with
 | some e=>match tsize P e,x.bind (dstPart H),y.bind (cutElems H) with
  | some sz,some (l,lo,n,sz',es),some fs=>(sz' = sz ∧ lo + n ≤ es.length ∧ ∀ f ∈ fs,f.length = sz) ∧ k ⟨some (.p (.int .i64 ((min fs.length n : Nat) : Int))),[(l,some (.row sz (es.take lo ++ fs.take (min fs.length n) ++ es.drop (lo + (fs.take (min fs.length n)).length))))]⟩
  | _,_,_=>False
 | none=>False
theorem cellsAt_take {cs : List Value} {sz : Nat} {es : List (List AV)} (h : CellsAt σ w I cs sz es) (hs : ∀ e ∈ es,e.length = sz) {n : Nat} (hn : n ≤ es.length) : CellsAt σ w I (cs.take (n * sz)) sz (es.take n):=by
 have hm : n * sz ≤ es.length * sz:=Nat.mul_le_mul_right _ hn
 refine ⟨by rw [List.length_take,List.length_take,h.1,Nat.min_eq_left hm,Nat.min_eq_left hn],fun i e j x q1 q2=>?_⟩
 rw [List.getElem?_take] at q1
 split at q1
 ·rename_i hi
  obtain ⟨u,hu,hr⟩:=h.2 i e j x q1 q2
  have hj : j < sz:=by rw [← hs e (List.mem_of_getElem? q1)]; exact (List.getElem?_eq_some_iff.1 q2).1
  have hm' : (i + 1) * sz ≤ n * sz:=Nat.mul_le_mul_right _ hi
  rw [Nat.succ_mul] at hm'
  exact ⟨u,by rw [List.getElem?_take,if_pos (by omega)]; exact hu,hr⟩
 ·cases q1
theorem cellsAt_drop {cs : List Value} {sz : Nat} {es : List (List AV)} (h : CellsAt σ w I cs sz es) {n : Nat} : CellsAt σ w I (cs.drop (n * sz)) sz (es.drop n):=by
 refine ⟨by rw [List.length_drop,List.length_drop,h.1,Nat.sub_mul],fun i e j x q1 q2=>?_⟩
 rw [List.getElem?_drop] at q1
 obtain ⟨u,hu,hr⟩:=h.2 _ e j x q1 q2
 exact ⟨u,by rw [List.getElem?_drop,← hu]; congr 1; rw [Nat.add_mul]; omega,hr⟩
theorem copy_src (h : In σ w I T H w0 X I0 a lab) {y : Operand} {yv : AV} {fs : List (List AV)} {sz : Nat} (hy : ev T y = some yv) (he : cutElems H yv = some fs) (hs : ∀ f ∈ fs,f.length = sz) :
  (Builtin.lenOf (a.eval y)).run P w = .ok fs.length w ∧ ∀ m,m ≤ fs.length → ∃ cs : List Value,(Builtin.firstCells sz m (a.eval y)).run P w = .ok cs.toArray w ∧ CellsAt σ w I cs sz (fs.take m) ∧ ∀ e ∈ fs,∀ x ∈ e,x.one = true:=by
 have nilC : fs = [] → ∀ ad c,a.eval y = .slice ad 0 c → (Builtin.lenOf (a.eval y)).run P w = .ok fs.length w ∧ ∀ m,m ≤ fs.length → ∃ cs : List Value,(Builtin.firstCells sz m (a.eval y)).run P w = .ok cs.toArray w ∧ CellsAt σ w I cs sz (fs.take m) ∧ ∀ e ∈ fs,∀ x ∈ e,x.one = true:=by
  rintro rfl ad c hv
  refine ⟨by rw [hv]; rfl,fun m hm=>⟨[],?_,?_,by simp⟩⟩
  ·have : m = 0:=by simpa using hm
   subst this
   rw [hv]
   cases ad <;> simp [Builtin.firstCells,loadCells,loadCellsFrom]
  ·exact ⟨by simp,fun i e j x q1 _=>by simp at q1⟩
 have some_ : ∀ b off c cs,a.eval y = .slice (some ⟨b,off,none⟩) fs.length c → CellsAt σ w I cs sz fs → (∀ (j : Nat) u,cs[j]? = some u → w.cell? ⟨b,off + j,none⟩ = some u) → (∀ e ∈ fs,∀ x ∈ e,x.one = true) →
   (Builtin.lenOf (a.eval y)).run P w = .ok fs.length w ∧ ∀ m,m ≤ fs.length → ∃ cs : List Value,(Builtin.firstCells sz m (a.eval y)).run P w = .ok cs.toArray w ∧ CellsAt σ w I cs sz (fs.take m) ∧ ∀ e ∈ fs,∀ x ∈ e,x.one = true:=by
  intro b off c cs hv h1 h2 h3
  refine ⟨by rw [hv]; rfl,fun m hm=>?_⟩
  have hc:=cellsAt_take h1 hs hm
  refine ⟨cs.take (m * sz),?_,hc,h3⟩
  rw [hv]
  refine run_firstCells_some w sz m ⟨b,off,none⟩ _ c _ (by rw [hc.1,List.length_take,Nat.min_eq_left hm]) (fun j v hj=>?_)
  rw [List.getElem?_take] at hj
  split at hj
  ·rw [add_none]; exact h2 j v hj
  ·cases hj
 have other : elems H yv = some fs → (Builtin.lenOf (a.eval y)).run P w = .ok fs.length w ∧ ∀ m,m ≤ fs.length → ∃ cs : List Value,(Builtin.firstCells sz m (a.eval y)).run P w = .ok cs.toArray w ∧ CellsAt σ w I cs sz (fs.take m) ∧ ∀ e ∈ fs,∀ x ∈ e,x.one = true:=by
  intro he
  rcases elems_at h hy he hs with ⟨h0,ad,c,hv⟩ | ⟨b,off,c,cs,hv,h1,h2,h3⟩
  ·exact nilC h0 ad c hv
  ·exact some_ b off c cs hv h1 h2 h3
 cases yv with
 | cut l lo n =>
  simp only [cutElems] at he
  split at he
  ·rename_i sz' es hH
   injection he with he
   have hr:=h.ev hy
   have hb:=h.heap.rows l _ hH
   generalize hyv : a.eval y = v at hr
   cases hr with
   | cut hs' hm hc =>
    rename_i g n' c szz
    rw [← hyv]
    cases hb with
    | emp h'=>rw [hs'] at h'; cases h'
    | row h' hg hcur hcc hl hon hrr =>
     have hs'':=hs'
     rw [hs'] at h'
     injection h' with h'
     injection h' with e1 e2 e3 e4
     subst e1 e2 e3 e4
     obtain ⟨cs,h1,h2,h3⟩:=row_list (h.heap.rows l _ hH) hs''
     have hfl : fs.length = n:=by rw [← he,List.length_take,List.length_drop]; omega
     by_cases hne : fs = []
     ·have : n = 0:=by rw [← hfl,hne]; rfl
      subst this
      exact nilC hne _ _ hyv
     ·have hpos : 0 < fs.length:=List.length_pos_iff.2 hne
      have hmem : ∀ e ∈ fs,e ∈ es:=fun e h'=>by rw [← he] at h'; exact List.mem_of_mem_drop (List.mem_of_mem_take h')
      have : szz = sz:=by rw [← hs _ (List.getElem_mem hpos),hl _ (hmem _ (List.getElem_mem hpos))]
      subst this
      rw [if_neg (by omega)] at hyv
      have hc1:=cellsAt_take (n:=n) (cellsAt_drop (n:=lo) h1) (fun e he=>hl e (List.mem_of_mem_drop he)) (by rw [List.length_drop]; omega)
      rw [he] at hc1
      refine some_ g (lo * szz) _ _ (by rw [hfl]; exact hyv) hc1 (fun j u hj=>?_) (fun e he=>hon e (hmem e he))
      rw [List.getElem?_take] at hj
      split at hj
      ·rw [List.getElem?_drop] at hj
       exact h2 _ u hj
      ·cases hj
  ·cases he
 | _=>exact other he
theorem snd_copy (h : In σ w I T H w0 X I0 a lab) {t t' : TypeId} {x y : Operand} (ho : o.op = .call { callee:=.builtin .copy,args:=#[x,y],argTypes:=#[t,t'] }) (hk : copyW P t (ev T x) (ev T y) H k) : Snd P o a w σ I H w0 X I0 lab k:=by
 unfold copyW at hk
 split at hk
 ·rename_i e he
  have hu:=telem_some he
  split at hk
  ·rename_i sz l lo n sz' es fs hsz hx hy
   obtain ⟨xv,hxe,hx⟩:=Option.bind_eq_some_iff.1 hx
   obtain ⟨yv,hye,hy⟩:=Option.bind_eq_some_iff.1 hy
   obtain ⟨⟨rfl,hle,hfl⟩,hk⟩:=hk
   obtain ⟨r1,r2⟩:=copy_src (P:=P) h hye hy hfl
   obtain ⟨cs,r3,hc,hfo⟩:=r2 (min fs.length n) (Nat.min_le_left _ _)
   have hr:=h.ev hxe
   have key : ∃ g c,H l = some (.row sz' es) ∧ ((∃ ad c',a.eval x = .slice ad n c' ∧ n = 0) ∨ (σ l = some (.row g es.length c sz') ∧ ∃ c',a.eval x = .slice (some ⟨g,lo * sz',none⟩) n c')):=by
    cases xv with
    | cut l' lo' n' =>
     simp only [dstPart] at hx
     split at hx
     ·rename_i szz es' hH
      simp only [Option.some.injEq,Prod.mk.injEq] at hx
      obtain ⟨rfl,rfl,rfl,rfl,rfl⟩:=hx
      have hb:=h.heap.rows l' _ hH
      generalize hxv : a.eval x = v at hr
      cases hr with
      | cut hs' hm hcc =>
       rename_i g n'' c szz'
       cases hb with
       | emp h'=>rw [hs'] at h'; cases h'
       | row h' =>
        rw [hs'] at h'
        injection h' with h'
        injection h' with e1 e2 e3 e4
        subst e1 e2 e3 e4
        refine ⟨g,c,hH,?_⟩
        by_cases q : c = lo'
        ·exact .inl ⟨_,_,rfl,by omega⟩
        ·rw [if_neg q]
         exact .inr ⟨hs',_,rfl⟩
     ·cases hx
    | own l' =>
     simp only [dstPart] at hx
     split at hx
     ·rename_i szz es' hH
      simp only [Option.some.injEq,Prod.mk.injEq] at hx
      obtain ⟨rfl,rfl,rfl,rfl,rfl⟩:=hx
      have hb:=h.heap.rows l' _ hH
      generalize hxv : a.eval x = v at hr
      cases hr with
      | ownE hs' =>
       cases hb with
       | emp h'=>exact ⟨0,0,hH,.inl ⟨_,_,rfl,rfl⟩⟩
       | row h'=>rw [hs'] at h'; cases h'
      | own hs' =>
       cases hb with
       | emp h'=>rw [hs'] at h'; cases h'
       | row h' =>
        rw [hs'] at h'
        injection h' with h'
        injection h' with e1 e2 e3 e4
        subst e1 e2 e3 e4
        exact ⟨_,_,hH,.inr ⟨hs',_,by rw [Nat.zero_mul]⟩⟩
     ·cases hx
    | _=>simp [dstPart] at hx
   obtain ⟨g,c,hH,hv⟩:=key
   have hone : ∀ u ∈ cs,u.oneCell' = true:=by
    intro u hu
    obtain ⟨q,hq,rfl⟩:=List.mem_iff_getElem.1 hu
    have hl' : (fs.take (min fs.length n)).length = min fs.length n:=by rw [List.length_take]; omega
    have hz : 0 < sz':=by
     rcases Nat.eq_zero_or_pos sz' with h0 | h0
     ·rw [hc.1,h0,Nat.mul_zero] at hq; omega
     ·exact h0
    have hi : q / sz' < (fs.take (min fs.length n)).length:=by rw [Nat.div_lt_iff_lt_mul hz,← hc.1]; exact hq
    have hmem : (fs.take (min fs.length n))[q / sz'] ∈ fs:=List.mem_of_mem_take (List.getElem_mem hi)
    have hj : q % sz' < ((fs.take (min fs.length n))[q / sz']).length:=by rw [hfl _ hmem]; exact Nat.mod_lt _ hz
    obtain ⟨u,hu,hru⟩:=hc.2 (q / sz') _ (q % sz') _ (List.getElem?_eq_getElem hi) (List.getElem?_eq_getElem hj)
    rw [Nat.mul_comm,Nat.div_add_mod,List.getElem?_eq_getElem hq] at hu
    injection hu with hu
    rw [hu]
    exact hru.one (hfo _ hmem _ (List.getElem_mem hj))
   have exec : ∀ w',(∀ ad n' c',a.eval x = .slice ad n' c' → n' = n ∧ (match ad with | some ad=>(storeCells ad cs).run P w = .ok () w' | none=>w' = w)) → (execOp a.eval o).run P w = .ok (.value (goInt (min fs.length n : Nat))) w':=by
    intro w' hst
    obtain ⟨ad,c',hv'⟩ : ∃ ad c',a.eval x = .slice ad n c':=by
     rcases hv with ⟨ad,c',hv,_⟩ | ⟨_,c',hv⟩
     ·exact ⟨ad,c',hv⟩
     ·exact ⟨_,c',hv⟩
    obtain ⟨_,hst⟩:=hst _ _ _ hv'
    have hmin : Nat.min fs.length n = min fs.length n:=rfl
    cases ad with
    | none =>
     subst hst
     simp [execOp,ho,resolve,invoke,builtin,Builtin.copy_,hv',run_underlying' hu,r1,run_sizeOf' hsz,hmin,r3]
    | some ad =>
     simp only at hst
     simp [execOp,ho,resolve,invoke,builtin,Builtin.copy_,hv',run_underlying' hu,r1,run_sizeOf' hsz,hmin,r3,hst]
   have htl : (fs.take (min fs.length n)).length = min fs.length n:=by rw [List.length_take]; omega
   rcases hv with ⟨ad,c',hv,rfl⟩ | ⟨hs,c',hv⟩
   ·have hcs : cs = []:=List.eq_nil_of_length_eq_zero (by rw [hc.1,htl]; simp)
    subst hcs
    have hrow : es.take lo ++ fs.take (min fs.length 0) ++ es.drop (lo + (fs.take (min fs.length 0)).length) = es:=by simp
    rw [hrow] at hk
    refine Snd.of (exec w ?_) ⟨?_,fun _ _ h=>h,fun _ _=>rfl,fun _ h=>h,fun _ _=>rfl,fun y hy=>?_⟩ hk
    ·intro ad' n' c'' hv'
     rw [hv] at hv'
     injection hv' with e1 e2 e3
     subst e1
     refine ⟨e2.symm,?_⟩
     cases ad with
     | none=>rfl
     | some ad=>rfl
    ·have : putH H [(l,some (.row sz' es))] = H:=by
      funext q
      simp only [putH]
      by_cases hq : q = l
      ·subst hq; rw [upd_same,hH]
      ·rw [upd_ne _ _ hq]
     rw [this]
     exact h.heap
    ·injection hy with hy
     subst hy
     exact .p (.int _ _)
   ·obtain ⟨w',s1,s2,s3⟩:=row_splice (P:=P) (lo:=lo) h.heap hH hs hc (fun f hf=>hfl f (List.mem_of_mem_take hf)) (fun f hf=>hfo f (List.mem_of_mem_take hf)) hone (by rw [htl]; omega)
    refine Snd.of (exec w' ?_) ⟨s2,fun _ _ h=>h,fun _ _=>rfl,fun _ h=>h,s3,fun y hy=>?_⟩ hk
    ·intro ad' n' c'' hv'
     rw [hv] at hv'
     injection hv' with e1 e2 e3
     subst e1
     exact ⟨e2.symm,s1⟩
    ·injection hy with hy
     subst hy
     exact .p (.int _ _)
  ·exact hk.elim
 ·exact hk.elim
end
end Go.Aw
namespace Go.Aw
open Go.RowKit
def conc (P : Program) (t : TypeId) : Bool:=P.concrete t
def tz1 (P : Program) (t : TypeId) : Option Value:=(P.info? t).bind (·.zero)
section
variable {P : Program} {o : Oper} {a : Act} {w : World} {σ : Lab} {I : Nat → Prop} {T : Nat → Option AV} {H : Nat → Option Blk} {w0 : World} {X I0 : Nat → Prop} {lab : Nat} {k : Eff → Prop}
def makeIfaceW (P : Program) (t : TypeId) (x : Option AV) (k : Eff → Prop) : Prop :=
 match x with
 | some (.p p)=>conc P t = true ∧ k ⟨some (.p (.iface t p)),[]⟩
 | some v=>conc P t = true ∧ k ⟨some (.iface t v),[]⟩
 | none=>False
theorem snd_makeIface (h : In σ w I T H w0 X I0 a lab) {t : TypeId} {x : Operand} (ho : o.op = .makeInterface t x) (hk : makeIfaceW P t (ev T x) k) : Snd P o a w σ I H w0 X I0 lab k:=by
 have run : P.concrete t = true → (execOp a.eval o).run P w = .ok (.value (.iface t (a.eval x))) w:=fun hc=>by
  simp only [execOp,ho,Sem.run_bind,run_makeInterface w t (a.eval x) hc,Result.andThen_ok,Sem.run_pure]
 unfold makeIfaceW at hk
 split at hk
 ·rename_i p hp
  obtain ⟨hc,hk⟩:=hk
  have hx:=h.ev hp
  generalize hxv : a.eval x = xv at hx
  cases hx with
  | p hx=>exact Snd.val h (run hc) (.p (by rw [hxv]; exact .iface t hx)) hk
 ·rename_i v hv hp
  obtain ⟨hc,hk⟩:=hk
  exact Snd.val h (run hc) (.iface t (h.ev hp)) hk
 ·exact hk.elim
def nilCheckW (x : Option AV) (k : Eff → Prop) : Prop :=
 match x with
 | some (.p (.box cs off))=>k ⟨some (.p (.box cs off)),[]⟩
 | some (.ptr l i off)=>k ⟨some (.ptr l i off),[]⟩
 | _=>False
theorem snd_nilCheck (h : In σ w I T H w0 X I0 a lab) {x : Operand} (ho : o.op = .nilCheck x) (hk : nilCheckW (ev T x) k) : Snd P o a w σ I H w0 X I0 lab k:=by
 have run : ∀ ad,a.eval x = .pointer (some ad) → (execOp a.eval o).run P w = .ok (.value (.pointer (some ad))) w:=fun ad he=>by
  simp only [execOp,ho,he,Sem.run_pure]
 unfold nilCheckW at hk
 split at hk
 ·rename_i cs off hp
  have hx:=h.ev hp
  generalize hxv : a.eval x = xv at hx
  have hx':=hx
  cases hx with
  | p hx =>
  cases hx with
  | box=>exact Snd.val h (run _ hxv) hx' hk
 ·rename_i l i off hp
  have hx:=h.ev hp
  generalize hxv : a.eval x = xv at hx
  have hx':=hx
  cases hx with
  | ptr=>exact Snd.val h (run _ hxv) hx' hk
 ·exact hk.elim
def failsW (P : Program) (ags : TypeId) (ok : Bool) (k : Eff → Prop) : Prop :=
 match tz1 P ags with
 | some z=>ok = true ∧ k ⟨some (.tuple [constAV z,.p (.bool false)]),[]⟩
 | none=>False
def assertW (P : Program) (ags : TypeId) (ok : Bool) (x : Option AV) (k : Eff → Prop) : Prop :=
 match x with
 | some (.p (.iface t p))=>conc P ags = true ∧ if t = ags then k ⟨some (if ok then .p (.tuple [p,.bool true]) else .p p),[]⟩ else failsW P ags ok k
 | some (.p (.cst .nilIface))=>conc P ags = true ∧ failsW P ags ok k
 | _=>False
theorem conc_und {t : TypeId} (h : conc P t = true) : ∃ u,P.underlying t = some u ∧ ∀ m,u ≠ .interface m:=by
 unfold conc Program.concrete at h
 cases hu : P.underlying t with
 | none=>rw [hu] at h; simp at h
 | some u =>
  refine ⟨u,rfl,fun m hm=>?_⟩
  subst hm
  rw [hu] at h
  simp at h
theorem run_zero1 {t : TypeId} {z : Value} (h : tz1 P t = some z) (w : World) : (zeroValue t).run P w = .ok z w:=by
 unfold tz1 at h
 obtain ⟨i,hi,hz⟩:=Option.bind_eq_some_iff.1 h
 simp [zeroValue,typeInfo,hi,hz]
theorem snd_assert (h : In σ w I T H w0 X I0 a lab) {x : Operand} {xT ags : TypeId} {ok : Bool} (ho : o.op = .typeAssert x xT ags ok) (hk : assertW P ags ok (ev T x) k) : Snd P o a w σ I H w0 X I0 lab k:=by
 have fails : ∀ v,a.eval x = v → conc P ags = true → (v = .nilIface ∨ ∃ t u,v = .iface t u ∧ t ≠ ags) → failsW P ags ok k → Snd P o a w σ I H w0 X I0 lab k:=by
  clear hk
  intro v hv hc hs hk
  obtain ⟨u,hu,hne⟩:=conc_und hc
  unfold failsW at hk
  split at hk
  ·rename_i z hz
   obtain ⟨rfl,hk⟩:=hk
   refine Snd.val h (v:=.tuple #[z,.bool false]) ?_ (.tuple rfl fun j u' p h1 h2=>?_) hk
   ·have hz':=run_zero1 hz w
    rcases hs with rfl | ⟨t,u',rfl,hne'⟩
    ·cases u <;> first
      | exact absurd rfl (hne _)
      | simp [execOp,ho,hv,Instr.typeAssert,run_underlying' hu,hz']
    ·cases u <;> first
      | exact absurd rfl (hne _)
      | simp [execOp,ho,hv,Instr.typeAssert,run_underlying' hu,hz',hne']
   ·match j,h1,h2 with
    | 0,h1,h2 =>
     simp at h1 h2; subst h1; subst h2
     exact repA_const σ w I z
    | 1,h1,h2 =>
     simp at h1 h2; subst h1; subst h2
     exact .p (.bool false)
    | n + 2,h1,_=>simp at h1
  ·exact hk.elim
 unfold assertW at hk
 split at hk
 ·rename_i t p hp
  obtain ⟨hc,hk⟩:=hk
  obtain ⟨u,hu,hne⟩:=conc_und hc
  have hx:=h.ev hp
  generalize hxv : a.eval x = xv at hx
  cases hx with
  | p hx =>
  cases hx with
  | iface _ hx =>
  rename_i v
  split at hk
  ·rename_i e
   subst e
   refine Snd.val h (v:=if ok then .tuple #[v,.bool true] else v) ?_ ?_ hk
   ·cases u <;> first
     | exact absurd rfl (hne _)
     | (cases ok <;> simp [execOp,ho,hxv,Instr.typeAssert,run_underlying' hu])
   ·cases ok with
    | true =>
     refine .p (.tuple rfl fun j u' q h1 h2=>?_)
     match j,h1,h2 with
     | 0,h1,h2=>simp at h1 h2; subst h1; subst h2; exact hx
     | 1,h1,h2=>simp at h1 h2; subst h1; subst h2; exact .bool true
     | n + 2,h1,_=>simp at h1
    | false=>exact .p hx
  ·rename_i e
   exact fails _ hxv hc (.inr ⟨t,v,rfl,e⟩) hk
 ·rename_i hp
  obtain ⟨hc,hk⟩:=hk
  have hx:=h.ev hp
  generalize hxv : a.eval x = xv at hx
  cases hx with
  | p hx =>
  cases hx with
  | cst=>exact fails _ hxv hc (.inl rfl) hk
 ·exact hk.elim
end
end Go.Aw
namespace Go.Aw
open Go.RowKit
theorem tabOK.up {w : World} {I I1 : Nat → Prop} (h : tabOK w I) (hi : ∀ g,I g → I1 g) : tabOK w I1:=tab_keep h hi fun _ _=>rfl
theorem In.tabs {σ : Lab} {w : World} {I : Nat → Prop} {T : Nat → Option AV} {H : Nat → Option Blk} {w0 : World} {X I0 : Nat → Prop} {a : Act} {lab : Nat} (h : In σ w I T H w0 X I0 a lab) : tabOK w I :=
 tab_keep h.tab.tab h.heap.sub fun g hg=>h.heap.fr.block g (h.tab.lt g hg) fun hx=>h.tab.off g hx hg
def keyEq : PV → PV → Option Bool
 | .int k a,.int k' b=>if k = k' then some (a == b) else none
 | .str a,.str b=>some (a == b)
 | .agg [.str a,.str b],.agg [.str c,.str d]=>some (a == c && b == d)
 | _,_=>none
def MapAt (es : List (PV × AV)) (p : PV) : Option (Nat × AV) → Prop
 | none=>∀ e ∈ es,keyEq p e.1 = some false
 | some (i,v)=>∃ e,es[i]? = some e ∧ e.2 = v ∧ keyEq p e.1 = some true ∧ ∀ (j : Nat) e',j < i → es[j]? = some e' → keyEq p e'.1 = some false
def KeyT (P : Program) (t : TypeId) (p : PV) : Prop :=
 ∀ (w w' : World) (I : Nat → Prop) (u : Value),rep w I u p →
  (∀ (w2 : World),rep w2 (fun _=>False) u p) ∧ (∀ b,(Instr.checkKey b 10000 t u).run P w' = .ok () w') ∧
  ∀ (ms : List MapEntry) (ks : List PV),ms.length = ks.length → (∀ (i : Nat) m q,ms[i]? = some m → ks[i]? = some q → rep w (fun _=>False) m.key q) →
   ((∀ q ∈ ks,keyEq p q = some false) → (Instr.findKey t u ms).run P w' = .ok none w') ∧
   (∀ (i : Nat) m q,ms[i]? = some m → ks[i]? = some q → keyEq p q = some true → (∀ (j : Nat) q',j < i → ks[j]? = some q' → keyEq p q' = some false) → (Instr.findKey t u ms).run P w' = .ok (some (i,m.val)) w' ∧ (Instr.keyThatStays m.key u).run P w' = .ok u w')
theorem findNow_none {kd : TypeDesc} {k : Value} : ∀ (ms : List MapEntry) (i : Nat),(∀ m ∈ ms,Instr.sameNow kd k m.key = some false) → Instr.findNow kd k ms i = some none
 | [],_,_=>rfl
 | m :: ms,i,h=>by
  rw [Instr.findNow,h m List.mem_cons_self]
  exact findNow_none ms (i + 1) fun m' hm=>h m' (List.mem_cons_of_mem _ hm)
theorem findNow_some {kd : TypeDesc} {k : Value} : ∀ (ms : List MapEntry) (i n : Nat) (m : MapEntry),ms[n]? = some m → Instr.sameNow kd k m.key = some true → (∀ (j : Nat) m',j < n → ms[j]? = some m' → Instr.sameNow kd k m'.key = some false) → Instr.findNow kd k ms i = some (some (i + n,m.val))
 | [],_,_,_,h,_,_=>by simp at h
 | x :: ms,i,0,m,h,h1,_=>by
  simp at h
  subst h
  rw [Instr.findNow,h1]
  rfl
 | x :: ms,i,n + 1,m,h,h1,h2=>by
  rw [Instr.findNow,h2 0 x (by omega) rfl]
  have:=findNow_some ms (i + 1) n m (by simpa using h) h1 fun j m' hj hm=>h2 (j + 1) m' (by omega) (by simpa using hm)
  rw [this,show i + 1 + n = i + (n + 1) by omega]
section
variable {P : Program}
theorem bytes_same (a b : List UInt8) : ((⟨⟨a⟩⟩ : ByteArray) == ⟨⟨b⟩⟩) = (a == b):=by
 rw [Bool.eq_iff_iff,MapKept.bytes_beq,beq_iff_eq]
 constructor
 ·intro q
  injection q with q
  injection q
 ·rintro rfl; rfl
theorem keyT_now {t : TypeId} {d : TypeDesc} {p : PV} (hd : P.underlying t = some d) (one : ∀ (w : World) (I : Nat → Prop) (u : Value),rep w I u p → (∀ w2 : World,rep w2 (fun _=>False) u p) ∧ (∀ b w',(Instr.checkKey b 10000 t u).run P w' = .ok () w') ∧
  ∀ (w1 : World) (x : Value) (q : PV) (b : Bool),rep w1 (fun _=>False) x q → keyEq p q = some b → Instr.sameNow d u x = some b ∧ (b = true → Instr.sameBits 10000 x u = true)) : KeyT P t p:=by
 intro w w' I u hu
 obtain ⟨h1,h2,h3⟩:=one w I u hu
 refine ⟨h1,fun b=>h2 b w',fun ms ks hl hk=>⟨fun hq=>?_,fun i m q hm hq hqe hbe=>?_⟩⟩
 ·have : Instr.findNow d u ms 0 = some none:=findNow_none ms 0 fun m hm=>by
   obtain ⟨i,hi⟩:=List.getElem?_of_mem hm
   have hlt:=(List.getElem?_eq_some_iff.1 hi).1
   have hki:=List.getElem?_eq_getElem (l:=ks) (i:=i) (by omega)
   exact (h3 w m.key _ false (hk i m _ hi hki) (hq _ (List.getElem_mem _))).1
  exact MapKept.run_findKey hd this
 ·obtain ⟨s1,s2⟩:=h3 w m.key q true (hk i m q hm hq) hqe
  have : Instr.findNow d u ms 0 = some (some (0 + i,m.val)):=findNow_some ms 0 i m hm s1 fun j m' hj hm'=>by
   have hlt:=(List.getElem?_eq_some_iff.1 hm').1
   have hki:=List.getElem?_eq_getElem (l:=ks) (i:=j) (by omega)
   exact (h3 w m'.key _ false (hk j m' _ hm' hki) (hbe j _ hj hki)).1
  rw [Nat.zero_add] at this
  exact ⟨MapKept.run_findKey hd this,by simp [Instr.keyThatStays,s2 rfl]⟩
theorem key_str {t : TypeId} (hd : P.underlying t = some .string) (s : List UInt8) : KeyT P t (.str s):=by
 refine keyT_now hd fun w I u hu=>?_
 cases hu with
 | str =>
 refine ⟨fun w2=>.str s,fun b w'=>MapKept.run_checkKey hd (by simp [MapKept.IsKey]) b 9999,fun w1 x q b hx hq=>?_⟩
 cases hx <;> simp only [keyEq,reduceCtorEq] at hq
 injection hq with hq
 subst hq
 rename_i l
 refine ⟨by simp only [Instr.sameNow,bytes_same],fun h=>?_⟩
 have : s = l:=by simpa using h
 subst this
 simp [Instr.sameBits,bytes_same]
theorem key_int {t : TypeId} {k0 : IntKind} (hd : P.underlying t = some (.int k0)) (n : Int) : KeyT P t (.int k0 n):=by
 refine keyT_now hd fun w I u hu=>?_
 cases hu with
 | int =>
 refine ⟨fun w2=>.int _ n,fun b w'=>MapKept.run_checkKey hd (by simp [MapKept.IsKey]) b 9999,fun w1 x q b hx hq=>?_⟩
 cases hx <;> simp only [keyEq,reduceCtorEq] at hq
 rename_i k m
 split at hq
 ·rename_i hk
  subst hk
  injection hq with hq
  subst hq
  refine ⟨by simp [Instr.sameNow],fun h=>?_⟩
  have : n = m:=by simpa using h
  subst this
  simp [Instr.sameBits]
 ·cases hq
theorem rep_pair {w : World} {I : Nat → Prop} {u : Value} {a b : List UInt8} (h : rep w I u (.agg [.str a,.str b])) : u = .agg #[.string ⟨⟨a⟩⟩,.string ⟨⟨b⟩⟩]:=by
 cases h with
 | agg hs hr =>
  rename_i vs
  have h0 : 0 < vs.size:=by rw [hs]; simp
  have h1 : 1 < vs.size:=by rw [hs]; simp
  have r0:=hr 0 vs[0] (.str a) (Array.getElem?_eq_getElem h0) rfl
  have r1:=hr 1 vs[1] (.str b) (Array.getElem?_eq_getElem h1) rfl
  have e0 : vs[0] = .string ⟨⟨a⟩⟩:=by generalize vs[0] = x at r0; cases r0; rfl
  have e1 : vs[1] = .string ⟨⟨b⟩⟩:=by generalize vs[1] = x at r1; cases r1; rfl
  congr 1
  apply Array.ext
  ·simpa using hs
  ·intro i q1 q2
   match i,q1 with
   | 0,_=>simpa using e0
   | 1,_=>simpa using e1
   | n + 2,q=>rw [hs] at q; simp at q; omega
theorem findAsk_none {t : TypeId} {k : Value} {w' : World} : ∀ (ms : List MapEntry) (i : Nat),(∀ m ∈ ms,(Op.equal t k m.key).run P w' = .ok false w') → (Instr.findAsking t k ms i).run P w' = .ok none w'
 | [],_,_=>by simp [Instr.findAsking]
 | m :: ms,i,h=>by
  have:=findAsk_none ms (i + 1) fun m' hm=>h m' (List.mem_cons_of_mem _ hm)
  simp [Instr.findAsking,h m List.mem_cons_self,Result.andThen,this]
theorem findAsk_some {t : TypeId} {k : Value} {w' : World} : ∀ (ms : List MapEntry) (i n : Nat) (m : MapEntry),ms[n]? = some m → (Op.equal t k m.key).run P w' = .ok true w' → (∀ (j : Nat) m',j < n → ms[j]? = some m' → (Op.equal t k m'.key).run P w' = .ok false w') → (Instr.findAsking t k ms i).run P w' = .ok (some (i + n,m.val)) w'
 | [],_,_,_,h,_,_=>by simp at h
 | x :: ms,i,0,m,h,h1,_=>by
  simp at h
  subst h
  simp [Instr.findAsking,h1,Result.andThen]
 | x :: ms,i,n + 1,m,h,h1,h2=>by
  have:=findAsk_some ms (i + 1) n m (by simpa using h) h1 fun j m' hj hm=>h2 (j + 1) m' (by omega) (by simpa using hm)
  simp [Instr.findAsking,h2 0 x (by omega) rfl,Result.andThen,this]
  omega
theorem key_pair {t : TypeId} {fs : Array Field} (hd : P.underlying t = some (.struct fs)) (hc : ∀ (a b : List UInt8) e w,(Instr.checkKey e 10000 t (.agg #[.string ⟨⟨a⟩⟩,.string ⟨⟨b⟩⟩])).run P w = .ok () w)
  (he : ∀ (a b c d : List UInt8) w,(Op.equal t (.agg #[.string ⟨⟨a⟩⟩,.string ⟨⟨b⟩⟩]) (.agg #[.string ⟨⟨c⟩⟩,.string ⟨⟨d⟩⟩])).run P w = .ok (a == c && b == d) w) (a b : List UInt8) : KeyT P t (.agg [.str a,.str b]):=by
 intro w w' I u hu
 have hu':=rep_pair hu
 subst hu'
 have mk : ∀ (a b : List UInt8) (w2 : World),rep w2 (fun _=>False) (.agg #[.string ⟨⟨a⟩⟩,.string ⟨⟨b⟩⟩]) (.agg [.str a,.str b]):=fun a b w2=>.agg rfl fun j u p h1 h2=>by
  match j,h1,h2 with
  | 0,h1,h2=>simp at h1 h2; subst h1; subst h2; exact .str a
  | 1,h1,h2=>simp at h1 h2; subst h1; subst h2; exact .str b
  | n + 2,h1,_=>simp at h1
 have ask : ∀ (ms : List MapEntry),(Instr.findKey t (.agg #[.string ⟨⟨a⟩⟩,.string ⟨⟨b⟩⟩]) ms).run P w' = (Instr.findAsking t (.agg #[.string ⟨⟨a⟩⟩,.string ⟨⟨b⟩⟩]) ms).run P w':=fun ms=>by
  cases ms with
  | nil=>simp [Instr.findKey,run_underlying hd,Result.andThen,Instr.findNow,Instr.findAsking]
  | cons m ms=>simp [Instr.findKey,run_underlying hd,Result.andThen,Instr.findNow,Instr.sameNow]
 have eq : ∀ (x : Value) (q : PV) (c : Bool),rep w (fun _=>False) x q → keyEq (.agg [.str a,.str b]) q = some c → (Op.equal t (.agg #[.string ⟨⟨a⟩⟩,.string ⟨⟨b⟩⟩]) x).run P w' = .ok c w' ∧ (c = true → x = .agg #[.string ⟨⟨a⟩⟩,.string ⟨⟨b⟩⟩]):=by
  intro x q c hx hq
  obtain ⟨c',d',rfl⟩ : ∃ c' d',q = .agg [.str c',.str d']:=by
   unfold keyEq at hq
   split at hq
   ·rename_i h; cases h
   ·rename_i h; cases h
   ·exact ⟨_,_,rfl⟩
   ·cases hq
  simp only [keyEq] at hq
  have:=rep_pair hx
  subst this
  injection hq with hq
  subst hq
  refine ⟨he _ _ _ _ _,fun h=>?_⟩
  rw [Bool.and_eq_true] at h
  have q1 : a = c':=by simpa using h.1
  have q2 : b = d':=by simpa using h.2
  rw [q1,q2]
 refine ⟨mk a b,fun e=>hc a b e w',fun ms ks hl hk=>⟨fun hq=>?_,fun i m q hm hq hqe hbe=>?_⟩⟩
 ·rw [ask]
  refine findAsk_none ms 0 fun m hm=>?_
  obtain ⟨i,hi⟩:=List.getElem?_of_mem hm
  have hlt:=(List.getElem?_eq_some_iff.1 hi).1
  have hki:=List.getElem?_eq_getElem (l:=ks) (i:=i) (by omega)
  exact (eq m.key _ false (hk i m _ hi hki) (hq _ (List.getElem_mem _))).1
 ·obtain ⟨s1,s2⟩:=eq m.key q true (hk i m q hm hq) hqe
  rw [ask]
  have:=findAsk_some (P:=P) (w':=w') ms 0 i m hm s1 fun j m' hj hm'=>by
   have hlt:=(List.getElem?_eq_some_iff.1 hm').1
   have hki:=List.getElem?_eq_getElem (l:=ks) (i:=j) (by omega)
   exact (eq m'.key _ false (hk j m' _ hm' hki) (hbe j _ hj hki)).1
  rw [Nat.zero_add] at this
  refine ⟨this,?_⟩
  rw [s2 rfl]
  simp [Instr.keyThatStays,Instr.sameBits,bytes_same]
end
def makeMapW (lab : Nat) (k : Eff → Prop) : Prop:=k ⟨some (.map lab),[(lab,some (.map []))]⟩
def lkV (ok : Bool) (z : Value) : Option (Nat × AV) → Option PV
 | some (_,.p x)=>some (if ok = true then .tuple [x,.bool true] else x)
 | none=>match constAV z with | .p x=>some (if ok = true then .tuple [x,.bool false] else x) | _=>none
 | _=>none
section
variable {P : Program} {o : Oper} {a : Act} {w : World} {σ : Lab} {I : Nat → Prop} {T : Nat → Option AV} {H : Nat → Option Blk} {w0 : World} {X I0 : Nat → Prop} {lab : Nat} {k : Eff → Prop}
theorem snd_makeMap (h : In σ w I T H w0 X I0 a lab) {t : TypeId} (ho : o.op = .makeMap t none) (hk : makeMapW lab k) : Snd P o a w σ I H w0 X I0 lab k:=by
 have ext : ∀ l s,σ l = some s → upd σ lab (some (.obj w.heap.size)) l = some s:=fun l s hl=>by
  rw [upd_ne _ _ (by rintro rfl; rw [h.lab] at hl; cases hl)]
  exact hl
 have old : ∀ b,I b → (w.alloc (.map #[] 0)).heap[b]? = w.heap[b]?:=fun b hb=>by
  have:=(h.heap.imm b hb).1
  show (w.heap.push _)[b]? = _
  rw [Array.getElem?_push,if_neg (by omega)]
 have hget : (w.alloc (.map #[] 0)).heap[w.heap.size]? = some (.map #[] 0):=by
  show (w.heap.push _)[w.heap.size]? = _
  simp
 refine Snd.of (w':=w.alloc (.map #[] 0)) (v:=.map (some w.heap.size)) ?_ ⟨h.heap.alloc (w':=w.alloc (.map #[] 0)) rfl rfl rfl rfl h.lab rfl (.map (k:=0) (ms:=#[]) (upd_same _ _ _) hget rfl (fun i m e q=>by simp at q)),ext,fun l hl=>upd_ne _ _ hl,fun _ h=>h,old,fun x hx=>by injection hx with hx; subst hx; exact .map (upd_same _ _ _)⟩ hk
 simp [execOp,ho,Instr.makeMap]
def lookupW (P : Program) (t : TypeId) (ok : Bool) (x i : Option AV) (H : Nat → Option Blk) (k : Eff → Prop) : Prop :=
 match x with
 | some (.map l)=>match i,P.underlying t,H l with
  | some (.p p),some (.map kt et),some (.map es)=>match tz1 P et with
   | some z=>KeyT P kt p ∧ ∃ r,MapAt es p r ∧ ∃ v,lkV ok z r = some v ∧ k ⟨some (.p v),[]⟩
   | none=>False
  | _,_,_=>False
 | _=>False
theorem repA_p {v : Value} {x : PV} (h : repA σ w I v (.p x)) : rep w I v x:=by
 cases h with
 | p h=>exact h
theorem map_block {l : Nat} {es : List (PV × AV)} {v : Value} (hb : repB σ w I l (.map es)) (hv : repA σ w I v (.map l)) : ∃ g ms c,v = .map (some g) ∧ σ l = some (.obj g) ∧ w.heap[g]? = some (.map ms c) ∧ ms.size = es.length ∧
  ∀ (i : Nat) m e,ms[i]? = some m → es[i]? = some e → rep w (fun _=>False) m.key e.1 ∧ repA σ w I m.val e.2:=by
 cases hb with
 | map h' hg hn hr =>
  cases hv with
  | map hs =>
   rw [hs] at h'
   injection h' with h'
   injection h' with h'
   subst h'
   exact ⟨_,_,_,rfl,hs,hg,hn,hr⟩
theorem key_found {kt : TypeId} {p : PV} {u : Value} (hk : KeyT P kt p) (hu : rep w I u p) {ms : Array MapEntry} {es : List (PV × AV)} (hn : ms.size = es.length) (hr : ∀ (i : Nat) m e,ms[i]? = some m → es[i]? = some e → rep w (fun _=>False) m.key e.1 ∧ repA σ w I m.val e.2) :
  (∀ b,(Instr.checkKey b 10000 kt u).run P w = .ok () w) ∧ (MapAt es p none → (Instr.findKey kt u ms.toList).run P w = .ok none w) ∧
  (∀ i v,MapAt es p (some (i,v)) → ∃ m e,ms[i]? = some m ∧ es[i]? = some e ∧ e.2 = v ∧ keyEq p e.1 = some true ∧ (Instr.findKey kt u ms.toList).run P w = .ok (some (i,m.val)) w ∧ (Instr.keyThatStays m.key u).run P w = .ok u w):=by
 obtain ⟨_,h2,h3⟩:=hk w w I u hu
 have hks : ∀ (i : Nat) m q,ms.toList[i]? = some m → (es.map (·.1))[i]? = some q → rep w (fun _=>False) m.key q:=fun i m q q1 q2=>by
  rw [List.getElem?_map,Option.map_eq_some_iff] at q2
  obtain ⟨e,he,rfl⟩:=q2
  exact (hr i m e (by simpa using q1) he).1
 obtain ⟨f1,f2⟩:=h3 ms.toList (es.map (·.1)) (by simp [hn]) hks
 refine ⟨h2,fun h=>f1 fun q hq=>?_,fun i v ⟨e,he,hv,heq,hbe⟩=>?_⟩
 ·obtain ⟨e,he,rfl⟩:=List.mem_map.1 hq
  exact h e he
 ·have hi : i < ms.size:=by rw [hn]; exact (List.getElem?_eq_some_iff.1 he).1
  obtain ⟨g1,g2⟩:=f2 i ms[i] e.1 (by simp [hi]) (by rw [List.getElem?_map,he]; rfl) heq fun j q' hj hq'=>by
   rw [List.getElem?_map,Option.map_eq_some_iff] at hq'
   obtain ⟨e',he',rfl⟩:=hq'
   exact hbe j e' hj he'
  exact ⟨ms[i],e,Array.getElem?_eq_getElem hi,he,hv,heq,g1,g2⟩
theorem snd_lookup (h : In σ w I T H w0 X I0 a lab) {t : TypeId} {x i : Operand} {ok : Bool} (ho : o.op = .lookup t x i ok) (hk : lookupW P t ok (ev T x) (ev T i) H k) : Snd P o a w σ I H w0 X I0 lab k:=by
 unfold lookupW at hk
 split at hk
 ·rename_i l hx
  split at hk
  ·rename_i p kt et es hi hu hH
   split at hk
   ·rename_i z hz
    obtain ⟨hkey,r,hr,v,hv,hk⟩:=hk
    have hxv:=h.ev hx
    have hiv:=h.ev hi
    generalize hxe : a.eval x = xv at hxv
    generalize hie : a.eval i = iv at hiv
    cases hiv with
    | p hiv =>
    obtain ⟨g,ms,c,rfl,hs,hg,hn,hrr⟩:=map_block (h.heap.rows l _ hH) hxv
    obtain ⟨k1,k2,k3⟩:=key_found hkey hiv hn hrr
    have run0 : ∀ q,(Instr.findKey kt iv ms.toList).run P w = .ok q w → (execOp a.eval o).run P w = match q with
      | some (_,y)=>.ok (.value (if ok = true then .tuple #[y,.bool true] else y)) w
      | none=>.ok (.value (if ok = true then .tuple #[z,.bool false] else z)) w:=fun q hq=>by
     simp only [execOp,ho,hxe,hie,Instr.lookup,Sem.run_bind,run_underlying' hu,Result.andThen_ok,MapKept.run_getObj_map hg,Sem.run_pure,k1,hq]
     cases q with
     | none=>simp [run_zero1 hz w,Result.andThen]
     | some y=>simp [Result.andThen]
    cases r with
    | none =>
     have:=run0 none (k2 hr)
     refine Snd.val h this ?_ hk
     simp only [lkV] at hv
     split at hv
     ·rename_i y hy
      have hz':=repA_const σ w I z
      rw [hy] at hz'
      cases hz' with
      | p hz' =>
      injection hv with hv
      subst hv
      cases ok with
      | true =>
       refine .p (.tuple rfl fun j u' q h1 h2=>?_)
       match j,h1,h2 with
       | 0,h1,h2=>simp at h1 h2; subst h1; subst h2; exact hz'
       | 1,h1,h2=>simp at h1 h2; subst h1; subst h2; exact .bool false
       | n + 2,h1,_=>simp at h1
      | false=>exact .p hz'
     ·cases hv
    | some r =>
     obtain ⟨i',v'⟩:=r
     obtain ⟨m,e,hm,he,rfl,heq,hf,_⟩:=k3 i' v' hr
     have:=run0 _ hf
     refine Snd.val h this ?_ hk
     have hmv:=(hrr i' m e hm he).2
     generalize e.2 = y at hmv hv
     cases y <;> simp only [lkV,reduceCtorEq] at hv
     injection hv with hv
     subst hv
     replace hmv:=repA_p hmv
     cases ok with
     | true =>
      refine .p (.tuple rfl fun j u' q h1 h2=>?_)
      match j,h1,h2 with
      | 0,h1,h2=>simp at h1 h2; subst h1; subst h2; exact hmv
      | 1,h1,h2=>simp at h1 h2; subst h1; subst h2; exact .bool true
      | n + 2,h1,_=>simp at h1
     | false=>exact .p hmv
   ·exact hk.elim
  ·exact hk.elim
 ·exact hk.elim
def mapUpdateW (P : Program) (t : TypeId) (x i v : Option AV) (H : Nat → Option Blk) (k : Eff → Prop) : Prop :=
 match x with
 | some (.map l)=>match i,v,P.underlying t,H l with
  | some (.p p),some y,some (.map kt _),some (.map es)=>KeyT P kt p ∧ ∃ r,MapAt es p r ∧ k ⟨none,[(l,some (.map (match r with | some (j,_)=>es.set j (p,y) | none=>es ++ [(p,y)])))]⟩
  | _,_,_,_=>False
 | _=>False
theorem setIf_other (w : World) (g : Nat) (o : Obj) (b : Nat) (h : b ≠ g) : (w.heap.setIfInBounds g o)[b]? = w.heap[b]?:=by
 simp [Ne.symm h]
theorem snd_mapUpdate (h : In σ w I T H w0 X I0 a lab) {t : TypeId} {x i v : Operand} (ho : o.op = .mapUpdate t x i v) (hk : mapUpdateW P t (ev T x) (ev T i) (ev T v) H k) : Snd P o a w σ I H w0 X I0 lab k:=by
 unfold mapUpdateW at hk
 split at hk
 ·rename_i l hx
  split at hk
  ·rename_i p y kt et es hi hy hu hH
   obtain ⟨hkey,r,hr,hk⟩:=hk
   have hxv:=h.ev hx
   have hiv:=h.ev hi
   have hyv:=h.ev hy
   generalize hxe : a.eval x = xv at hxv
   generalize hie : a.eval i = iv at hiv
   generalize hye : a.eval v = yv at hyv
   cases hiv with
   | p hiv =>
   obtain ⟨g,ms,c,rfl,hs,hg,hn,hrr⟩:=map_block (h.heap.rows l _ hH) hxv
   obtain ⟨k1,k2,k3⟩:=key_found hkey hiv hn hrr
   obtain ⟨kr,_,_⟩:=hkey w w I iv hiv
   obtain ⟨hni,_⟩:=h.heap.mine l g _ (by rw [hH]; simp) hs rfl
   have hlt : g < w.heap.size:=(Array.getElem?_eq_some_iff.1 hg).1
   have fin : ∀ (ms' : Array MapEntry) (c' : Nat) (es' : List (PV × AV)),(execOp a.eval o).run P w = .ok .skip { w with heap:=w.heap.setIfInBounds g (.map ms' c') } → ms'.size = es'.length →
     (∀ (i : Nat) m e,ms'[i]? = some m → es'[i]? = some e → rep w (fun _=>False) m.key e.1 ∧ repA σ w I m.val e.2) → k ⟨none,[(l,some (.map es'))]⟩ → Snd P o a w σ I H w0 X I0 lab k:=by
    intro ms' c' es' hrun hn' hr' hk'
    have hsame : ∀ b,I b → ({ w with heap:=w.heap.setIfInBounds g (.map ms' c') } : World).heap[b]? = w.heap[b]?:=fun b hb=>setIf_other w g _ b (fun e=>hni (e ▸ hb))
    refine Snd.skip hrun ⟨?_,fun _ _ h=>h,fun _ _=>rfl,fun _ h=>h,hsame,fun x hx=>by cases hx⟩ hk'
    have hat : ({ w with heap:=w.heap.setIfInBounds g (.map ms' c') } : World).heap[g]? = some (.map ms' c'):=by
     show (w.heap.setIfInBounds g _)[g]? = _
     simp [hlt]
    refine h.heap.write (w':={ w with heap:=w.heap.setIfInBounds g (.map ms' c') }) (s:=.obj g) (g:=g) (by rw [hH]; simp) hs rfl (fun b hb=>setIf_other w g _ b hb) (by simp) rfl rfl rfl
     (.map hs hat hn' fun i m e q1 q2=>⟨((hr' i m e q1 q2).1).mono (fun _ h=>h) (fun b hb=>hb.elim),((hr' i m e q1 q2).2).mono (fun _ _ h=>h) (fun _ h=>h) hsame⟩)
   cases r with
   | none =>
    refine fin (ms.push { key:=iv,val:=yv,born:=c }) (c + 1) (es ++ [(p,y)]) ?_ (by simp [hn]) (fun i m e q1 q2=>?_) hk
    ·have:=k2 hr
     simp only [execOp,ho,hxe,hie,hye,Instr.mapUpdate,Sem.run_bind,run_underlying' hu,Result.andThen_ok,MapKept.run_getObj_map hg,Sem.run_pure,k1,this,MapKept.run_setObj_map _ hg]
    ·rcases Nat.lt_or_ge i ms.size with hi' | hi'
     ·rw [Array.getElem?_push,if_neg (by omega)] at q1
      rw [List.getElem?_append_left (by omega)] at q2
      exact hrr i m e q1 q2
     ·rw [List.getElem?_append_right (by omega)] at q2
      have hi2 : i - es.length = 0:=by
       have:=(List.getElem?_eq_some_iff.1 q2).1
       simp at this; omega
      rw [hi2] at q2
      rw [Array.getElem?_push,if_pos (by omega)] at q1
      simp at q1 q2
      subst q1 q2
      exact ⟨kr w,hyv⟩
   | some r =>
    obtain ⟨j,v'⟩:=r
    obtain ⟨m0,e0,hm0,he0,rfl,heq,hf,hst⟩:=k3 j v' hr
    refine fin (ms.modify j fun e=>{ e with key:=iv,val:=yv }) c (es.set j (p,y)) ?_ (by simp [hn]) (fun i m e q1 q2=>?_) hk
    ·simp only [execOp,ho,hxe,hie,hye,Instr.mapUpdate,Sem.run_bind,run_underlying' hu,Result.andThen_ok,MapKept.run_getObj_map hg,Sem.run_pure,k1,hf,hm0,Option.map_some,Option.getD_some,hst,MapKept.run_setObj_map _ hg]
    ·rw [Array.getElem?_modify] at q1
     by_cases hij : i = j
     ·subst hij
      rw [if_pos rfl,hm0,Option.map_some] at q1
      rw [List.getElem?_set_self (by rw [← hn]; exact (Array.getElem?_eq_some_iff.1 hm0).1)] at q2
      simp at q1 q2
      subst q1 q2
      exact ⟨kr w,hyv⟩
     ·rw [if_neg (fun h=>hij h.symm)] at q1
      rw [List.getElem?_set_ne (fun h=>hij h.symm)] at q2
      exact hrr i m e q1 q2
  ·exact hk.elim
 ·exact hk.elim
def rangeW (P : Program) (lab : Nat) (t : TypeId) (x : Option AV) (k : Eff → Prop) : Prop :=
 match P.underlying t,x with
 | some .string,some (.p (.str s))=>k ⟨some (.it lab),[(lab,some (.iter s 0))]⟩
 | _,_=>False
theorem snd_range (h : In σ w I T H w0 X I0 a lab) {t : TypeId} {x : Operand} (ho : o.op = .range t x) (hk : rangeW P lab t (ev T x) k) : Snd P o a w σ I H w0 X I0 lab k:=by
 unfold rangeW at hk
 split at hk
 ·rename_i s hu hx
  have hxv:=h.ev hx
  generalize hxe : a.eval x = xv at hxv
  cases hxv with
  | p hxv =>
  cases hxv with
  | str =>
  have ext : ∀ l s,σ l = some s → upd σ lab (some (.obj w.heap.size)) l = some s:=fun l s hl=>by
   rw [upd_ne _ _ (by rintro rfl; rw [h.lab] at hl; cases hl)]
   exact hl
  have old : ∀ b,I b → (w.alloc (.stringIter ⟨⟨s⟩⟩ 0)).heap[b]? = w.heap[b]?:=fun b hb=>by
   have:=(h.heap.imm b hb).1
   show (w.heap.push _)[b]? = _
   rw [Array.getElem?_push,if_neg (by omega)]
  have hget : (w.alloc (.stringIter ⟨⟨s⟩⟩ 0)).heap[w.heap.size]? = some (.stringIter ⟨⟨s⟩⟩ 0):=by
   show (w.heap.push _)[w.heap.size]? = _
   simp
  refine Snd.of (w':=w.alloc (.stringIter ⟨⟨s⟩⟩ 0)) (v:=.pointer (some ⟨w.heap.size,0,none⟩)) ?_ ⟨h.heap.alloc (w':=w.alloc (.stringIter ⟨⟨s⟩⟩ 0)) rfl rfl rfl rfl h.lab rfl (.iter (upd_same _ _ _) hget),ext,fun l hl=>upd_ne _ _ hl,fun _ h=>h,old,fun x hx=>by injection hx with hx; subst hx; exact .it (upd_same _ _ _)⟩ hk
  simp [execOp,ho,hxe,Instr.range,run_underlying' hu,Result.andThen]
 ·exact hk.elim
def runeAt (s : List UInt8) (p : Nat) : Nat × Nat:=Utf8.decode ⟨⟨s⟩⟩ p
def nextW (x : Option AV) (H : Nat → Option Blk) (k : Eff → Prop) : Prop :=
 match x with
 | some (.it l)=>match H l with
  | some (.iter s p)=>if p < s.length then k ⟨some (.p (.tuple [.bool true,.int .i64 (p : Int),.int .i32 ((runeAt s p).1 : Int)])),[(l,some (.iter s (p + (runeAt s p).2)))]⟩ else k ⟨some (.p (.tuple [.bool false])),[(l,some (.iter s p))]⟩
  | _=>False
 | _=>False
theorem snd_next (h : In σ w I T H w0 X I0 a lab) {x : Operand} (ho : o.op = .next x true) (hk : nextW (ev T x) H k) : Snd P o a w σ I H w0 X I0 lab k:=by
 unfold nextW at hk
 split at hk
 ·rename_i l hx
  split at hk
  ·rename_i s p hH
   have hxv:=h.ev hx
   generalize hxe : a.eval x = xv at hxv
   have hb:=h.heap.rows l _ hH
   cases hb with
   | iter h' hg =>
   cases hxv with
   | it hs =>
   rw [hs] at h'
   injection h' with h'
   injection h' with h'
   subst h'
   rename_i g
   obtain ⟨hni,_⟩:=h.heap.mine l g _ (by rw [hH]; simp) hs rfl
   have hlt : g < w.heap.size:=(Array.getElem?_eq_some_iff.1 hg).1
   have hsz : (⟨⟨s⟩⟩ : ByteArray).size = s.length:=rfl
   have hget : (getObj g).run P w = .ok (.stringIter ⟨⟨s⟩⟩ p) w:=by simp [getObj,Sem.run,hg]
   split at hk
   ·rename_i hp
    have hset : ∀ o,(setObj g o).run P w = .ok () { w with heap:=w.heap.setIfInBounds g o }:=fun o=>by simp [setObj,Sem.run,hg]
    have hsame : ∀ b,I b → ({ w with heap:=w.heap.setIfInBounds g (.stringIter ⟨⟨s⟩⟩ (p + (runeAt s p).2)) } : World).heap[b]? = w.heap[b]?:=fun b hb=>setIf_other w g _ b (fun e=>hni (e ▸ hb))
    refine Snd.of (v:=.tuple #[.bool true,.int .i64 (p : Int),.int .i32 ((runeAt s p).1 : Int)]) (w':={ w with heap:=w.heap.setIfInBounds g (.stringIter ⟨⟨s⟩⟩ (p + (runeAt s p).2)) }) ?_ ⟨?_,fun _ _ h=>h,fun _ _=>rfl,fun _ h=>h,hsame,fun x hx=>by
     injection hx with hx
     subst hx
     refine .p (.tuple rfl fun j u' q h1 h2=>?_)
     match j,h1,h2 with
     | 0,h1,h2=>simp at h1 h2; subst h1; subst h2; exact .bool true
     | 1,h1,h2=>simp at h1 h2; subst h1; subst h2; exact .int _ _
     | 2,h1,h2=>simp at h1 h2; subst h1; subst h2; exact .int _ _
     | n + 3,h1,_=>simp at h1⟩ hk
    ·simp only [execOp,ho,hxe,Instr.next,Sem.run_bind,hget,Result.andThen_ok]
     rw [hsz,if_pos hp]
     simp only [Sem.run_bind,hset,Result.andThen_ok,Sem.run_pure,runeAt,goInt]
    ·have hat : ({ w with heap:=w.heap.setIfInBounds g (.stringIter ⟨⟨s⟩⟩ (p + (runeAt s p).2)) } : World).heap[g]? = some (.stringIter ⟨⟨s⟩⟩ (p + (runeAt s p).2)):=by
      show (w.heap.setIfInBounds g _)[g]? = _
      simp [hlt]
     exact h.heap.write (w':={ w with heap:=w.heap.setIfInBounds g (.stringIter ⟨⟨s⟩⟩ (p + (runeAt s p).2)) }) (s:=.obj g) (g:=g) (by rw [hH]; simp) hs rfl (fun b hb=>setIf_other w g _ b hb) (by simp) rfl rfl rfl (.iter hs hat)
   ·rename_i hp
    refine Snd.of (v:=.tuple #[.bool false]) (w':=w) ?_ ⟨?_,fun _ _ h=>h,fun _ _=>rfl,fun _ h=>h,fun _ _=>rfl,fun x hx=>by
     injection hx with hx
     subst hx
     refine .p (.tuple rfl fun j u' q h1 h2=>?_)
     match j,h1,h2 with
     | 0,h1,h2=>simp at h1 h2; subst h1; subst h2; exact .bool false
     | n + 1,h1,_=>simp at h1⟩ hk
    ·simp only [execOp,ho,hxe,Instr.next,Sem.run_bind,hget,Result.andThen_ok]
     rw [hsz,if_neg hp]
     simp [Result.andThen]
    ·exact h.heap.write (s:=.obj g) (g:=g) (by rw [hH]; simp) hs rfl (fun b hb=>rfl) rfl rfl rfl rfl (.iter hs hg)
  ·exact hk.elim
 ·exact hk.elim
end
end Go.Aw
