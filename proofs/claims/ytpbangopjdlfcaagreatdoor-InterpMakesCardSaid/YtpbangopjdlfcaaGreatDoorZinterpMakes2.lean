/- What the law LawInterpMakes leans on, joined (part 2). -/
import Derived.Test.YtpbangopjdlfcaaGreatDoorZinterpMakes1
set_option linter.unusedSimpArgs false
set_option linter.unusedVariables false
set_option maxRecDepth 100000
set_option maxHeartbeats 8000000
namespace Go.Aw
open Go.RowKit
def enters (P : Program) (f : FuncId) : Bool:=match P.funcs[f]? with
 | some fn => fn.body.isSome && fn.name != "runtime.NumGoroutine"
 | none=>false
def PFn (P : Program) (f : FuncId) (args : List PV) (r : PV) : Prop :=
 enters P f = true ∧ ∀ (w : World) (I : Nat → Prop) (vals : Array Value),vals.size = args.length → (∀ (j : Nat) u p,vals[j]? = some u → args[j]? = some p → rep w I u p) → (∀ g,I g → g < w.heap.size) → tabOK w I →
  Calls P f vals w (fun e w'=>∃ v,e = .returned v ∧ Fr w (fun _=>False) w' ∧ rep w' (fun g=>I g ∨ (w.heap.size ≤ g ∧ g < w'.heap.size)) v r)
def pure1 : AV → Option PV
 | .p x=>some x
 | .ex es=>some (.slice es)
 | .vw es _=>some (.slice es)
 | .fn f []=>some (.cst (.func (.func f) #[] #[]))
 | _=>none
def pureL : List AV → Option (List PV)
 | []=>some []
 | x :: l=>match pure1 x,pureL l with | some y,some m=>some (y :: m) | _,_=>none
def pureA : AV → Option PV
 | .agg cs=>match pureL cs with | some ps=>some (.agg ps) | none=>none
 | x=>pure1 x
def unlift : List (List AV) → Option (List (List PV))
 | []=>some []
 | e :: r=>match pureL e,unlift r with | some p,some l=>some (p :: l) | _,_=>none
def frzA (H : Nat → Option Blk) : AV → Option (PV × Nat)
 | .own l=>match H l with
  | some (.row _ es)=>match unlift es with | some ps=>some (.slice ps,l) | none=>none
  | _=>none
 | .ptr l i off=>match H l with
  | some (.row _ es)=>match es[i]? with
   | some e=>match pureL e,unlift es with | some ps,some _=>some (.box ps off,l) | _,_=>none
   | none=>none
  | _=>none
 | _=>none
def pureArgs (T : Nat → Option AV) (H : Nat → Option Blk) : List Operand → Option (List PV × List (Nat × Option Blk))
 | []=>some ([],[])
 | x :: l=>match ev T x with
  | some v=>match pureA v with
   | some y=>match pureArgs T H l with | some (m,us)=>some (y :: m,us) | none=>none
   | none=>match frzA H v with
    | some (y,lb)=>match pureArgs T (upd H lb none) l with | some (m,us)=>some (y :: m,(lb,none) :: us) | none=>none
    | none=>none
  | none=>none
section
variable {P : Program} {o : Oper} {a : Act} {w : World} {σ : Lab} {I : Nat → Prop} {T : Nat → Option AV} {H : Nat → Option Blk} {w0 : World} {X I0 : Nat → Prop} {lab : Nat} {k : Eff → Prop}
theorem rep_front {ad : Option Addr} {m c n : Nat} {es more : List (List PV)} (hn : n = es.length) (hm : m = n + more.length) (hc : m ≤ c) (h : rep w I (.slice ad m c) (.slice (es ++ more))) : rep w I (.slice ad n c) (.slice es):=by
 generalize hx : es ++ more = xs at h
 cases h with
 | empty =>
  have : es = []:=(List.append_eq_nil_iff.1 hx).1
  subst this hn
  exact .empty _ _
 | slice b o _ _ sz _ us h1 h2 hs hI ho hcell hrep =>
  subst hx
  have up : ∀ i e,es[i]? = some e → (es ++ more)[i]? = some e:=fun i e h=>by
   rw [List.getElem?_append_left (List.getElem?_eq_some_iff.1 h).1]; exact h
  exact .slice b o n c sz es us hn (by omega) (fun e he=>hs e (List.mem_append_left _ he)) hI (fun e he=>ho e (List.mem_append_left _ he)) (fun i e j p q1 q2=>hcell i e j p (up i e q1) q2) fun i e j p q1 q2=>hrep i e j p (up i e q1) q2
theorem rep_pure1 {v : Value} {x : AV} {p : PV} (h : repA σ w I v x) (hp : pure1 x = some p) : rep w I v p:=by
 unfold pure1 at hp
 split at hp
 ·injection hp with hp; subst hp
  cases h with
  | p h=>exact h
 ·injection hp with hp; subst hp
  cases h with
  | ex hn h=>exact h
 ·injection hp with hp; subst hp
  cases h with
  | vw hn hm hc h=>exact rep_front hn hm hc h
 ·injection hp with hp; subst hp
  cases h with
  | fn f hs hr =>
   have : ∀ (vs : Array Value),vs.size = 0 → vs = #[]:=fun vs h=>Array.eq_empty_of_size_eq_zero h
   rw [this _ hs]
   exact .cst _
 ·cases hp
theorem pureL_spec : ∀ {l : List AV} {m : List PV},pureL l = some m → l.length = m.length ∧ ∀ (j : Nat) x p,l[j]? = some x → m[j]? = some p → pure1 x = some p:=by
 intro l
 induction l with
 | nil=>intro m h; simp only [pureL] at h; injection h with h; subst h; exact ⟨rfl,fun j x p h _=>by simp at h⟩
 | cons x l ih =>
  intro m h
  simp only [pureL] at h
  split at h
  ·rename_i y m' hy hm
   injection h with h; subst h
   obtain ⟨h1,h2⟩:=ih hm
   refine ⟨by simp [h1],fun j z p q1 q2=>?_⟩
   rcases j with _ | j
   ·simp at q1 q2; subst q1 q2; exact hy
   ·exact h2 j z p (by simpa using q1) (by simpa using q2)
  ·cases h
theorem rep_pureA {v : Value} {x : AV} {p : PV} (h : repA σ w I v x) (hp : pureA x = some p) : rep w I v p:=by
 unfold pureA at hp
 split at hp
 ·split at hp
  ·rename_i ps hps
   injection hp with hp; subst hp
   obtain ⟨h1,h2⟩:=pureL_spec hps
   cases h with
   | agg hs hr =>
    refine .agg (hs.trans h1) fun j u p q1 q2=>?_
    have hj:=(List.getElem?_eq_some_iff.1 q2).1
    rw [← h1] at hj
    exact rep_pure1 (hr j u _ q1 (List.getElem?_eq_getElem hj)) (h2 j _ p (List.getElem?_eq_getElem hj) q2)
  ·cases hp
 ·exact rep_pure1 h hp
theorem unlift_spec : ∀ {es : List (List AV)} {ps : List (List PV)},unlift es = some ps → es.length = ps.length ∧ ∀ (i : Nat) e q,es[i]? = some e → ps[i]? = some q → pureL e = some q:=by
 intro es
 induction es with
 | nil=>intro ps h; simp only [unlift] at h; injection h with h; subst h; exact ⟨rfl,fun i e q h _=>by simp at h⟩
 | cons x l ih =>
  intro ps h
  simp only [unlift] at h
  split at h
  ·rename_i y m' hy hm
   injection h with h; subst h
   obtain ⟨h1,h2⟩:=ih hm
   refine ⟨by simp [h1],fun j z p q1 q2=>?_⟩
   rcases j with _ | j
   ·simp at q1 q2; subst q1 q2; exact hy
   ·exact h2 j z p (by simpa using q1) (by simpa using q2)
  ·cases h
theorem pure1_one {x : AV} {p : PV} (h : pure1 x = some p) (hx : x.one = true) : p.one = true:=by
 unfold pure1 at h
 split at h
 ·injection h with h; subst h; exact hx
 ·injection h with h; subst h; rfl
 ·injection h with h; subst h; rfl
 ·injection h with h; subst h; rfl
 ·cases h
theorem rep_own {J : Nat → Prop} {l sz : Nat} {es : List (List AV)} {ps : List (List PV)} {v : Value} (hb : repB σ w I l (.row sz es)) (hv : repA σ w I v (.own l)) (hp : unlift es = some ps) (hg : ∀ g s,σ l = some s → s.block = some g → J g) (hI : ∀ b,I b → J b) : rep w J v (.slice ps):=by
 obtain ⟨hl,hcells⟩:=unlift_spec hp
 cases hb with
 | emp h' =>
  have : ps = []:=List.eq_nil_of_length_eq_zero (by rw [← hl]; rfl)
  subst this
  cases hv with
  | ownE hs=>exact .empty _ _
  | own hs=>rw [hs] at h'; cases h'
 | row h' hh hcur hc hs ho hr =>
  rename_i g0 c0 cur et
  cases hv with
  | ownE hs'=>rw [hs'] at h'; cases h'
  | own hs' =>
   rename_i g n c szz
   rw [hs'] at h'
   injection h' with h'
   injection h' with e1 e2 e3 e4
   subst e1 e2 e3 e4
   have at_ : ∀ (i : Nat) q (j : Nat) p,ps[i]? = some q → q[j]? = some p → ∃ e x,es[i]? = some e ∧ e[j]? = some x ∧ pure1 x = some p:=by
    intro i q j p h1 h2
    have hi : i < es.length:=by rw [hl]; exact (List.getElem?_eq_some_iff.1 h1).1
    have he:=List.getElem?_eq_getElem hi
    obtain ⟨k1,k2⟩:=pureL_spec (hcells i _ q he h1)
    have hj : j < (es[i]).length:=by rw [k1]; exact (List.getElem?_eq_some_iff.1 h2).1
    exact ⟨_,_,he,List.getElem?_eq_getElem hj,k2 j _ p (List.getElem?_eq_getElem hj) h2⟩
   refine .slice g 0 _ _ szz ps (fun i j=>(w.cell? ⟨g,i * szz + j,none⟩).getD undef) hl (by omega) (fun q hq=>?_) (hg _ _ hs' rfl) (fun q hq p hp'=>?_) (fun i q j p h1 h2=>?_) (fun i q j p h1 h2=>?_)
   ·obtain ⟨i,hi,rfl⟩:=List.mem_iff_getElem.1 hq
    have hi' : i < es.length:=by omega
    rw [← (pureL_spec (hcells i _ _ (List.getElem?_eq_getElem hi') (List.getElem?_eq_getElem hi))).1]
    exact hs _ (List.getElem_mem hi')
   ·obtain ⟨i,hi,rfl⟩:=List.mem_iff_getElem.1 hq
    obtain ⟨j,hj,rfl⟩:=List.mem_iff_getElem.1 hp'
    obtain ⟨e,x,q1,q2,q3⟩:=at_ i _ j _ (List.getElem?_eq_getElem hi) (List.getElem?_eq_getElem hj)
    exact pure1_one q3 (ho e (List.mem_of_getElem? q1) x (List.mem_of_getElem? q2))
   ·obtain ⟨e,x,q1,q2,q3⟩:=at_ i q j p h1 h2
    obtain ⟨u,hu,hru⟩:=hr i e j x q1 q2
    have : w.cell? ⟨g,i * szz + j,none⟩ = some u:=by simp [World.cell?,hh,hu]
    rw [Nat.zero_add,this]
    rfl
   ·obtain ⟨e,x,q1,q2,q3⟩:=at_ i q j p h1 h2
    obtain ⟨u,hu,hru⟩:=hr i e j x q1 q2
    have : w.cell? ⟨g,i * szz + j,none⟩ = some u:=by simp [World.cell?,hh,hu]
    rw [this]
    exact (rep_pure1 hru q3).mono hI (fun _ _=>rfl)
theorem rep_frz {J : Nat → Prop} (h : HOK σ w I H w0 X I0) {v : Value} {x : AV} {p : PV} {lb : Nat} (hv : repA σ w I v x) (hp : frzA H x = some (p,lb)) (hg : ∀ g s,σ lb = some s → s.block = some g → J g) (hI : ∀ b,I b → J b) : rep w J v p ∧ H lb ≠ none:=by
 unfold frzA at hp
 split at hp
 ·rename_i l
  split at hp
  ·rename_i sz es hH
   split at hp
   ·rename_i ps hps
    simp only [Option.some.injEq,Prod.mk.injEq] at hp
    obtain ⟨rfl,rfl⟩:=hp
    exact ⟨rep_own (h.rows l _ hH) hv hps hg hI,by rw [hH]; simp⟩
   ·cases hp
  ·cases hp
 ·rename_i l i off
  split at hp
  ·rename_i sz es hH
   split at hp
   ·rename_i e he
    split at hp
    ·rename_i ps qs hps hqs
     simp only [Option.some.injEq,Prod.mk.injEq] at hp
     obtain ⟨rfl,rfl⟩:=hp
     refine ⟨?_,by rw [hH]; simp⟩
     obtain ⟨k1,k2⟩:=pureL_spec hps
     cases hv with
     | ptr hs =>
      rename_i g n c sz'
      have hb:=h.rows l _ hH
      have hb':=hb
      cases hb with
      | emp h'=>simp at he
      | row h' hh hcur hc hl ho hr =>
       have hs2:=hs
       rw [hs] at h'
       injection h' with h'
       injection h' with e1 e2 e3 e4
       subst e1 e2 e3 e4
       obtain ⟨_,hcell⟩:=row_cells hb' hs2 i e he
       have at_ : ∀ (j : Nat) p,ps[j]? = some p → ∃ x,e[j]? = some x ∧ pure1 x = some p:=by
        intro j p h2
        have hj : j < e.length:=by rw [k1]; exact (List.getElem?_eq_some_iff.1 h2).1
        exact ⟨_,List.getElem?_eq_getElem hj,k2 j _ p (List.getElem?_eq_getElem hj) h2⟩
       refine .box g (i * sz') off ps (fun j=>(w.cell? ⟨g,i * sz' + j,none⟩).getD undef) (hg _ _ hs2 rfl) (fun p hp'=>?_) (fun j p h2=>?_) (fun j p h2=>?_)
       ·obtain ⟨j,hj,rfl⟩:=List.mem_iff_getElem.1 hp'
        obtain ⟨x,q2,q3⟩:=at_ j _ (List.getElem?_eq_getElem hj)
        exact pure1_one q3 (ho e (List.mem_of_getElem? he) x (List.mem_of_getElem? q2))
       ·obtain ⟨x,q2,q3⟩:=at_ j p h2
        obtain ⟨u,hu,hru⟩:=hcell j x q2
        rw [hu]; rfl
       ·obtain ⟨x,q2,q3⟩:=at_ j p h2
        obtain ⟨u,hu,hru⟩:=hcell j x q2
        rw [hu]
        exact (rep_pure1 hru q3).mono hI (fun _ _=>rfl)
    ·cases hp
   ·cases hp
  ·cases hp
 ·cases hp
theorem pureArgs_spec (hev : ∀ (I' : Nat → Prop),(∀ b,I b → I' b) → ∀ x v,ev T x = some v → repA σ w I' (a.eval x) v) : ∀ {l : List Operand} {H : Nat → Option Blk} {I1 : Nat → Prop} {m : List PV} {us : List (Nat × Option Blk)},(∀ b,I b → I1 b) → HOK σ w I1 H w0 X I0 → pureArgs T H l = some (m,us) →
  ∃ I',(∀ b,I1 b → I' b) ∧ HOK σ w I' (putH H us) w0 X I0 ∧ l.length = m.length ∧ ∀ (j : Nat) x p,l[j]? = some x → m[j]? = some p → rep w I' (a.eval x) p:=by
 intro l
 induction l with
 | nil =>
  intro H I1 m us hI hh h
  simp only [pureArgs] at h
  simp only [Option.some.injEq,Prod.mk.injEq] at h
  obtain ⟨rfl,rfl⟩:=h
  exact ⟨I1,fun _ h=>h,hh,rfl,fun j x p h _=>by simp at h⟩
 | cons x l ih =>
  intro H I1 m us hI hh h
  simp only [pureArgs] at h
  split at h
  ·rename_i v hv
   split at h
   ·rename_i y hy
    split at h
    ·rename_i m' us' hm
     simp only [Option.some.injEq,Prod.mk.injEq] at h
     obtain ⟨rfl,rfl⟩:=h
     obtain ⟨I',h1,h2,h3,h4⟩:=ih hI hh hm
     refine ⟨I',h1,h2,by simp [h3],fun j z p q1 q2=>?_⟩
     rcases j with _ | j
     ·simp at q1 q2; subst q1 q2
      exact rep_pureA (hev I' (fun b hb=>h1 b (hI b hb)) x v hv) hy
     ·exact h4 j z p (by simpa using q1) (by simpa using q2)
    ·cases h
   ·split at h
    ·rename_i y lb hy
     split at h
     ·rename_i m' us' hm
      simp only [Option.some.injEq,Prod.mk.injEq] at h
      obtain ⟨rfl,rfl⟩:=h
      have hvr:=hev I1 hI x v hv
      have hn : H lb ≠ none:=by
       have:=rep_frz (J:=fun _=>True) hh hvr hy (fun _ _ _ _=>trivial) (fun _ _=>trivial)
       exact this.2
      obtain ⟨b0,hb0⟩:=Option.ne_none_iff_exists'.1 hn
      obtain ⟨s,hs,hlt⟩:=(hh.rows lb b0 hb0).block
      have key : ∃ I2 : Nat → Prop,(∀ b,I1 b → I2 b) ∧ HOK σ w I2 (upd H lb none) w0 X I0 ∧ ∀ g s',σ lb = some s' → s'.block = some g → I2 g:=by
       cases hsb : s.block with
       | none =>
        refine ⟨I1,fun _ h=>h,hh.less fun l b hb=>?_,fun g s' q1 q2=>?_⟩
        ·by_cases hl : l = lb
         ·subst hl; rw [upd_same] at hb; cases hb
         ·rwa [upd_ne _ _ hl] at hb
        ·rw [hs] at q1; injection q1 with q1; subst q1; rw [hsb] at q2; cases q2
       | some g =>
        refine ⟨_,fun _ h=>.inl h,hh.freeze hn hs hsb,fun g' s' q1 q2=>?_⟩
        rw [hs] at q1; injection q1 with q1; subst q1; rw [hsb] at q2; injection q2 with q2; exact .inr q2.symm
      obtain ⟨I2,k1,k2,k3⟩:=key
      obtain ⟨hr,_⟩:=rep_frz hh hvr hy k3 k1
      obtain ⟨I',h1,h2,h3,h4⟩:=ih (fun b hb=>k1 b (hI b hb)) k2 hm
      refine ⟨I',fun b hb=>h1 b (k1 b hb),h2,by simp [h3],fun j z p q1 q2=>?_⟩
      rcases j with _ | j
      ·simp at q1 q2; subst q1 q2
       exact hr.mono h1 (fun _ _=>rfl)
      ·exact h4 j z p (by simpa using q1) (by simpa using q2)
     ·cases h
    ·cases h
  ·cases h
theorem HOK.called (h : HOK σ w I H w0 X I0) {w' : World} (hf : Fr w (fun _=>False) w') : HOK σ w' (fun g=>I g ∨ (w.heap.size ≤ g ∧ g < w'.heap.size)) H w0 X I0 ∧ ∀ b,I b → w'.heap[b]? = w.heap[b]?:=by
 have old : ∀ b,b < w.heap.size → w'.heap[b]? = w.heap[b]?:=fun b hb=>hf.block b hb (fun h=>h)
 have hI : ∀ b,I b → w'.heap[b]? = w.heap[b]?:=fun b hb=>old b (h.imm b hb).1
 refine ⟨⟨fun l b hb=>?_,h.inj,fun l g s q1 q2 q3=>?_,fun g hg=>?_,fun g hg=>.inl (h.sub g hg),⟨hf.os.trans h.fr.os,hf.tape.trans h.fr.tape,hf.output.trans h.fr.output,Nat.le_trans h.fr.size hf.size,fun b hb hx=>?_,h.fr.step fun b cur et p hb hc=>hf.shape b cur et p hc⟩⟩,hI⟩
 ·obtain ⟨s,hs',hlt⟩:=(h.rows l b hb).block
  refine (h.rows l b hb).mono (fun _ _ h=>h) (fun _ h=>.inl h) hI (fun g s' q1 q2=>old g ?_)
  rw [hs'] at q1
  injection q1 with q1
  subst q1
  exact hlt g q2
 ·obtain ⟨a1,a2⟩:=h.mine l g s q1 q2 q3
  refine ⟨fun hg=>?_,a2⟩
  rcases hg with hg | hg
  ·exact a1 hg
  ·obtain ⟨b,hb⟩:=Option.ne_none_iff_exists'.1 q1
   obtain ⟨s',hs',hlt⟩:=(h.rows l b hb).block
   rw [q2] at hs'
   injection hs' with hs'
   subst hs'
   have:=hlt g q3
   omega
 ·have:=hf.size
  rcases hg with hg | hg
  ·exact ⟨by have:=(h.imm g hg).1; omega,(h.imm g hg).2⟩
  ·exact ⟨hg.2,.inr (.inr (by have:=h.fr.size; omega))⟩
 ·rw [old b (by have:=h.fr.size; omega)]
  exact h.fr.block b hb hx
def only (l : Nat) (s : Slot) : Lab:=fun l'=>if l' = l then some s else none
def OFn (P : Program) (f : FuncId) (args : List PV) (sz : Nat) (es : List (List PV)) : Prop :=
 enters P f = true ∧ ∀ (w : World) (I : Nat → Prop) (vals : Array Value),vals.size = args.length → (∀ (j : Nat) u p,vals[j]? = some u → args[j]? = some p → rep w I u p) → (∀ g,I g → g < w.heap.size) → tabOK w I →
  Calls P f vals w (fun e w'=>∃ v s,e = .returned v ∧ Fr w (fun _=>False) w' ∧ (∀ g,s.block = some g → w.heap.size ≤ g ∧ g < w'.heap.size) ∧
   repA (only 0 s) w' (fun g=>I g ∨ (w.heap.size ≤ g ∧ g < w'.heap.size ∧ s.block ≠ some g)) v (.own 0) ∧
   repB (only 0 s) w' (fun g=>I g ∨ (w.heap.size ≤ g ∧ g < w'.heap.size ∧ s.block ≠ some g)) 0 (.row sz (liftE es)))
theorem only_at {l : Nat} {s s' : Slot} (h : only l s l = some s') : s' = s:=by
 unfold only at h; rw [if_pos rfl] at h; injection h with h; exact h.symm
theorem own_move {s : Slot} {σ : Lab} {w : World} {J : Nat → Prop} {v : Value} {lab : Nat} (hs : σ lab = some s) (h : repA (only 0 s) w J v (.own 0)) : repA σ w J v (.own lab):=by
 cases h with
 | ownE h=>exact .ownE (by rw [hs,only_at h])
 | own h=>exact .own (by rw [hs,only_at h])
theorem row_move {s : Slot} {σ : Lab} {w : World} {J : Nat → Prop} {lab sz : Nat} {es : List (List PV)} (hs : σ lab = some s) (h : repB (only 0 s) w J 0 (.row sz (liftE es))) : repB σ w J lab (.row sz (liftE es)):=by
 generalize he : liftE es = ls at h
 cases h with
 | emp h=>exact .emp (by rw [hs,only_at h])
 | row h hg hcur hc hsz ho hr =>
  refine .row (by rw [hs,only_at h]) hg hcur hc hsz ho fun i e j x q1 q2=>?_
  obtain ⟨u,hu,hru⟩:=hr i e j x q1 q2
  refine ⟨u,hu,?_⟩
  subst he
  simp only [liftE,List.getElem?_map,Option.map_eq_some_iff] at q1
  obtain ⟨e',_,rfl⟩:=q1
  simp only [List.getElem?_map,Option.map_eq_some_iff] at q2
  obtain ⟨p,_,rfl⟩:=q2
  cases hru with
  | p h=>exact .p h
def withL (σ : Lab) (lab : Nat) (s : Slot) : Lab:=fun l=>if l = lab then some s else σ l
theorem withL_at {σ : Lab} {lab : Nat} {s : Slot} : withL σ lab s lab = some s:=by unfold withL; rw [if_pos rfl]
theorem withL_ne {σ : Lab} {lab l : Nat} {s : Slot} (h : l ≠ lab) : withL σ lab s l = σ l:=by unfold withL; rw [if_neg h]
theorem HOK.takes (h : HOK σ w I H w0 X I0) {w' : World} {s : Slot} {sz : Nat} {es : List (List PV)} (hf : Fr w (fun _=>False) w') (hlab : σ lab = none) (hb : ∀ g,s.block = some g → w.heap.size ≤ g ∧ g < w'.heap.size)
  (hr : repB (only 0 s) w' (fun g=>I g ∨ (w.heap.size ≤ g ∧ g < w'.heap.size ∧ s.block ≠ some g)) 0 (.row sz (liftE es))) :
  HOK (withL σ lab s) w' (fun g=>I g ∨ (w.heap.size ≤ g ∧ g < w'.heap.size ∧ s.block ≠ some g)) (upd H lab (some (.row sz (liftE es)))) w0 X I0 ∧ (∀ l s',σ l = some s' → withL σ lab s l = some s') ∧ ∀ b,I b → w'.heap[b]? = w.heap[b]?:=by
 have oldb : ∀ b,b < w.heap.size → w'.heap[b]? = w.heap[b]?:=fun b hb=>hf.block b hb (fun h=>h)
 have hI : ∀ b,I b → w'.heap[b]? = w.heap[b]?:=fun b hb=>oldb b (h.imm b hb).1
 have ext : ∀ l s',σ l = some s' → withL σ lab s l = some s':=fun l s' hs=>by
  have : l ≠ lab:=by rintro rfl; rw [hlab] at hs; cases hs
  rw [withL_ne this]; exact hs
 have blk : ∀ l g s',l ≠ lab → upd H lab (some (.row sz (liftE es))) l ≠ none → withL σ lab s l = some s' → s'.block = some g → g < w.heap.size:=fun l g s' hl hn hs hg=>by
  rw [upd_ne _ _ hl] at hn
  rw [withL_ne hl] at hs
  obtain ⟨b,hb⟩:=Option.ne_none_iff_exists'.1 hn
  obtain ⟨s'',hs'',hlt⟩:=(h.rows l b hb).block
  rw [hs] at hs''; injection hs'' with hs''; subst hs''
  exact hlt g hg
 refine ⟨⟨fun l b hb'=>?_,fun l l' g s1 s2 n1 n2 e1 e2 g1 g2=>?_,fun l g s' q1 q2 q3=>?_,fun g hg=>?_,fun g hg=>.inl (h.sub g hg),⟨hf.os.trans h.fr.os,hf.tape.trans h.fr.tape,hf.output.trans h.fr.output,Nat.le_trans h.fr.size hf.size,fun b hb hx=>?_,h.fr.step fun b cur et p hb hc=>hf.shape b cur et p hc⟩⟩,ext,hI⟩
 ·by_cases hl : l = lab
  ·subst hl
   rw [upd_same] at hb'
   injection hb' with hb'
   subst hb'
   exact row_move withL_at hr
  ·rw [upd_ne _ _ hl] at hb'
   obtain ⟨s',hs',hlt⟩:=(h.rows l b hb').block
   refine (h.rows l b hb').mono ext (fun _ h=>.inl h) hI (fun g s'' q1 q2=>oldb g ?_)
   rw [hs'] at q1; injection q1 with q1; subst q1
   exact hlt g q2
 ·by_cases hl : l = lab
  ·by_cases hl' : l' = lab
   ·rw [hl,hl']
   ·subst hl
    rw [withL_at] at e1; injection e1 with e1; subst e1
    have:=blk l' g s2 hl' n2 e2 g2
    have:=(hb g g1).1
    omega
  ·by_cases hl' : l' = lab
   ·subst hl'
    rw [withL_at] at e2; injection e2 with e2; subst e2
    have:=blk l g s1 hl n1 e1 g1
    have:=(hb g g2).1
    omega
   ·rw [upd_ne _ _ hl] at n1
    rw [upd_ne _ _ hl'] at n2
    rw [withL_ne hl] at e1
    rw [withL_ne hl'] at e2
    exact h.inj l l' g s1 s2 n1 n2 e1 e2 g1 g2
 ·by_cases hl : l = lab
  ·subst hl
   rw [withL_at] at q2; injection q2 with q2; subst q2
   have h3:=hb g q3
   refine ⟨fun hg=>?_,.inr (by have:=h.fr.size; omega)⟩
   rcases hg with hg | ⟨_,_,hg⟩
   ·have:=(h.imm g hg).1; omega
   ·exact hg q3
  ·have hlt:=blk l g s' hl q1 q2 q3
   rw [upd_ne _ _ hl] at q1
   rw [withL_ne hl] at q2
   obtain ⟨a1,a2⟩:=h.mine l g s' q1 q2 q3
   refine ⟨fun hg=>?_,a2⟩
   rcases hg with hg | hg
   ·exact a1 hg
   ·omega
 ·have:=hf.size
  rcases hg with hg | hg
  ·exact ⟨by have:=(h.imm g hg).1; omega,(h.imm g hg).2⟩
  ·exact ⟨hg.2.1,.inr (.inr (by have:=h.fr.size; omega))⟩
 ·rw [oldb b (by have:=h.fr.size; omega)]
  exact h.fr.block b hb hx
inductive LA where
 | v (x : PV)
 | ptr (i off sz : Nat) (es : List (List PV))
 | map (es : List (PV × PV))
inductive LB where
 | row (sz : Nat) (es : List (List PV))
 | map (es : List (PV × PV))
def liftM (es : List (PV × PV)) : List (PV × AV):=es.map fun e=>(e.1,.p e.2)
def LB.blk : LB → Blk
 | .row sz es=>.row sz (liftE es)
 | .map es=>.map (liftM es)
def LA.av (j : Nat) : LA → AV
 | .v x=>.p x
 | .ptr i off _ _=>.ptr j i off
 | .map _=>.map j
def LA.lb : LA → Option LB
 | .v _=>none
 | .ptr _ _ sz es=>some (.row sz es)
 | .map es=>some (.map es)
def lendH (ags : List LA) (j : Nat) : Option Blk:=(ags[j]?).bind fun a=>a.lb.map LB.blk
def outH (bs : List (Option LB)) (j : Nat) : Option Blk:=(bs[j]?).bind fun b=>b.map LB.blk
def lentX (σ : Lab) (h : Nat → Option Blk) (g : Nat) : Prop:=∃ l s,h l ≠ none ∧ σ l = some s ∧ s.block = some g
def LFn (P : Program) (f : FuncId) (ags : List LA) (bs : List (Option LB)) (r : PV) : Prop :=
 enters P f = true ∧ bs.map Option.isSome = ags.map (fun a=>a.lb.isSome) ∧ ∀ (w : World) (I : Nat → Prop) (σ : Lab) (vals : Array Value),vals.size = ags.length → (∀ l,ags.length ≤ l → σ l = none) →
  (∀ (j : Nat) u a,vals[j]? = some u → ags[j]? = some a → repA σ w I u (a.av j)) → HOK σ w I (lendH ags) w (lentX σ (lendH ags)) I → tabOK w I →
  Calls P f vals w fun e w'=>∃ v I',e = .returned v ∧ HOK σ w' I' (outH bs) w (lentX σ (lendH ags)) I ∧ rep w' I' v r
def lendP (T : Nat → Option AV) (H : Nat → Option Blk) : List Operand → List LA → List (Option Nat) → Prop
 | [],[],[]=>True
 | x :: xs,.v p :: ags,none :: ls=>(match ev T x with | some v=>pureA v = some p | none=>False) ∧ lendP T H xs ags ls
 | x :: xs,.ptr i off sz es :: ags,some l :: ls=>ev T x = some (.ptr l i off) ∧ H l = some (.row sz (liftE es)) ∧ lendP T H xs ags ls
 | x :: xs,.map es :: ags,some l :: ls=>ev T x = some (.map l) ∧ H l = some (.map (liftM es)) ∧ lendP T H xs ags ls
 | _,_,_=>False
def lendU : List (Option Nat) → List (Option LB) → List (Nat × Option Blk)
 | some l :: ls,some b :: bs=>(l,some b.blk) :: lendU ls bs
 | _ :: ls,_ :: bs=>lendU ls bs
 | _,_=>[]
def apartL : List (Option Nat) → Bool
 | []=>true
 | some l :: ls=>!(ls.contains (some l)) && apartL ls
 | none :: ls=>apartL ls
theorem apartL_inj : ∀ {ls : List (Option Nat)} {i j l : Nat},apartL ls = true → ls[i]? = some (some l) → ls[j]? = some (some l) → i = j:=by
 intro ls
 induction ls with
 | nil=>intro i j l _ h; simp at h
 | cons x ls ih =>
  intro i j l h h1 h2
  have hin : ∀ {q : Nat},ls[q]? = some (some l) → ls.contains (some l) = true:=fun hq=>by simpa using List.mem_of_getElem? hq
  cases x with
  | none =>
   cases i with
   | zero=>simp at h1
   | succ i =>
    cases j with
    | zero=>simp at h2
    | succ j=>rw [ih (l:=l) (i:=i) (j:=j) h (by simpa using h1) (by simpa using h2)]
  | some y =>
   simp only [apartL,Bool.and_eq_true] at h
   cases i with
   | zero =>
    simp at h1
    subst h1
    cases j with
    | zero=>rfl
    | succ j=>rw [hin (q:=j) (by simpa using h2)] at h; simp at h
   | succ i =>
    cases j with
    | zero =>
     simp at h2
     subst h2
     rw [hin (q:=i) (by simpa using h1)] at h
     simp at h
    | succ j=>rw [ih (l:=l) (i:=i) (j:=j) h.2 (by simpa using h1) (by simpa using h2)]
theorem lendP_spec {T : Nat → Option AV} {H : Nat → Option Blk} : ∀ {xs : List Operand} {ags : List LA} {ls : List (Option Nat)},lendP T H xs ags ls → xs.length = ags.length ∧ ls.length = ags.length ∧
  ∀ (j : Nat) x a,xs[j]? = some x → ags[j]? = some a → match a with
   | .v p=>ls[j]? = some none ∧ ∃ v,ev T x = some v ∧ pureA v = some p
   | .ptr i off sz es=>∃ l,ls[j]? = some (some l) ∧ ev T x = some (.ptr l i off) ∧ H l = some (.row sz (liftE es))
   | .map es=>∃ l,ls[j]? = some (some l) ∧ ev T x = some (.map l) ∧ H l = some (.map (liftM es)):=by
 intro xs
 induction xs with
 | nil =>
  intro ags ls h
  cases ags with
  | nil=>cases ls with
   | nil=>exact ⟨rfl,rfl,fun j x a h=>by simp at h⟩
   | cons=>simp [lendP] at h
  | cons a ags=>cases a <;> simp [lendP] at h
 | cons x xs ih =>
  intro ags ls h
  cases ags with
  | nil=>simp [lendP] at h
  | cons a ags =>
   have step : ∀ {l : Option Nat} {ls' : List (Option Nat)},ls = l :: ls' → lendP T H xs ags ls' → (match a with
     | .v p=>l = none ∧ ∃ v,ev T x = some v ∧ pureA v = some p
     | .ptr i off sz es=>∃ q,l = some q ∧ ev T x = some (.ptr q i off) ∧ H q = some (.row sz (liftE es))
     | .map es=>∃ q,l = some q ∧ ev T x = some (.map q) ∧ H q = some (.map (liftM es))) →
     (x :: xs).length = (a :: ags).length ∧ ls.length = (a :: ags).length ∧
     ∀ (j : Nat) y b,(x :: xs)[j]? = some y → (a :: ags)[j]? = some b → match b with
      | .v p=>ls[j]? = some none ∧ ∃ v,ev T y = some v ∧ pureA v = some p
      | .ptr i off sz es=>∃ l,ls[j]? = some (some l) ∧ ev T y = some (.ptr l i off) ∧ H l = some (.row sz (liftE es))
      | .map es=>∃ l,ls[j]? = some (some l) ∧ ev T y = some (.map l) ∧ H l = some (.map (liftM es)):=by
    rintro l ls' rfl hl ha
    obtain ⟨h1,h2,h3⟩:=ih hl
    refine ⟨by simp [h1],by simp [h2],fun j y b hy hb=>?_⟩
    cases j with
    | zero =>
     simp at hy hb
     subst hy; subst hb
     cases a with
     | v p=>exact ⟨by simp [ha.1],ha.2⟩
     | ptr i off sz es=>obtain ⟨q,q1,q2,q3⟩:=ha; exact ⟨q,by simp [q1],q2,q3⟩
     | map es=>obtain ⟨q,q1,q2,q3⟩:=ha; exact ⟨q,by simp [q1],q2,q3⟩
    | succ j =>
     have:=h3 j y b (by simpa using hy) (by simpa using hb)
     cases b with
     | v p=>exact ⟨by simpa using this.1,this.2⟩
     | ptr i off sz es=>obtain ⟨q,q1,q2,q3⟩:=this; exact ⟨q,by simpa using q1,q2,q3⟩
     | map es=>obtain ⟨q,q1,q2,q3⟩:=this; exact ⟨q,by simpa using q1,q2,q3⟩
   cases ls with
   | nil=>cases a <;> simp [lendP] at h
   | cons l ls =>
    cases a with
    | v p =>
     cases l with
     | some l=>simp [lendP] at h
     | none =>
      simp only [lendP] at h
      refine step rfl h.2 ⟨rfl,?_⟩
      have h1:=h.1
      split at h1
      ·rename_i v hv; exact ⟨v,hv,h1⟩
      ·exact h1.elim
    | ptr i off sz es =>
     cases l with
     | none=>simp [lendP] at h
     | some l=>simp only [lendP] at h; exact step rfl h.2.2 ⟨l,rfl,h.1,h.2.1⟩
    | map es =>
     cases l with
     | none=>simp [lendP] at h
     | some l=>simp only [lendP] at h; exact step rfl h.2.2 ⟨l,rfl,h.1,h.2.1⟩
theorem blk_rel {σ σ' : Lab} {w : World} {I : Nat → Prop} {l l' : Nat} {b : LB} (hl : ∀ s,σ l = some s → σ' l' = some s) (h : repB σ w I l b.blk) : repB σ' w I l' b.blk:=by
 cases b with
 | row sz es =>
  simp only [LB.blk] at h ⊢
  generalize he : liftE es = ls at h
  cases h with
  | emp h=>exact .emp (hl _ h)
  | row h hg hcur hc hsz ho hr =>
   refine .row (hl _ h) hg hcur hc hsz ho fun i e j x q1 q2=>?_
   obtain ⟨u,hu,hru⟩:=hr i e j x q1 q2
   refine ⟨u,hu,?_⟩
   subst he
   simp only [liftE,List.getElem?_map,Option.map_eq_some_iff] at q1
   obtain ⟨e',_,rfl⟩:=q1
   simp only [List.getElem?_map,Option.map_eq_some_iff] at q2
   obtain ⟨p,_,rfl⟩:=q2
   cases hru with
   | p h=>exact .p h
 | map es =>
  simp only [LB.blk] at h ⊢
  generalize he : liftM es = ls at h
  cases h with
  | map h hg hn hr =>
   refine .map (hl _ h) hg hn fun i m e q1 q2=>?_
   obtain ⟨r1,r2⟩:=hr i m e q1 q2
   refine ⟨r1,?_⟩
   subst he
   simp only [liftM,List.getElem?_map,Option.map_eq_some_iff] at q2
   obtain ⟨e',_,rfl⟩:=q2
   generalize m.val = mv at r2 ⊢
   cases r2 with
   | p h=>exact .p h
theorem lendU_out : ∀ {ls : List (Option Nat)} {bs : List (Option LB)} {H : Nat → Option Blk} {l : Nat},(∀ j : Nat,ls[j]? ≠ some (some l)) → putH H (lendU ls bs) l = H l:=by
 intro ls
 induction ls with
 | nil=>intro bs H l _; cases bs <;> simp [lendU,putH]
 | cons x ls ih =>
  intro bs H l h
  have h' : ∀ j : Nat,ls[j]? ≠ some (some l):=fun j=>by have:=h (j + 1); simpa using this
  cases bs with
  | nil=>cases x <;> simp [lendU,putH]
  | cons b bs =>
   cases x with
   | none=>simp only [lendU]; exact ih h'
   | some y =>
    cases b with
    | none=>simp only [lendU]; exact ih h'
    | some b =>
     simp only [lendU,putH]
     rw [ih h',upd_ne _ _ (by rintro rfl; exact h 0 rfl)]
theorem lendU_in : ∀ {ls : List (Option Nat)} {bs : List (Option LB)} {H : Nat → Option Blk} {l j : Nat} {b : LB},apartL ls = true → ls[j]? = some (some l) → bs[j]? = some (some b) → putH H (lendU ls bs) l = some b.blk:=by
 intro ls
 induction ls with
 | nil=>intro bs H l j b _ h; simp at h
 | cons x ls ih =>
  intro bs H l j b ha h1 h2
  cases bs with
  | nil=>simp at h2
  | cons c bs =>
   cases j with
   | zero =>
    simp at h1 h2
    subst h1 h2
    simp only [lendU,putH]
    rw [lendU_out fun q hq=>by have:=apartL_inj (i:=0) (j:=q + 1) (l:=l) ha rfl (by simpa using hq); omega]
    exact upd_same _ _ _
   | succ j =>
    have ha' : apartL ls = true:=by
     cases x with
     | none=>exact ha
     | some y=>simp only [apartL,Bool.and_eq_true] at ha; exact ha.2
    have h1' : ls[j]? = some (some l):=by simpa using h1
    have h2' : bs[j]? = some (some b):=by simpa using h2
    cases x with
    | none=>simp only [lendU]; exact ih ha' h1' h2'
    | some y=>cases c with
     | none=>simp only [lendU]; exact ih ha' h1' h2'
     | some c=>simp only [lendU,putH]; exact ih ha' h1' h2'
inductive RV where
 | pure (r : PV)
 | own (sz : Nat) (es : List (List PV))
def GFn (P : Program) (f : FuncId) (args : List PV) : RV → Prop
 | .pure r=>PFn P f args r
 | .own sz es=>OFn P f args sz es
def RV.eff (lab : Nat) (us : List (Nat × Option Blk)) : RV → Eff
 | .pure r=>⟨some (.p r),us⟩
 | .own sz es=>⟨some (.own lab),us ++ [(lab,some (.row sz (liftE es)))]⟩
inductive RW where
 | pure (r : PV)
 | own (sz : Nat) (es : List (List PV))
 | lend (ls : List (Option Nat)) (ags : List LA) (bs : List (Option LB)) (r : PV)
 | peek (r : PV)
def flat1 : PV → Bool
 | .int _ _ | .bool _ | .str _=>true
 | _=>false
def flatP : PV → Bool
 | .tuple l | .agg l=>l.all flat1
 | p=>flat1 p
theorem rep_flat1 {w : World} {I J : Nat → Prop} {v : Value} {p : PV} (hp : flat1 p = true) (h : rep w I v p) : rep w J v p:=by
 cases h <;> first | (cases hp; done) | constructor
theorem rep_flat {w : World} {I J : Nat → Prop} {v : Value} {p : PV} (hp : flatP p = true) (h : rep w I v p) : rep w J v p:=by
 cases h with
 | agg h hr=>exact .agg h fun j u q h1 h2=>rep_flat1 (List.all_eq_true.1 hp q (List.mem_of_getElem? h2)) (hr j u q h1 h2)
 | tuple h hr=>exact .tuple h fun j u q h1 h2=>rep_flat1 (List.all_eq_true.1 hp q (List.mem_of_getElem? h2)) (hr j u q h1 h2)
 | int=>exact .int _ _
 | bool=>exact .bool _
 | str=>exact .str _
 | _=>cases hp
def WFn (P : Program) (f : FuncId) (ps : Option (List PV × List (Nat × Option Blk))) (T : Nat → Option AV) (H : Nat → Option Blk) (xs : List Operand) : RW → Prop
 | .pure r=>match ps with | some (l,_)=>PFn P f l r | none=>False
 | .own sz es=>match ps with | some (l,_)=>OFn P f l sz es | none=>False
 | .lend ls ags bs r=>LFn P f ags bs r ∧ apartL ls = true ∧ lendP T H xs ags ls
 | .peek r=>match ps with | some (l,_)=>PFn P f l r ∧ flatP r = true | none=>False
def RW.eff (lab : Nat) (ps : Option (List PV × List (Nat × Option Blk))) : RW → Eff
 | .pure r=>match ps with | some (_,us)=>⟨some (.p r),us⟩ | none=>⟨none,[]⟩
 | .own sz es=>match ps with | some (_,us)=>⟨some (.own lab),us ++ [(lab,some (.row sz (liftE es)))]⟩ | none=>⟨none,[]⟩
 | .lend ls _ bs r=>⟨some (.p r),lendU ls bs⟩
 | .peek r=>⟨some (.p r),[]⟩
def fnOf : Option AV → Option FuncId
 | some (.fn g [])=>some g
 | some (.p (.cst (.func (.func g) fs cs)))=>if fs.toList = [] ∧ cs.toList = [] then some g else none
 | _=>none
def pcallW (P : Program) (lab : Nat) (f : Option AV) (T : Nat → Option AV) (H : Nat → Option Blk) (xs : List Operand) (k : Eff → Prop) : Prop :=
 match fnOf f with
 | some g=>match pureArgs T H xs with
  | some (l,[])=>∃ r,GFn P g l r ∧ k (r.eff lab [])
  | ps=>∃ r,WFn P g ps T H xs r ∧ k (r.eff lab ps)
 | none=>False
theorem run_enter {f : FuncId} (hf : enters P f = true) (args : Array Value) (w : World) : (callFunc f args).run P w = .ok (.enter f args) w:=by
 unfold enters at hf
 split at hf
 ·rename_i fn hfn
  simp only [Bool.and_eq_true,bne_iff_ne,ne_eq] at hf
  have h2 : fn.body.isNone = false:=by
   cases hb : fn.body with
   | none=>rw [hb] at hf; simp at hf
   | some _=>rfl
  have h3 : ¬ fn.body = none:=by intro h; rw [h] at h2; cases h2
  simp [callFunc,hfn,hf.2,h3]
 ·cases hf
theorem putH_snoc : ∀ (us : List (Nat × Option Blk)) (H : Nat → Option Blk) (l : Nat) (b : Option Blk),putH H (us ++ [(l,b)]) = upd (putH H us) l b:=by
 intro us
 induction us with
 | nil=>intro H l b; rfl
 | cons u us ih=>intro H l b; obtain ⟨m,c⟩:=u; simp only [List.cons_append,putH]; exact ih _ _ _
theorem HOK.lent (h : HOK σ w I H w0 X I0) {w' : World} {I' : Nat → Prop} {ls : List (Option Nat)} {ags : List LA} {bs : List (Option LB)} {σ' : Lab} (ha : apartL ls = true) (hb : bs.map Option.isSome = ags.map (fun a=>a.lb.isSome)) (hll : ls.length = ags.length)
  (hl : ∀ (j : Nat) a,ags[j]? = some a → match a.lb with | none=>ls[j]? = some none | some b=>∃ l,ls[j]? = some (some l) ∧ H l = some b.blk)
  (hσ : ∀ j l,ls[j]? = some (some l) → σ' j = σ l) (hh : HOK σ' w' I' (outH bs) w (lentX σ' (lendH ags)) I) :
  HOK σ w' I' (putH H (lendU ls bs)) w0 X I0 ∧ ∀ b,I b → w'.heap[b]? = w.heap[b]?:=by
 have lab_at : ∀ j l,ls[j]? = some (some l) → ∃ (a : LA) (b b' : LB),ags[j]? = some a ∧ a.lb = some b ∧ H l = some b.blk ∧ bs[j]? = some (some b'):=fun j l hj=>by
  have hja : j < ags.length:=by rw [← hll]; exact (List.getElem?_eq_some_iff.1 hj).1
  obtain ⟨a,haj⟩ : ∃ a,ags[j]? = some a:=⟨_,List.getElem?_eq_getElem hja⟩
  have h1:=hl j a haj
  have h2:=congrArg (fun l=>l[j]?) hb
  simp only [List.getElem?_map,haj,Option.map_some] at h2
  cases hlb : a.lb with
  | none=>rw [hlb] at h1; simp only at h1; rw [hj] at h1; simp at h1
  | some b =>
   rw [hlb] at h1 h2
   obtain ⟨l',q1,q2⟩:=h1
   rw [hj] at q1
   simp only [Option.some.injEq] at q1
   subst q1
   cases hbj : bs[j]? with
   | none=>rw [hbj] at h2; simp at h2
   | some c =>
    rw [hbj] at h2
    cases c with
    | none=>simp at h2
    | some b'=>exact ⟨a,b,b',haj,hlb,q2,hbj⟩
 have xof : ∀ j l s g,ls[j]? = some (some l) → σ l = some s → s.block = some g → lentX σ' (lendH ags) g:=fun j l s g hj hs hg=>by
  obtain ⟨a,b,b',q1,q2,q3,q4⟩:=lab_at j l hj
  exact ⟨j,s,by simp [lendH,q1,q2],by rw [hσ j l hj]; exact hs,hg⟩
 have ofx : ∀ g,lentX σ' (lendH ags) g → ∃ j l s,ls[j]? = some (some l) ∧ H l ≠ none ∧ σ l = some s ∧ s.block = some g:=fun g ⟨j,s,q1,q2,q3⟩=>by
  unfold lendH at q1
  cases haj : ags[j]? with
  | none=>rw [haj] at q1; simp at q1
  | some a =>
   rw [haj] at q1
   have h1:=hl j a haj
   cases hlb : a.lb with
   | none=>rw [Option.bind_some,hlb] at q1; simp at q1
   | some b =>
    rw [hlb] at h1
    obtain ⟨l,r1,r2⟩:=h1
    exact ⟨j,l,s,r1,by rw [r2]; simp,by rw [← hσ j l r1]; exact q2,q3⟩
 have notI : ∀ j l s g,ls[j]? = some (some l) → σ l = some s → s.block = some g → ¬ I' g:=fun j l s g hj hs hg=>by
  obtain ⟨a,b,b',q1,q2,q3,q4⟩:=lab_at j l hj
  exact (hh.mine j g s (by simp [outH,q4]) (by rw [hσ j l hj]; exact hs) hg).1
 have blk : ∀ l g s,H l ≠ none → σ l = some s → s.block = some g → g < w.heap.size:=fun l g s hn hs hg=>by
  obtain ⟨b,hb⟩:=Option.ne_none_iff_exists'.1 hn
  obtain ⟨s',hs',hlt⟩:=(h.rows l b hb).block
  rw [hs] at hs'; injection hs' with hs'; subst hs'
  exact hlt g hg
 have same : ∀ b,I b → w'.heap[b]? = w.heap[b]?:=fun b hb=>by
  refine hh.fr.block b (h.imm b hb).1 fun hx=>?_
  obtain ⟨j,l,s,q1,q2,q3,q4⟩:=ofx b hx
  exact (h.mine l b s q2 q3 q4).1 hb
 have key : ∀ l,putH H (lendU ls bs) l ≠ none → H l ≠ none:=fun l hn=>by
  by_cases hx : ∃ j : Nat,ls[j]? = some (some l)
  ·obtain ⟨j,hj⟩:=hx
   obtain ⟨a,b,b',q1,q2,q3,q4⟩:=lab_at j l hj
   rw [q3]; simp
  ·rwa [lendU_out fun j hj=>hx ⟨j,hj⟩] at hn
 have fresh : ∀ g,I' g → (I g ∨ w.heap.size ≤ g):=fun g hg=>by
  rcases (hh.imm g hg).2 with q | q | q
  ·exact .inl q
  ·obtain ⟨j,l,s,q1,q2,q3,q4⟩:=ofx g q
   exact absurd hg (notI j l s g q1 q3 q4)
  ·exact .inr q
 refine ⟨⟨fun l b hb'=>?_,fun l l' g s s' q1 q2 q3 q4 q5 q6=>h.inj l l' g s s' (key l q1) (key l' q2) q3 q4 q5 q6,fun l g s q1 q2 q3=>?_,fun g hg=>?_,fun g hg=>hh.sub g (h.sub g hg),⟨hh.fr.os.trans h.fr.os,hh.fr.tape.trans h.fr.tape,hh.fr.output.trans h.fr.output,Nat.le_trans h.fr.size hh.fr.size,fun b hb hx=>?_,h.fr.step fun b cur et p hb hc=>hh.fr.shape b cur et p hc⟩⟩,same⟩
 ·by_cases hx : ∃ j : Nat,ls[j]? = some (some l)
  ·obtain ⟨j,hj⟩:=hx
   obtain ⟨a,b0,b',q1,q2,q3,q4⟩:=lab_at j l hj
   rw [lendU_in ha hj q4] at hb'
   injection hb' with hb'
   subst hb'
   have hr:=hh.rows j b'.blk (by simp [outH,q4])
   exact blk_rel (fun s hs=>by rw [← hσ j l hj]; exact hs) hr
  ·rw [lendU_out fun j hj=>hx ⟨j,hj⟩] at hb'
   obtain ⟨s,hs,hlt⟩:=(h.rows l b hb').block
   refine (h.rows l b hb').mono (fun _ _ h=>h) (fun g hg=>hh.sub g hg) same (fun g s' q1 q2=>?_)
   rw [hs] at q1; injection q1 with q1; subst q1
   refine hh.fr.block g (hlt g q2) fun hx'=>?_
   obtain ⟨j,l2,s2,r1,r2,r3,r4⟩:=ofx g hx'
   have:=h.inj l l2 g s s2 (by rw [hb']; simp) r2 hs r3 q2 r4
   subst this
   exact hx ⟨j,r1⟩
 ·have hn:=key l q1
  obtain ⟨a1,a2⟩:=h.mine l g s hn q2 q3
  refine ⟨fun hg=>?_,a2⟩
  rcases fresh g hg with hg' | hg'
  ·exact a1 hg'
  ·have:=blk l g s hn q2 q3; omega
 ·refine ⟨(hh.imm g hg).1,?_⟩
  rcases fresh g hg with hg' | hg'
  ·exact (h.imm g hg').2
  ·exact .inr (.inr (by have:=h.fr.size; omega))
 ·rw [hh.fr.block b (by have:=h.fr.size; omega) fun hx'=>?_]
  ·exact h.fr.block b hb hx
  ·obtain ⟨j,l,s,r1,r2,r3,r4⟩:=ofx b hx'
   rcases (h.mine l b s r2 r3 r4).2 with q | q
   ·exact hx q
   ·omega
theorem fnOf_spec {σ : Lab} {w : World} {I : Nat → Prop} {v : Value} {x : AV} {g : FuncId} (h : fnOf (some x) = some g) (hr : repA σ w I v x) : v = .func (.func g) #[] #[]:=by
 unfold fnOf at h
 split at h
 ·rename_i g' hx
  injection hx with hx; subst hx
  injection h with h; subst h
  cases hr with
  | fn _ hs _=>rw [Array.eq_empty_of_size_eq_zero hs]
 ·rename_i g' fs cs hx
  injection hx with hx; subst hx
  split at h
  ·rename_i hc
   injection h with h; subst h
   have e : ∀ {xs : Array Value},xs.toList = [] → xs = #[]:=fun h=>Array.ext' h
   cases hr with
   | p hr =>
   cases hr with
   | cst=>rw [e hc.1,e hc.2]
  ·cases h
 ·cases h
theorem snd_pcall (h : In σ w I T H w0 X I0 a lab) {c : Call} {f : Operand} (ho : o.op = .call c) (hc : c.callee = .value f) (hk : pcallW P lab (ev T f) T H c.args.toList k) : Snd P o a w σ I H w0 X I0 lab k:=by
 unfold pcallW at hk
 split at hk
 rotate_left
 ·exact hk.elim
 rename_i g hf0
 obtain ⟨fx,hf⟩ : ∃ fx,ev T f = some fx:=by
  cases hfe : ev T f with
  | none=>rw [hfe] at hf0; simp [fnOf] at hf0
  | some fx=>exact ⟨fx,rfl⟩
 rw [hf] at hf0
 have hfx:=fnOf_spec hf0 (h.ev hf)
 have hrun : ∀ (hen : enters P g = true),(execOp a.eval o).run P w = .ok (.enter g (c.args.map a.eval)) w:=fun hen=>by
  simp only [execOp,ho,resolve,hc,hfx,Deferred.ofValue,Sem.run_bind,Sem.run_pure,Result.andThen_ok,invoke,Array.append_empty,Array.empty_append,run_enter hen]
 have main : ∀ l us,pureArgs T H c.args.toList = some (l,us) → ∀ r : RV,GFn P g l r → k (r.eff lab us) → Snd P o a w σ I H w0 X I0 lab k:=by
  clear hk
  intro l us hl r hp hk
  obtain ⟨I1,i1,hh1,h1,h2⟩:=pureArgs_spec (a:=a) (fun I' hI' x v hx=>(h.ev hx).mono (fun _ _ h=>h) hI' (fun _ _=>rfl)) (fun _ h=>h) h.heap hl
  intro next Q hn
  have hrs : ∀ (j : Nat) u p,(c.args.map a.eval)[j]? = some u → l[j]? = some p → rep w I1 u p:=fun j u p q1 q2=>by
   rw [Array.getElem?_map,Option.map_eq_some_iff] at q1
   obtain ⟨x,hx,rfl⟩:=q1
   exact h2 j x p (by simpa using hx) q2
  cases r with
  | pure r =>
   obtain ⟨hen,hp⟩:=hp
   have hargs:=hp w I1 (c.args.map a.eval) (by simpa using h1) hrs (fun g hg=>(hh1.imm g hg).1) (h.tabs.up i1)
   unfold Oper.wp
   rw [hrun hen,Oper.upon_enter]
   refine hargs.mono fun e w' he=>?_
   obtain ⟨v,rfl,hfr,hrep⟩:=he
   obtain ⟨c1,c2⟩:=hh1.called hfr
   exact hn _ v w' σ _ hk ⟨c1,fun _ _ h=>h,fun _ _=>rfl,fun _ h=>.inl (i1 _ h),fun b hb=>c2 b (i1 b hb),fun x hx=>by injection hx with hx; subst hx; exact .p hrep⟩
  | own sz es =>
   obtain ⟨hen,hp⟩:=hp
   have hargs:=hp w I1 (c.args.map a.eval) (by simpa using h1) hrs (fun g hg=>(hh1.imm g hg).1) (h.tabs.up i1)
   unfold Oper.wp
   rw [hrun hen,Oper.upon_enter]
   refine hargs.mono fun e w' he=>?_
   obtain ⟨v,s,rfl,hfr,hb,hra,hrb⟩:=he
   obtain ⟨c1,c2,c3⟩:=hh1.takes hfr h.lab hb hrb
   refine hn _ v w' (withL σ lab s) (fun g=>I1 g ∨ (w.heap.size ≤ g ∧ g < w'.heap.size ∧ s.block ≠ some g)) hk ⟨?_,c2,fun l hl=>withL_ne hl,fun _ h=>.inl (i1 _ h),fun b hb=>c3 b (i1 b hb),fun x hx=>by injection hx with hx; subst hx; exact own_move withL_at hra⟩
   have e : putH H (RV.eff lab us (.own sz es)).upd = upd (putH H us) lab (some (.row sz (liftE es))):=putH_snoc us H _ _
   rw [e]
   exact c1
 split at hk
 ·rename_i l hl
  obtain ⟨r,hp,hk⟩:=hk
  exact main l [] hl r hp hk
 ·obtain ⟨r,hp,hk⟩:=hk
  cases r with
  | pure r =>
   simp only [WFn,RW.eff] at hp hk
   split at hp
   ·rename_i l us hl
    rw [hl] at hk
    exact main l us hl (.pure r) hp hk
   ·exact hp.elim
  | own sz es =>
   simp only [WFn,RW.eff] at hp hk
   split at hp
   ·rename_i l us hl
    rw [hl] at hk
    exact main l us hl (.own sz es) hp hk
   ·exact hp.elim
  | peek r =>
   simp only [WFn,RW.eff] at hp hk
   split at hp
   rotate_left
   ·exact hp.elim
   rename_i l us hl
   obtain ⟨I1,i1,hh1,h1,h2⟩:=pureArgs_spec (a:=a) (fun I' hI' x v hx=>(h.ev hx).mono (fun _ _ h=>h) hI' (fun _ _=>rfl)) (fun _ h=>h) h.heap hl
   intro next Q hn
   have hrs : ∀ (j : Nat) u p,(c.args.map a.eval)[j]? = some u → l[j]? = some p → rep w I1 u p:=fun j u p q1 q2=>by
    rw [Array.getElem?_map,Option.map_eq_some_iff] at q1
    obtain ⟨x,hx,rfl⟩:=q1
    exact h2 j x p (by simpa using hx) q2
   obtain ⟨⟨hen,hp⟩,hfl⟩:=hp
   have hargs:=hp w I1 (c.args.map a.eval) (by simpa using h1) hrs (fun g hg=>(hh1.imm g hg).1) (h.tabs.up i1)
   unfold Oper.wp
   rw [hrun hen,Oper.upon_enter]
   refine hargs.mono fun e w' he=>?_
   obtain ⟨v,rfl,hfr,hrep⟩:=he
   obtain ⟨c1,c2⟩:=h.heap.called hfr
   exact hn _ v w' σ _ hk ⟨c1,fun _ _ h=>h,fun _ _=>rfl,fun _ h=>.inl h,fun b hb=>c2 b hb,fun x hx=>by injection hx with hx; subst hx; exact .p (rep_flat hfl hrep)⟩
  | lend ls ags bs r =>
   obtain ⟨⟨hen,hbs,hp⟩,hap,hlp⟩:=hp
   obtain ⟨p1,p2,p3⟩:=lendP_spec hlp
   intro next Q hn
   have arg : ∀ (j : Nat) a0,ags[j]? = some a0 → ∃ x,c.args.toList[j]? = some x:=fun j a0 hj=>⟨_,List.getElem?_eq_getElem (by rw [p1]; exact (List.getElem?_eq_some_iff.1 hj).1)⟩
   have hl : ∀ (j : Nat) a0,ags[j]? = some a0 → match a0.lb with | none=>ls[j]? = some none | some b=>∃ l,ls[j]? = some (some l) ∧ H l = some b.blk:=fun j a0 hj=>by
    obtain ⟨x,hx⟩:=arg j a0 hj
    have:=p3 j x a0 hx hj
    cases a0 with
    | v p=>exact this.1
    | ptr i off sz es=>obtain ⟨l,q1,q2,q3⟩:=this; exact ⟨l,q1,q3⟩
    | map es=>obtain ⟨l,q1,q2,q3⟩:=this; exact ⟨l,q1,q3⟩
   obtain ⟨σ',hσ'⟩ : ∃ σ' : Lab,∀ j,σ' j = (ls[j]?).bind fun x=>x.bind σ:=⟨fun j=>(ls[j]?).bind fun x=>x.bind σ,fun _=>rfl⟩
   have hσ : ∀ j l,ls[j]? = some (some l) → σ' j = σ l:=fun j l hj=>by rw [hσ',hj]; rfl
   have hlab : ∀ j b,lendH ags j = some b → ∃ (l : Nat) (a0 : LA) (b' : LB),ags[j]? = some a0 ∧ a0.lb = some b' ∧ b = b'.blk ∧ ls[j]? = some (some l) ∧ H l = some b:=fun j b hj=>by
    unfold lendH at hj
    obtain ⟨a0,q1,q2⟩:=Option.bind_eq_some_iff.1 hj
    obtain ⟨b',q3,rfl⟩:=Option.map_eq_some_iff.1 q2
    have:=hl j a0 q1
    rw [q3] at this
    obtain ⟨l,r1,r2⟩:=this
    exact ⟨l,a0,b',q1,q3,rfl,r1,r2⟩
   have hH : HOK σ' w I (lendH ags) w (lentX σ' (lendH ags)) I:=by
    refine ⟨fun j b hj=>?_,fun j j' g s s' n1 n2 e1 e2 g1 g2=>?_,fun j g s n1 e1 g1=>?_,fun g hg=>⟨(h.heap.imm g hg).1,.inl hg⟩,fun _ h=>h,Fr.refl _ _⟩
    ·obtain ⟨l,a0,b',q1,q2,rfl,q3,q4⟩:=hlab j b hj
     exact blk_rel (fun s hs=>by rw [hσ j l q3]; exact hs) (h.heap.rows l _ q4)
    ·obtain ⟨b1,hb1⟩:=Option.ne_none_iff_exists'.1 n1
     obtain ⟨b2,hb2⟩:=Option.ne_none_iff_exists'.1 n2
     obtain ⟨l,_,_,_,_,_,q3,q4⟩:=hlab j b1 hb1
     obtain ⟨l',_,_,_,_,_,q3',q4'⟩:=hlab j' b2 hb2
     rw [hσ j l q3] at e1
     rw [hσ j' l' q3'] at e2
     have:=h.heap.inj l l' g s s' (by rw [q4]; simp) (by rw [q4']; simp) e1 e2 g1 g2
     subst this
     exact apartL_inj hap q3 q3'
    ·obtain ⟨b1,hb1⟩:=Option.ne_none_iff_exists'.1 n1
     obtain ⟨l,_,_,_,_,_,q3,q4⟩:=hlab j b1 hb1
     refine ⟨?_,.inl ⟨j,s,n1,e1,g1⟩⟩
     rw [hσ j l q3] at e1
     exact (h.heap.mine l g s (by rw [q4]; simp) e1 g1).1
   have hargs:=hp w I σ' (c.args.map a.eval) (by simpa using p1) (fun l hl=>by rw [hσ',List.getElem?_eq_none (by omega)]; rfl) (fun j u a0 q1 q2=>by
    rw [Array.getElem?_map,Option.map_eq_some_iff] at q1
    obtain ⟨x,hx,rfl⟩:=q1
    have:=p3 j x a0 (by simpa using hx) q2
    cases a0 with
    | v p =>
     obtain ⟨_,v,hv,hpv⟩:=this
     exact .p (rep_pureA (h.ev hv) hpv)
    | ptr i off sz es =>
     obtain ⟨l,r1,r2,r3⟩:=this
     have hr:=h.ev r2
     generalize a.eval x = xv at hr
     cases hr with
     | ptr hs=>exact .ptr (by rw [hσ j l r1]; exact hs)
    | map es =>
     obtain ⟨l,r1,r2,r3⟩:=this
     have hr:=h.ev r2
     generalize a.eval x = xv at hr
     cases hr with
     | map hs=>exact .map (by rw [hσ j l r1]; exact hs)) hH h.tabs
   unfold Oper.wp
   rw [hrun hen,Oper.upon_enter]
   refine hargs.mono fun e w' he=>?_
   obtain ⟨v,I',rfl,hh,hrep⟩:=he
   obtain ⟨c1,c2⟩:=h.heap.lent hap hbs p2 hl hσ hh
   exact hn _ v w' σ I' hk ⟨c1,fun _ _ h=>h,fun _ _=>rfl,fun g hg=>hh.sub g hg,c2,fun x hx=>by injection hx with hx; subst hx; exact .p hrep⟩
def callW (P : Program) (lab : Nat) (c : Call) (T : Nat → Option AV) (H : Nat → Option Blk) (k : Eff → Prop) : Prop :=
 match c.callee with
 | .value f=>pcallW P lab (ev T f) T H c.args.toList k
 | .builtin b=>match b,c.args.toList,c.argTypes.toList with
  | .len,[x],[t]=>lenW P t (ev T x) H k
  | .append,[x,y],[t,tx]=>appendW P lab t tx (ev T x) (ev T y) H k
  | .copy,[x,y],[t,_]=>copyW P t (ev T x) (ev T y) H k
  | .max,[x,y],_=>minmaxW true (ev T x) (ev T y) k
  | .min,[x,y],_=>minmaxW false (ev T x) (ev T y) k
  | _,_,_=>False
 | _=>False
def opW (P : Program) (lab : Nat) (op : Op) (T : Nat → Option AV) (H : Nat → Option Blk) (k : Eff → Prop) : Prop :=
 match op with
 | .move x | .assign x=>moveW (ev T x) k
 | .pick c x y=>pickW (ev T c) (ev T x) (ev T y) k
 | .alloc t=>allocW P lab t k
 | .box _ x=>boxW lab (ev T x) k
 | .build t ps=>buildW P t (partsA T ps.toList) k
 | .buildSlice t n ps=>buildSliceW P lab t n (partsA T ps.toList) k
 | .load t x=>loadW P t (ev T x) H k
 | .store t x y=>storeW P t (ev T x) (ev T y) H k
 | .binOp op t x y _=>binOW P T op t x y k
 | .unOp op _ x=>unW op (ev T x) k
 | .convert s d x=>convertW P s d (ev T x) H k
 | .makeSlice t l c=>makeSliceW P lab t (ev T l) (ev T c) k
 | .slice t x lo hi mx=>sliceW P t (ev T x) (lo.map (ev T)) (hi.map (ev T)) (mx.map (ev T)) H k
 | .fieldAddr t x f=>fieldAddrW P t f (ev T x) k
 | .field t x f=>fieldW P t f (ev T x) k
 | .indexAddr t x i=>indexAddrW P t (ev T x) (ev T i) H k
 | .index t x i=>indexW P t (ev T x) (ev T i) k
 | .extract x i=>extractW (ev T x) i k
 | .makeInterface t x=>makeIfaceW P t (ev T x) k
 | .nilCheck x=>nilCheckW (ev T x) k
 | .typeAssert x _ ags ok=>assertW P ags ok (ev T x) k
 | .call c=>callW P lab c T H k
 | .makeMap _ none=>makeMapW lab k
 | .lookup t x i ok=>lookupW P t ok (ev T x) (ev T i) H k
 | .mapUpdate t x i v=>mapUpdateW P t (ev T x) (ev T i) (ev T v) H k
 | .range t x=>rangeW P lab t (ev T x) k
 | .next x true=>nextW (ev T x) H k
 | _=>False
theorem snd_op (h : In σ w I T H w0 X I0 a lab) (hk : opW P lab o.op T H k) : Snd P o a w σ I H w0 X I0 lab k:=by
 unfold opW at hk
 split at hk <;> rename_i ho
 ·exact snd_move h (.inl ho) hk
 ·exact snd_move h (.inr ho) hk
 ·exact snd_pick h ho hk
 ·exact snd_alloc h ho hk
 ·exact snd_box h ho hk
 ·exact snd_build h ho hk
 ·exact snd_buildSlice h ho hk
 ·exact snd_load h ho hk
 ·exact snd_store h ho hk
 ·exact snd_binO h ho hk
 ·exact snd_un h ho hk
 ·exact snd_convert h ho hk
 ·exact snd_makeSlice h ho hk
 ·exact snd_slice h ho hk
 ·exact snd_fieldAddr h ho hk
 ·exact snd_field h ho hk
 ·exact snd_indexAddr h ho hk
 ·exact snd_index h ho hk
 ·exact snd_extract h ho hk
 ·exact snd_makeIface h ho hk
 ·exact snd_nilCheck h ho hk
 ·exact snd_assert h ho hk
 ·rename_i c
  obtain ⟨cl,cargs,ctys⟩:=c
  unfold callW at hk
  split at hk <;> rename_i hc
  ·exact snd_pcall h ho hc hk
  ·simp only at hc
   subst hc
   have l1 : ∀ {α : Type} {xs : Array α} {x : α},xs.toList = [x] → xs = #[x]:=fun h=>Array.ext' h
   have l2 : ∀ {α : Type} {xs : Array α} {x y : α},xs.toList = [x,y] → xs = #[x,y]:=fun h=>Array.ext' h
   split at hk
   ·rename_i x t hx ht
    simp only at hx ht
    rw [l1 hx,l1 ht] at ho
    exact snd_len h ho hk
   ·rename_i x y t tx hx ht
    simp only at hx ht
    rw [l2 hx,l2 ht] at ho
    exact snd_append h ho hk
   ·rename_i x y t tx hx ht
    simp only at hx ht
    rw [l2 hx,l2 ht] at ho
    exact snd_copy h ho hk
   ·rename_i x y hx
    simp only at hx
    rw [l2 hx] at ho
    exact snd_max h ho hk
   ·rename_i x y hx
    simp only at hx
    rw [l2 hx] at ho
    exact snd_min h ho hk
   ·exact hk.elim
  ·exact hk.elim
 ·exact snd_makeMap h ho hk
 ·exact snd_lookup h ho hk
 ·exact snd_mapUpdate h ho hk
 ·exact snd_range h ho hk
 ·exact snd_next h ho hk
 ·exact hk.elim
def putT (T : Nat → Option AV) (d : Option Tmp) (v : Option AV) : Nat → Option AV :=
 match d with
 | some d=>upd T d v
 | none=>T
def dstOK (nt : Fm) (o : Oper) : Bool:=match o.dst with | some d=>decide (d < nt.n) && nt.pin.all (fun p=>p != d) | none=>true
def guardW (ops : List Oper) (o : Oper) (T : Nat → Option AV) (run skip : Prop) : Prop :=
 match o.guard with
 | none=>run
 | some (j,want)=>match ((ops[j]?).bind (·.dst)).bind T with
  | some (.p (.bool b))=>if b = want then run else skip
  | _=>False
def notB : Value → Prop
 | .bool _=>False
 | _=>True
theorem notB_undef : notB undef = True:=rfl
def guardS (ops : List Oper) (o : Oper) (T : Nat → Option AV) (run skip : Prop) : Prop :=
 match o.guard with
 | none=>run
 | some (j,want)=>match ((ops[j]?).bind (·.dst)).bind T with
  | some (.p (.bool b))=>if b = want then run else skip
  | some (.p (.cst x))=>notB x ∧ skip
  | _=>False
def seqW (P : Program) (ops : List Oper) (nx : Nat) : List Oper → (Nat → Option AV) → (Nat → Option Blk) → ((Nat → Option AV) → (Nat → Option Blk) → Nat → Prop) → Prop
 | [],T,H,K=>K T H nx
 | o :: r,T,H,K=>guardS ops o T (opW P nx o.op T H fun e=>seqW P ops (nx + 1) r (putT T o.dst e.val) (putH H e.upd) K) (seqW P ops (nx + 1) r (putT T o.dst (some (.p (.cst undef)))) H K)
theorem Match.put {nt : Fm} {σ' : Lab} {I' : Nat → Prop} {w' : World} {H' : Nat → Option Blk} {v : Value} {x : Option AV} (m : Match nt w0 X I0 σ I T H a w) (hd : dstOK nt o = true) (hh : HOK σ' w' I' H' w0 X I0) (he : ∀ l s,σ l = some s → σ' l = some s) (hi : ∀ b,I b → I' b)
  (hs : ∀ b,I b → w'.heap[b]? = w.heap[b]?) (hv : ∀ y,x = some y → repA σ' w' I' v y) : Match nt w0 X I0 σ' I' (putT T o.dst x) H' (a.put o.dst v) w':=by
 have old : ∀ i y,T i = some y → ∃ u,a.tmps[i]? = some u ∧ repA σ' w' I' u y:=fun i y hy=>by
  obtain ⟨u,hu,hr⟩:=m.tmps i y hy
  exact ⟨u,hu,hr.mono he hi hs⟩
 unfold dstOK at hd
 cases hdst : o.dst with
 | none=>exact ⟨m.defers,m.size,m.pins,hh,old⟩
 | some d =>
  rw [hdst] at hd
  simp only [Bool.and_eq_true,decide_eq_true_eq] at hd
  have hlt : d < a.tmps.size:=by rw [m.size]; exact hd.1
  refine ⟨m.defers,by simp [Act.put,m.size],fun i hi=>?_,hh,fun i y hy=>?_⟩
  ·have : i ≠ d:=by simpa using List.all_eq_true.1 hd.2 i hi
   simp only [Act.put]
   rw [Array.getElem?_setIfInBounds_ne (fun h=>this h.symm)]
   exact m.pins i hi
  simp only [putT] at hy
  by_cases hi : i = d
  ·subst hi
   rw [upd_same] at hy
   exact ⟨v,by simp [Act.put,hlt],hv y hy⟩
  ·rw [upd_ne _ _ hi] at hy
   obtain ⟨u,hu,hr⟩:=old i y hy
   exact ⟨u,by simp only [Act.put]; rw [Array.getElem?_setIfInBounds_ne (fun h=>hi h.symm)]; exact hu,hr⟩
theorem seq_sound {nt : Fm} {ops : Array Oper} {Q : Exit → Act → World → Prop} {K : (Nat → Option AV) → (Nat → Option Blk) → Nat → Prop} (hd : ops.toList.all (dstOK nt) = true) (tx : TabX w0 X I0)
  (hK : ∀ T H n σ I a w,Match nt w0 X I0 σ I T H a w → (∀ l,n ≤ l → σ l = none) → K T H n → Q .normal a w) :
  ∀ (r : List Oper) (i nx : Nat) (T : Nat → Option AV) (H : Nat → Option Blk) (σ : Lab) (I : Nat → Prop) (a : Act) (w : World),ops.toList.drop i = r → Match nt w0 X I0 σ I T H a w → (∀ l,nx ≤ l → σ l = none) → seqW P ops.toList nx r T H K → wpOps P ops Q (List.range' i r.length) a w:=by
 intro r
 induction r with
 | nil=>intro i nx T H σ I a w _ m hn hk; exact hK T H nx σ I a w m hn hk
 | cons o r ih =>
  intro i nx T H σ I a w hr m hn hk
  have hi : ops[i]? = some o:=by
   rw [← Array.getElem?_toList,show i = i + 0 from rfl,← List.getElem?_drop,hr]; rfl
  have hdr : ops.toList.drop (i + 1) = r:=by rw [← List.drop_drop,hr]; rfl
  have hdo : dstOK nt o = true:=List.all_eq_true.1 hd o (List.mem_of_getElem? (by rw [Array.getElem?_toList]; exact hi))
  rw [List.length_cons,List.range'_succ]
  simp only [wpOps,hi]
  simp only [seqW] at hk
  have run : (opW P nx o.op T H fun e=>seqW P ops.toList (nx + 1) r (putT T o.dst e.val) (putH H e.upd) K) → o.wp P a w (wpOps P ops Q (List.range' (i + 1) r.length)) Q:=by
   intro hop
   refine snd_op (w0:=w0) (X:=X) (I0:=I0) ⟨m.heap,m.tmps,hn nx (Nat.le_refl _),tx⟩ hop _ _ fun e v w' σ' I' hk' out=>?_
   refine ih (i + 1) (nx + 1) _ _ σ' I' _ w' hdr (m.put hdo out.heap out.ext out.imm out.same out.val) (fun l hl=>?_) hk'
   rw [out.lab l (by omega)]
   exact hn l (by omega)
  have skip : seqW P ops.toList (nx + 1) r (putT T o.dst (some (.p (.cst undef)))) H K → wpOps P ops Q (List.range' (i + 1) r.length) (a.put o.dst undef) w:=by
   intro hk'
   exact ih (i + 1) (nx + 1) _ _ σ I _ w hdr (m.put hdo m.heap (fun _ _ h=>h) (fun _ h=>h) (fun _ _=>rfl) (fun y hy=>by injection hy with hy; subst hy; exact .p (.cst undef))) (fun l hl=>hn l (by omega)) hk'
  unfold guardS at hk
  cases hg : o.guard with
  | none =>
   rw [hg] at hk
   have : Region.wanted o (yielded ops a.tmps) = true:=by simp [Region.wanted,hg]
   rw [if_pos this]
   exact .inl (run hk)
  | some jw =>
   obtain ⟨j,want⟩:=jw
   rw [hg] at hk
   simp only at hk
   split at hk
   ·rename_i b hb
    obtain ⟨d,hd1,hd2⟩:=Option.bind_eq_some_iff.1 hb
    rw [Array.getElem?_toList] at hd1
    obtain ⟨u,hu,hru⟩:=m.tmps d _ hd2
    have hy : yielded ops a.tmps j = some b:=by
     cases hru with
     | p h=>cases h; simp [yielded,hd1,hu]
    have hw : Region.wanted o (yielded ops a.tmps) = (b == want):=by
     simp only [Region.wanted,hg,hy]
     cases b <;> cases want <;> rfl
    split at hk
    ·rename_i hbw
     rw [hw,if_pos (by simp [hbw])]
     exact .inl (run hk)
    ·rename_i hbw
     rw [hw,if_neg (by simp [hbw])]
     exact skip hk
   ·rename_i x hb
    obtain ⟨d,hd1,hd2⟩:=Option.bind_eq_some_iff.1 hb
    rw [Array.getElem?_toList] at hd1
    obtain ⟨u,hu,hru⟩:=m.tmps d _ hd2
    have hy : yielded ops a.tmps j = none:=by
     cases hru with
     | p h =>
      cases h
      simp only [yielded,hd1,Option.bind_some,hu]
      have:=hk.1
      cases x <;> first | rfl | exact this.elim
    have hw : Region.wanted o (yielded ops a.tmps) = false:=by
     simp only [Region.wanted,hg,hy]
     cases want <;> rfl
    rw [hw,if_neg (by simp)]
    exact skip hk.2
   ·exact hk.elim
theorem AW.region {nt : Fm} {id : Nat} {ops : Array Oper} {s : St} {Q : Exit → St → Prop} (hd : ops.toList.all (dstOK nt) = true) (h : seqW P ops.toList s.nx ops.toList s.T s.H fun T H n=>Q .normal ⟨T,H,n⟩) : AW P nt (.region id ops false) s Q:=by
 intro w0 X I0 a w tx ⟨σ,I,hn,m⟩
 refine wp_region ?_
 have:=seq_sound (P:=P) (Q:=fun e a' w'=>∃ s',Matches nt w0 X I0 s' a' w' ∧ Q e s') hd tx (fun T H n σ I a w m hn hq=>⟨⟨T,H,n⟩,⟨σ,I,hn,m⟩,hq⟩) ops.toList 0 s.nx s.T s.H σ I a w rfl m hn h
 rw [List.range_eq_range']
 simpa using this
theorem AW.regThen {nt : Fm} {id : Nat} {ops : Array Oper} {y : Code} {s : St} {Q : Exit → St → Prop} (hd : ops.toList.all (dstOK nt) = true)
  (h : ∀ K : St → Prop,(∀ s',AW P nt y s' Q → K s') → seqW P ops.toList s.nx ops.toList s.T s.H fun T H n=>K ⟨T,H,n⟩) : AW P nt (.seq (.region id ops false) y) s Q :=
 AW.seq (AW.region hd (h (fun s'=>AW P nt y s' Q) fun _ h=>h))
theorem AW.regEnd {nt : Fm} {id : Nat} {ops : Array Oper} {s : St} {Q : Exit → St → Prop} (hd : ops.toList.all (dstOK nt) = true)
  (h : ∀ K : St → Prop,(∀ s',Q .normal s' → K s') → seqW P ops.toList s.nx ops.toList s.T s.H fun T H n=>K ⟨T,H,n⟩) : AW P nt (.region id ops false) s Q :=
 AW.region hd (h (fun s'=>Q .normal s') fun _ h=>h)
theorem AW.cond {nt : Fm} {c : Operand} {x y : Code} {s : St} {Q : Exit → St → Prop} (b : Bool) (hb : ev s.T c = some (.p (.bool b))) (ht : b = true → AW P nt x s Q) (hf : b = false → AW P nt y s Q) : AW P nt (.cond c x y) s Q:=by
 intro w0 X I0 a w tx m
 obtain ⟨σ,I,hn,mm⟩:=m
 have hc:=In.ev (lab:=s.nx) ⟨mm.heap,mm.tmps,hn _ (Nat.le_refl _),tx⟩ hb
 generalize hcv : a.eval c = cv at hc
 cases hc with
 | p hc =>
 cases hc with
 | bool =>
 refine wp_cond hcv ?_
 cases b with
 | true=>rw [if_pos rfl]; exact ht rfl w0 X I0 a w tx ⟨σ,I,hn,mm⟩
 | false=>rw [if_neg (by simp)]; exact hf rfl w0 X I0 a w tx ⟨σ,I,hn,mm⟩
theorem AW.cT {P : Program} {nt : Fm} {c : Operand} {x y : Code} {s : St} {Q : Exit → St → Prop} (hb : ev s.T c = some (.p (.bool true))) (h : AW P nt x s Q) : AW P nt (.cond c x y) s Q:=AW.cond true hb (fun _=>h) (fun e=>by cases e)
theorem AW.cF {P : Program} {nt : Fm} {c : Operand} {x y : Code} {s : St} {Q : Exit → St → Prop} (hb : ev s.T c = some (.p (.bool false))) (h : AW P nt y s Q) : AW P nt (.cond c x y) s Q:=AW.cond false hb (fun e=>by cases e) (fun _=>h)
def argsT : List PV → Nat → Nat → Option AV
 | [],_=>fun _=>none
 | x :: l,i=>upd (argsT l (i + 1)) i (some (.p x))
theorem argsT_some : ∀ {l : List PV} {i j : Nat} {x : AV},argsT l i j = some x → ∃ p,x = .p p ∧ i ≤ j ∧ l[j - i]? = some p:=by
 intro l
 induction l with
 | nil=>intro i j x h; cases h
 | cons y l ih =>
  intro i j x h
  simp only [argsT] at h
  by_cases hj : j = i
  ·subst hj
   rw [upd_same] at h
   injection h with h
   subst h
   exact ⟨y,rfl,Nat.le_refl _,by simp⟩
  ·rw [upd_ne _ _ hj] at h
   obtain ⟨p,h1,h2,h3⟩:=ih h
   refine ⟨p,h1,by omega,?_⟩
   rw [show j - i = (j - (i + 1)) + 1 by omega,List.getElem?_cons_succ]
   exact h3
def cellV (P : Program) (H : Nat → Option Blk) (x : Option AV) (t : TypeId) : Option PV :=
 match x with
 | some (.ptr l i off)=>match H l with
  | some (.row _ es)=>match es[i]? with
   | some e=>match tagg P t with
    | some true=>match tsize P t with
     | some n=>if off + n ≤ e.length then (match pureL ((e.drop off).take n) with | some ps=>some (.agg ps) | none=>none) else none
     | none=>none
    | some false=>match e[off]? with
     | some y=>pure1 y
     | none=>none
    | none=>none
   | none=>none
  | _=>none
 | _=>none
theorem cell_run (h : In σ w I T H w0 X I0 a lab) {x : Operand} {t : TypeId} {p : PV} (hp : cellV P H (ev T x) t = some p) : ∃ ad v,a.eval x = .pointer (some ad) ∧ (loadVar t ad).run P w = .ok v w ∧ rep w I v p:=by
 unfold cellV at hp
 split at hp
 ·rename_i l i off hx
  split at hp
  ·rename_i sz es hH
   split at hp
   ·rename_i e he
    split at hp
    ·rename_i ht
     split at hp
     ·rename_i n hn
      split at hp
      ·rename_i hle
       split at hp
       ·rename_i ps hps
        injection hp with hp; subst hp
        obtain ⟨ad,v,y,h1,h2,h3,h4⟩:=load_run (P:=P) (k:=fun e'=>e' = ⟨some (mkAgg ((e.drop off).take n)),[]⟩) h (t:=t) (x:=x) (by simp only [loadW,hx,hH,he,loadA,ht,hn]; exact ⟨hle,trivial⟩)
        refine ⟨ad,v,h1,h2,?_⟩
        simp only [Eff.mk.injEq,Option.some.injEq,and_true] at h4
        subst h4
        refine rep_pureA h3 ?_
        unfold mkAgg
        cases hall : allP ((e.drop off).take n) with
        | none=>simp only [pureA,hps]
        | some qs =>
         have:=allP_map hall
         rw [this] at hps
         have : pureL (qs.map AV.p) = some qs:=by
          clear hps this hall
          induction qs with
          | nil=>rfl
          | cons q qs ih=>rw [List.map_cons,pureL,ih]; rfl
         rw [this] at hps
         injection hps with hps
         subst hps
         rfl
       ·cases hp
      ·cases hp
     ·cases hp
    ·rename_i ht
     split at hp
     ·rename_i y hy
      obtain ⟨ad,v,y',h1,h2,h3,h4⟩:=load_run (P:=P) (k:=fun e'=>e' = ⟨some y,[]⟩) h (t:=t) (x:=x) (by simp only [loadW,hx,hH,he,loadA,ht,hy])
      refine ⟨ad,v,h1,h2,?_⟩
      simp only [Eff.mk.injEq,Option.some.injEq,and_true] at h4
      subst h4
      exact rep_pure1 h3 hp
     ·cases hp
    ·cases hp
   ·cases hp
  ·cases hp
 ·cases hp
def resW (P : Program) (s : St) : List ResultVar → Option (List PV)
 | []=>some []
 | .tmp t :: r=>match s.T t with
  | some v=>match pureA v with
   | some x=>match resW P s r with | some l=>some (x :: l) | none=>none
   | none=>match frzA s.H v with
    | some (x,_)=>match resW P s r with | some l=>some (x :: l) | none=>none
    | none=>none
  | none=>none
 | .cell t ty :: r=>match cellV P s.H (s.T t) ty,resW P s r with
  | some x,some l=>some (x :: l)
  | _,_=>none
def oneOr : List PV → PV
 | [x]=>x
 | l=>.tuple l
theorem run_results {nt : Fm} {σ : Lab} {I J : Nat → Prop} {s : St} {a : Act} {w : World} (tx : TabX w0 X I0) (m : Match nt w0 X I0 σ I s.T s.H a w) (hI : ∀ b,I b → J b) (hJ : ∀ l g sl,s.H l ≠ none → σ l = some sl → sl.block = some g → J g) (hlab : σ s.nx = none) (f : ResultVar → Sem Value) (hf : ∀ t,f (.tmp t) = pure (a.tmps.getD t undef)) (hf' : ∀ t ty,f (.cell t ty) = (do loadVar ty (← asAddr (a.tmps.getD t undef)))) : ∀ (rs : List ResultVar) (l : List PV),resW P s rs = some l → ∃ vs : List Value,(rs.mapM f).run P w = .ok vs w ∧ vs.length = l.length ∧ ∀ (j : Nat) u p,vs[j]? = some u → l[j]? = some p → rep w J u p:=by
 intro rs
 induction rs with
 | nil=>intro l h; simp only [resW] at h; injection h with h; subst h; exact ⟨[],rfl,rfl,fun j u p h _=>by simp at h⟩
 | cons r rs ih =>
  intro l h
  cases r with
  | cell t ty =>
   simp only [resW] at h
   split at h
   ·rename_i x l' hx hl
    injection h with h
    subst h
    obtain ⟨ad,v,q1,q2,q3⟩:=cell_run (lab:=s.nx) ⟨m.heap,m.tmps,hlab,tx⟩ (x:=.tmp t) hx
    obtain ⟨vs,h1,h2,h3⟩:=ih l' hl
    refine ⟨v :: vs,?_,by simp [h2],fun j u p r1 r2=>?_⟩
    ·have q1' : a.tmps.getD t undef = .pointer (some ad):=q1
     rw [List.mapM_cons,hf',q1']
     simp [asAddr,q2,h1]
    ·rcases j with _ | j
     ·simp at r1 r2; subst r1 r2; exact q3.mono hI (fun _ _=>rfl)
     ·exact h3 j u p (by simpa using r1) (by simpa using r2)
   ·cases h
  | tmp t =>
   have fin : ∀ x l' u,resW P s rs = some l' → a.tmps[t]? = some u → rep w J u x → l = x :: l' → ∃ vs : List Value,((ResultVar.tmp t :: rs).mapM f).run P w = .ok vs w ∧ vs.length = l.length ∧ ∀ (j : Nat) u p,vs[j]? = some u → l[j]? = some p → rep w J u p:=by
    rintro x l' u hl hu hx rfl
    obtain ⟨vs,h1,h2,h3⟩:=ih l' hl
    refine ⟨u :: vs,?_,by simp [h2],fun j v p q1 q2=>?_⟩
    ·rw [List.mapM_cons,hf]
     simp [h1,hu]
    ·rcases j with _ | j
     ·simp at q1 q2; subst q1 q2; exact hx
     ·exact h3 j v p (by simpa using q1) (by simpa using q2)
   simp only [resW] at h
   split at h
   ·rename_i xv hxv
    obtain ⟨u,hu,hru⟩:=m.tmps t xv hxv
    split at h
    ·rename_i x hxp
     split at h
     ·rename_i l' hl
      injection h with h
      exact fin x l' u hl hu ((rep_pureA hru hxp).mono hI (fun _ _=>rfl)) h.symm
     ·cases h
    ·split at h
     ·rename_i x lb hxp
      split at h
      ·rename_i l' hl
       injection h with h
       have hn:=(rep_frz (J:=fun _=>True) m.heap hru hxp (fun _ _ _ _=>trivial) (fun _ _=>trivial)).2
       exact fin x l' u hl hu (rep_frz m.heap hru hxp (fun g sl q1 q2=>hJ lb g sl hn q1 q2) hI).1 h.symm
      ·cases h
     ·cases h
   ·cases h
def resF (tmps : Array Value) : ResultVar → Sem Value
 | .tmp t=>pure (tmps.getD t undef)
 | .cell a t=>do loadVar t (← asAddr (tmps.getD a undef))
theorem results_eq (fn : Func) (tmps : Array Value) : results fn tmps = (do let vs ← fn.results.mapM (resF tmps); pure (if h : vs.size = 1 then vs[0] else .tuple vs)):=by
 unfold results
 congr 1
def EndW (P : Program) (rs : Array ResultVar) (r : PV) : Exit → St → Prop
 | .normal,s | .ret,s=>(resW P s rs.toList).map oneOr = some r
 | _,_=>False
theorem PFn.of {f : FuncId} {fn : Func} {c : Code} {args : List PV} {r : PV} (hf : P.funcs[f]? = some fn) (hb : fn.body = some c) (hn : fn.name ≠ "runtime.NumGoroutine") {nt : Nat} (hnt : fn.ntmps = nt) {rs : Array ResultVar} (hrs : fn.results = rs) (hnt' : args.length ≤ nt)
  (h : AW P (fm nt) c ⟨argsT args 0,fun _=>none,0⟩ (EndW P rs r)) : PFn P f args r:=by
 subst hnt hrs
 refine ⟨by simp [enters,hf,hb,hn],fun w I vals hs hr hI ht=>?_⟩
 have tx : TabX w (fun _=>False) I:=⟨ht,hI,fun _ h=>h.elim⟩
 refine calls_of_wp hf hb ?_
 have m : Matches (fm fn.ntmps) w (fun _=>False) I ⟨argsT args 0,fun _=>none,0⟩ { tmps:=vals ++ Array.replicate (fn.ntmps - vals.size) undef,defers:=[] } w:=by
  refine ⟨fun _=>none,I,fun _ _=>rfl,rfl,(by simp; omega),(fun i hi=>by cases hi),⟨(fun l b h=>by cases h),fun l l' g s s' h=>absurd rfl h,fun l g s h=>absurd rfl h,fun g hg=>⟨hI g hg,.inl hg⟩,fun _ h=>h,Fr.refl _ _⟩,fun i x hx=>?_⟩
  obtain ⟨p,rfl,h0,hp⟩:=argsT_some hx
  rw [Nat.sub_zero] at hp
  have hi : i < vals.size:=by rw [hs]; exact (List.getElem?_eq_some_iff.1 hp).1
  exact ⟨vals[i],by rw [Array.getElem?_append_left hi,Array.getElem?_eq_getElem hi],.p (hr i _ p (Array.getElem?_eq_getElem hi) hp)⟩
 refine wp_mono (h w _ I _ w tx m) ?_
 rintro e a' w' ⟨s',⟨σ',I',hn',m'⟩,q⟩
 have fin : (resW P s' fn.results.toList).map oneOr = some r → a'.defers = [] ∧ ∃ v,(results fn a'.tmps).run P w' = .ok v w' ∧ ∃ v',Ending.returned v = .returned v' ∧ Fr w (fun _=>False) w' ∧ rep w' (fun g=>I g ∨ (w.heap.size ≤ g ∧ g < w'.heap.size)) v' r:=by
  intro q
  obtain ⟨l,hl,rfl⟩:=Option.map_eq_some_iff.1 q
  have hI' : ∀ g,I' g → (I g ∨ (w.heap.size ≤ g ∧ g < w'.heap.size)):=fun g hg=>by
   obtain ⟨q1,q2⟩:=m'.heap.imm g hg
   rcases q2 with q2 | q2 | q2
   ·exact .inl q2
   ·exact q2.elim
   ·exact .inr ⟨q2,q1⟩
  obtain ⟨vs,h1,h2,h3⟩:=run_results tx m' (J:=fun g=>I g ∨ (w.heap.size ≤ g ∧ g < w'.heap.size)) hI' (fun lb g sl q1 q2 q3=>by
   obtain ⟨_,q5⟩:=m'.heap.mine lb g sl q1 q2 q3
   obtain ⟨b,hb⟩:=Option.ne_none_iff_exists'.1 q1
   obtain ⟨s'',hs'',hlt⟩:=(m'.heap.rows lb b hb).block
   rw [q2] at hs''
   injection hs'' with hs''
   subst hs''
   rcases q5 with q5 | q5
   ·exact q5.elim
   ·exact .inr ⟨q5,hlt g q3⟩) (hn' _ (Nat.le_refl _)) (resF a'.tmps) (fun t=>rfl) (fun t ty=>rfl) fn.results.toList l hl
  have hrun : (results fn a'.tmps).run P w' = .ok (if h : vs.length = 1 then vs[0] else .tuple vs.toArray) w':=by
   rw [results_eq,show fn.results = fn.results.toList.toArray by simp,List.mapM_toArray]
   simp only [Sem.run_bind,Sem.run_map,h1,Result.andThen_ok,Sem.run_pure,List.size_toArray,List.getElem_toArray]
  refine ⟨m'.defers,_,hrun,_,rfl,m'.heap.fr,?_⟩
  by_cases h4 : vs.length = 1
  ·rw [dif_pos h4]
   obtain ⟨p,rfl⟩ : ∃ p,l = [p]:=List.length_eq_one_iff.1 (by omega)
   exact h3 0 _ p (List.getElem?_eq_getElem (by omega)) rfl
  ·rw [dif_neg h4]
   have : oneOr l = .tuple l:=by
    unfold oneOr
    split
    ·exact absurd h2 h4
    ·rfl
   rw [this]
   exact .tuple (by simpa using h2) (fun j u p q1 q2=>h3 j u p (by simpa using q1) q2)
 cases e with
 | normal=>exact fin q
 | ret=>exact fin q
 | exit _=>exact q.elim
 | goto _=>exact q.elim
 | panic _=>exact q.elim
 | outgrown=>exact q.elim
end
end Go.Aw
namespace Go.Aw
open Go.RowKit
def One (F : (Eff → Prop) → Prop) : Prop:=∀ k,F k → ∃ e,k e ∧ ∀ k' : Eff → Prop,k' e → F k'
theorem One.pure (x : Eff) : One (fun k=>k x):=fun _ h=>⟨x,h,fun _ h=>h⟩
theorem One.false : One (fun _=>False):=fun _ h=>h.elim
theorem One.and {c : Prop} {F : (Eff → Prop) → Prop} (h : One F) : One (fun k=>c ∧ F k):=fun k ⟨hc,hk⟩=>let ⟨e,h1,h2⟩:=h k hk; ⟨e,h1,fun k' h'=>⟨hc,h2 k' h'⟩⟩
theorem One.ite {c : Prop} [Decidable c] {F G : (Eff → Prop) → Prop} (h : One F) (h' : One G) : One (fun k=>if c then F k else G k):=by
 intro k hk
 by_cases hc : c
 ·simp only [if_pos hc] at hk ⊢; exact h k hk
 ·simp only [if_neg hc] at hk ⊢; exact h' k hk
theorem One.ex {α : Type} {F : α → (Eff → Prop) → Prop} (h : ∀ x,One (F x)) : One (fun k=>∃ x,F x k):=fun k ⟨x,hx⟩=>let ⟨e,h1,h2⟩:=h x k hx; ⟨e,h1,fun k' h'=>⟨x,h2 k' h'⟩⟩
section
variable (P : Program) (lab : Nat) (T : Nat → Option AV) (H : Nat → Option Blk)
theorem one_move (x : Option AV) : One (moveW x):=by
 unfold moveW
 split
 ·exact .pure _
 ·exact .false
theorem one_loadA (t off : Nat) (e : List AV) : One (loadA P t off e):=by
 unfold loadA
 split
 ·split
  ·exact .and (.pure _)
  ·exact .false
 ·split
  ·exact .pure _
  ·exact .false
 ·exact .false
theorem one_loadP (t off : Nat) (e : List PV) : One (loadP P t off e):=by
 unfold loadP
 split
 ·split
  ·exact .and (.pure _)
  ·exact .false
 ·split
  ·exact .pure _
  ·exact .false
 ·exact .false
theorem one_new (cs : List AV) : One (newW lab cs):=.and (.pure _)
theorem one_sliceP (es : List (List PV)) (n : Nat) (lo hi mx : Option (Option AV)) : One (sliceP es n lo hi mx):=by
 unfold sliceP
 repeat' split
 all_goals first
  | exact .false
  | exact .and (.pure _)
  | exact .and (.and (.pure _))
theorem one_fails (ags : TypeId) (ok : Bool) : One (failsW P ags ok):=by
 unfold failsW
 split
 ·exact .and (.pure _)
 ·exact .false
theorem one_exW (lab sz bytes : Nat) (es : List (List PV)) (ns : List (List AV)) : One (exW lab sz bytes es ns):=by
 cases es with
 | nil=>exact .and (.pure _)
 | cons e r =>
  cases ns with
  | nil=>exact .pure _
  | cons n l=>exact .and (.pure _)
theorem one_op (op : Op) : One (opW P lab op T H):=by
 unfold opW
 split
 case h_23 c =>
  unfold callW
  split
  ·unfold pcallW
   split
   ·split
    ·exact .ex fun r=>.and (.pure _)
    ·exact .ex fun r=>.and (.pure _)
   ·exact .false
  ·split
   ·unfold lenW
    repeat' split
    all_goals first | exact .false | exact .pure _
   ·unfold appendW
    repeat' split
    all_goals first | exact .false | exact .and (.and (.pure _)) | exact .and .false | exact .and (one_exW _ _ _ _ _)
   ·unfold copyW
    repeat' split
    all_goals first | exact .false | exact .and (.pure _)
   ·unfold minmaxW
    split
    ·exact .pure _
    ·exact .false
   ·unfold minmaxW
    split
    ·exact .pure _
    ·exact .false
   ·exact .false
  ·exact .false
 ·exact one_move _
 ·exact one_move _
 ·unfold pickW
  split
  ·exact .ite (one_move _) (one_move _)
  ·exact .false
 ·unfold allocW
  split
  ·exact one_new _ _
  ·exact .false
 ·unfold boxW
  split
  ·exact one_new _ _
  ·exact .false
 ·unfold buildW
  repeat' split
  all_goals first | exact .false | exact .pure _
 ·unfold buildSliceW
  repeat' split
  all_goals first | exact .false | exact .and (.pure _)
 ·unfold loadW
  repeat' split
  all_goals first | exact .false | exact one_loadA _ _ _ _ | exact one_loadP _ _ _ _
 ·unfold storeW
  repeat' split
  all_goals first | exact .false | exact .and (.and (.and (.pure _)))
 ·unfold binOW nilW binW eqW
  repeat' split
  all_goals first | exact .false | exact .pure _ | exact .ex fun r=>.and (.pure _)
 ·unfold unW
  repeat' split
  all_goals first | exact .false | exact .pure _
 ·unfold convertW
  repeat' split
  all_goals first | exact .false | exact .pure _
 ·unfold makeSliceW
  repeat' split
  all_goals first | exact .false | exact .and (.pure _)
 ·unfold sliceW sliceStr
  repeat' split
  all_goals first | exact .false | exact .and (.pure _) | exact .and (.and (one_sliceP _ _ _ _ _)) | exact .and (.and (.and (.pure _))) | exact .and (.and (.and (.and (.pure _))))
 ·unfold fieldAddrW
  repeat' split
  all_goals first | exact .false | exact .pure _
 ·unfold fieldW
  repeat' split
  all_goals first | exact .false | exact one_loadA _ _ _ _ | exact one_loadP _ _ _ _
 ·unfold indexAddrW indexAddrP
  repeat' split
  all_goals first | exact .false | exact .and (.and (.pure _))
 ·unfold indexW
  repeat' split
  all_goals first | exact .false | exact .and (.pure _) | exact .and (one_loadA _ _ _ _) | exact .and (one_loadP _ _ _ _)
 ·unfold extractW
  repeat' split
  all_goals first | exact .false | exact .pure _
 ·unfold makeIfaceW
  repeat' split
  all_goals first | exact .false | exact .and (.pure _)
 ·unfold nilCheckW
  repeat' split
  all_goals first | exact .false | exact .pure _
 ·unfold assertW
  repeat' split
  all_goals first | exact .false | exact .and (.pure _) | exact .and (one_fails _ _ _) | exact .and (.ite (.pure _) (one_fails _ _ _))
 ·exact .pure _
 ·unfold lookupW
  repeat' split
  all_goals first | exact .false | exact .and (.ex fun r=>.and (.ex fun v=>.and (.pure _)))
 ·unfold mapUpdateW
  repeat' split
  all_goals first | exact .false | exact .and (.ex fun r=>.and (.pure _))
 ·unfold rangeW
  repeat' split
  all_goals first | exact .false | exact .pure _
 ·unfold nextW
  split
  ·split
   ·exact .ite (.pure _) (.pure _)
   ·exact .false
  ·exact .false
 ·exact .false
end
def labs : Option AV → List Nat
 | some (.own l) | some (.cut l _ _) | some (.ptr l _ _) | some (.map l) | some (.it l)=>[l]
 | _=>[]
def readsA (T : Nat → Option AV) (op : Op) : List Nat:=op.operands.toList.flatMap fun x=>labs (ev T x)
section
variable {P : Program} {lab : Nat} {T T' : Nat → Option AV} {H H' : Nat → Option Blk} {k : Eff → Prop}
theorem loc_load {t : TypeId} {x : Option AV} (h : ∀ l ∈ labs x,H' l = H l) : loadW P t x H' k = loadW P t x H k:=by
 unfold loadW
 split
 ·rw [h _ (by simp [labs])]
 ·rfl
 ·rfl
theorem loc_store {t : TypeId} {x y : Option AV} (h : ∀ l ∈ labs x,H' l = H l) : storeW P t x y H' k = storeW P t x y H k:=by
 unfold storeW
 split
 ·rw [h _ (by simp [labs])]
 ·rfl
theorem loc_indexAddr {t : TypeId} {x y : Option AV} (h : ∀ l ∈ labs x,H' l = H l) : indexAddrW P t x y H' k = indexAddrW P t x y H k:=by
 unfold indexAddrW
 split
 ·split
  ·split
   ·rw [h _ (by simp [labs])]
   ·rfl
   ·rfl
   ·rfl
  ·rfl
 ·rfl
theorem loc_len {t : TypeId} {x : Option AV} (h : ∀ l ∈ labs x,H' l = H l) : lenW P t x H' k = lenW P t x H k:=by
 unfold lenW
 split
 ·rfl
 ·split
  ·rfl
  ·rfl
  ·rw [h _ (by simp [labs])]
  ·rfl
  ·rfl
 ·rfl
theorem loc_slice {t : TypeId} {x : Option AV} {lo hi mx : Option (Option AV)} (h : ∀ l ∈ labs x,H' l = H l) : sliceW P t x lo hi mx H' k = sliceW P t x lo hi mx H k:=by
 unfold sliceW
 split
 ·rfl
 ·split
  ·rfl
  ·rfl
  ·rw [h _ (by simp [labs])]
  ·rfl
  ·rfl
 ·rfl
theorem loc_elems {x : AV} (h : ∀ l ∈ labs (some x),H' l = H l) : elems H' x = elems H x:=by
 unfold elems
 split
 ·rfl
 ·rfl
 ·rw [h _ (by simp [labs])]
 ·rfl
theorem loc_news {tx : TypeId} {x : AV} (h : ∀ l ∈ labs (some x),H' l = H l) : news P H' tx x = news P H tx x:=by
 unfold news
 rw [loc_elems h]
theorem loc_cut {x : AV} (h : ∀ l ∈ labs (some x),H' l = H l) : cutElems H' x = cutElems H x:=by
 unfold cutElems
 split
 ·rw [h _ (by simp [labs])]
 ·exact loc_elems h
theorem loc_dst {x : AV} (h : ∀ l ∈ labs (some x),H' l = H l) : dstPart H' x = dstPart H x:=by
 unfold dstPart
 split
 ·rw [h _ (by simp [labs])]
 ·rw [h _ (by simp [labs])]
 ·rfl
theorem loc_append {t tx : TypeId} {x y : Option AV} (h : ∀ l ∈ labs x,H' l = H l) (h' : ∀ l ∈ labs y,H' l = H l) : appendW P lab t tx x y H' k = appendW P lab t tx x y H k:=by
 have e : y.bind (news P H' tx) = y.bind (news P H tx):=by
  cases y with
  | none=>rfl
  | some y=>exact loc_news h'
 unfold appendW
 rw [e]
 split
 ·split
  ·congr 1
   split
   ·rfl
   ·rw [h _ (by simp [labs])]
   ·rfl
  ·rfl
 ·rfl
theorem loc_copy {t : TypeId} {x y : Option AV} (h : ∀ l ∈ labs x,H' l = H l) (h' : ∀ l ∈ labs y,H' l = H l) : copyW P t x y H' k = copyW P t x y H k:=by
 have e : y.bind (cutElems H') = y.bind (cutElems H):=by
  cases y with
  | none=>rfl
  | some y=>exact loc_cut h'
 have e' : x.bind (dstPart H') = x.bind (dstPart H):=by
  cases x with
  | none=>rfl
  | some y=>exact loc_dst h
 unfold copyW
 rw [e,e']
theorem loc_convert {s d : TypeId} {x : Option AV} (h : ∀ l ∈ labs x,H' l = H l) : convertW P s d x H' k = convertW P s d x H k:=by
 unfold convertW
 split
 ·split
  ·rw [loc_elems h]
  ·rfl
 ·rfl
 ·rfl
 ·rfl
 ·rfl
theorem loc_parts : ∀ (ps : List (Nat × Operand)),(∀ x ∈ ps.map (·.2),ev T' x = ev T x) → partsA T' ps = partsA T ps:=by
 intro ps
 induction ps with
 | nil=>intro _; rfl
 | cons p ps ih =>
  intro h
  simp only [partsA]
  rw [h _ (by simp),ih (fun x hx=>h x (by simp at hx ⊢; exact .inr hx))]
theorem loc_frz {x : AV} (h : ∀ l ∈ labs (some x),H' l = H l) : frzA H' x = frzA H x:=by
 unfold frzA
 split
 ·rw [h _ (by simp [labs])]
 ·rw [h _ (by simp [labs])]
 ·rfl
theorem loc_pureArgs : ∀ (ps : List Operand) (H H' : Nat → Option Blk),(∀ x ∈ ps,ev T' x = ev T x) → (∀ x ∈ ps,∀ l ∈ labs (ev T x),H' l = H l) → pureArgs T' H' ps = pureArgs T H ps:=by
 intro ps
 induction ps with
 | nil=>intro H H' _ _; rfl
 | cons p ps ih =>
  intro H H' h hl
  simp only [pureArgs]
  rw [h _ (by simp)]
  cases hv : ev T p with
  | none=>rfl
  | some v =>
   have h1:=ih H H' (fun x hx=>h x (by simp [hx])) (fun x hx=>hl x (by simp [hx]))
   simp only
   rw [h1,loc_frz (H:=H) (H':=H') (by rw [← hv]; exact hl p (by simp))]
   split
   ·rfl
   ·split
    ·rename_i y lb _
     rw [ih (upd H lb none) (upd H' lb none) (fun x hx=>h x (by simp [hx])) (fun x hx l hl'=>by
      by_cases q : l = lb
      ·subst q; rw [upd_same,upd_same]
      ·rw [upd_ne _ _ q,upd_ne _ _ q]; exact hl x (by simp [hx]) l hl')]
    ·rfl
theorem loc_lend : ∀ (xs : List Operand) (ags : List LA) (ls : List (Option Nat)),(∀ x ∈ xs,ev T' x = ev T x) → (∀ x ∈ xs,∀ l ∈ labs (ev T x),H' l = H l) → lendP T' H' xs ags ls = lendP T H xs ags ls:=by
 intro xs
 induction xs with
 | nil =>
  intro ags ls _ _
  cases ags with
  | nil=>cases ls <;> rfl
  | cons a ags=>cases a <;> rfl
 | cons x xs ih =>
  intro ags ls h hl
  have hx:=h x (by simp)
  have hlx:=hl x (by simp)
  cases ags with
  | nil=>rfl
  | cons a ags =>
   cases ls with
   | nil=>cases a <;> rfl
   | cons q ls =>
    have i:=ih ags ls (fun y hy=>h y (by simp [hy])) (fun y hy=>hl y (by simp [hy]))
    cases a with
    | v p =>
     cases q with
     | some l=>rfl
     | none=>simp only [lendP]; rw [hx,i]
    | ptr a b c d =>
     cases q with
     | none=>rfl
     | some l =>
      simp only [lendP]
      rw [hx,i]
      refine propext (and_congr_right fun he=>?_)
      rw [hlx l (by rw [he]; simp [labs])]
    | map d =>
     cases q with
     | none=>rfl
     | some l =>
      simp only [lendP]
      rw [hx,i]
      refine propext (and_congr_right fun he=>?_)
      rw [hlx l (by rw [he]; simp [labs])]
theorem loc_pcall {f : Operand} {xs : List Operand} (hf : ev T' f = ev T f) (hx : ∀ x ∈ xs,ev T' x = ev T x) (hl : ∀ x ∈ xs,∀ l ∈ labs (ev T x),H' l = H l) : pcallW P lab (ev T' f) T' H' xs k = pcallW P lab (ev T f) T H xs k:=by
 unfold pcallW
 rw [hf,loc_pureArgs xs H H' hx hl]
 have e : ∀ g ps r,WFn P g ps T' H' xs r = WFn P g ps T H xs r:=fun g ps r=>by
  cases r with
  | pure r=>rfl
  | own sz es=>rfl
  | peek r=>rfl
  | lend ls ags bs r=>simp only [WFn]; rw [loc_lend xs ags ls hx hl]
 simp only [e]
theorem loc_lookup {t : TypeId} {ok : Bool} {x i : Option AV} (h : ∀ l ∈ labs x,H' l = H l) : lookupW P t ok x i H' k = lookupW P t ok x i H k:=by
 unfold lookupW
 split
 ·rw [h _ (by simp [labs])]
 ·rfl
theorem loc_mapUpdate {t : TypeId} {x i v : Option AV} (h : ∀ l ∈ labs x,H' l = H l) : mapUpdateW P t x i v H' k = mapUpdateW P t x i v H k:=by
 unfold mapUpdateW
 split
 ·rw [h _ (by simp [labs])]
 ·rfl
theorem loc_next {x : Option AV} (h : ∀ l ∈ labs x,H' l = H l) : nextW x H' k = nextW x H k:=by
 unfold nextW
 split
 ·rw [h _ (by simp [labs])]
 ·rfl
theorem loc_op {op : Op} (hT : ∀ x ∈ op.operands.toList,ev T' x = ev T x) (hH : ∀ l ∈ readsA T op,H' l = H l) : opW P lab op T' H' k = opW P lab op T H k:=by
 have hl : ∀ x ∈ op.operands.toList,∀ l ∈ labs (ev T x),H' l = H l:=fun x hx l hl=>hH l (List.mem_flatMap.2 ⟨x,hx,hl⟩)
 cases op with
 | move x=>simp only [opW]; rw [hT x (by simp [Op.operands])]
 | assign x=>simp only [opW]; rw [hT x (by simp [Op.operands])]
 | pick c x y=>simp only [opW]; rw [hT c (by simp [Op.operands]),hT x (by simp [Op.operands]),hT y (by simp [Op.operands])]
 | alloc t=>rfl
 | box t x=>simp only [opW]; rw [hT x (by simp [Op.operands])]
 | build t ps=>simp only [opW]; rw [loc_parts _ (fun x hx=>hT x (by simpa [Op.operands] using hx))]
 | buildSlice t n ps=>simp only [opW]; rw [loc_parts _ (fun x hx=>hT x (by simpa [Op.operands] using hx))]
 | load t x=>simp only [opW]; rw [hT x (by simp [Op.operands]),loc_load (hl x (by simp [Op.operands]))]
 | store t x y=>simp only [opW]; rw [hT x (by simp [Op.operands]),hT y (by simp [Op.operands]),loc_store (hl x (by simp [Op.operands]))]
 | binOp op t x y t'=>simp only [opW,binOW]; rw [hT x (by simp [Op.operands]),hT y (by simp [Op.operands])]
 | unOp op t x=>simp only [opW]; rw [hT x (by simp [Op.operands])]
 | convert s d x=>simp only [opW]; rw [hT x (by simp [Op.operands]),loc_convert (hl x (by simp [Op.operands]))]
 | makeSlice t l c=>simp only [opW]; rw [hT l (by simp [Op.operands]),hT c (by simp [Op.operands])]
 | slice t x lo hi mx =>
  simp only [opW]
  have e : ∀ z : Option Operand,(∀ y,z = some y → y ∈ (Op.slice t x lo hi mx).operands.toList) → z.map (ev T') = z.map (ev T):=by
   intro z hz
   cases z with
   | none=>rfl
   | some y=>simp only [Option.map_some]; rw [hT y (hz y rfl)]
  rw [hT x (by simp [Op.operands]),e lo (fun y hy=>by subst hy; simp [Op.operands]),e hi (fun y hy=>by subst hy; simp [Op.operands]),e mx (fun y hy=>by subst hy; simp [Op.operands]),loc_slice (hl x (by simp [Op.operands]))]
 | fieldAddr t x f=>simp only [opW]; rw [hT x (by simp [Op.operands])]
 | field t x f=>simp only [opW]; rw [hT x (by simp [Op.operands])]
 | indexAddr t x i=>simp only [opW]; rw [hT x (by simp [Op.operands]),hT i (by simp [Op.operands]),loc_indexAddr (hl x (by simp [Op.operands]))]
 | index t x i=>simp only [opW]; rw [hT x (by simp [Op.operands]),hT i (by simp [Op.operands])]
 | extract x i=>simp only [opW]; rw [hT x (by simp [Op.operands])]
 | makeInterface t x=>simp only [opW]; rw [hT x (by simp [Op.operands])]
 | nilCheck x=>simp only [opW]; rw [hT x (by simp [Op.operands])]
 | typeAssert x t ags ok=>simp only [opW]; rw [hT x (by simp [Op.operands])]
 | call c =>
  obtain ⟨cl,cargs,ctys⟩:=c
  simp only [opW,callW]
  cases cl with
  | value f =>
   simp only
   have hm : ∀ x,x ∈ cargs.toList → x ∈ (Op.call ⟨.value f,cargs,ctys⟩).operands.toList:=fun x hx=>by simp [Op.operands,Call.operands]; exact .inr (by simpa using hx)
   rw [loc_pcall (hT f (by simp [Op.operands,Call.operands])) (fun x hx=>hT x (hm x hx)) (fun x hx=>hl x (hm x hx))]
  | invoke r m=>rfl
  | builtin b =>
   have hm : ∀ x,x ∈ cargs.toList → x ∈ (Op.call ⟨.builtin b,cargs,ctys⟩).operands.toList:=fun x hx=>by simp [Op.operands,Call.operands]; simpa using hx
   simp only
   split
   ·rename_i x t hx ht
    rw [hT x (hm x (by rw [hx]; simp)),loc_len (hl x (hm x (by rw [hx]; simp)))]
   ·rename_i x y t tx hx ht
    rw [hT x (hm x (by rw [hx]; simp)),hT y (hm y (by rw [hx]; simp)),loc_append (hl x (hm x (by rw [hx]; simp))) (hl y (hm y (by rw [hx]; simp)))]
   ·rename_i x y t tx hx ht
    rw [hT x (hm x (by rw [hx]; simp)),hT y (hm y (by rw [hx]; simp)),loc_copy (hl x (hm x (by rw [hx]; simp))) (hl y (hm y (by rw [hx]; simp)))]
   ·rename_i x y hx
    rw [hT x (hm x (by rw [hx]; simp)),hT y (hm y (by rw [hx]; simp))]
   ·rename_i x y hx
    rw [hT x (hm x (by rw [hx]; simp)),hT y (hm y (by rw [hx]; simp))]
   ·rfl
 | makeMap t r=>cases r <;> rfl
 | lookup t x i ok=>simp only [opW]; rw [hT x (by simp [Op.operands]),hT i (by simp [Op.operands]),loc_lookup (hl x (by simp [Op.operands]))]
 | mapUpdate t x i v=>simp only [opW]; rw [hT x (by simp [Op.operands]),hT i (by simp [Op.operands]),hT v (by simp [Op.operands]),loc_mapUpdate (hl x (by simp [Op.operands]))]
 | range t x=>simp only [opW]; rw [hT x (by simp [Op.operands])]
 | next x b =>
  cases b with
  | false=>rfl
  | true=>simp only [opW]; rw [hT x (by simp [Op.operands]),loc_next (hl x (by simp [Op.operands]))]
 | _=>rfl
end
end Go.Aw
namespace Go.Aw
open Go.RowKit
structure Rec where
 eff : Option Eff
 reads : List Nat
def Rec.val (r : Rec) : Option AV:=r.eff.bind (·.val)
def Rec.upds (r : Rec) : List (Nat × Option Blk):=match r.eff with | some e=>e.upd | none=>[]
def Rec.writes (r : Rec) : List Nat:=r.upds.map (·.1)
def recT (T : Nat → Option AV) (o : Oper) (r : Rec) : Nat → Option AV:=putT T o.dst r.val
def recH (H : Nat → Option Blk) (r : Rec) : Nat → Option Blk:=putH H r.upds
theorem putH_out {l : Nat} : ∀ (us : List (Nat × Option Blk)) (H : Nat → Option Blk),l ∉ us.map (·.1) → putH H us l = H l:=by
 intro us
 induction us with
 | nil=>intro H _; rfl
 | cons u us ih =>
  intro H h
  obtain ⟨m,b⟩:=u
  simp only [List.map_cons,List.mem_cons,not_or] at h
  rw [putH,ih _ h.2,upd_ne _ _ h.1]
theorem putH_in {l : Nat} : ∀ (us : List (Nat × Option Blk)) (H H' : Nat → Option Blk),l ∈ us.map (·.1) → putH H us l = putH H' us l:=by
 intro us
 induction us with
 | nil=>intro H H' h; cases h
 | cons u us ih =>
  intro H H' h
  obtain ⟨m,b⟩:=u
  rw [putH,putH]
  by_cases hl : l ∈ us.map (·.1)
  ·exact ih _ _ hl
  ·rw [putH_out us _ hl,putH_out us _ hl]
   simp only [List.map_cons,List.mem_cons] at h
   rcases h with h | h
   ·subst h; rw [upd_same,upd_same]
   ·exact absurd h hl
def foldT (D : Nat → Bool) : List (Oper × Rec) → Nat → (Nat → Option AV) → Nat → Option AV
 | [],_,T=>T
 | (o,r) :: l,i,T=>foldT D l (i + 1) (if D i = true then recT T o r else T)
def foldH (D : Nat → Bool) : List (Oper × Rec) → Nat → (Nat → Option Blk) → Nat → Option Blk
 | [],_,H=>H
 | (_,r) :: l,i,H=>foldH D l (i + 1) (if D i = true then recH H r else H)
theorem putT_ne {T : Nat → Option AV} {d : Option Tmp} {v : Option AV} {t : Nat} (h : d ≠ some t) : putT T d v t = T t:=by
 cases d with
 | none=>rfl
 | some d=>exact upd_ne _ _ (fun e=>h (by rw [e]))
theorem foldT_eq {D D' : Nat → Bool} {t : Nat} : ∀ (L : List (Oper × Rec)) (c : Nat) (T T' : Nat → Option AV),T t = T' t → (∀ (j : Nat) x,L[j]? = some x → x.1.dst = some t → D (c + j) = D' (c + j)) → foldT D L c T t = foldT D' L c T' t:=by
 intro L
 induction L with
 | nil=>intro c T T' h _; exact h
 | cons x L ih =>
  intro c T T' h hD
  obtain ⟨o,r⟩:=x
  simp only [foldT]
  refine ih (c + 1) _ _ ?_ (fun j y hj hy=>by have:=hD (j + 1) y (by simpa using hj) hy; rwa [show c + 1 + j = c + (j + 1) by omega])
  by_cases ho : o.dst = some t
  ·have:=hD 0 (o,r) rfl ho
   rw [Nat.add_zero] at this
   rw [this]
   split
   ·simp only [recT,ho,putT,upd_same]
   ·exact h
  ·have e1 : (if D c = true then recT T o r else T) t = T t:=by split; exact putT_ne ho; rfl
   have e2 : (if D' c = true then recT T' o r else T') t = T' t:=by split; exact putT_ne ho; rfl
   rw [e1,e2,h]
theorem foldT_at {D : Nat → Bool} {t : Nat} : ∀ (L : List (Oper × Rec)) (c : Nat) (T : Nat → Option AV) (i : Nat) (o : Oper) (r : Rec),L[i]? = some (o,r) → o.dst = some t → D (c + i) = true → (∀ (j : Nat) x,i < j → L[j]? = some x → x.1.dst = some t → D (c + j) = false) → foldT D L c T t = r.val:=by
 intro L
 induction L with
 | nil=>intro c T i o r h; simp at h
 | cons x L ih =>
  intro c T i o r h ho hD hn
  obtain ⟨o',r'⟩:=x
  simp only [foldT]
  cases i with
  | zero =>
   simp only [List.getElem?_cons_zero,Option.some.injEq,Prod.mk.injEq] at h
   obtain ⟨rfl,rfl⟩:=h
   rw [Nat.add_zero] at hD
   rw [if_pos hD]
   have : foldT D L (c + 1) (recT T o' r') t = foldT (fun _=>false) L (c + 1) (recT T o' r') t :=
    foldT_eq L (c + 1) _ _ rfl (fun j y hj hy=>by rw [show c + 1 + j = c + (j + 1) by omega]; exact hn (j + 1) y (by omega) (by simpa using hj) hy)
   rw [this]
   have none_ : ∀ (L : List (Oper × Rec)) c T,foldT (fun _=>false) L c T = T:=by
    intro L
    induction L with
    | nil=>intro c T; rfl
    | cons x L ih=>intro c T; obtain ⟨o,r⟩:=x; simp only [foldT,Bool.false_eq_true,if_false]; exact ih _ _
   rw [none_]
   simp only [recT,ho,putT,upd_same]
  | succ i =>
   exact ih (c + 1) _ i o r (by simpa using h) ho (by rwa [show c + 1 + i = c + (i + 1) by omega]) (fun j y hj h1 h2=>by rw [show c + 1 + j = c + (j + 1) by omega]; exact hn (j + 1) y (by omega) (by simpa using h1) h2)
theorem foldH_eq {D D' : Nat → Bool} {t : Nat} : ∀ (L : List (Oper × Rec)) (c : Nat) (T T' : Nat → Option Blk),T t = T' t → (∀ (j : Nat) x,L[j]? = some x → t ∈ x.2.writes → D (c + j) = D' (c + j)) → foldH D L c T t = foldH D' L c T' t:=by
 intro L
 induction L with
 | nil=>intro c T T' h _; exact h
 | cons x L ih =>
  intro c T T' h hD
  obtain ⟨o,r⟩:=x
  simp only [foldH]
  refine ih (c + 1) _ _ ?_ (fun j y hj hy=>by have:=hD (j + 1) y (by simpa using hj) hy; rwa [show c + 1 + j = c + (j + 1) by omega])
  by_cases ho : t ∈ r.writes
  ·have:=hD 0 (o,r) rfl ho
   rw [Nat.add_zero] at this
   rw [this]
   split
   ·exact putH_in _ _ _ ho
   ·exact h
  ·have e1 : (if D c = true then recH T r else T) t = T t:=by split; exact putH_out _ _ ho; rfl
   have e2 : (if D' c = true then recH T' r else T') t = T' t:=by split; exact putH_out _ _ ho; rfl
   rw [e1,e2,h]
theorem foldH_at {D : Nat → Bool} {t : Nat} : ∀ (L : List (Oper × Rec)) (c : Nat) (T : Nat → Option Blk) (i : Nat) (o : Oper) (r : Rec),L[i]? = some (o,r) → t ∈ r.writes → D (c + i) = true → (∀ (j : Nat) x,i < j → L[j]? = some x → t ∈ x.2.writes → D (c + j) = false) → foldH D L c T t = putH (fun _=>none) r.upds t:=by
 intro L
 induction L with
 | nil=>intro c T i o r h; simp at h
 | cons x L ih =>
  intro c T i o r h ho hD hn
  obtain ⟨o',r'⟩:=x
  simp only [foldH]
  cases i with
  | zero =>
   simp only [List.getElem?_cons_zero,Option.some.injEq,Prod.mk.injEq] at h
   obtain ⟨rfl,rfl⟩:=h
   rw [Nat.add_zero] at hD
   rw [if_pos hD]
   have : foldH D L (c + 1) (recH T r') t = foldH (fun _=>false) L (c + 1) (recH T r') t :=
    foldH_eq L (c + 1) _ _ rfl (fun j y hj hy=>by rw [show c + 1 + j = c + (j + 1) by omega]; exact hn (j + 1) y (by omega) (by simpa using hj) hy)
   rw [this]
   have none_ : ∀ (L : List (Oper × Rec)) c T,foldH (fun _=>false) L c T = T:=by
    intro L
    induction L with
    | nil=>intro c T; rfl
    | cons x L ih=>intro c T; obtain ⟨o,r⟩:=x; simp only [foldH,Bool.false_eq_true,if_false]; exact ih _ _
   rw [none_]
   exact putH_in _ _ _ ho
  | succ i =>
   exact ih (c + 1) _ i o r (by simpa using h) ho (by rwa [show c + 1 + i = c + (i + 1) by omega]) (fun j y hj h1 h2=>by rw [show c + 1 + j = c + (j + 1) by omega]; exact hn (j + 1) y (by omega) (by simpa using h1) h2)
def guardIs (all : List Oper) (o : Oper) (T : Nat → Option AV) : Option Bool :=
 match o.guard with
 | none=>some true
 | some (j,want)=>match ((all[j]?).bind (·.dst)).bind T with
  | some (.p (.bool b))=>some (b == want)
  | _=>none
def StepOK (P : Program) (all : List Oper) (nx : Nat) (o : Oper) (r : Rec) (T : Nat → Option AV) (H : Nat → Option Blk) : Prop :=
 match r.eff with
 | some e=>guardIs all o T = some true ∧ opW P nx o.op T H (fun e'=>e' = e) ∧ r.reads = readsA T o.op
 | none=>guardIs all o T = some false
def Chain (P : Program) (all : List Oper) : Nat → List (Oper × Rec) → (Nat → Option AV) → (Nat → Option Blk) → Prop
 | _,[],_,_=>True
 | nx,(o,r) :: l,T,H=>StepOK P all nx o r T H ∧ Chain P all (nx + 1) l (recT T o r) (recH H r)
def foot (r : Rec) : List Nat × List Nat:=(r.reads,r.writes)
def drawW (P : Program) (all : List Oper) (nx : Nat) : List Oper → (Nat → Option AV) → (Nat → Option Blk) → ((Nat → Option AV) → (Nat → Option Blk) → Nat → List (List Nat × List Nat) → Prop) → Prop
 | [],T,H,K=>K T H nx []
 | o :: r,T,H,K=>guardW all o T (opW P nx o.op T H fun e=>drawW P all (nx + 1) r (putT T o.dst e.val) (putH H e.upd) fun T' H' n fs=>K T' H' n ((readsA T o.op,e.upd.map (·.1)) :: fs))
   (drawW P all (nx + 1) r (putT T o.dst none) H fun T' H' n fs=>K T' H' n (([],[]) :: fs))
theorem drawW_chain {P : Program} {all : List Oper} : ∀ (ops : List Oper) (nx : Nat) (T : Nat → Option AV) (H : Nat → Option Blk) K,drawW P all nx ops T H K → ∃ rs : List Rec,rs.length = ops.length ∧ Chain P all nx (ops.zip rs) T H ∧ K (foldT (fun _=>true) (ops.zip rs) 0 T) (foldH (fun _=>true) (ops.zip rs) 0 H) (nx + ops.length) (rs.map foot):=by
 have offT : ∀ (L : List (Oper × Rec)) (c c' : Nat) (T : Nat → Option AV),foldT (fun _=>true) L c T = foldT (fun _=>true) L c' T:=by
  intro L
  induction L with
  | nil=>intro c c' T; rfl
  | cons x L ih=>intro c c' T; obtain ⟨o,r⟩:=x; simp only [foldT,if_true]; exact ih _ _ _
 have offH : ∀ (L : List (Oper × Rec)) (c c' : Nat) (T : Nat → Option Blk),foldH (fun _=>true) L c T = foldH (fun _=>true) L c' T:=by
  intro L
  induction L with
  | nil=>intro c c' T; rfl
  | cons x L ih=>intro c c' T; obtain ⟨o,r⟩:=x; simp only [foldH,if_true]; exact ih _ _ _
 intro ops
 induction ops with
 | nil=>intro nx T H K h; exact ⟨[],rfl,trivial,h⟩
 | cons o r ih =>
  intro nx T H K h
  simp only [drawW] at h
  have run : guardIs all o T = some true → (opW P nx o.op T H fun e=>drawW P all (nx + 1) r (putT T o.dst e.val) (putH H e.upd) fun T' H' n fs=>K T' H' n ((readsA T o.op,e.upd.map (·.1)) :: fs)) → ∃ rs : List Rec,rs.length = (o :: r).length ∧ Chain P all nx ((o :: r).zip rs) T H ∧ K (foldT (fun _=>true) ((o :: r).zip rs) 0 T) (foldH (fun _=>true) ((o :: r).zip rs) 0 H) (nx + (o :: r).length) (rs.map foot):=by
   intro hg hop
   obtain ⟨e,h1,h2⟩:=one_op P nx T H o.op _ hop
   obtain ⟨rs,q1,q2,q3⟩:=ih (nx + 1) _ _ _ h1
   refine ⟨⟨some e,readsA T o.op⟩ :: rs,by simp [q1],⟨⟨hg,h2 _ rfl,rfl⟩,q2⟩,?_⟩
   simp only [List.zip_cons_cons,foldT,foldH,if_true,List.length_cons,List.map_cons]
   rw [offT _ (0 + 1) 0,offH _ (0 + 1) 0,show nx + (r.length + 1) = nx + 1 + r.length by omega]
   exact q3
  have skip : guardIs all o T = some false → (drawW P all (nx + 1) r (putT T o.dst none) H fun T' H' n fs=>K T' H' n (([],[]) :: fs)) → ∃ rs : List Rec,rs.length = (o :: r).length ∧ Chain P all nx ((o :: r).zip rs) T H ∧ K (foldT (fun _=>true) ((o :: r).zip rs) 0 T) (foldH (fun _=>true) ((o :: r).zip rs) 0 H) (nx + (o :: r).length) (rs.map foot):=by
   intro hg h1
   obtain ⟨rs,q1,q2,q3⟩:=ih (nx + 1) _ _ _ h1
   refine ⟨⟨none,[]⟩ :: rs,by simp [q1],⟨hg,q2⟩,?_⟩
   simp only [List.zip_cons_cons,foldT,foldH,if_true,List.length_cons,List.map_cons]
   rw [offT _ (0 + 1) 0,offH _ (0 + 1) 0,show nx + (r.length + 1) = nx + 1 + r.length by omega]
   exact q3
  unfold guardW at h
  unfold guardIs at run skip
  cases hg : o.guard with
  | none =>
   rw [hg] at h run
   exact run rfl h
  | some jw =>
   obtain ⟨j,want⟩:=jw
   rw [hg] at h run skip
   simp only at h run skip
   split at h
   ·rename_i b hb
    rw [hb] at run skip
    split at h
    ·rename_i hw
     exact run (by simp [hw]) h
    ·rename_i hw
     exact skip (by simp [hw]) h
   ·exact h.elim
theorem chain_at {P : Program} {all : List Oper} : ∀ (L : List (Oper × Rec)) (c nx : Nat) (T : Nat → Option AV) (H : Nat → Option Blk),Chain P all nx L T H → ∀ (i : Nat) o r,L[i]? = some (o,r) → StepOK P all (nx + i) o r (foldT (fun j=>decide (j < c + i)) L c T) (foldH (fun j=>decide (j < c + i)) L c H):=by
 intro L
 induction L with
 | nil=>intro c nx T H _ i o r h; simp at h
 | cons x L ih =>
  intro c nx T H h i o r hi
  obtain ⟨o',r'⟩:=x
  obtain ⟨h1,h2⟩:=h
  cases i with
  | zero =>
   simp only [List.getElem?_cons_zero,Option.some.injEq,Prod.mk.injEq] at hi
   obtain ⟨rfl,rfl⟩:=hi
   have e1 : foldT (fun j=>decide (j < c + 0)) ((o',r') :: L) c T = T:=by
    funext t
    have : ∀ (L : List (Oper × Rec)) c' T,c ≤ c' → foldT (fun j=>decide (j < c + 0)) L c' T = T:=by
     intro L
     induction L with
     | nil=>intro c' T _; rfl
     | cons x L ih=>intro c' T hc; obtain ⟨o,r⟩:=x; simp only [foldT,decide_eq_true_eq]; rw [if_neg (by omega)]; exact ih _ _ (by omega)
    rw [this _ _ _ (Nat.le_refl _)]
   have e2 : foldH (fun j=>decide (j < c + 0)) ((o',r') :: L) c H = H:=by
    funext t
    have : ∀ (L : List (Oper × Rec)) c' T,c ≤ c' → foldH (fun j=>decide (j < c + 0)) L c' T = T:=by
     intro L
     induction L with
     | nil=>intro c' T _; rfl
     | cons x L ih=>intro c' T hc; obtain ⟨o,r⟩:=x; simp only [foldH,decide_eq_true_eq]; rw [if_neg (by omega)]; exact ih _ _ (by omega)
    rw [this _ _ _ (Nat.le_refl _)]
   rw [e1,e2]
   exact h1
  | succ i =>
   have:=ih (c + 1) (nx + 1) _ _ h2 i o r (by simpa using hi)
   rw [show nx + 1 + i = nx + (i + 1) by omega,show c + 1 + i = c + (i + 1) by omega] at this
   simp only [foldT,foldH,decide_eq_true_eq]
   rw [if_pos (by omega),if_pos (by omega)]
   exact this
def ahead (ops : List Oper) : Nat → Nat → Nat → Bool
 | 0,_,_=>false
 | f + 1,i,j=>match ops[j]? with
  | some o=>o.after.toList.any fun e=>Region.binds .any e && (e.on == i || (decide (i < e.on) && ahead ops f i e.on))
  | none=>false
def acyclic (ops : List Oper) : Bool:=(List.range ops.length).all fun j=>match ops[j]? with
 | some o=>o.after.toList.all fun e=>!Region.binds .any e || decide (e.on < j)
 | none=>true
def pairsOK (ops : List Oper) (c : Nat → Nat → Bool) : Bool:=(List.range ops.length).all fun j=>(List.range j).all fun i=>c i j || ahead ops ops.length i j
def tmpsApart (ops : List Oper) (i j : Nat) : Bool:=match ops[i]?,ops[j]? with
 | some x,some y=>Oper.apart ops.toArray x y
 | _,_=>true
def disj (a b : List Nat) : Bool:=a.all fun x=>!b.contains x
def heapApart (fs : List (List Nat × List Nat)) (i j : Nat) : Bool:=match fs[i]?,fs[j]? with
 | some (r,w),some (r',w')=>disj w r' && disj w w' && disj w' r
 | _,_=>true
def staticOK (ops : List Oper) : Bool:=acyclic ops && pairsOK ops (tmpsApart ops)
def softOp : Op → Bool
 | .move _ | .assign _ | .pick .. | .binOp .. | .unOp .. | .fieldAddr .. | .indexAddr .. => true
 | _=>false
def isStore : Op → Bool
 | .store .. => true
 | _=>false
def onlyStores (ops : List Oper) (fs : List (List Nat × List Nat)) : Bool:=(ops.zip fs).all fun x=>isStore x.1.op || x.2.2.isEmpty
def eReads (b : Bool) (op : Op) (r : List Nat) : List Nat:=if (b && softOp op) = true then [] else r
def heapApart2 (ops : List Oper) (fs : List (List Nat × List Nat)) (i j : Nat) : Bool:=match ops[i]?,ops[j]?,fs[i]?,fs[j]? with
 | some x,some y,some (r,w),some (r',w')=>disj w (eReads true y.op r') && disj w w' && disj w' (eReads true x.op r)
 | _,_,_,_=>true
def heapOK (ops : List Oper) (fs : List (List Nat × List Nat)) : Bool:=((fs.all fun f=>f.2.isEmpty) || pairsOK ops (heapApart fs)) || (onlyStores ops fs && pairsOK ops (heapApart2 ops fs))
theorem ahead_done {ops : List Oper} {D : Nat → Bool} (hc : ∀ j o e,ops[j]? = some o → D j = true → e ∈ o.after.toList → Region.binds .any e = true → D e.on = true) : ∀ f i j,ahead ops f i j = true → D j = true → D i = true:=by
 intro f
 induction f with
 | zero=>intro i j h; simp [ahead] at h
 | succ f ih =>
  intro i j h hj
  simp only [ahead] at h
  split at h
  ·rename_i o ho
   obtain ⟨e,he,h⟩:=List.any_eq_true.1 h
   simp only [Bool.and_eq_true,Bool.or_eq_true,beq_iff_eq] at h
   have hd:=hc j o e ho hj he h.1
   rcases h.2 with h2 | h2
   ·rw [← h2]; exact hd
   ·exact ih i e.on h2.2 hd
  ·cases h
theorem ahead_dep {ops : List Oper} {D : Nat → Bool} (hc : ∀ j o e,ops[j]? = some o → D j = true → e ∈ o.after.toList → Region.binds .any e = true → D e.on = true) {j : Nat} {o : Oper} (ho : ops[j]? = some o) (hd : ∀ e ∈ o.after.toList,Region.binds .any e = true → D e.on = true) : ∀ f i,ahead ops f i j = true → D i = true:=by
 intro f i h
 cases f with
 | zero=>simp [ahead] at h
 | succ f =>
  simp only [ahead,ho] at h
  obtain ⟨e,he,h⟩:=List.any_eq_true.1 h
  simp only [Bool.and_eq_true,Bool.or_eq_true,beq_iff_eq] at h
  have:=hd e he h.1
  rcases h.2 with h2 | h2
  ·rw [← h2]; exact this
  ·exact ahead_done hc f i e.on h2.2 this
theorem pairs_spec {ops : List Oper} {c : Nat → Nat → Bool} (h : pairsOK ops c = true) {i j : Nat} (hij : i < j) (hj : j < ops.length) : c i j = true ∨ ahead ops ops.length i j = true:=by
 have:=List.all_eq_true.1 h j (List.mem_range.2 hj)
 have:=List.all_eq_true.1 this i (List.mem_range.2 hij)
 simpa using this
theorem disj_spec {a b : List Nat} (h : disj a b = true) {x : Nat} (ha : x ∈ a) : x ∉ b:=by
 have:=List.all_eq_true.1 h x ha
 simpa using this
def shp : Option Blk → Option (Nat × Nat)
 | some (.row sz es)=>some (sz,es.length)
 | _=>none
theorem store_shape {P : Program} {t : TypeId} {x y : Option AV} {H : Nat → Option Blk} {e : Eff} (h : storeW P t x y H fun e'=>e' = e) : ∀ (G : Nat → Option Blk),(∀ l,shp (G l) = shp (H l)) → ∀ l,shp (putH G e.upd l) = shp (G l):=by
 unfold storeW at h
 split at h
 ·split at h
  ·split at h
   ·rename_i lb _ _ _ _ sz es hH _ ee _
    obtain ⟨_,_,_,h⟩:=h
    subst h
    intro G hG l
    simp only [putH]
    by_cases hl : l = lb
    ·subst hl
     rw [upd_same,hG,hH]
     simp [shp]
    ·rw [upd_ne _ _ hl]
   ·exact h.elim
  ·exact h.elim
 ·exact h.elim
theorem shp_fold {P : Program} {all : List Oper} (D : Nat → Bool) : ∀ (L : List (Oper × Rec)) (c nx : Nat) (T : Nat → Option AV) (H G : Nat → Option Blk),Chain P all nx L T H → (∀ x ∈ L,x.2.writes ≠ [] → isStore x.1.op = true) → (∀ l,shp (G l) = shp (H l)) → ∀ l,shp (foldH D L c G l) = shp (H l):=by
 intro L
 induction L with
 | nil=>intro c nx T H G _ _ hG l; exact hG l
 | cons x L ih =>
  intro c nx T H G hc hs hG l
  obtain ⟨o,r⟩:=x
  obtain ⟨h1,h2⟩:=hc
  have keep : ∀ (G : Nat → Option Blk),(∀ l,shp (G l) = shp (H l)) → ∀ l,shp (recH G r l) = shp (G l):=by
   intro G hG l
   by_cases hw : r.writes = []
   ·have : r.upds = []:=by simpa [Rec.writes] using hw
    simp only [recH,this,putH]
   ·have hst:=hs (o,r) (by simp) hw
    unfold StepOK at h1
    cases he : r.eff with
    | none=>exfalso; apply hw; simp [Rec.writes,Rec.upds,he]
    | some e =>
     rw [he] at h1
     obtain ⟨_,hop,_⟩:=h1
     have e2 : r.upds = e.upd:=by simp [Rec.upds,he]
     simp only [recH,e2]
     simp only [] at hst
     cases hop' : o.op <;> rw [hop'] at hst <;> simp only [isStore,Bool.false_eq_true] at hst
     rw [hop'] at hop
     simp only [opW] at hop
     exact store_shape hop G hG l
  simp only [foldH]
  have hHr:=keep H (fun _=>rfl)
  rw [← hHr l]
  refine ih (c + 1) (nx + 1) _ _ _ h2 (fun x hx=>hs x (by simp [hx])) (fun l=>?_) l
  split
  ·rw [keep G hG l,hG l,hHr l]
  ·rw [hG l,hHr l]
theorem loc_soft {P : Program} {lab : Nat} {T T' : Nat → Option AV} {H H' : Nat → Option Blk} {k : Eff → Prop} {op : Op} (hs : softOp op = true) (hT : ∀ x ∈ op.operands.toList,ev T' x = ev T x) (hH : ∀ l,shp (H' l) = shp (H l)) : opW P lab op T' H' k = opW P lab op T H k:=by
 cases op <;> simp only [softOp,Bool.false_eq_true] at hs
 case move x=>simp only [opW]; rw [hT x (by simp [Op.operands])]
 case assign x=>simp only [opW]; rw [hT x (by simp [Op.operands])]
 case pick c x y=>simp only [opW]; rw [hT c (by simp [Op.operands]),hT x (by simp [Op.operands]),hT y (by simp [Op.operands])]
 case binOp op t x y t'=>simp only [opW,binOW]; rw [hT x (by simp [Op.operands]),hT y (by simp [Op.operands])]
 case unOp op t x=>simp only [opW]; rw [hT x (by simp [Op.operands])]
 case fieldAddr t x f=>simp only [opW]; rw [hT x (by simp [Op.operands])]
 case indexAddr t x i =>
  simp only [opW]
  rw [hT x (by simp [Op.operands]),hT i (by simp [Op.operands])]
  unfold indexAddrW
  split
  ·split
   ·split
    ·rename_i l _
     have:=hH l
     cases h1 : H' l with
     | none =>
      cases h2 : H l with
      | none=>rfl
      | some b=>cases b <;> simp_all [shp]
     | some b =>
      cases h2 : H l with
      | none=>cases b <;> simp_all [shp]
      | some b'=>cases b <;> cases b' <;> simp_all [shp]
    ·rfl
    ·rfl
    ·rfl
   ·rfl
  ·rfl
end Go.Aw
namespace Go.Aw
open Go.RowKit
def open_ (n : Nat) (listed : Array Bool) : List Nat:=(List.range n).filter fun i=>!listed.getD i true
section
variable {P : Program} {nt : Fm} {b : Bool} {ops : Array Oper} {L : List (Oper × Rec)} {nx : Nat} {T0 : Nat → Option AV} {H0 : Nat → Option Blk} {w0 : World} {X I0 : Nat → Prop}
def Inv (nt : Fm) (L : List (Oper × Rec)) (nx : Nat) (T0 : Nat → Option AV) (H0 : Nat → Option Blk) (w0 : World) (X I0 : Nat → Prop) (D : Nat → Bool) (a : Act) (w : World) : Prop :=
 ∃ σ I,Match nt w0 X I0 σ I (foldT D L 0 T0) (foldH D L 0 H0) a w ∧ ∀ l s,nx ≤ l → σ l = some s → ∃ j,l = nx + j ∧ D j = true
structure Sound (P : Program) (nt : Fm) (ops : Array Oper) (L : List (Oper × Rec)) (nx : Nat) (T0 : Nat → Option AV) (H0 : Nat → Option Blk) (b : Bool) : Prop where
 dst : ops.toList.all (dstOK nt) = true
 len : L.length = ops.size
 opers : ∀ (i : Nat) o r,L[i]? = some (o,r) → ops[i]? = some o
 static : staticOK ops.toList = true
 heap : ∀ i j o r o' r',i < j → L[i]? = some (o,r) → L[j]? = some (o',r') → (∀ l,l ∈ r.writes → l ∉ eReads b o'.op r'.reads ∧ l ∉ r'.writes) ∧ (∀ l,l ∈ r'.writes → l ∉ eReads b o.op r.reads) ∨ ahead ops.toList ops.toList.length i j = true
 stores : b = true → ∀ x ∈ L,x.2.writes ≠ [] → isStore x.1.op = true
 chain : Chain P ops.toList nx L T0 H0
theorem Sound.step (S : Sound P nt ops L nx T0 H0 b) (tx : TabX w0 X I0) {D : Nat → Bool} {i : Nat} {K : Act → World → Prop} {Q : Exit → Act → World → Prop} {a : Act} {w : World}
  (hcl : ∀ j o e,ops.toList[j]? = some o → D j = true → e ∈ o.after.toList → Region.binds .any e = true → D e.on = true) (hi : i < ops.size) (hDi : D i = false)
  (hdep : ∀ o,ops.toList[i]? = some o → ∀ e ∈ o.after.toList,Region.binds .any e = true → D e.on = true)
  (inv : Inv nt L nx T0 H0 w0 X I0 D a w) (hK : ∀ a w,Inv nt L nx T0 H0 w0 X I0 (fun j=>D j || j == i) a w → K a w) : wpOp P ops Q i K a w:=by
 obtain ⟨σ,I,m,hσ⟩:=inv
 obtain ⟨x,hx⟩ : ∃ x,L[i]? = some x:=⟨_,List.getElem?_eq_getElem (by rw [S.len]; exact hi)⟩
 obtain ⟨o,r⟩:=x
 have ho:=S.opers i o r hx
 have ho' : ops.toList[i]? = some o:=by rw [Array.getElem?_toList]; exact ho
 have hdo : dstOK nt o = true:=List.all_eq_true.1 S.dst o (List.mem_of_getElem? ho')
 have hst:=chain_at L 0 nx T0 H0 S.chain i o r hx
 simp only [Nat.zero_add] at hst
 have hstat:=S.static
 simp only [staticOK,Bool.and_eq_true] at hstat
 have hDlab : D i = false → σ (nx + i) = none:=by
  intro _
  cases hs : σ (nx + i) with
  | none=>rfl
  | some s =>
   obtain ⟨j,hj,hDj⟩:=hσ _ s (Nat.le_add_right _ _) hs
   have : j = i:=by omega
   subst this
   rw [hDi] at hDj
   cases hDj
 -- operations that may change places with this one
 have before : ∀ j,ahead ops.toList ops.toList.length j i = true → D j = true:=fun j h=>ahead_dep hcl ho' (hdep o ho') _ j h
 have after : ∀ j,ahead ops.toList ops.toList.length i j = true → D j = false:=fun j h=>by
  cases hj : D j with
  | false=>rfl
  | true =>
   have:=ahead_done hcl _ i j h hj
   rw [hDi] at this
   cases this
 have hlt : ∀ {j : Nat} {y : Oper × Rec},L[j]? = some y → j < ops.toList.length:=fun h=>by
  have:=(List.getElem?_eq_some_iff.1 h).1
  rw [Array.length_toList,← S.len]
  exact this
 have apartT : ∀ j o' r',j ≠ i → L[j]? = some (o',r') → (∀ d,o'.dst = some d → d ∉ o.looksAt ops ∧ o.dst ≠ some d) ∨ (j < i ∧ D j = true) ∨ (i < j ∧ D j = false):=by
  intro j o' r' hne hj
  have hoj : ops.toList[j]? = some o':=by rw [Array.getElem?_toList]; exact S.opers j o' r' hj
  have e : ops.toList.toArray = ops:=by simp
  rcases Nat.lt_or_gt_of_ne hne with q | q
  ·rcases pairs_spec hstat.2 q (hlt hx) with h | h
   ·left
    simp only [tmpsApart,hoj,ho',e] at h
    obtain ⟨h1,h2,_⟩:=Oper.apart_spec h
    exact fun d hd=>⟨h1 d hd,h2 d hd⟩
   ·exact .inr (.inl ⟨q,before j h⟩)
  ·rcases pairs_spec hstat.2 q (hlt hj) with h | h
   ·left
    simp only [tmpsApart,hoj,ho',e] at h
    obtain ⟨h1,h2,h3⟩:=Oper.apart_spec h
    exact fun d hd=>⟨h3 d hd,fun h=>h2 d h hd⟩
   ·exact .inr (.inr ⟨q,after j h⟩)
 have apartH : ∀ j o' r',j ≠ i → L[j]? = some (o',r') → (∀ l,l ∈ r'.writes → l ∉ eReads b o.op r.reads ∧ l ∉ r.writes) ∨ (j < i ∧ D j = true) ∨ (i < j ∧ D j = false):=by
  intro j o' r' hne hj
  rcases Nat.lt_or_gt_of_ne hne with q | q
  ·rcases S.heap j i o' r' o r q hj hx with ⟨h1,h2⟩ | h
   ·exact .inl h1
   ·exact .inr (.inl ⟨q,before j h⟩)
  ·rcases S.heap i j o r o' r' q hx hj with ⟨h1,h2⟩ | h
   ·exact .inl fun l hl=>⟨h2 l hl,fun h=>(h1 l h).2 hl⟩
   ·exact .inr (.inr ⟨q,after j h⟩)
 -- what it looks at is what it looks at in the text's order
 have sameT : ∀ t,t ∈ o.looksAt ops → foldT D L 0 T0 t = foldT (fun j=>decide (j < i)) L 0 T0 t:=by
  intro t ht
  refine foldT_eq L 0 _ _ rfl fun j y hj hy=>?_
  obtain ⟨o',r'⟩:=y
  rw [Nat.zero_add]
  by_cases hne : j = i
  ·subst hne; rw [hDi]; simp
  ·rcases apartT j o' r' hne hj with h | ⟨h1,h2⟩ | ⟨h1,h2⟩
   ·exact absurd ht (h t hy).1
   ·rw [h2]; simp [h1]
   ·rw [h2]; simp; omega
 have sameH : ∀ l,l ∈ eReads b o.op r.reads → foldH D L 0 H0 l = foldH (fun j=>decide (j < i)) L 0 H0 l:=by
  intro t ht
  refine foldH_eq L 0 _ _ rfl fun j y hj hy=>?_
  obtain ⟨o',r'⟩:=y
  rw [Nat.zero_add]
  by_cases hne : j = i
  ·subst hne; rw [hDi]; simp
  ·rcases apartH j o' r' hne hj with h | ⟨h1,h2⟩ | ⟨h1,h2⟩
   ·exact absurd ht (h t hy).1
   ·rw [h2]; simp [h1]
   ·rw [h2]; simp; omega
 have evSame : ∀ y ∈ o.op.operands.toList,ev (foldT D L 0 T0) y = ev (foldT (fun j=>decide (j < i)) L 0 T0) y:=by
  intro y hy
  cases y with
  | tmp t=>exact sameT t (List.mem_append_left _ (List.mem_filterMap.2 ⟨.tmp t,hy,rfl⟩))
  | _=>rfl
 have guardSame : guardIs ops.toList o (foldT D L 0 T0) = guardIs ops.toList o (foldT (fun j=>decide (j < i)) L 0 T0):=by
  unfold guardIs
  cases hg : o.guard with
  | none=>rfl
  | some jw =>
   obtain ⟨j,want⟩:=jw
   simp only
   cases hd : (ops.toList[j]?).bind (·.dst) with
   | none=>rfl
   | some d =>
    simp only [Option.bind_some]
    rw [sameT d (List.mem_append_right _ (by simp only [hg]; rw [Array.getElem?_toList] at hd; simp [hd]))]
 -- the state behind it
 have newT : putT (foldT D L 0 T0) o.dst r.val = foldT (fun j=>D j || j == i) L 0 T0:=by
  funext t
  by_cases ht : o.dst = some t
  ·have e1 : putT (foldT D L 0 T0) o.dst r.val t = r.val:=by simp only [ht,putT,upd_same]
   rw [e1]
   refine (foldT_at L 0 T0 i o r hx ht (by simp) fun j y hij hj hy=>?_).symm
   obtain ⟨o',r'⟩:=y
   rw [Nat.zero_add]
   rcases apartT j o' r' (by omega) hj with h | ⟨h1,h2⟩ | ⟨h1,h2⟩
   ·exact absurd ht (h t hy).2
   ·omega
   ·rw [h2]; simp; omega
  ·rw [putT_ne ht]
   refine foldT_eq L 0 _ _ rfl fun j y hj hy=>?_
   rw [Nat.zero_add]
   have : j ≠ i:=by
    rintro rfl
    rw [hx] at hj
    injection hj with hj
    subst hj
    exact ht hy
   simp [this]
 have newH : putH (foldH D L 0 H0) r.upds = foldH (fun j=>D j || j == i) L 0 H0:=by
  funext t
  by_cases ht : t ∈ r.writes
  ·rw [putH_in _ _ (fun _=>none) ht]
   refine (foldH_at L 0 H0 i o r hx ht (by simp) fun j y hij hj hy=>?_).symm
   obtain ⟨o',r'⟩:=y
   rw [Nat.zero_add]
   rcases apartH j o' r' (by omega) hj with h | ⟨h1,h2⟩ | ⟨h1,h2⟩
   ·exact absurd ht (h t hy).2
   ·omega
   ·rw [h2]; simp; omega
  ·rw [putH_out _ _ ht]
   refine foldH_eq L 0 _ _ rfl fun j y hj hy=>?_
   rw [Nat.zero_add]
   have : j ≠ i:=by
    rintro rfl
    rw [hx] at hj
    injection hj with hj
    subst hj
    exact ht hy
   simp [this]
 have hwant : ∀ b,guardIs ops.toList o (foldT D L 0 T0) = some b → Region.wanted o (yielded ops a.tmps) = b:=by
  intro b hb
  unfold guardIs at hb
  cases hg : o.guard with
  | none =>
   rw [hg] at hb
   injection hb with hb
   simp [Region.wanted,hg,hb]
  | some jw =>
   obtain ⟨j,want⟩:=jw
   rw [hg] at hb
   simp only at hb
   split at hb
   ·rename_i b' hb'
    injection hb with hb
    obtain ⟨d,hd1,hd2⟩:=Option.bind_eq_some_iff.1 hb'
    rw [Array.getElem?_toList] at hd1
    obtain ⟨u,hu,hru⟩:=m.tmps d _ hd2
    have hy : yielded ops a.tmps j = some b':=by
     cases hru with
     | p h=>cases h; simp [yielded,hd1,hu]
    simp only [Region.wanted,hg,hy,← hb]
    cases b' <;> cases want <;> rfl
   ·cases hb
 unfold wpOp
 rw [ho]
 simp only
 unfold StepOK at hst
 cases he : r.eff with
 | some e =>
  rw [he] at hst
  obtain ⟨hg,hop,hr⟩:=hst
  rw [if_pos (hwant true (guardSame.trans hg))]
  have hop' : opW P (nx + i) o.op (foldT D L 0 T0) (foldH D L 0 H0) fun e'=>e' = e:=by
   cases hbs : (b && softOp o.op) with
   | true =>
    have hb:=(Bool.and_eq_true_iff.1 hbs).1
    have hsf:=(Bool.and_eq_true_iff.1 hbs).2
    rw [loc_soft hsf evSame (fun l=>(shp_fold D L 0 nx T0 H0 H0 S.chain (S.stores hb) (fun _=>rfl) l).trans (shp_fold _ L 0 nx T0 H0 H0 S.chain (S.stores hb) (fun _=>rfl) l).symm)]
    exact hop
   | false =>
    rw [loc_op evSame (fun l hl=>sameH l (by unfold eReads; rw [hbs]; simp only [Bool.false_eq_true,if_false]; rw [hr]; exact hl))]
    exact hop
  left
  refine snd_op (w0:=w0) (X:=X) (I0:=I0) ⟨m.heap,m.tmps,hDlab hDi,tx⟩ hop' _ _ fun e' v w' σ' I' hk out=>hK _ _ ?_
  subst hk
  refine ⟨σ',I',?_,fun l s hl hs=>?_⟩
  ·have:=m.put hdo out.heap out.ext out.imm out.same out.val
   have e1 : r.val = e'.val:=by simp [Rec.val,he]
   have e2 : r.upds = e'.upd:=by simp [Rec.upds,he]
   rw [← newT,← newH,e1,e2]
   exact this
  ·by_cases hll : l = nx + i
   ·exact ⟨i,hll,by simp⟩
   ·rw [out.lab l hll] at hs
    obtain ⟨j,h1,h2⟩:=hσ l s hl hs
    exact ⟨j,h1,by simp [h2]⟩
 | none =>
  rw [he] at hst
  rw [if_neg (by rw [hwant false (guardSame.trans hst)]; simp)]
  refine hK _ _ ⟨σ,I,?_,fun l s hl hs=>?_⟩
  ·have:=m.put (v:=undef) (x:=none) hdo m.heap (fun _ _ h=>h) (fun _ h=>h) (fun _ _=>rfl) (fun y hy=>by cases hy)
   have e1 : r.val = none:=by simp [Rec.val,he]
   have e2 : r.upds = []:=by simp [Rec.upds,he]
   rw [← newT,← newH,e1,e2]
   exact this
  ·obtain ⟨j,h1,h2⟩:=hσ l s hl hs
   exact ⟨j,h1,by simp [h2]⟩
theorem ready_mem {listed : Array Bool} {i : Nat} (h : i ∈ Region.ready .any ops listed) : i < ops.size ∧ listed.getD i true = false ∧ ∀ o,ops.toList[i]? = some o → ∀ e ∈ o.after.toList,Region.binds .any e = true → listed.getD e.on false = true:=by
 unfold Region.ready at h
 obtain ⟨h1,h2⟩:=List.mem_filter.1 h
 simp only [Bool.and_eq_true,Bool.not_eq_true'] at h2
 refine ⟨List.mem_range.1 h1,h2.1,fun o ho e he hb=>?_⟩
 rw [Array.getElem?_toList] at ho
 rw [ho] at h2
 simp only [Option.map_some,Option.getD_some] at h2
 have:=Array.all_eq_true_iff_forall_mem.1 h2.2 e (by simpa using he)
 simpa [hb] using this
theorem Sound.any (S : Sound P nt ops L nx T0 H0 b) (tx : TabX w0 X I0) {Q : Exit → Act → World → Prop} (hQ : ∀ a w,Inv nt L nx T0 H0 w0 X I0 (fun j=>decide (j < ops.size)) a w → Q .normal a w) :
  ∀ (fuel : Nat) (listed : Array Bool) (a : Act) (w : World),listed.size = ops.size → (open_ ops.size listed).length ≤ fuel →
   (∀ j o e,ops.toList[j]? = some o → listed.getD j false = true → e ∈ o.after.toList → Region.binds .any e = true → listed.getD e.on false = true) →
   Inv nt L nx T0 H0 w0 X I0 (fun j=>listed.getD j false) a w → wpAny P .any ops Q fuel listed a w:=by
 have getD_ne : ∀ (listed : Array Bool) (i : Nat),listed.size = ops.size → i < ops.size → listed.getD i true = listed.getD i false:=by
  intro listed i hs hi
  have : i < listed.size:=by omega
  simp [Array.getD,this]
 have full : ∀ (listed : Array Bool),listed.size = ops.size → Region.ready .any ops listed = [] → ∀ i,i < ops.size → listed.getD i false = true:=by
  intro listed hs hr i
  induction i using Nat.strongRecOn with
  | _ i ih =>
   intro hi
   cases hd : listed.getD i false with
   | true=>rfl
   | false =>
    exfalso
    have : i ∈ Region.ready .any ops listed:=by
     unfold Region.ready
     refine List.mem_filter.2 ⟨List.mem_range.2 hi,?_⟩
     rw [getD_ne listed i hs hi,hd,Array.getElem?_eq_getElem hi]
     simp only [Bool.not_false,Bool.true_and,Option.map_some,Option.getD_some]
     rw [Array.all_eq_true_iff_forall_mem]
     intro e he
     cases hb : Region.binds .any e with
     | false=>rfl
     | true =>
      simp only [Bool.not_true,Bool.false_or]
      have hst:=S.static
      simp only [staticOK,Bool.and_eq_true] at hst
      have h1:=List.all_eq_true.1 hst.1 i (List.mem_range.2 (by simpa using hi))
      rw [Array.getElem?_toList,Array.getElem?_eq_getElem hi] at h1
      simp only at h1
      have h2:=List.all_eq_true.1 h1 e (by simpa using he)
      rw [hb] at h2
      simp only [Bool.not_true,Bool.false_or,decide_eq_true_eq] at h2
      exact ih e.on h2 (by omega)
    rw [hr] at this
    cases this
 have done : ∀ (listed : Array Bool) a w,listed.size = ops.size → Region.ready .any ops listed = [] → Inv nt L nx T0 H0 w0 X I0 (fun j=>listed.getD j false) a w → Q .normal a w:=by
  intro listed a w hs hr inv
  refine hQ a w ?_
  have : (fun j=>listed.getD j false) = fun j=>decide (j < ops.size):=by
   funext j
   by_cases hj : j < ops.size
   ·rw [full listed hs hr j hj]; simp [hj]
   ·have : ¬ j < listed.size:=by omega
    simp [Array.getD,this,hj]
  rw [this] at inv
  exact inv
 intro fuel
 induction fuel with
 | zero =>
  intro listed a w hs hf hcl inv
  have hr : Region.ready .any ops listed = []:=by
   cases h : Region.ready .any ops listed with
   | nil=>rfl
   | cons i l =>
    exfalso
    obtain ⟨h1,h2,_⟩:=ready_mem (show i ∈ Region.ready .any ops listed by rw [h]; simp)
    have : i ∈ open_ ops.size listed:=List.mem_filter.2 ⟨List.mem_range.2 h1,by rw [h2]; rfl⟩
    have:=List.length_pos_of_mem this
    omega
  exact ⟨hr,done listed a w hs hr inv⟩
 | succ fuel ih =>
  intro listed a w hs hf hcl inv
  refine ⟨fun hr=>done listed a w hs hr inv,fun i hi=>?_⟩
  obtain ⟨h1,h2,h3⟩:=ready_mem hi
  have hD : (fun j=>(listed.setIfInBounds i true).getD j false) = fun j=>listed.getD j false || j == i:=by
   funext j
   by_cases hj : j = i
   ·subst hj
    have : j < listed.size:=by omega
    simp [Array.getD,this]
   ·by_cases hjs : j < listed.size
    ·have e1 : (j == i) = false:=by simpa using hj
     have e2 : ¬ i = j:=fun h=>hj h.symm
     simp [Array.getD,hjs,e1,e2]
    ·have e1 : (j == i) = false:=by simpa using hj
     simp [Array.getD,hjs,e1]
  refine S.step tx (D:=fun j=>listed.getD j false) hcl h1 (by rw [← getD_ne listed i hs h1]; exact h2) h3 inv fun a w inv'=>?_
  ·refine ih _ a w (by simpa using hs) ?_ (fun j o e ho hj he hb=>?_) (by rw [hD]; exact inv')
   ·have hmem : i ∈ open_ ops.size listed:=List.mem_filter.2 ⟨List.mem_range.2 h1,by rw [h2]; rfl⟩
    have hsub : open_ ops.size (listed.setIfInBounds i true) = (open_ ops.size listed).filter fun j=>j != i:=by
     unfold open_
     rw [List.filter_filter]
     apply List.filter_congr
     intro j hj
     have hj':=List.mem_range.1 hj
     rw [getD_ne _ j (by simpa using hs) hj',getD_ne _ j hs hj']
     have:=congrFun hD j
     rw [this]
     cases listed.getD j false <;> cases hji : j == i <;> simp [bne,hji]
    rw [hsub]
    have : ((open_ ops.size listed).filter fun j=>j != i).length < (open_ ops.size listed).length:=by
     rw [List.length_filter_lt_length_iff_exists]
     exact ⟨i,hmem,by simp⟩
    omega
   ·have hh:=congrFun hD
    rw [hh] at hj ⊢
    simp only [Bool.or_eq_true,beq_iff_eq] at hj ⊢
    rcases hj with hj | hj
    ·exact .inl (hcl j o e ho hj he hb)
    ·subst hj
     exact .inl (h3 o ho e he hb)
theorem AW.draw {id : Nat} {s : St} {Q : Exit → St → Prop} (hm : P.follows .mixedOrders = true) (hd : ops.toList.all (dstOK nt) = true) (hs : staticOK ops.toList = true)
  (h : drawW P ops.toList s.nx ops.toList s.T s.H fun T H n fs=>heapOK ops.toList fs = true ∧ Q .normal ⟨T,H,n⟩) : AW P nt (.region id ops true) s Q:=by
 intro w0 X I0 a w tx ⟨σ,I,hn,m⟩
 refine wp_region_any hm ?_
 obtain ⟨rs,h1,h2,h3,h4⟩:=drawW_chain ops.toList s.nx s.T s.H _ h
 have hz : ∀ (i : Nat) o r,(ops.toList.zip rs)[i]? = some (o,r) → ops.toList[i]? = some o ∧ rs[i]? = some r:=by
  intro i o r hi
  rw [List.getElem?_zip_eq_some] at hi
  exact hi
 have S : ∃ b,Sound P nt ops (ops.toList.zip rs) s.nx s.T s.H b:=by
  unfold heapOK at h3
  rcases Bool.or_eq_true_iff.1 h3 with h3 | h3
  ·refine ⟨false,hd,by rw [List.length_zip,h1,Nat.min_self,Array.length_toList],fun i o r hi=>by rw [← Array.getElem?_toList]; exact (hz i o r hi).1,hs,fun i j o r o' r' hij hi hj=>?_,(fun h=>by cases h),h2⟩
   have er : ∀ op l,eReads false op l = l:=fun op l=>by simp [eReads]
   rw [er,er]
   rcases Bool.or_eq_true_iff.1 h3 with h3 | h3
   ·left
    have emp : ∀ (q : Nat) o r,(ops.toList.zip rs)[q]? = some (o,r) → r.writes = []:=fun q o r hq=>by
     have:=List.all_eq_true.1 h3 (foot r) (List.mem_map.2 ⟨r,List.mem_of_getElem? (hz q o r hq).2,rfl⟩)
     simpa [foot] using this
    rw [emp i o r hi,emp j o' r' hj]
    exact ⟨fun l hl=>(by cases hl),fun l hl=>(by cases hl)⟩
   ·rcases pairs_spec h3 hij (by have:=(List.getElem?_eq_some_iff.1 (hz j o' r' hj).1).1; exact this) with q | q
    ·left
     simp only [heapApart,List.getElem?_map,(hz i o r hi).2,(hz j o' r' hj).2,Option.map_some,foot,Bool.and_eq_true] at q
     exact ⟨fun l hl=>⟨disj_spec q.1.1 hl,disj_spec q.1.2 hl⟩,fun l hl=>disj_spec q.2 hl⟩
    ·exact .inr q
  ·obtain ⟨h3,h4⟩:=Bool.and_eq_true_iff.1 h3
   refine ⟨true,hd,by rw [List.length_zip,h1,Nat.min_self,Array.length_toList],fun i o r hi=>by rw [← Array.getElem?_toList]; exact (hz i o r hi).1,hs,fun i j o r o' r' hij hi hj=>?_,fun _ x hx hw=>?_,h2⟩
   ·rcases pairs_spec h4 hij (by have:=(List.getElem?_eq_some_iff.1 (hz j o' r' hj).1).1; exact this) with q | q
    ·left
     simp only [heapApart2,List.getElem?_map,(hz i o r hi).1,(hz j o' r' hj).1,(hz i o r hi).2,(hz j o' r' hj).2,Option.map_some,foot,Bool.and_eq_true] at q
     exact ⟨fun l hl=>⟨disj_spec q.1.1 hl,disj_spec q.1.2 hl⟩,fun l hl=>disj_spec q.2 hl⟩
    ·exact .inr q
   ·obtain ⟨i,hi⟩:=List.getElem?_of_mem hx
    have hm : (x.1,foot x.2) ∈ ops.toList.zip (rs.map foot):=by
     refine List.mem_of_getElem? (i:=i) ?_
     rw [List.getElem?_zip_eq_some]
     exact ⟨(hz i x.1 x.2 hi).1,by rw [List.getElem?_map,(hz i x.1 x.2 hi).2]; rfl⟩
    have:=List.all_eq_true.1 h3 _ hm
    rcases Bool.or_eq_true_iff.1 this with h | h
    ·exact h
    ·exact absurd (by simpa [foot] using h) hw
 obtain ⟨b,S⟩:=S
 refine S.any (w0:=w0) (X:=X) (I0:=I0) tx (Q:=fun e a' w'=>∃ s',Matches nt w0 X I0 s' a' w' ∧ Q e s') (fun a w inv=>?_) ops.size _ a _ (by simp) (by unfold open_; exact Nat.le_trans (List.length_filter_le _ _) (by simp)) (fun j o e ho hj he hb=>?_) ?_
 ·obtain ⟨σ,I,m,hσ⟩:=inv
  have eT : foldT (fun j=>decide (j < ops.size)) (ops.toList.zip rs) 0 s.T = foldT (fun _=>true) (ops.toList.zip rs) 0 s.T:=by
   funext t
   refine foldT_eq _ 0 _ _ rfl fun j y hj _=>?_
   have:=(List.getElem?_eq_some_iff.1 hj).1
   rw [S.len] at this
   simp [this]
  have eH : foldH (fun j=>decide (j < ops.size)) (ops.toList.zip rs) 0 s.H = foldH (fun _=>true) (ops.toList.zip rs) 0 s.H:=by
   funext t
   refine foldH_eq _ 0 _ _ rfl fun j y hj _=>?_
   have:=(List.getElem?_eq_some_iff.1 hj).1
   rw [S.len] at this
   simp [this]
  rw [eT,eH] at m
  refine ⟨_,⟨σ,I,fun l hl=>?_,m⟩,h4⟩
  cases hs' : σ l with
  | none=>rfl
  | some sl =>
   obtain ⟨j,h5,h6⟩:=hσ l sl (by simp only at hl; omega) hs'
   simp only [decide_eq_true_eq] at h6
   simp only [Array.length_toList] at hl
   omega
 ·by_cases hj' : j < ops.size
  ·simp [Array.getD,hj'] at hj
  ·simp [Array.getD,hj'] at hj
 ·have e0 : (fun j=>(Array.replicate ops.size false).getD j false) = fun _=>false:=by
   funext j
   by_cases hj : j < ops.size <;> simp [Array.getD,hj]
  rw [e0]
  have nT : ∀ (L : List (Oper × Rec)) c T,foldT (fun _=>false) L c T = T:=by
   intro L
   induction L with
   | nil=>intro c T; rfl
   | cons x L ih=>intro c T; obtain ⟨o,r⟩:=x; simp only [foldT,Bool.false_eq_true,if_false]; exact ih _ _
  have nH : ∀ (L : List (Oper × Rec)) c T,foldH (fun _=>false) L c T = T:=by
   intro L
   induction L with
   | nil=>intro c T; rfl
   | cons x L ih=>intro c T; obtain ⟨o,r⟩:=x; simp only [foldH,Bool.false_eq_true,if_false]; exact ih _ _
  refine ⟨σ,I,?_,fun l sl hl hs'=>?_⟩
  ·rw [nT,nH]
   exact ⟨m.defers,m.size,m.pins,m.heap.world rfl rfl rfl rfl,fun i x hx=>by
    obtain ⟨u,hu,hr⟩:=m.tmps i x hx
    exact ⟨u,hu,hr.mono (fun _ _ h=>h) (fun _ h=>h) (fun _ _=>rfl)⟩⟩
  ·rw [hn l hl] at hs'
   cases hs'
theorem AW.drawThen {id : Nat} {y : Code} {s : St} {Q : Exit → St → Prop} (hm : P.follows .mixedOrders = true) (hd : ops.toList.all (dstOK nt) = true) (hs : staticOK ops.toList = true)
  (h : ∀ K : St → Prop,(∀ s',AW P nt y s' Q → K s') → drawW P ops.toList s.nx ops.toList s.T s.H fun T H n fs=>heapOK ops.toList fs = true ∧ K ⟨T,H,n⟩) : AW P nt (.seq (.region id ops true) y) s Q :=
 AW.seq (AW.draw hm hd hs (h (fun s'=>AW P nt y s' Q) fun _ h=>h))
theorem AW.drawEnd {id : Nat} {s : St} {Q : Exit → St → Prop} (hm : P.follows .mixedOrders = true) (hd : ops.toList.all (dstOK nt) = true) (hs : staticOK ops.toList = true)
  (h : ∀ K : St → Prop,(∀ s',Q .normal s' → K s') → drawW P ops.toList s.nx ops.toList s.T s.H fun T H n fs=>heapOK ops.toList fs = true ∧ K ⟨T,H,n⟩) : AW P nt (.region id ops true) s Q :=
 AW.draw hm hd hs (h (fun s'=>Q .normal s') fun _ h=>h)
end
end Go.Aw
namespace Go.Aw
theorem opW_mono {P : Program} {nx : Nat} {op : Op} {T : Nat → Option AV} {H : Nat → Option Blk} {k k' : Eff → Prop} (h : opW P nx op T H k) (hk : ∀ e,k e → k' e) : opW P nx op T H k':=by
 obtain ⟨e,h1,h2⟩:=one_op P nx T H op k h
 exact h2 k' (hk e h1)
def drawA (P : Program) (all : List Oper) (nx : Nat) : List Oper → (Nat → Option AV) → (Nat → Option Blk) → List (List Nat × List Nat) → ((Nat → Option AV) → (Nat → Option Blk) → Nat → List (List Nat × List Nat) → Prop) → Prop
 | [],T,H,fs,K=>K T H nx fs
 | o :: r,T,H,fs,K=>guardW all o T (opW P nx o.op T H fun e=>drawA P all (nx + 1) r (putT T o.dst e.val) (putH H e.upd) ((readsA T o.op,e.upd.map (·.1)) :: fs) K)
   (drawA P all (nx + 1) r (putT T o.dst none) H (([],[]) :: fs) K)
theorem drawA_W {P : Program} {all : List Oper} : ∀ (ops : List Oper) (nx : Nat) (T : Nat → Option AV) (H : Nat → Option Blk) (acc : List (List Nat × List Nat)) K,drawA P all nx ops T H acc K → drawW P all nx ops T H fun T' H' n fs=>K T' H' n (fs.reverse ++ acc):=by
 intro ops
 induction ops with
 | nil=>intro nx T H acc K h; simpa only [drawW,drawA,List.reverse_nil,List.nil_append] using h
 | cons o r ih =>
  intro nx T H acc K h
  simp only [drawA] at h
  simp only [drawW]
  have e : ∀ (x : List Nat × List Nat) (fs : List (List Nat × List Nat)),(x :: fs).reverse ++ acc = fs.reverse ++ x :: acc:=by intro x fs; simp
  try simp only [e]
  unfold guardW at h ⊢
  split at h
  ·exact opW_mono h fun e h=>ih _ _ _ _ _ h
  ·split at h
   ·rename_i h3
    try simp only [h3]
    split at h
    ·rename_i h4; rw [if_pos h4]; exact opW_mono h fun e h=>ih _ _ _ _ _ h
    ·rename_i h4; rw [if_neg h4]; exact ih _ _ _ _ _ h
   ·exact h.elim
theorem AW.drawThen' {P : Program} {nt : Fm} {ops : Array Oper} {id : Nat} {y : Code} {s : St} {Q : Exit → St → Prop} (hm : P.follows .mixedOrders = true) (hd : ops.toList.all (dstOK nt) = true) (hs : staticOK ops.toList = true)
  (h : ∀ K : St → Prop,(∀ s',AW P nt y s' Q → K s') → drawA P ops.toList s.nx ops.toList s.T s.H [] fun T H n fs=>heapOK ops.toList fs.reverse = true ∧ K ⟨T,H,n⟩) : AW P nt (.seq (.region id ops true) y) s Q :=
 AW.drawThen hm hd hs fun K hK=>by simpa only [List.append_nil,List.reverse_reverse] using drawA_W _ _ _ _ _ _ (h K hK)
theorem AW.drawEnd' {P : Program} {nt : Fm} {ops : Array Oper} {id : Nat} {s : St} {Q : Exit → St → Prop} (hm : P.follows .mixedOrders = true) (hd : ops.toList.all (dstOK nt) = true) (hs : staticOK ops.toList = true)
  (h : ∀ K : St → Prop,(∀ s',Q .normal s' → K s') → drawA P ops.toList s.nx ops.toList s.T s.H [] fun T H n fs=>heapOK ops.toList fs.reverse = true ∧ K ⟨T,H,n⟩) : AW P nt (.region id ops true) s Q :=
 AW.drawEnd hm hd hs fun K hK=>by simpa only [List.append_nil,List.reverse_reverse] using drawA_W _ _ _ _ _ _ (h K hK)
end Go.Aw
namespace Go.Aw
open Go.Proofs
@[go_sem] theorem tsize_3 : tsize Tryz.prog 3 = some 1:=by kernel_rfl
@[go_sem] theorem tbytes_3 : tbytes Tryz.prog 3 = some 8:=by kernel_rfl
@[go_sem] theorem tagg_3 : tagg Tryz.prog 3 = some false:=by kernel_rfl
@[go_sem] theorem tzero_3 : tzero Tryz.prog 3 = some [.int .i64 0]:=by kernel_rfl
@[go_sem] theorem conc_3 : conc Tryz.prog 3 = true:=by kernel_rfl
@[go_sem] theorem tz1_3 : tz1 Tryz.prog 3 = some (.int .i64 0):=by kernel_rfl
@[go_sem] theorem tz1_4 : tz1 Tryz.prog 4 = some (.bool false):=by kernel_rfl
@[go_sem] theorem tsize_9 : tsize Tryz.prog 9 = some 1:=by kernel_rfl
@[go_sem] theorem tbytes_9 : tbytes Tryz.prog 9 = some 16:=by kernel_rfl
@[go_sem] theorem tagg_9 : tagg Tryz.prog 9 = some false:=by kernel_rfl
@[go_sem] theorem tzero_9 : tzero Tryz.prog 9 = some [.string ⟨#[]⟩]:=by kernel_rfl
@[go_sem] theorem tsize_21 : tsize Tryz.prog 21 = some 1:=by kernel_rfl
@[go_sem] theorem tbytes_21 : tbytes Tryz.prog 21 = some 4:=by kernel_rfl
@[go_sem] theorem tagg_21 : tagg Tryz.prog 21 = some false:=by kernel_rfl
@[go_sem] theorem tzero_21 : tzero Tryz.prog 21 = some [.int .i32 0]:=by kernel_rfl
@[go_sem] theorem tsize_22 : tsize Tryz.prog 22 = some 1:=by kernel_rfl
@[go_sem] theorem tagg_22 : tagg Tryz.prog 22 = some false:=by kernel_rfl
@[go_sem] theorem telem_22 : telem Tryz.prog 22 = some 39:=by kernel_rfl
@[go_sem] theorem tsize_23 : tsize Tryz.prog 23 = some 1:=by kernel_rfl
@[go_sem] theorem tagg_23 : tagg Tryz.prog 23 = some false:=by kernel_rfl
@[go_sem] theorem telem_23 : telem Tryz.prog 23 = some 62:=by kernel_rfl
@[go_sem] theorem tagg_24 : tagg Tryz.prog 24 = some false:=by kernel_rfl
@[go_sem] theorem telem_24 : telem Tryz.prog 24 = some 66:=by kernel_rfl
@[go_sem] theorem tsize_26 : tsize Tryz.prog 26 = some 4:=by kernel_rfl
@[go_sem] theorem tagg_26 : tagg Tryz.prog 26 = some true:=by kernel_rfl
@[go_sem] theorem tzero_26 : tzero Tryz.prog 26 = some [.string ⟨#[]⟩,.slice none 0 0,.slice none 0 0,.slice none 0 0]:=by kernel_rfl
@[go_sem] theorem tfield_26_0 : tfield Tryz.prog 26 0 = some 0:=by kernel_rfl
@[go_sem] theorem tfield_26_1 : tfield Tryz.prog 26 1 = some 1:=by kernel_rfl
@[go_sem] theorem tfield_26_2 : tfield Tryz.prog 26 2 = some 2:=by kernel_rfl
@[go_sem] theorem tfield_26_3 : tfield Tryz.prog 26 3 = some 3:=by kernel_rfl
@[go_sem] theorem tplaces_26 : tplaces Tryz.prog 26 = some fun i=>([(0,1),(1,1),(2,1),(3,1)] : List (Nat × Nat))[i]?:=by kernel_rfl
@[go_sem] theorem tsize_27 : tsize Tryz.prog 27 = some 1:=by kernel_rfl
@[go_sem] theorem tagg_27 : tagg Tryz.prog 27 = some false:=by kernel_rfl
@[go_sem] theorem telem_27 : telem Tryz.prog 27 = some 76:=by kernel_rfl
@[go_sem] theorem tsize_28 : tsize Tryz.prog 28 = some 1:=by kernel_rfl
@[go_sem] theorem tagg_28 : tagg Tryz.prog 28 = some false:=by kernel_rfl
@[go_sem] theorem telem_28 : telem Tryz.prog 28 = some 107:=by kernel_rfl
@[go_sem] theorem tsize_30 : tsize Tryz.prog 30 = some 5:=by kernel_rfl
@[go_sem] theorem tbytes_30 : tbytes Tryz.prog 30 = some 80:=by kernel_rfl
@[go_sem] theorem tagg_30 : tagg Tryz.prog 30 = some true:=by kernel_rfl
@[go_sem] theorem tzero_30 : tzero Tryz.prog 30 = some [.int .i64 0,.int .i64 0,.string ⟨#[]⟩,.slice none 0 0,.slice none 0 0]:=by kernel_rfl
@[go_sem] theorem tfield_30_0 : tfield Tryz.prog 30 0 = some 0:=by kernel_rfl
@[go_sem] theorem tfield_30_1 : tfield Tryz.prog 30 1 = some 1:=by kernel_rfl
@[go_sem] theorem tfield_30_2 : tfield Tryz.prog 30 2 = some 2:=by kernel_rfl
@[go_sem] theorem tfield_30_3 : tfield Tryz.prog 30 3 = some 3:=by kernel_rfl
@[go_sem] theorem tfield_30_4 : tfield Tryz.prog 30 4 = some 4:=by kernel_rfl
@[go_sem] theorem tplaces_30 : tplaces Tryz.prog 30 = some fun i=>([(0,1),(1,1),(2,1),(3,1),(4,1)] : List (Nat × Nat))[i]?:=by kernel_rfl
@[go_sem] theorem tagg_36 : tagg Tryz.prog 36 = some false:=by kernel_rfl
@[go_sem] theorem telem_36 : telem Tryz.prog 36 = some 59:=by kernel_rfl
@[go_sem] theorem tagg_37 : tagg Tryz.prog 37 = some false:=by kernel_rfl
@[go_sem] theorem telem_37 : telem Tryz.prog 37 = some 3:=by kernel_rfl
@[go_sem] theorem tsize_39 : tsize Tryz.prog 39 = some 3:=by kernel_rfl
@[go_sem] theorem tbytes_39 : tbytes Tryz.prog 39 = some 64:=by kernel_rfl
@[go_sem] theorem tagg_39 : tagg Tryz.prog 39 = some true:=by kernel_rfl
@[go_sem] theorem tzero_39 : tzero Tryz.prog 39 = some [.string ⟨#[]⟩,.slice none 0 0,.slice none 0 0]:=by kernel_rfl
@[go_sem] theorem tfield_39_0 : tfield Tryz.prog 39 0 = some 0:=by kernel_rfl
@[go_sem] theorem tfield_39_1 : tfield Tryz.prog 39 1 = some 1:=by kernel_rfl
@[go_sem] theorem tfield_39_2 : tfield Tryz.prog 39 2 = some 2:=by kernel_rfl
@[go_sem] theorem tplaces_39 : tplaces Tryz.prog 39 = some fun i=>([(0,1),(1,1),(2,1)] : List (Nat × Nat))[i]?:=by kernel_rfl
@[go_sem] theorem tsize_41 : tsize Tryz.prog 41 = some 1:=by kernel_rfl
@[go_sem] theorem tagg_41 : tagg Tryz.prog 41 = some false:=by kernel_rfl
@[go_sem] theorem telem_41 : telem Tryz.prog 41 = some 77:=by kernel_rfl
@[go_sem] theorem tsize_43 : tsize Tryz.prog 43 = some 1:=by kernel_rfl
@[go_sem] theorem tagg_43 : tagg Tryz.prog 43 = some true:=by kernel_rfl
@[go_sem] theorem tzero_43 : tzero Tryz.prog 43 = some [.slice none 0 0]:=by kernel_rfl
@[go_sem] theorem tfield_43_0 : tfield Tryz.prog 43 0 = some 0:=by kernel_rfl
@[go_sem] theorem tplaces_43 : tplaces Tryz.prog 43 = some fun i=>([(0,1)] : List (Nat × Nat))[i]?:=by kernel_rfl
@[go_sem] theorem tsize_57 : tsize Tryz.prog 57 = some 2:=by kernel_rfl
@[go_sem] theorem tagg_57 : tagg Tryz.prog 57 = some true:=by kernel_rfl
@[go_sem] theorem tzero_57 : tzero Tryz.prog 57 = some [.int .i64 0,.string ⟨#[]⟩]:=by kernel_rfl
@[go_sem] theorem tfield_57_0 : tfield Tryz.prog 57 0 = some 0:=by kernel_rfl
@[go_sem] theorem tfield_57_1 : tfield Tryz.prog 57 1 = some 1:=by kernel_rfl
@[go_sem] theorem tplaces_57 : tplaces Tryz.prog 57 = some fun i=>([(0,1),(1,1)] : List (Nat × Nat))[i]?:=by kernel_rfl
@[go_sem] theorem tsize_59 : tsize Tryz.prog 59 = some 5:=by kernel_rfl
@[go_sem] theorem tbytes_59 : tbytes Tryz.prog 59 = some 56:=by kernel_rfl
@[go_sem] theorem tagg_59 : tagg Tryz.prog 59 = some true:=by kernel_rfl
@[go_sem] theorem tzero_59 : tzero Tryz.prog 59 = some [.string ⟨#[]⟩,.int .i64 0,.int .i64 0,.int .i64 0,.string ⟨#[]⟩]:=by kernel_rfl
@[go_sem] theorem tfield_59_0 : tfield Tryz.prog 59 0 = some 0:=by kernel_rfl
@[go_sem] theorem tfield_59_1 : tfield Tryz.prog 59 1 = some 1:=by kernel_rfl
@[go_sem] theorem tfield_59_2 : tfield Tryz.prog 59 2 = some 2:=by kernel_rfl
@[go_sem] theorem tfield_59_3 : tfield Tryz.prog 59 3 = some 3:=by kernel_rfl
@[go_sem] theorem tplaces_59 : tplaces Tryz.prog 59 = some fun i=>([(0,1),(1,1),(2,1),(3,2)] : List (Nat × Nat))[i]?:=by kernel_rfl
@[go_sem] theorem tagg_60 : tagg Tryz.prog 60 = some false:=by kernel_rfl
@[go_sem] theorem telem_60 : telem Tryz.prog 60 = some 64:=by kernel_rfl
@[go_sem] theorem tsize_62 : tsize Tryz.prog 62 = some 2:=by kernel_rfl
@[go_sem] theorem tbytes_62 : tbytes Tryz.prog 62 = some 40:=by kernel_rfl
@[go_sem] theorem tagg_62 : tagg Tryz.prog 62 = some true:=by kernel_rfl
@[go_sem] theorem tzero_62 : tzero Tryz.prog 62 = some [.string ⟨#[]⟩,.slice none 0 0]:=by kernel_rfl
@[go_sem] theorem tfield_62_0 : tfield Tryz.prog 62 0 = some 0:=by kernel_rfl
@[go_sem] theorem tfield_62_1 : tfield Tryz.prog 62 1 = some 1:=by kernel_rfl
@[go_sem] theorem tplaces_62 : tplaces Tryz.prog 62 = some fun i=>([(0,1),(1,1)] : List (Nat × Nat))[i]?:=by kernel_rfl
@[go_sem] theorem tsize_64 : tsize Tryz.prog 64 = some 2:=by kernel_rfl
@[go_sem] theorem tbytes_64 : tbytes Tryz.prog 64 = some 24:=by kernel_rfl
@[go_sem] theorem tagg_64 : tagg Tryz.prog 64 = some true:=by kernel_rfl
@[go_sem] theorem tzero_64 : tzero Tryz.prog 64 = some [.string ⟨#[]⟩,.int .i64 0]:=by kernel_rfl
@[go_sem] theorem tfield_64_0 : tfield Tryz.prog 64 0 = some 0:=by kernel_rfl
@[go_sem] theorem tfield_64_1 : tfield Tryz.prog 64 1 = some 1:=by kernel_rfl
@[go_sem] theorem tsize_66 : tsize Tryz.prog 66 = some 3:=by kernel_rfl
@[go_sem] theorem tbytes_66 : tbytes Tryz.prog 66 = some 48:=by kernel_rfl
@[go_sem] theorem tagg_66 : tagg Tryz.prog 66 = some true:=by kernel_rfl
@[go_sem] theorem tzero_66 : tzero Tryz.prog 66 = some [.string ⟨#[]⟩,.string ⟨#[]⟩,.string ⟨#[]⟩]:=by kernel_rfl
@[go_sem] theorem tfield_66_0 : tfield Tryz.prog 66 0 = some 0:=by kernel_rfl
@[go_sem] theorem tfield_66_1 : tfield Tryz.prog 66 1 = some 1:=by kernel_rfl
@[go_sem] theorem tfield_66_2 : tfield Tryz.prog 66 2 = some 2:=by kernel_rfl
@[go_sem] theorem telem_70 : telem Tryz.prog 70 = some 9:=by kernel_rfl
@[go_sem] theorem tsize_74 : tsize Tryz.prog 74 = some 1:=by kernel_rfl
@[go_sem] theorem tagg_74 : tagg Tryz.prog 74 = some false:=by kernel_rfl
@[go_sem] theorem telem_74 : telem Tryz.prog 74 = some 30:=by kernel_rfl
@[go_sem] theorem tsize_76 : tsize Tryz.prog 76 = some 2:=by kernel_rfl
@[go_sem] theorem tbytes_76 : tbytes Tryz.prog 76 = some 32:=by kernel_rfl
@[go_sem] theorem tagg_76 : tagg Tryz.prog 76 = some true:=by kernel_rfl
@[go_sem] theorem tzero_76 : tzero Tryz.prog 76 = some [.int .i64 0,.slice none 0 0]:=by kernel_rfl
@[go_sem] theorem tfield_76_0 : tfield Tryz.prog 76 0 = some 0:=by kernel_rfl
@[go_sem] theorem tfield_76_1 : tfield Tryz.prog 76 1 = some 1:=by kernel_rfl
@[go_sem] theorem tplaces_76 : tplaces Tryz.prog 76 = some fun i=>([(0,1),(1,1)] : List (Nat × Nat))[i]?:=by kernel_rfl
@[go_sem] theorem tsize_77 : tsize Tryz.prog 77 = some 1:=by kernel_rfl
@[go_sem] theorem tbytes_77 : tbytes Tryz.prog 77 = some 24:=by kernel_rfl
@[go_sem] theorem tagg_77 : tagg Tryz.prog 77 = some false:=by kernel_rfl
@[go_sem] theorem tzero_77 : tzero Tryz.prog 77 = some [.slice none 0 0]:=by kernel_rfl
@[go_sem] theorem telem_77 : telem Tryz.prog 77 = some 79:=by kernel_rfl
@[go_sem] theorem tsize_79 : tsize Tryz.prog 79 = some 3:=by kernel_rfl
@[go_sem] theorem tbytes_79 : tbytes Tryz.prog 79 = some 24:=by kernel_rfl
@[go_sem] theorem tagg_79 : tagg Tryz.prog 79 = some true:=by kernel_rfl
@[go_sem] theorem tzero_79 : tzero Tryz.prog 79 = some [.int .i64 0,.int .i64 0,.int .i64 0]:=by kernel_rfl
@[go_sem] theorem tfield_79_0 : tfield Tryz.prog 79 0 = some 0:=by kernel_rfl
@[go_sem] theorem tfield_79_1 : tfield Tryz.prog 79 1 = some 1:=by kernel_rfl
@[go_sem] theorem tfield_79_2 : tfield Tryz.prog 79 2 = some 2:=by kernel_rfl
@[go_sem] theorem tplaces_79 : tplaces Tryz.prog 79 = some fun i=>([(0,1),(1,1),(2,1)] : List (Nat × Nat))[i]?:=by kernel_rfl
@[go_sem] theorem tagg_81 : tagg Tryz.prog 81 = some false:=by kernel_rfl
@[go_sem] theorem tsize_82 : tsize Tryz.prog 82 = some 1:=by kernel_rfl
@[go_sem] theorem tagg_82 : tagg Tryz.prog 82 = some false:=by kernel_rfl
@[go_sem] theorem telem_82 : telem Tryz.prog 82 = some 87:=by kernel_rfl
@[go_sem] theorem tzero_84 : tzero Tryz.prog 84 = some [.string ⟨#[]⟩,.slice none 0 0,.slice none 0 0,.slice none 0 0,.string ⟨#[]⟩,.slice none 0 0,.slice none 0 0,.slice none 0 0,.slice none 0 0,.map none]:=by kernel_rfl
@[go_sem] theorem tfield_84_2 : tfield Tryz.prog 84 2 = some 8:=by kernel_rfl
@[go_sem] theorem tfield_84_3 : tfield Tryz.prog 84 3 = some 9:=by kernel_rfl
@[go_sem] theorem tplaces_84 : tplaces Tryz.prog 84 = some fun i=>([(0,4),(4,4),(8,1),(9,1)] : List (Nat × Nat))[i]?:=by kernel_rfl
@[go_sem] theorem tsize_87 : tsize Tryz.prog 87 = some 2:=by kernel_rfl
@[go_sem] theorem tbytes_87 : tbytes Tryz.prog 87 = some 32:=by kernel_rfl
@[go_sem] theorem tagg_87 : tagg Tryz.prog 87 = some true:=by kernel_rfl
@[go_sem] theorem tzero_87 : tzero Tryz.prog 87 = some [.string ⟨#[]⟩,.string ⟨#[]⟩]:=by kernel_rfl
@[go_sem] theorem tfield_87_0 : tfield Tryz.prog 87 0 = some 0:=by kernel_rfl
@[go_sem] theorem tfield_87_1 : tfield Tryz.prog 87 1 = some 1:=by kernel_rfl
@[go_sem] theorem tplaces_87 : tplaces Tryz.prog 87 = some fun i=>([(0,1),(1,1)] : List (Nat × Nat))[i]?:=by kernel_rfl
@[go_sem] theorem tsize_92 : tsize Tryz.prog 92 = some 2:=by kernel_rfl
@[go_sem] theorem tbytes_92 : tbytes Tryz.prog 92 = some 32:=by kernel_rfl
@[go_sem] theorem tagg_92 : tagg Tryz.prog 92 = some true:=by kernel_rfl
@[go_sem] theorem tzero_92 : tzero Tryz.prog 92 = some [.string ⟨#[]⟩,.string ⟨#[]⟩]:=by kernel_rfl
@[go_sem] theorem tfield_92_0 : tfield Tryz.prog 92 0 = some 0:=by kernel_rfl
@[go_sem] theorem tfield_92_1 : tfield Tryz.prog 92 1 = some 1:=by kernel_rfl
@[go_sem] theorem tplaces_92 : tplaces Tryz.prog 92 = some fun i=>([(0,1),(1,1)] : List (Nat × Nat))[i]?:=by kernel_rfl
@[go_sem] theorem telem_93 : telem Tryz.prog 93 = some 92:=by kernel_rfl
@[go_sem] theorem tzero_104 : tzero Tryz.prog 104 = some [.slice none 0 0,.int .i64 0]:=by kernel_rfl
@[go_sem] theorem tfield_104_0 : tfield Tryz.prog 104 0 = some 0:=by kernel_rfl
@[go_sem] theorem tfield_104_1 : tfield Tryz.prog 104 1 = some 1:=by kernel_rfl
@[go_sem] theorem tplaces_104 : tplaces Tryz.prog 104 = some fun i=>([(0,1),(1,1)] : List (Nat × Nat))[i]?:=by kernel_rfl
@[go_sem] theorem tsize_107 : tsize Tryz.prog 107 = some 4:=by kernel_rfl
@[go_sem] theorem tbytes_107 : tbytes Tryz.prog 107 = some 40:=by kernel_rfl
@[go_sem] theorem tagg_107 : tagg Tryz.prog 107 = some true:=by kernel_rfl
@[go_sem] theorem tzero_107 : tzero Tryz.prog 107 = some [.int .i64 0,.int .i64 0,.int .i64 0,.string ⟨#[]⟩]:=by kernel_rfl
@[go_sem] theorem tfield_107_0 : tfield Tryz.prog 107 0 = some 0:=by kernel_rfl
@[go_sem] theorem tfield_107_1 : tfield Tryz.prog 107 1 = some 1:=by kernel_rfl
@[go_sem] theorem tfield_107_2 : tfield Tryz.prog 107 2 = some 2:=by kernel_rfl
@[go_sem] theorem tfield_107_3 : tfield Tryz.prog 107 3 = some 3:=by kernel_rfl
@[go_sem] theorem telem_108 : telem Tryz.prog 108 = some 21:=by kernel_rfl
@[go_sem] theorem tagg_121 : tagg Tryz.prog 121 = some false:=by kernel_rfl
@[go_sem] theorem tsize_123 : tsize Tryz.prog 123 = some 1:=by kernel_rfl
@[go_sem] theorem tbytes_123 : tbytes Tryz.prog 123 = some 16:=by kernel_rfl
@[go_sem] theorem tagg_123 : tagg Tryz.prog 123 = some true:=by kernel_rfl
@[go_sem] theorem tzero_123 : tzero Tryz.prog 123 = some [.nilIface]:=by kernel_rfl
@[go_sem] theorem tfield_123_0 : tfield Tryz.prog 123 0 = some 0:=by kernel_rfl
@[go_sem] theorem tplaces_123 : tplaces Tryz.prog 123 = some fun i=>([(0,1)] : List (Nat × Nat))[i]?:=by kernel_rfl
@[go_sem] theorem tzero_128 : tzero Tryz.prog 128 = some [.slice none 0 0,.int .i64 0]:=by kernel_rfl
@[go_sem] theorem tfield_128_0 : tfield Tryz.prog 128 0 = some 0:=by kernel_rfl
@[go_sem] theorem tfield_128_1 : tfield Tryz.prog 128 1 = some 1:=by kernel_rfl
@[go_sem] theorem tplaces_128 : tplaces Tryz.prog 128 = some fun i=>([(0,1),(1,1)] : List (Nat × Nat))[i]?:=by kernel_rfl
@[go_sem] theorem conc_130 : conc Tryz.prog 130 = true:=by kernel_rfl
@[go_sem] theorem tz1_130 : tz1 Tryz.prog 130 = some (.pointer none):=by kernel_rfl
@[go_sem] theorem tsize_145 : tsize Tryz.prog 145 = some 1:=by kernel_rfl
@[go_sem] theorem tagg_145 : tagg Tryz.prog 145 = some false:=by kernel_rfl
@[go_sem] theorem telem_145 : telem Tryz.prog 145 = some 123:=by kernel_rfl
@[go_sem] theorem tsize_157 : tsize Tryz.prog 157 = some 1:=by kernel_rfl
@[go_sem] theorem tagg_157 : tagg Tryz.prog 157 = some false:=by kernel_rfl
@[go_sem] theorem telem_157 : telem Tryz.prog 157 = some 161:=by kernel_rfl
@[go_sem] theorem tzero_159 : tzero Tryz.prog 159 = some [.slice none 0 0,.slice none 0 0]:=by kernel_rfl
@[go_sem] theorem tfield_159_0 : tfield Tryz.prog 159 0 = some 0:=by kernel_rfl
@[go_sem] theorem tfield_159_1 : tfield Tryz.prog 159 1 = some 1:=by kernel_rfl
@[go_sem] theorem tplaces_159 : tplaces Tryz.prog 159 = some fun i=>([(0,1),(1,1)] : List (Nat × Nat))[i]?:=by kernel_rfl
@[go_sem] theorem tsize_161 : tsize Tryz.prog 161 = some 2:=by kernel_rfl
@[go_sem] theorem tbytes_161 : tbytes Tryz.prog 161 = some 32:=by kernel_rfl
@[go_sem] theorem tagg_161 : tagg Tryz.prog 161 = some true:=by kernel_rfl
@[go_sem] theorem tzero_161 : tzero Tryz.prog 161 = some [.int .i64 0,.slice none 0 0]:=by kernel_rfl
@[go_sem] theorem tfield_161_0 : tfield Tryz.prog 161 0 = some 0:=by kernel_rfl
@[go_sem] theorem tfield_161_1 : tfield Tryz.prog 161 1 = some 1:=by kernel_rfl
@[go_sem] theorem tplaces_161 : tplaces Tryz.prog 161 = some fun i=>([(0,1),(1,1)] : List (Nat × Nat))[i]?:=by kernel_rfl
@[go_sem] theorem conc_169 : conc Tryz.prog 169 = true:=by kernel_rfl
@[go_sem] theorem tz1_169 : tz1 Tryz.prog 169 = some (.int .i64 0):=by kernel_rfl
@[go_sem] theorem conc_170 : conc Tryz.prog 170 = true:=by kernel_rfl
@[go_sem] theorem tz1_170 : tz1 Tryz.prog 170 = some (.string ⟨#[]⟩):=by kernel_rfl
attribute [go_sem] Tryz.underlying2 Tryz.underlying3 Tryz.underlying4 Tryz.underlying5 Tryz.underlying6 Tryz.underlying7 Tryz.underlying8 Tryz.underlying9 Tryz.underlying10 Tryz.underlying11 Tryz.underlying12 Tryz.underlying13 Tryz.underlying14 Tryz.underlying15 Tryz.underlying16 Tryz.underlying17 Tryz.underlying18 Tryz.underlying19 Tryz.underlying20 Tryz.underlying21 Tryz.underlying22 Tryz.underlying23 Tryz.underlying24 Tryz.underlying25 Tryz.underlying26 Tryz.underlying27 Tryz.underlying28 Tryz.underlying29 Tryz.underlying30 Tryz.underlying33 Tryz.underlying36 Tryz.underlying37 Tryz.underlying38 Tryz.underlying39 Tryz.underlying41 Tryz.underlying42 Tryz.underlying43 Tryz.underlying56 Tryz.underlying57 Tryz.underlying58 Tryz.underlying59 Tryz.underlying60 Tryz.underlying61 Tryz.underlying62 Tryz.underlying63 Tryz.underlying64 Tryz.underlying65 Tryz.underlying66 Tryz.underlying68 Tryz.underlying70 Tryz.underlying74 Tryz.underlying75 Tryz.underlying76 Tryz.underlying77 Tryz.underlying78 Tryz.underlying79 Tryz.underlying80 Tryz.underlying81 Tryz.underlying82 Tryz.underlying83 Tryz.underlying84 Tryz.underlying86 Tryz.underlying87 Tryz.underlying91 Tryz.underlying92 Tryz.underlying93 Tryz.underlying102 Tryz.underlying103 Tryz.underlying104 Tryz.underlying106 Tryz.underlying107 Tryz.underlying108 Tryz.underlying114 Tryz.underlying115 Tryz.underlying120 Tryz.underlying121 Tryz.underlying122 Tryz.underlying123 Tryz.underlying126 Tryz.underlying127 Tryz.underlying128 Tryz.underlying130 Tryz.underlying140 Tryz.underlying145 Tryz.underlying157 Tryz.underlying158 Tryz.underlying159 Tryz.underlying160 Tryz.underlying161 Tryz.underlying169 Tryz.underlying170 Tryz.underlying178 Tryz.underlying179 Tryz.underlying180 Tryz.underlying181 Tryz.underlying182 Tryz.underlying184 Tryz.underlying185 Tryz.underlying186 Tryz.underlying187 Tryz.underlying188 Tryz.underlying189 Tryz.underlying190 Tryz.underlying191 Tryz.underlying193 Tryz.underlying194 Tryz.underlying195 Tryz.underlying196 Tryz.underlying197 Tryz.underlying198
theorem mixed : Tryz.prog.follows .mixedOrders = true:=by kernel_rfl
end Go.Aw
namespace Go.Aw
open Go.RowKit
def ofL : List (Nat × AV) → Nat → Option AV
 | [],_=>none
 | (j,v) :: r,i=>if i = j then some v else ofL r i
def ofH : List (Nat × Blk) → Nat → Option Blk
 | [],_=>none
 | (j,v) :: r,i=>if i = j then some v else ofH r i
theorem ofL_mem {l : List (Nat × AV)} {i : Nat} {v : AV} (h : ofL l i = some v) : (i,v) ∈ l:=by
 induction l with
 | nil=>cases h
 | cons x r ih =>
  obtain ⟨j,u⟩:=x
  simp only [ofL] at h
  split at h
  ·rename_i e
   injection h with h
   subst e h
   exact List.mem_cons_self ..
  ·exact List.mem_cons_of_mem _ (ih h)
theorem ofH_mem {l : List (Nat × Blk)} {i : Nat} {v : Blk} (h : ofH l i = some v) : (i,v) ∈ l:=by
 induction l with
 | nil=>cases h
 | cons x r ih =>
  obtain ⟨j,u⟩:=x
  simp only [ofH] at h
  split at h
  ·rename_i e
   injection h with h
   subst e h
   exact List.mem_cons_self ..
  ·exact List.mem_cons_of_mem _ (ih h)
mutual
def AV.ren (ρ : Nat → Nat) : AV → AV
 | .p x=>.p x
 | .ex es=>.ex es
 | .own l=>.own (ρ l)
 | .cut l lo n=>.cut (ρ l) lo n
 | .vw es more=>.vw es more
 | .ptr l i off=>.ptr (ρ l) i off
 | .map l=>.map (ρ l)
 | .it l=>.it (ρ l)
 | .agg cs=>.agg (renL ρ cs)
 | .tuple cs=>.tuple (renL ρ cs)
 | .iface t x=>.iface t (x.ren ρ)
 | .fn f cs=>.fn f (renL ρ cs)
def renL (ρ : Nat → Nat) : List AV → List AV
 | []=>[]
 | x :: l=>x.ren ρ :: renL ρ l
end
mutual
def AV.labsIn (n : Nat) : AV → Bool
 | .p _ | .ex _ | .vw _ _=>true
 | .own l | .cut l _ _ | .ptr l _ _ | .map l | .it l=>decide (l < n)
 | .agg cs | .tuple cs | .fn _ cs=>labsInL n cs
 | .iface _ x=>x.labsIn n
def labsInL (n : Nat) : List AV → Bool
 | []=>true
 | x :: l=>x.labsIn n && labsInL n l
end
theorem renL_get (ρ : Nat → Nat) (l : List AV) (j : Nat) : (renL ρ l)[j]? = (l[j]?).map (·.ren ρ):=by
 induction l generalizing j with
 | nil=>simp [renL]
 | cons x l ih=>cases j with
  | zero=>simp [renL]
  | succ j=>simp [renL,ih]
theorem renL_length (ρ : Nat → Nat) (l : List AV) : (renL ρ l).length = l.length:=by
 induction l with
 | nil=>rfl
 | cons x l ih=>simp [renL,ih]
theorem labsInL_mem {n : Nat} {l : List AV} (h : labsInL n l = true) {x : AV} (hx : x ∈ l) : x.labsIn n = true:=by
 induction l with
 | nil=>cases hx
 | cons y l ih =>
  simp only [labsInL,Bool.and_eq_true] at h
  rcases List.mem_cons.1 hx with rfl | hx
  ·exact h.1
  ·exact ih h.2 hx
theorem renL_p (ρ : Nat → Nat) (ps : List PV) : renL ρ (ps.map AV.p) = ps.map AV.p:=by
 induction ps with
 | nil=>rfl
 | cons x l ih=>simp [renL,ih,AV.ren]
theorem labsInL_p (n : Nat) (ps : List PV) : labsInL n (ps.map AV.p) = true:=by
 induction ps with
 | nil=>rfl
 | cons x l ih=>simp [labsInL,ih,AV.labsIn]
def relab (ρ : Nat → Nat) (n : Nat) (σ : Lab) : Lab:=fun l=>if l < n then σ (ρ l) else none
theorem repA_ren {σ : Lab} {w : World} {I : Nat → Prop} {ρ : Nat → Nat} {n : Nat} {u : Value} {y : AV} (h : repA σ w I u y) : ∀ x : AV,y = x.ren ρ → x.labsIn n = true → repA (relab ρ n σ) w I u x:=by
 have lab : ∀ {l : Nat} {s : Slot},decide (l < n) = true → σ (ρ l) = some s → relab ρ n σ l = some s:=fun hl hs=>by
  unfold relab
  rw [if_pos (of_decide_eq_true hl)]
  exact hs
 induction h with
 | p h=>intro x hx hb; cases x <;> simp only [AV.ren,reduceCtorEq,AV.p.injEq] at hx; subst hx; exact .p h
 | ex hn h=>intro x hx hb; cases x <;> simp only [AV.ren,reduceCtorEq,AV.ex.injEq] at hx; subst hx; exact .ex hn h
 | ownE h=>intro x hx hb; cases x <;> simp only [AV.ren,reduceCtorEq,AV.own.injEq] at hx; subst hx; exact .ownE (lab hb h)
 | own h=>intro x hx hb; cases x <;> simp only [AV.ren,reduceCtorEq,AV.own.injEq] at hx; subst hx; exact .own (lab hb h)
 | cut h hm hc=>intro x hx hb; cases x <;> simp only [AV.ren,reduceCtorEq,AV.cut.injEq] at hx; obtain ⟨rfl,rfl,rfl⟩:=hx; exact .cut (lab hb h) hm hc
 | vw hn hm hc h=>intro x hx hb; cases x <;> simp only [AV.ren,reduceCtorEq,AV.vw.injEq] at hx; obtain ⟨rfl,rfl⟩:=hx; exact .vw hn hm hc h
 | ptr h=>intro x hx hb; cases x <;> simp only [AV.ren,reduceCtorEq,AV.ptr.injEq] at hx; obtain ⟨rfl,rfl,rfl⟩:=hx; exact .ptr (lab hb h)
 | map h=>intro x hx hb; cases x <;> simp only [AV.ren,reduceCtorEq,AV.map.injEq] at hx; subst hx; exact .map (lab hb h)
 | it h=>intro x hx hb; cases x <;> simp only [AV.ren,reduceCtorEq,AV.it.injEq] at hx; subst hx; exact .it (lab hb h)
 | agg hs hr ih =>
  intro x hx hb; cases x <;> simp only [AV.ren,reduceCtorEq,AV.agg.injEq] at hx
  subst hx
  refine .agg (by rw [hs,renL_length]) fun j u p h1 h2=>?_
  exact ih j u _ h1 (by rw [renL_get,h2]; rfl) p rfl (labsInL_mem hb (List.mem_of_getElem? h2))
 | tuple hs hr ih =>
  intro x hx hb; cases x <;> simp only [AV.ren,reduceCtorEq,AV.tuple.injEq] at hx
  subst hx
  refine .tuple (by rw [hs,renL_length]) fun j u p h1 h2=>?_
  exact ih j u _ h1 (by rw [renL_get,h2]; rfl) p rfl (labsInL_mem hb (List.mem_of_getElem? h2))
 | iface t h ih =>
  intro x hx hb; cases x <;> simp only [AV.ren,reduceCtorEq,AV.iface.injEq] at hx
  obtain ⟨rfl,hx⟩:=hx
  exact .iface _ (ih _ hx hb)
 | fn f hs hr ih =>
  intro x hx hb; cases x <;> simp only [AV.ren,reduceCtorEq,AV.fn.injEq] at hx
  obtain ⟨rfl,hx⟩:=hx
  subst hx
  refine .fn _ (by rw [hs,renL_length]) fun j u p h1 h2=>?_
  exact ih j u _ h1 (by rw [renL_get,h2]; rfl) p rfl (labsInL_mem hb (List.mem_of_getElem? h2))
def Blk.ren (ρ : Nat → Nat) : Blk → Blk
 | .row sz es=>.row sz (es.map (renL ρ))
 | .map es=>.map (es.map fun e=>(e.1,e.2.ren ρ))
 | .iter s pos=>.iter s pos
def Blk.labsIn (n : Nat) : Blk → Bool
 | .row _ es=>es.all (labsInL n)
 | .map es=>es.all fun e=>e.2.labsIn n
 | .iter _ _=>true
theorem map_renL_lift (ρ : Nat → Nat) (ps : List (List PV)) : (liftE ps).map (renL ρ) = liftE ps:=by
 simp [liftE,renL_p]
theorem labsIn_lift (n : Nat) (ps : List (List PV)) : (liftE ps).all (labsInL n) = true:=by
 simp [liftE,labsInL_p]
theorem AV.one_ren (ρ : Nat → Nat) (x : AV) : (x.ren ρ).one = x.one:=by cases x <;> rfl
theorem repB_ren {σ : Lab} {w : World} {I : Nat → Prop} {ρ : Nat → Nat} {n l : Nat} {b : Blk} (hl : l < n) (h : repB σ w I (ρ l) (b.ren ρ)) (hb : b.labsIn n = true) : repB (relab ρ n σ) w I l b:=by
 have lab : ∀ {s : Slot},σ (ρ l) = some s → relab ρ n σ l = some s:=fun hs=>by
  unfold relab
  rw [if_pos hl]
  exact hs
 cases b with
 | row sz es =>
  simp only [Blk.ren] at h
  generalize hes : es.map (renL ρ) = fs at h
  cases h with
  | emp h => 
   have : es = []:=by simpa using hes
   subst this
   exact .emp (lab h)
  | row h hg hcur hc hs ho hr =>
   subst hes
   rw [List.length_map] at h hc
   refine .row (lab h) hg hcur hc (fun e he=>by rw [← renL_length ρ e]; exact hs _ (List.mem_map.2 ⟨e,he,rfl⟩)) (fun e he x hx=>?_) fun i e j x h1 h2=>?_
   ·obtain ⟨j,hj,rfl⟩:=List.mem_iff_getElem.1 hx
    rw [← AV.one_ren ρ]
    refine ho _ (List.mem_map.2 ⟨e,he,rfl⟩) _ (List.mem_of_getElem? (i:=j) ?_)
    rw [renL_get,List.getElem?_eq_getElem hj]
    rfl
   ·obtain ⟨u,hu,hru⟩:=hr i (renL ρ e) j (x.ren ρ) (by rw [List.getElem?_map,h1]; rfl) (by rw [renL_get,h2]; rfl)
    exact ⟨u,hu,repA_ren hru x rfl (labsInL_mem (List.all_eq_true.1 hb e (List.mem_of_getElem? h1)) (List.mem_of_getElem? h2))⟩
 | map es =>
  simp only [Blk.ren] at h
  cases h with
  | map h hg hn hr =>
   rw [List.length_map] at hn
   refine .map (lab h) hg hn fun i m e h1 h2=>?_
   obtain ⟨q1,q2⟩:=hr i m (e.1,e.2.ren ρ) h1 (by rw [List.getElem?_map,h2]; rfl)
   exact ⟨q1,repA_ren q2 e.2 rfl (List.all_eq_true.1 hb e (List.mem_of_getElem? h2))⟩
 | iter s pos =>
  cases h with
  | iter h hg=>exact .iter (lab h) hg
section
variable {nt : Fm} {s : St}
theorem Ghost.ent (ρ : Nat → Nat) {l : List (Nat × AV)} {h : List (Nat × Blk)} {n : Nat} (ht : ∀ x ∈ l,s.T x.1 = some (x.2.ren ρ) ∧ x.2.labsIn n = true) (hh : ∀ x ∈ h,s.H (ρ x.1) = some (x.2.ren ρ) ∧ x.1 < n ∧ x.2.labsIn n = true)
  (hi : ∀ x ∈ h,∀ y ∈ h,ρ x.1 = ρ y.1 → x.1 = y.1) : Ghost nt s ⟨ofL l,ofH h,n⟩:=by
 rintro w0 X I0 a w ⟨σ,I,hn,m⟩
 have rel : ∀ {lb : Nat} {sl : Slot},relab ρ n σ lb = some sl → σ (ρ lb) = some sl:=fun hs=>by
  unfold relab at hs
  split at hs
  ·exact hs
  ·cases hs
 have hH : ∀ {lb : Nat} {b : Blk},ofH h lb = some b → s.H (ρ lb) = some (b.ren ρ) ∧ lb < n ∧ b.labsIn n = true:=fun hb=>hh _ (ofH_mem hb)
 have hn0 : ∀ {lb : Nat},ofH h lb ≠ none → s.H (ρ lb) ≠ none:=fun hb=>by
  obtain ⟨b,hb⟩:=Option.ne_none_iff_exists'.1 hb
  rw [(hH hb).1]
  simp
 refine ⟨relab ρ n σ,I,fun lb hlb=>by unfold relab; rw [if_neg (by simp only at hlb; omega)],m.defers,m.size,m.pins,⟨fun lb b hb=>?_,fun l1 l2 g s1 s2 h1 h2 e1 e2 g1 g2=>?_,fun lb g sl h1 h2 h3=>?_,m.heap.imm,m.heap.sub,m.heap.fr⟩,fun i x hx=>?_⟩
 ·obtain ⟨q1,q2,q3⟩:=hH hb
  exact repB_ren q2 (m.heap.rows _ _ q1) q3
 ·have:=m.heap.inj _ _ g s1 s2 (hn0 h1) (hn0 h2) (rel e1) (rel e2) g1 g2
  obtain ⟨b1,hb1⟩:=Option.ne_none_iff_exists'.1 h1
  obtain ⟨b2,hb2⟩:=Option.ne_none_iff_exists'.1 h2
  exact hi _ (ofH_mem hb1) _ (ofH_mem hb2) this
 ·exact m.heap.mine _ g sl (hn0 h1) (rel h2) h3
 ·obtain ⟨q1,q2⟩:=ht _ (ofL_mem hx)
  obtain ⟨u,hu,hru⟩:=m.tmps i _ q1
  exact ⟨u,hu,repA_ren hru x rfl q2⟩
mutual
theorem AV.ren_id : ∀ x : AV,x.ren (fun l=>l) = x
 | .p _ | .ex _ | .vw _ _ | .own _ | .cut _ _ _ | .ptr _ _ _ | .map _ | .it _=>rfl
 | .agg cs=>by rw [AV.ren,renL_id]
 | .tuple cs=>by rw [AV.ren,renL_id]
 | .iface t x=>by rw [AV.ren,AV.ren_id]
 | .fn f cs=>by rw [AV.ren,renL_id]
theorem renL_id : ∀ l : List AV,renL (fun l=>l) l = l
 | []=>rfl
 | x :: l=>by rw [renL,AV.ren_id,renL_id]
end
theorem Blk.ren_id (b : Blk) : b.ren (fun l=>l) = b:=by
 cases b with
 | row sz es =>
  simp only [Blk.ren]
  congr 1
  conv=>rhs; rw [← List.map_id es]
  exact List.map_congr_left fun x _=>renL_id x
 | map es =>
  simp only [Blk.ren]
  congr 1
  conv=>rhs; rw [← List.map_id es]
  exact List.map_congr_left fun x _=>by simp [AV.ren_id]
 | iter s pos=>rfl
theorem Ghost.sub {l : List (Nat × AV)} {h : List (Nat × Blk)} {n : Nat} (ht : ∀ x ∈ l,s.T x.1 = some x.2 ∧ x.2.labsIn n = true) (hh : ∀ x ∈ h,s.H x.1 = some x.2 ∧ x.1 < n ∧ x.2.labsIn n = true) : Ghost nt s ⟨ofL l,ofH h,n⟩ :=
 Ghost.ent (fun l=>l) (fun x hx=>by rw [AV.ren_id]; exact ht x hx) (fun x hx=>by rw [Blk.ren_id]; exact hh x hx) (fun _ _ _ _ h=>h)
theorem Ghost.refl : Ghost nt s s:=fun _ _ _ _ _ m=>m
theorem Ghost.trans {s' s'' : St} (h : Ghost nt s s') (h' : Ghost nt s' s'') : Ghost nt s s'':=fun _ _ _ _ _ m=>h' _ _ _ _ _ (h _ _ _ _ _ m)
theorem Ghost.nil {t sz : Nat} (ht : s.T t = some (.ex [])) : Ghost nt s ⟨upd s.T t (some (.own s.nx)),upd s.H s.nx (some (.row sz [])),s.nx + 1⟩:=by
 rintro w0 X I0 a w ⟨σ,I,hσ,m⟩
 obtain ⟨u,hu,hru⟩:=m.tmps t _ ht
 have hl:=hσ s.nx (Nat.le_refl _)
 cases hru with
 | ex he hr =>
  rename_i ad n
  subst he
  have ext : ∀ l' s',σ l' = some s' → upd σ s.nx (some (.emp ad)) l' = some s':=fun l' s' h'=>by
   rw [upd_ne _ _ (by rintro rfl; rw [hl] at h'; cases h')]
   exact h'
  refine ⟨upd σ s.nx (some (.emp ad)),I,fun l h=>?_,m.defers,m.size,m.pins,m.heap.empty hl ad sz,fun i x hx=>?_⟩
  ·simp only at h
   rw [upd_ne _ _ (by omega)]
   exact hσ l (by omega)
  ·simp only at hx
   by_cases hi : i = t
   ·subst hi
    rw [upd_same] at hx
    injection hx with hx
    subst hx
    exact ⟨_,hu,.ownE (upd_same _ _ _)⟩
   ·rw [upd_ne _ _ hi] at hx
    obtain ⟨v,hv,hrv⟩:=m.tmps i x hx
    exact ⟨v,hv,hrv.mono ext (fun _ h=>h) (fun _ _=>rfl)⟩
def thaw1 (lb : Nat) (ps : List (List PV)) : AV → AV
 | .own l=>if l = lb then .p (.slice ps) else .own l
 | .cut l 0 n=>if l = lb then .vw (ps.take n) (ps.drop n) else .cut l 0 n
 | x=>x
def thaw (lb : Nat) (ps : List (List PV)) : AV → AV
 | .agg cs=>mkAgg (cs.map (thaw1 lb ps))
 | x=>thaw1 lb ps x
theorem thaw1_rep {σ : Lab} {w : World} {I J : Nat → Prop} {lb : Nat} {ps : List (List PV)} {v : Value} {x : AV} (hI : ∀ b,I b → J b) (hl : ∀ v,repA σ w I v (.own lb) → rep w J v (.slice ps)) (h : repA σ w I v x) : repA σ w J v (thaw1 lb ps x):=by
 unfold thaw1
 split
 ·split
  ·rename_i e
   subst e
   exact .p (hl v h)
  ·exact h.mono (fun _ _ h=>h) hI (fun _ _=>rfl)
 ·split
  ·rename_i e
   subst e
   cases h with
   | cut h' hm hc =>
    rename_i g n c sz
    have hr:=hl _ (.own h')
    have hn : n = ps.length:=by
     generalize hv : Value.slice (some ⟨g,0,none⟩) n c = v at hr
     cases hr with
     | empty=>injection hv with _ h2 <;> simp [h2]
     | slice _ _ _ _ _ _ _ h2=>injection hv with _ h3; rw [h3]; exact h2
    rw [Nat.zero_mul,Nat.sub_zero,ite_self]
    rw [hn] at hr hm hc
    refine .vw (by rw [List.length_take]; omega) (m:=ps.length) (by rw [List.length_drop]; omega) (by omega) ?_
    rw [List.take_append_drop]
    exact hr
  ·exact h.mono (fun _ _ h=>h) hI (fun _ _=>rfl)
 ·exact h.mono (fun _ _ h=>h) hI (fun _ _=>rfl)
theorem thaw1_one (lb : Nat) (ps : List (List PV)) (x : AV) (h : x.one = true) : (thaw1 lb ps x).one = true:=by
 unfold thaw1
 split
 ·split <;> rfl
 ·split <;> rfl
 ·exact h
theorem Ghost.freeze {lb sz : Nat} {es : List (List AV)} {ps : List (List PV)} (hl : s.H lb = some (.row sz es)) (hp : unlift es = some ps) :
  Ghost nt s ⟨fun i=>(s.T i).map (thaw lb ps),fun l=>if l = lb then none else (s.H l).map fun | .row sz es=>.row sz (es.map fun e=>e.map (thaw1 lb ps)) | b=>b,s.nx⟩:=by
 rintro w0 X I0 a w ⟨σ,I,hσ,m⟩
 have hb:=m.heap.rows lb _ hl
 obtain ⟨sl,hs,hlt⟩:=hb.block
 have key : ∃ J : Nat → Prop,(∀ b,I b → J b) ∧ HOK σ w J (upd s.H lb none) w0 X I0 ∧ ∀ g s',σ lb = some s' → s'.block = some g → J g:=by
  cases hsb : sl.block with
  | none =>
   refine ⟨I,fun _ h=>h,m.heap.less fun l b hb=>?_,fun g s' q1 q2=>?_⟩
   ·by_cases hl : l = lb
    ·subst hl; rw [upd_same] at hb; cases hb
    ·rwa [upd_ne _ _ hl] at hb
   ·rw [hs] at q1; injection q1 with q1; subst q1; rw [hsb] at q2; cases q2
  | some g =>
   refine ⟨_,fun _ h=>.inl h,m.heap.freeze (by rw [hl]; simp) hs hsb,fun g' s' q1 q2=>?_⟩
   rw [hs] at q1; injection q1 with q1; subst q1; rw [hsb] at q2; injection q2 with q2; exact .inr q2.symm
 obtain ⟨J,hIJ,hJ,hg⟩:=key
 have hown : ∀ v,repA σ w I v (.own lb) → rep w J v (.slice ps):=fun v hv=>rep_own hb hv hp hg hIJ
 refine ⟨σ,J,hσ,m.defers,m.size,m.pins,⟨fun l b hb'=>?_,fun l1 l2 g s1 s2 h1 h2=>?_,fun l g s' h1=>?_,hJ.imm,hJ.sub,hJ.fr⟩,fun i x hx=>?_⟩
 ·simp only at hb'
  split at hb'
  ·cases hb'
  ·rename_i hne
   rw [Option.map_eq_some_iff] at hb'
   obtain ⟨b0,hb0,hb'⟩:=hb'
   have hr:=m.heap.rows l b0 hb0
   subst hb'
   cases hr with
   | emp h'=>exact .emp h'
   | row h' hh hcur hc hs' ho hrr =>
    refine .row (by rw [List.length_map]; exact h') hh hcur (by rw [List.length_map]; exact hc) (fun e he=>?_) (fun e he x hx=>?_) fun i e j x q1 q2=>?_
    ·obtain ⟨e',he',rfl⟩:=List.mem_map.1 he
     rw [List.length_map]
     exact hs' e' he'
    ·obtain ⟨e',he',rfl⟩:=List.mem_map.1 he
     obtain ⟨x',hx',rfl⟩:=List.mem_map.1 hx
     exact thaw1_one _ _ _ (ho e' he' x' hx')
    ·rw [List.getElem?_map,Option.map_eq_some_iff] at q1
     obtain ⟨e',he',rfl⟩:=q1
     rw [List.getElem?_map,Option.map_eq_some_iff] at q2
     obtain ⟨x',hx',rfl⟩:=q2
     obtain ⟨u,hu,hru⟩:=hrr i e' j x' he' hx'
     exact ⟨u,hu,thaw1_rep hIJ hown hru⟩
   | map h' hh hn hrr=>exact .map h' hh hn fun i m e q1 q2=>⟨(hrr i m e q1 q2).1,((hrr i m e q1 q2).2).mono (fun _ _ h=>h) hIJ (fun _ _=>rfl)⟩
   | iter h' hh=>exact .iter h' hh
 ·refine hJ.inj l1 l2 g s1 s2 ?_ ?_
  ·intro h
   apply h1
   simp only
   split
   ·rfl
   ·rename_i hne; rw [upd_ne _ _ hne] at h; rw [h]; rfl
  ·intro h
   apply h2
   simp only
   split
   ·rfl
   ·rename_i hne; rw [upd_ne _ _ hne] at h; rw [h]; rfl
 ·refine hJ.mine l g s' fun h=>h1 ?_
  simp only
  split
  ·rfl
  ·rename_i hne; rw [upd_ne _ _ hne] at h; rw [h]; rfl
 ·simp only at hx
  rw [Option.map_eq_some_iff] at hx
  obtain ⟨x',hx',rfl⟩:=hx
  obtain ⟨u,hu,hru⟩:=m.tmps i x' hx'
  refine ⟨u,hu,?_⟩
  unfold thaw
  split
  ·cases hru with
   | agg hs' hr =>
    refine repA_agg (by rw [List.length_map]; exact hs') fun j u p q1 q2=>?_
    rw [List.getElem?_map,Option.map_eq_some_iff] at q2
    obtain ⟨x'',hx'',rfl⟩:=q2
    exact thaw1_rep hIJ hown (hr j u x'' q1 hx'')
  ·exact thaw1_rep hIJ hown hru
end
end Go.Aw
namespace Go.Aw
abbrev KS:=(Nat → Option AV) → (Nat → Option Blk) → Nat → Prop
abbrev KD:=(Nat → Option AV) → (Nat → Option Blk) → Nat → List (List Nat × List Nat) → Prop
theorem seqPack : ∃ f : Program → List Oper → Nat → List Oper → (Nat → Option AV) → (Nat → Option Blk) → KS → Prop,f = seqW:=⟨seqW,rfl⟩
noncomputable def seqO (P : Program) (ops : List Oper) (nx : Nat) (r : List Oper) (T : Nat → Option AV) (H : Nat → Option Blk) (K : KS) : Prop:=Classical.choose seqPack P ops nx r T H K
theorem seqO_eq (P : Program) (ops : List Oper) (nx : Nat) (r : List Oper) (T : Nat → Option AV) (H : Nat → Option Blk) (K : KS) : seqO P ops nx r T H K = seqW P ops nx r T H K:=by
 unfold seqO; rw [Classical.choose_spec seqPack]
theorem drawPack : ∃ f : Program → List Oper → Nat → List Oper → (Nat → Option AV) → (Nat → Option Blk) → List (List Nat × List Nat) → KD → Prop,f = drawA:=⟨drawA,rfl⟩
noncomputable def drawO (P : Program) (ops : List Oper) (nx : Nat) (r : List Oper) (T : Nat → Option AV) (H : Nat → Option Blk) (fs : List (List Nat × List Nat)) (K : KD) : Prop:=Classical.choose drawPack P ops nx r T H fs K
theorem drawO_eq (P : Program) (ops : List Oper) (nx : Nat) (r : List Oper) (T : Nat → Option AV) (H : Nat → Option Blk) (fs : List (List Nat × List Nat)) (K : KD) : drawO P ops nx r T H fs K = drawA P ops nx r T H fs K:=by
 unfold drawO; rw [Classical.choose_spec drawPack]
abbrev SC:=Program → List Oper → Nat → List Oper → Option Tmp → (Nat → Option AV) → (Nat → Option Blk) → KS → Eff → Prop
theorem seqCPack : ∃ f : SC,f = fun P ops nx r d T H K e=>seqO P ops (nx + 1) r (putT T d e.val) (putH H e.upd) K:=⟨_,rfl⟩
noncomputable def seqC (P : Program) (ops : List Oper) (nx : Nat) (r : List Oper) (d : Option Tmp) (T : Nat → Option AV) (H : Nat → Option Blk) (K : KS) (e : Eff) : Prop:=Classical.choose seqCPack P ops nx r d T H K e
abbrev DC:=Program → List Oper → Nat → List Oper → Option Tmp → (Nat → Option AV) → (Nat → Option Blk) → List Nat → List (List Nat × List Nat) → KD → Eff → Prop
theorem drawCPack : ∃ f : DC,f = fun P ops nx r d T H rd fs K e=>drawO P ops (nx + 1) r (putT T d e.val) (putH H e.upd) ((rd,e.upd.map (·.1)) :: fs) K:=⟨_,rfl⟩
noncomputable def drawC (P : Program) (ops : List Oper) (nx : Nat) (r : List Oper) (d : Option Tmp) (T : Nat → Option AV) (H : Nat → Option Blk) (rd : List Nat) (fs : List (List Nat × List Nat)) (K : KD) (e : Eff) : Prop:=Classical.choose drawCPack P ops nx r d T H rd fs K e
section
variable {P : Program} {ops : List Oper} {nx : Nat} {r : List Oper} {d : Option Tmp} {op : Op} {ty : TypeId} {p : String} {af : Array Edge} {j : Nat} {want : Bool} {T : Nat → Option AV} {H : Nat → Option Blk} {rd : List Nat} {fs : List (List Nat × List Nat)} {K : KS} {D : KD} {v : Option AV} {u : List (Nat × Option Blk)}
theorem seqC_mk : seqC P ops nx r d T H K ⟨v,u⟩ = seqO P ops (nx + 1) r (putT T d v) (putH H u) K:=by unfold seqC; rw [Classical.choose_spec seqCPack]
theorem drawC_mk : drawC P ops nx r d T H rd fs D ⟨v,u⟩ = drawO P ops (nx + 1) r (putT T d v) (putH H u) ((rd,u.map (·.1)) :: fs) D:=by unfold drawC; rw [Classical.choose_spec drawCPack]
theorem seqC_fun : seqC P ops nx r d T H K = fun e=>seqW P ops (nx + 1) r (putT T d e.val) (putH H e.upd) K:=by
 funext e; unfold seqC; rw [Classical.choose_spec seqCPack]; exact seqO_eq _ _ _ _ _ _ _
theorem drawC_fun : drawC P ops nx r d T H rd fs D = fun e=>drawA P ops (nx + 1) r (putT T d e.val) (putH H e.upd) ((rd,e.upd.map (·.1)) :: fs) D:=by
 funext e; unfold drawC; rw [Classical.choose_spec drawCPack]; exact drawO_eq _ _ _ _ _ _ _ _
theorem seqO_nil : seqO P ops nx [] T H K = K T H nx:=seqO_eq ..
theorem seqO_none : seqO P ops nx (⟨d,op,ty,p,af,none⟩ :: r) T H K = opW P nx op T H (seqC P ops nx r d T H K):=by
 rw [seqO_eq,seqC_fun]; rfl
theorem seqO_some : seqO P ops nx (⟨d,op,ty,p,af,some (j,want)⟩ :: r) T H K = match ((ops[j]?).bind (·.dst)).bind T with
   | some (.p (.bool b))=>if b = want then opW P nx op T H (seqC P ops nx r d T H K) else seqO P ops (nx + 1) r (putT T d (some (.p (.cst undef)))) H K
   | some (.p (.cst x))=>notB x ∧ seqO P ops (nx + 1) r (putT T d (some (.p (.cst undef)))) H K
   | _=>False:=by
 rw [seqO_eq,seqC_fun,seqO_eq]; rfl
attribute [go_sem] notB_undef boolE_true boolE_false
theorem drawO_nil : drawO P ops nx [] T H fs D = D T H nx fs:=drawO_eq ..
theorem drawO_none : drawO P ops nx (⟨d,op,ty,p,af,none⟩ :: r) T H fs D = opW P nx op T H (drawC P ops nx r d T H (readsA T op) fs D):=by
 rw [drawO_eq,drawC_fun]; rfl
theorem drawO_some : drawO P ops nx (⟨d,op,ty,p,af,some (j,want)⟩ :: r) T H fs D = match ((ops[j]?).bind (·.dst)).bind T with
   | some (.p (.bool b))=>if b = want then opW P nx op T H (drawC P ops nx r d T H (readsA T op) fs D) else drawO P ops (nx + 1) r (putT T d none) H (([],[]) :: fs) D
   | _=>False:=by
 rw [drawO_eq,drawC_fun,drawO_eq]; rfl
end
theorem AW.rT {P : Program} {nt : Fm} {id : Nat} {ops : Array Oper} {y : Code} {s : St} {Q : Exit → St → Prop} (hd : ops.toList.all (dstOK nt) = true)
  (h : ∀ K : St → Prop,(∀ s',AW P nt y s' Q → K s') → seqO P ops.toList s.nx ops.toList s.T s.H fun T H n=>K ⟨T,H,n⟩) : AW P nt (.seq (.region id ops false) y) s Q :=
 AW.regThen hd fun K hK=>by rw [← seqO_eq]; exact h K hK
theorem AW.rE {P : Program} {nt : Fm} {id : Nat} {ops : Array Oper} {s : St} {Q : Exit → St → Prop} (hd : ops.toList.all (dstOK nt) = true)
  (h : ∀ K : St → Prop,(∀ s',Q .normal s' → K s') → seqO P ops.toList s.nx ops.toList s.T s.H fun T H n=>K ⟨T,H,n⟩) : AW P nt (.region id ops false) s Q :=
 AW.regEnd hd fun K hK=>by rw [← seqO_eq]; exact h K hK
theorem AW.dT {P : Program} {nt : Fm} {ops : Array Oper} {id : Nat} {y : Code} {s : St} {Q : Exit → St → Prop} (hm : P.follows .mixedOrders = true) (hd : ops.toList.all (dstOK nt) = true) (hs : staticOK ops.toList = true)
  (h : ∀ K : St → Prop,(∀ s',AW P nt y s' Q → K s') → drawO P ops.toList s.nx ops.toList s.T s.H [] fun T H n fs=>heapOK ops.toList fs.reverse = true ∧ K ⟨T,H,n⟩) : AW P nt (.seq (.region id ops true) y) s Q :=
 AW.drawThen' hm hd hs fun K hK=>by rw [← drawO_eq]; exact h K hK
theorem AW.dE {P : Program} {nt : Fm} {ops : Array Oper} {id : Nat} {s : St} {Q : Exit → St → Prop} (hm : P.follows .mixedOrders = true) (hd : ops.toList.all (dstOK nt) = true) (hs : staticOK ops.toList = true)
  (h : ∀ K : St → Prop,(∀ s',Q .normal s' → K s') → drawO P ops.toList s.nx ops.toList s.T s.H [] fun T H n fs=>heapOK ops.toList fs.reverse = true ∧ K ⟨T,H,n⟩) : AW P nt (.region id ops true) s Q :=
 AW.drawEnd' hm hd hs fun K hK=>by rw [← drawO_eq]; exact h K hK
end Go.Aw
namespace Go.Aw
attribute [go_sem] seqO_nil seqO_none seqO_some drawO_nil drawO_none drawO_some seqC_mk drawC_mk List.reverse_cons List.reverse_nil opW putT putH ev constAV moveW pickW binOW nilW isNilC_tmp isNilC_int isNilC_str isNilC_slice binW eqW binPV binInt binStr shiftInt isShift unW unPV loadW loadA loadP storeW cellsA setCells oneAll AV.one PV.one allocW newW boxW buildW partsA fillA mkAgg allP buildSliceW idxOK cellsOK makeSliceW fieldAddrW indexAddrW indexAddrP elemP indexW fieldW extractW lenW sliceW sliceStr sliceP bnd makeIfaceW nilCheckW assertW failsW fnOf WFn flatP flat1 List.all_cons List.all_nil RW.eff lendP lendU apartL LB.blk appendW exW_nl elems news makeMapW lookupW mapUpdateW rangeW nextW lkV convertW bytesOf byteOf1 minmaxW copyW cutElems dstPart callW pcallW RV.eff pureArgs frzA unlift pureA pure1 pureL andThen inBlk EndW resW cellV oneOr argsT upd_same ofL ofH AV.ren renL AV.labsIn labsInL Blk.ren Blk.labsIn renL_p labsInL_p map_renL_lift labsIn_lift labs readsA Op.operands Call.operands
attribute [go_sem] decide_true decide_false not_true_eq_false not_false_eq_true Bool.false_eq_true Bool.true_eq_false Int.toNat_natCast Nat.succ_ne_self beq_self_eq_true Bool.not_true Bool.not_false Option.some.injEq exists_eq_left'
theorem upd_at {α : Type} (f : Nat → Option α) (i j : Nat) (v : Option α) : upd f i v j = if j = i then v else f j:=rfl
attribute [go_sem] upd_at
attribute [go_sem] List.map_cons List.map_nil List.getElem?_cons_zero List.getElem?_cons_succ List.getElem?_nil List.length_cons List.length_nil List.drop_zero List.drop_succ_cons List.drop_nil List.take_succ_cons List.take_zero List.take_nil List.set_cons_zero List.set_cons_succ List.cons_append List.nil_append Option.bind_some Option.map_some Option.bind_none Option.map_none Nat.add_zero Nat.zero_add true_and and_true Bool.and_true Bool.true_and List.flatMap_cons List.flatMap_nil List.filterMap_cons List.filterMap_nil
end Go.Aw
namespace Go.Aw
theorem w64 {n : Int} (h : -9223372036854775808 ≤ n) (h' : n < 9223372036854775808) : IntKind.wrap .i64 n = n:=by
 have e : (2 : Int) ^ 64 = 18446744073709551616:=by decide
 have e' : (2 : Int) ^ (64 - 1) = 9223372036854775808:=by decide
 simp only [IntKind.wrap,IntKind.bits,IntKind.signed,e,e',Bool.true_and,decide_eq_true_eq]
 split <;> omega
theorem at_map' {α : Type} (f : α → List PV) {l : List α} {n : Nat} {a : α} (h : l[n]? = some a) :
  (0 ≤ (n : Int)) ∧ ((n : Int) < ((l.map f).length : Int)) ∧ ((l.map f).getD n [] = f a):=by
 have hn : n < l.length:=by rcases Nat.lt_or_ge n l.length with h' | h'; exact h'; rw [List.getElem?_eq_none h'] at h; cases h
 refine ⟨by omega,by simp; omega,?_⟩
 simp [List.getD,h]
theorem at_map {α : Type} (f : α → List PV) {l : List α} {n : Nat} {a : α} {i : Int} (h : l[n]? = some a) (e : i = (n : Int)) :
  (0 ≤ i) ∧ (i < ((l.map f).length : Int)) ∧ ((l.map f).getD i.toNat [] = f a):=by
 have hn : n < l.length:=by rcases Nat.lt_or_ge n l.length with h' | h'; exact h'; rw [List.getElem?_eq_none h'] at h; cases h
 subst e
 refine ⟨by omega,by simp; omega,?_⟩
 simp [List.getD,h]
theorem AW.cut {P : Program} {nt : Fm} {x y : Code} {s : St} {Q : Exit → St → Prop} {α : Type} (R : α → St) (J : α → Prop) (h : AW P nt x s (andThen (fun s'=>∃ a,J a ∧ Ghost nt s' (R a)) Q)) (k : ∀ a,J a → AW P nt y (R a) Q) : AW P nt (.seq x y) s Q :=
 AW.seq (h.mono fun e s' hq=>by
  cases e with
  | normal=>obtain ⟨a,ja,g⟩:=hq; exact (k a ja).ghost g
  | _=>exact hq)
theorem sliceOps2 (x b : Operand) : (#[x] ++ (none : Option Operand).toArray ++ (some b).toArray ++ (none : Option Operand).toArray).toList = [x,b]:=rfl
attribute [go_sem] sliceOps2
theorem lapp (xs ys : List Operand) : (xs.toArray ++ ys.toArray).toList = xs ++ ys:=by simp
attribute [go_sem] lapp
theorem heapOK_nil {ops : List Oper} {fs : List (List Nat × List Nat)} (h : fs.all (fun f=>f.2.isEmpty) = true) : heapOK ops fs = true:=by simp [heapOK,h]
theorem pureL_lift (e : List PV) : pureL (e.map AV.p) = some e:=by
 induction e with
 | nil=>rfl
 | cons x e ih=>simp only [List.map_cons,pureL,pure1,ih]
theorem unlift_liftE (es : List (List PV)) : unlift (liftE es) = some es:=by
 unfold liftE
 induction es with
 | nil=>rfl
 | cons x e ih=>simp only [List.map_cons,unlift,pureL_lift,ih]
theorem liftE_append (a b : List (List PV)) : liftE (a ++ b) = liftE a ++ liftE b:=by simp [liftE]
theorem liftE_cons (a : List PV) (b : List (List PV)) : liftE (a :: b) = a.map AV.p :: liftE b:=rfl
theorem liftE_nil : liftE [] = []:=rfl
theorem liftE_length (a : List (List PV)) : (liftE a).length = a.length:=by simp [liftE]
attribute [go_sem] unlift_liftE liftE_nil
theorem oneAll_lift {e : List PV} (h : ∀ p ∈ e,p.one = true) : oneAll (e.map AV.p) = true:=by
 induction e with
 | nil=>rfl
 | cons x e ih=>simp only [List.map_cons,oneAll,AV.one,Bool.and_eq_true]; exact ⟨h x (by simp),ih fun p hp=>h p (by simp [hp])⟩
theorem liftE_len {ps : List (List PV)} {sz : Nat} (h : ∀ e ∈ ps,e.length = sz) : ∀ n ∈ liftE ps,n.length = sz:=by
 intro n hn
 obtain ⟨e,he,rfl⟩:=List.mem_map.1 hn
 rw [List.length_map]; exact h e he
theorem liftE_one {ps : List (List PV)} (h : ∀ e ∈ ps,∀ p ∈ e,p.one = true) : ∀ n ∈ liftE ps,oneAll n = true:=by
 intro n hn
 obtain ⟨e,he,rfl⟩:=List.mem_map.1 hn
 exact oneAll_lift (h e he)
theorem at_lift {α : Type} (f : α → List PV) {l : List α} {n : Nat} {a : α} (h : l[n]? = some a) : (liftE (l.map f))[n]? = some ((f a).map AV.p):=by
 simp [liftE,h]
theorem beqf {α : Type} [BEq α] [LawfulBEq α] {a b : α} (h : ¬ a = b) : (a == b) = false:=by simpa using h
end Go.Aw
namespace Go.Aw
open Go.RowKit Go.ChangeShapes
variable {P : Program} {w : World}
def old (w : World) : Nat → Prop:=fun g=>g < w.heap.size
def Opn (P : Program) (w : World) (t : TypeId) {α : Type} (e : α → List PV) (G : α → Prop) : Prop :=
 (∀ a,∀ p ∈ e a,p.one = true) ∧ ∀ (H : Type) (enc : TypeId × Value → H) (fuel : Nat) (cs : List Value) (d : DataW H × List MemPlace),DataW.trod enc P w 0 (fun _=>true) true fuel t cs = some d →
  ∃ a,G a ∧ cs.length = (e a).length ∧ ∀ (j : Nat) u p,cs[j]? = some u → (e a)[j]? = some p → rep w (old w) u p
theorem Opn.map {t : TypeId} {α β : Type} {e : α → List PV} {G : α → Prop} {e' : β → List PV} {G' : β → Prop} (h : Opn P w t e G) (f : α → β) (he : ∀ a,e' (f a) = e a) (h1 : ∀ b,∀ p ∈ e' b,p.one = true) (hg : ∀ a,G a → G' (f a)) : Opn P w t e' G':=by
 refine ⟨h1,fun H enc fuel cs d hd=>?_⟩
 obtain ⟨a,g,l,r⟩:=h.2 H enc fuel cs d hd
 exact ⟨f a,hg a g,by rw [he]; exact l,by rw [he]; exact r⟩
theorem opn_int {t : TypeId} {k : IntKind} (hu : P.underlying t = some (.int k)) : Opn P w t (fun n : Int=>[.int k n]) (fun n=>(Lit.int k n).wf = true):=by
 refine ⟨fun a p hp=>by simp at hp; subst hp; rfl,fun H enc fuel cs d hd=>?_⟩
 cases fuel with
 | zero=>simp [DataW.trod] at hd
 | succ n =>
  unfold DataW.trod at hd
  rw [hu] at hd
  split at hd <;> rename_i hh <;> try (cases hh; done)
  all_goals try cases hh
  ·split at hd
   ·rename_i hk
    obtain ⟨rfl,hw⟩:=hk
    exact ⟨_,hw,rfl,fun j u p h1 h2=>by
     cases j with
     | zero=>simp at h1 h2; subst h1; subst h2; exact .int _ _
     | succ j=>simp at h1⟩
   ·cases hd
  all_goals cases hd
theorem opn_str {t : TypeId} (hu : P.underlying t = some .string) : Opn P w t (fun s : List UInt8=>[.str s]) (fun s=>s.length ≤ maxLen):=by
 refine ⟨fun a p hp=>by simp at hp; subst hp; rfl,fun H enc fuel cs d hd=>?_⟩
 cases fuel with
 | zero=>simp [DataW.trod] at hd
 | succ n =>
  unfold DataW.trod at hd
  rw [hu] at hd
  split at hd <;> rename_i hh <;> try (cases hh; done)
  all_goals try cases hh
  ·split at hd
   ·rename_i hl
    refine ⟨(‹ByteArray›).data.toList,by show _ ≤ _; rw [Array.length_toList]; exact hl,rfl,fun j u p h1 h2=>by
     cases j with
     | zero=>simp at h1 h2; subst h1; subst h2; exact .str _
     | succ j=>simp at h1⟩
   ·cases hd
  all_goals cases hd
theorem mapM_get {α β : Type} {f : α → Option β} : ∀ {l : List α} {r : List β},l.mapM f = some r → r.length = l.length ∧ ∀ (i : Nat) x,l[i]? = some x → ∃ y,r[i]? = some y ∧ f x = some y:=by
 intro l
 induction l with
 | nil=>intro r h; simp at h; subst h; simp
 | cons a l ih =>
  intro r h
  simp only [List.mapM_cons,Option.bind_eq_bind,Option.bind_eq_some_iff,Option.pure_def,Option.some.injEq] at h
  obtain ⟨y,hy,ys,hys,rfl⟩:=h
  obtain ⟨h1,h2⟩:=ih hys
  refine ⟨by simp [h1],fun i x hx=>?_⟩
  cases i with
  | zero=>simp at hx; subst hx; exact ⟨y,rfl,hy⟩
  | succ i=>simpa using h2 i x (by simpa using hx)
theorem list_choose {α : Type} {Q : Nat → α → Prop} : ∀ (n : Nat),(∀ i,i < n → ∃ a,Q i a) → ∃ l : List α,l.length = n ∧ ∀ i a,l[i]? = some a → Q i a:=by
 intro n
 induction n with
 | zero=>intro _; exact ⟨[],rfl,fun i a h=>by simp at h⟩
 | succ n ih =>
  intro h
  obtain ⟨l,h1,h2⟩:=ih fun i hi=>h i (by omega)
  obtain ⟨a,ha⟩:=h n (by omega)
  refine ⟨l ++ [a],by simp [h1],fun i b hb=>?_⟩
  rcases Nat.lt_or_ge i n with hi | hi
  ·rw [List.getElem?_append_left (by omega)] at hb; exact h2 i b hb
  ·rw [List.getElem?_append_right (by omega)] at hb
   have : i = n:=by
    have:=(List.getElem?_eq_some_iff.1 hb).1
    simp at this; omega
   subst this
   simp [h1] at hb
   subst hb; exact ha
theorem opn_slice {t te : TypeId} {sz : Nat} {α : Type} {e : α → List PV} {G : α → Prop} (hu : P.underlying t = some (.slice te)) (hz : P.cellsOf te = sz) (hp : 0 < sz) (h : Opn P w te e G) (hs : ∀ a,(e a).length = sz) :
  Opn P w t (fun l : List α=>[.slice (l.map e)]) (fun l=>l.length ≤ maxLen ∧ ∀ a ∈ l,G a):=by
 refine ⟨fun a p hp=>by simp at hp; subst hp; rfl,fun H enc fuel cs d hd=>?_⟩
 have one : ∀ (v : Value) (l : List α),rep w (old w) v (.slice (l.map e)) → ∀ (j : Nat) u p,[v][j]? = some u → ([PV.slice (l.map e)])[j]? = some p → rep w (old w) u p:=by
  intro v l hr j u p h1 h2
  cases j with
  | zero=>simp at h1 h2; subst h1; subst h2; exact hr
  | succ j=>simp at h1
 cases fuel with
 | zero=>simp [DataW.trod] at hd
 | succ n =>
  unfold DataW.trod at hd
  rw [hu] at hd
  split at hd <;> rename_i hh <;> try (cases hh; done)
  all_goals try cases hh
  ·exact ⟨[],⟨by simp,by simp⟩,rfl,one _ [] (.empty _ _)⟩
  ·rename_i a len cap
   dsimp only at hd
   split at hd
   ·rename_i hc
    obtain ⟨_,hlc,hcm⟩:=hc
    simp only [Option.bind_eq_some_iff] at hd
    obtain ⟨els,he,_⟩:=hd
    obtain ⟨hl,hg⟩:=mapM_get he
    have each : ∀ i,i < len → ∃ x : List Value × α,w.cells? 0 (a.add (i * sz)) sz = some x.1 ∧ G x.2 ∧ x.1.length = (e x.2).length ∧ ∀ (j : Nat) u p,x.1[j]? = some u → (e x.2)[j]? = some p → rep w (old w) u p:=by
     intro i hi
     obtain ⟨y,_,hy⟩:=hg i i (by simp [hi])
     obtain ⟨c,hc1,hc2⟩:=Option.bind_eq_some_iff.1 hy
     rw [hz] at hc1
     obtain ⟨b,g,l,r⟩:=h.2 H enc n c y hc2
     exact ⟨(c,b),hc1,g,l,r⟩
    obtain ⟨xs,hxl,hx⟩:=list_choose len each
    have hgl : (xs.map (·.2)).length ≤ maxLen ∧ ∀ b ∈ xs.map (·.2),G b:=by
     refine ⟨by rw [List.length_map,hxl]; exact Nat.le_trans hlc hcm,fun b hb=>?_⟩
     obtain ⟨x,hx1,rfl⟩:=List.mem_map.1 hb
     obtain ⟨i,hi⟩:=List.getElem?_of_mem hx1
     exact (hx i x hi).2.1
    refine ⟨xs.map (·.2),hgl,rfl,one _ _ ?_⟩
    rcases Nat.eq_zero_or_pos len with h0 | h0
    ·subst h0
     have : xs = []:=List.eq_nil_of_length_eq_zero hxl
     subst this
     exact .empty _ _
    ·obtain ⟨x0,hx0⟩ : ∃ x,xs[0]? = some x:=⟨_,List.getElem?_eq_getElem (by omega)⟩
     obtain ⟨c0,_,l0,_⟩:=hx 0 x0 hx0
     obtain ⟨_,cl0,cg0⟩:=World.cells?_some c0
     have q0:=cg0 0 hp
     rw [Nat.zero_mul] at q0
     have hadd : (a.add 0).add 0 = a:=by simp [Addr.add]
     rw [hadd,List.getElem?_eq_getElem (by omega)] at q0
     have hsp : a.spot = none ∧ a.block < w.heap.size:=by
      unfold World.cell? at q0
      split at q0
      ·rename_i hb
       split at q0
       ·cases q0
       ·rename_i hs'
        refine ⟨by simpa using hs',?_⟩
        rcases Nat.lt_or_ge a.block w.heap.size with h' | h'
        ·exact h'
        ·rw [Array.getElem?_eq_none h'] at hb; cases hb
      ·cases q0
     obtain ⟨b,o,sp⟩:=a
     obtain ⟨hsp,hbl⟩:=hsp
     dsimp only at hsp hbl
     subst hsp
     refine rep.slice (I:=old w) b o len cap sz ((xs.map (·.2)).map e) (fun i j=>((xs.getD i ([],x0.2)).1.getD j .nilIface)) (by simp [hxl]) hlc ?_ hbl ?_ ?_ ?_
     ·intro x hx
      simp only [List.map_map,List.mem_map] at hx
      obtain ⟨y,_,rfl⟩:=hx
      exact hs _
     ·intro x hx p hp'
      simp only [List.map_map,List.mem_map] at hx
      obtain ⟨y,_,rfl⟩:=hx
      exact h.1 _ _ hp'
     ·intro i x j p hi hj
      simp only [List.map_map,List.getElem?_map,Option.map_eq_some_iff] at hi
      obtain ⟨y,hy,rfl⟩:=hi
      obtain ⟨c1,_,l1,r1⟩:=hx i y hy
      obtain ⟨_,cl1,cg1⟩:=World.cells?_some c1
      have hjl : j < sz:=by rw [← hs y.2]; exact (List.getElem?_eq_some_iff.1 hj).1
      have:=cg1 j hjl
      have ea : ((⟨b,o,none⟩ : Addr).add (i * sz)).add j = ⟨b,o + (i * sz + j),none⟩:=by
       unfold Addr.add
       repeat' split
       all_goals simp <;> omega
      rw [ea,List.getElem?_eq_getElem (by omega)] at this
      rw [this]
      simp [List.getD,hy,List.getElem?_eq_getElem (show j < y.1.length by omega)]
     ·intro i x j p hi hj
      simp only [List.map_map,List.getElem?_map,Option.map_eq_some_iff] at hi
      obtain ⟨y,hy,rfl⟩:=hi
      obtain ⟨c1,_,l1,r1⟩:=hx i y hy
      obtain ⟨_,cl1,cg1⟩:=World.cells?_some c1
      have hjl : j < sz:=by rw [← hs y.2]; exact (List.getElem?_eq_some_iff.1 hj).1
      refine r1 j _ p ?_ hj
      simp [List.getD,hy,List.getElem?_eq_getElem (show j < y.1.length by omega)]
   ·cases hd
  all_goals cases hd
def OpnF (P : Program) (w : World) (off : Nat) (fs : List Field) {α : Type} (e : α → List PV) (G : α → Prop) : Prop :=
 (∀ a,∀ p ∈ e a,p.one = true) ∧ (∀ a,(e a).length = (fs.map fun f=>P.cellsOf f.type).sum) ∧ ∀ (H : Type) (enc : TypeId × Value → H) (n : Nat) (cs : List Value) (xs : List (DataW H × List MemPlace)),
  fs.mapM (fun f=>DataW.trod enc P w 0 (fun _=>true) true n f.type ((cs.drop f.offset).take (P.cellsOf f.type))) = some xs →
  ∃ a,G a ∧ ∀ (j : Nat) u p,cs[off + j]? = some u → (e a)[j]? = some p → rep w (old w) u p
theorem opnF_nil {off : Nat} : OpnF P w off [] (fun _ : Unit=>[]) (fun _=>True) :=
 ⟨fun a p hp=>by simp at hp,fun a=>rfl,fun H enc n cs xs h=>⟨(),trivial,fun j u p h1 h2=>by simp at h2⟩⟩
theorem opnF_cons {off sz : Nat} {f : Field} {fs : List Field} {α β : Type} {e : α → List PV} {G : α → Prop} {e' : β → List PV} {G' : β → Prop} (ho : f.offset = off) (hz : P.cellsOf f.type = sz) (h : Opn P w f.type e G) (hs : ∀ a,(e a).length = sz) (h' : OpnF P w (off + sz) fs e' G') :
  OpnF P w off (f :: fs) (fun x : α × β=>e x.1 ++ e' x.2) (fun x=>G x.1 ∧ G' x.2):=by
 refine ⟨fun a p hp=>?_,fun a=>by simp [hs,hz,h'.2.1],fun H enc n cs xs hx=>?_⟩
 ·rcases List.mem_append.1 hp with hp | hp
  ·exact h.1 _ _ hp
  ·exact h'.1 _ _ hp
 ·simp only [List.mapM_cons,Option.bind_eq_bind,Option.bind_eq_some_iff,Option.pure_def,Option.some.injEq] at hx
  obtain ⟨y,hy,ys,hys,rfl⟩:=hx
  obtain ⟨a,ga,la,ra⟩:=h.2 H enc n _ y hy
  obtain ⟨b,gb,rb⟩:=h'.2.2 H enc n cs ys hys
  refine ⟨(a,b),⟨ga,gb⟩,fun j u p h1 h2=>?_⟩
  rcases Nat.lt_or_ge j sz with hj | hj
  ·rw [List.getElem?_append_left (by rw [hs]; exact hj)] at h2
   refine ra j u p ?_ h2
   rw [ho,hz,List.getElem?_take,if_pos hj,List.getElem?_drop]
   exact h1
  ·rw [List.getElem?_append_right (by rw [hs]; exact hj),hs] at h2
   exact rb (j - sz) u p (by rw [← h1]; congr 1; omega) h2
theorem opn_struct {t : TypeId} {fs : Array Field} {α : Type} {e : α → List PV} {G : α → Prop} (hu : P.underlying t = some (.struct fs)) (hz : P.cellsOf t = (fs.toList.map fun f=>P.cellsOf f.type).sum) (h : OpnF P w 0 fs.toList e G) : Opn P w t e G:=by
 refine ⟨h.1,fun H enc fuel cs d hd=>?_⟩
 cases fuel with
 | zero=>simp [DataW.trod] at hd
 | succ n =>
  unfold DataW.trod at hd
  rw [hu] at hd
  split at hd <;> rename_i hh <;> try (cases hh; done)
  all_goals try cases hh
  all_goals try (cases hd; done)
  all_goals
   split at hd
   ·rename_i hl
    obtain ⟨xs,hx,_⟩:=Option.map_eq_some_iff.1 hd
    obtain ⟨a,ga,ra⟩:=h.2.2 H enc n _ xs hx
    exact ⟨a,ga,by rw [hl,hz,h.2.1],fun j u p h1 h2=>ra j u p (by rw [Nat.zero_add]; exact h1) h2⟩
   ·cases hd
def flat (P : Program) (t : TypeId) : Bool:=match P.underlying t with | some (.struct _) | some (.array _ _)=>false | _=>true
theorem cells_flat {t : TypeId} {v : Value} {r : Reach} {base : Nat} (hf : flat P t = true) (h : Value.okWide P w r base t v) : v.cells = #[v]:=by
 cases v with
 | agg cs =>
  exfalso
  unfold flat at hf
  unfold Value.okWide at h
  split at h
  ·rename_i hu; rw [hu] at hf; cases hf
  ·rename_i hu; rw [hu] at hf; cases hf
  ·unfold Cell.okWide at h
   split at h <;> rename_i hh <;> first | (cases hh; done) | skip
   all_goals try (unfold Cell.ok at h; split at h <;> first | (exact h.elim) | skip)
   all_goals simp_all
 | _=>rfl
def OpnA (P : Program) (w : World) (ts : List TypeId) {α : Type} (e : α → List PV) (G : α → Prop) : Prop :=
 ∀ (H : Type) (enc : TypeId × Value → H) (vs : List Value) (ds : List (DataW H)) (ps : List MemPlace),DataW.TrodAll enc P w 0 (fun _=>true) true ts vs ds ps →
  (∀ (j : Nat) t v,ts[j]? = some t → vs[j]? = some v → ∃ base,Value.okWide P w .any base t v) → (DataW.weightsEach P ts ds).all (· ≤ reachBytes) = true →
  ∃ a,G a ∧ vs.length = (e a).length ∧ ∀ (j : Nat) u p,vs[j]? = some u → (e a)[j]? = some p → rep w (old w) u p
theorem opnA_nil : OpnA P w [] (fun _ : Unit=>[]) (fun _=>True):=by
 intro H enc vs ds ps h _ _
 obtain ⟨rfl,_,_⟩:=trodAll_nil h
 exact ⟨(),trivial,rfl,fun j u p h1 h2=>by simp at h2⟩
theorem weightsEach_app {H : Type} (P : Program) : ∀ (ts us : List TypeId) (ds : List (DataW H)),ds.length = ts.length → DataW.weightsEach P (ts ++ us) ds = DataW.weightsEach P ts ds:=by
 intro ts
 induction ts with
 | nil =>
  intro us ds h
  have : ds = []:=List.eq_nil_of_length_eq_zero (by simpa using h)
  subst this
  cases us <;> simp [DataW.weightsEach]
 | cons t ts ih =>
  intro us ds h
  cases ds with
  | nil=>simp at h
  | cons d ds=>rw [List.cons_append,DataW.weightsEach,DataW.weightsEach,ih us ds (by simpa using h)]
theorem carryAll {H : Type} {enc : TypeId × Value → H} {w' : World} (hw : Below w.heap.size w w') {sp : Nat → Bool} {held : Bool} : ∀ {ts : List TypeId} {vs : List Value} {ds : List (DataW H)} {ps : List MemPlace},
  DataW.TrodAll enc P w 0 sp held ts vs ds ps → (∀ p ∈ ps,p.block < w.heap.size) → DataW.TrodAll enc P w' 0 sp held ts vs ds ps
 | [],vs,ds,ps,h,_=>by
  obtain ⟨rfl,rfl,rfl⟩:=trodAll_nil h
  exact trodAll_mk0
 | t :: ts,vs,ds,ps,h,hl=>by
  obtain ⟨v,vs1,d,ds1,p,q,rfl,rfl,rfl,⟨n,hn⟩,h2⟩:=trodAll_cons h
  exact ⟨p,q,⟨n,DataW.trod_carry n _ _ _ hn fun x hx=>hw.same (hl x (List.mem_append_left _ hx))⟩,carryAll hw h2 fun x hx=>hl x (List.mem_append_right _ hx),rfl⟩
theorem Fr.below {w' : World} (h : Fr w (fun _=>False) w') : Below w.heap.size w w':=⟨h.os,h.tape,h.output,h.size,fun k hk=>h.block k hk (fun h=>h)⟩
theorem law_post {H : Type} {enc : TypeId × Value → H} {P : Program} {f : FuncId} {fn : Func} {s : ChangeSpec} {W : World} {base : Nat} {args : Array Value} {ds gs : List (DataW H)} {before : List MemPlace} {apart fresh handsOn : Bool}
  {α : Type} {e : α → List PV} {G : α → Prop} {tb : TypeId} (hl : laidOutB P = true) (hm : mapsRowed P = true) (hz : ((List.range P.types.size).all fun t=>match P.underlying t with | some (.slice e)=>decide (0 < P.cellsOf e) | _=>true) = true)
  (hp : ∀ t ∈ fn.params.toList,t < P.types.size) (hb : P.underlying tb = some .bool) (hr : fn.resultTypes = #[tb]) (hv : s.vars = [])
  (hs : ∀ ds : List (DataW H),ds.length = fn.params.toList.length → s.fn H ds = { results:=[.lit (.bool true)],args:=ds })
  (hlen : ∀ {ds : List (DataW H)} {vs ps},DataW.TrodAll enc P W 0 (fun _=>true) true fn.params.toList vs ds ps → ds.length = fn.params.toList.length)
  (ho : OpnA P W fn.params.toList e G) (hval : ∀ (j : Nat) t v,fn.params[j]? = some t → args[j]? = some v → Value.okWide P W .any base t v)
  (hW : DataW.Whole enc P fn.params.toList s.vars apart W args.toList ds gs before) {vt : List TypeId} (hsz : (DataW.weightsEach P (fn.params.toList ++ vt) (ds ++ gs)).all (· ≤ reachBytes) = true) (htab : tabOK W (old W)) (hf : ∀ a,G a → PFn P f (e a) (.bool true)) :
  Calls P f args W fun x W'=>∃ v,x = .returned v ∧ s.post enc P fn apart fresh handsOn false W args v W':=by
 have hW':=hW
 obtain ⟨p,q,hA,hV,rfl,hfz,hnd⟩:=hW
 rw [hv] at hV
 have hg : gs = [] ∧ q = []:=by cases gs <;> simp_all [DataW.TrodVars]
 obtain ⟨rfl,rfl⟩:=hg
 rw [List.append_nil,weightsEach_app P _ _ _ (hlen hA)] at hsz
 obtain ⟨a,ga,la,ra⟩:=ho H enc _ _ _ hA (fun j t v h1 h2=>⟨base,hval j t v (by simpa using h1) (by simpa using h2)⟩) hsz
 refine ((hf a ga).2 W (old W) args (by simpa using la) (fun j u p h1 h2=>ra j u p (by simpa using h1) h2) (fun g h=>h) htab).mono fun x W' ⟨v,hx,fr,hrep⟩=>⟨v,hx,?_⟩
 cases hrep
 have hlt:=hW'.lt
 refine ⟨ds,[],p ++ [],[],p,[],hW',?_,?_,?_,fr.below.frame _,fun h=>by cases h⟩
 ·rw [List.append_nil,hs ds (hlen hA),hr]
  exact trodAll_mk1 (shut_bool hb true)
 ·rw [List.append_nil,hs ds (hlen hA)]
  refine carryAll fr.below (DataW.TrodAll.respare (kids_rows hl hm) (fun t e ht hu=>slices_full_of P hz t e ht hu) hp hA ?_) ?_
  ·intro x hx; simpa using hlt x (List.mem_append_left _ hx)
  ·intro x hx; exact hlt x (List.mem_append_left _ hx)
 ·rw [List.append_nil,hs ds (hlen hA),hv]; rfl
end Go.Aw
namespace Go.Aw
open Go.RowKit
variable {P : Program}
theorem Ghost.weak {nt : Fm} {s : St} {t : Nat} {x y : AV} (ht : s.T t = some x) (h : ∀ σ w I v,repA σ w I v x → repA σ w I v y) : Ghost nt s ⟨upd s.T t (some y),s.H,s.nx⟩:=by
 rintro w0 X I0 a w ⟨σ,I,hσ,m⟩
 refine ⟨σ,I,hσ,m.defers,m.size,m.pins,m.heap,fun i z hz=>?_⟩
 simp only at hz
 by_cases hi : i = t
 ·subst hi
  rw [upd_same] at hz
  injection hz with hz
  subst hz
  obtain ⟨u,hu,hr⟩:=m.tmps _ _ ht
  exact ⟨u,hu,h _ _ _ _ hr⟩
 ·rw [upd_ne _ _ hi] at hz
  exact m.tmps i z hz
theorem Ghost.exP {nt : Fm} {s : St} {t : Nat} {es : List (List PV)} (ht : s.T t = some (.ex es)) : Ghost nt s ⟨upd s.T t (some (.p (.slice es))),s.H,s.nx⟩ :=
 Ghost.weak ht fun _ _ _ _ h=>by
  cases h with
  | ex _ h=>exact .p h
end Go.Aw
namespace Go.Aw
open Go.RowKit
variable {P : Program}
def laT : List LA → Nat → Nat → Option AV
 | [],_=>fun _=>none
 | a :: la,i=>upd (laT la (i + 1)) i (some (a.av i))
def laH : List LA → Nat → Nat → Option Blk
 | [],_=>fun _=>none
 | .v _ :: la,i=>laH la (i + 1)
 | .ptr _ _ sz es :: la,i=>upd (laH la (i + 1)) i (some (.row sz (liftE es)))
 | .map es :: la,i=>upd (laH la (i + 1)) i (some (.map (liftM es)))
def laPins : List LA → Nat → List Nat
 | [],_=>[]
 | .v _ :: la,i=>laPins la (i + 1)
 | _ :: la,i=>i :: laPins la (i + 1)
theorem laT_at : ∀ (la : List LA) (i j : Nat),laT la i j = if j < i then none else (la[j - i]?).map (·.av j):=by
 intro la
 induction la with
 | nil=>intro i j; simp [laT]
 | cons a la ih =>
  intro i j
  rw [laT]
  by_cases h : j = i
  ·subst h; rw [upd_same,if_neg (by omega),Nat.sub_self]; rfl
  ·rw [upd_ne _ _ h,ih]
   by_cases h2 : j < i
   ·rw [if_pos (by omega),if_pos h2]
   ·rw [if_neg (by omega),if_neg h2,show j - i = (j - (i + 1)) + 1 by omega,List.getElem?_cons_succ]
theorem laH_at : ∀ (la : List LA) (i j : Nat),laH la i j = if j < i then none else (la[j - i]?).bind fun a=>a.lb.map LB.blk:=by
 intro la
 induction la with
 | nil=>intro i j; simp [laH]
 | cons a la ih =>
  intro i j
  have key : ∀ b,(a.lb = b) → laH (a :: la) i = (match b with | some b=>upd (laH la (i + 1)) i (some b.blk) | none=>laH la (i + 1)):=by
   rintro b rfl
   cases a <;> rfl
  rw [key _ rfl]
  by_cases h : j = i
  ·subst h
   rw [if_neg (by omega),Nat.sub_self,List.getElem?_cons_zero,Option.bind_some]
   cases hlb : a.lb with
   | none=>simp only; rw [ih,if_pos (by omega)]; rfl
   | some b=>simp only; rw [upd_same]; rfl
  ·have e : (match a.lb with | some b=>upd (laH la (i + 1)) i (some b.blk) | none=>laH la (i + 1)) j = laH la (i + 1) j:=by
    cases a.lb with
    | none=>rfl
    | some b=>exact upd_ne _ _ h
   rw [e,ih]
   by_cases h2 : j < i
   ·rw [if_pos (by omega),if_pos h2]
   ·rw [if_neg (by omega),if_neg h2,show j - i = (j - (i + 1)) + 1 by omega,List.getElem?_cons_succ]
def lentEnd (s : St) : List LA → List (Option LB) → Nat → Prop
 | [],[],_=>True
 | .v _ :: la,none :: bs,j=>lentEnd s la bs (j + 1)
 | .ptr i off sz es :: la,some (.row sz' es') :: bs,j=>(∃ l,s.T j = some (.ptr l i off) ∧ s.H l = some (.row sz' (liftE es'))) ∧ (sz' = sz ∧ 0 < sz ∧ es'.length = es.length) ∧ lentEnd s la bs (j + 1)
 | .map _ :: la,some (.map es') :: bs,j=>(∃ l,s.T j = some (.map l) ∧ s.H l = some (.map (liftM es'))) ∧ lentEnd s la bs (j + 1)
 | _,_,_=>False
def lentAt (s : St) (a : LA) (b : LB) (j : Nat) : Prop :=
 match a,b with
 | .ptr k off sz es,.row sz' es'=>(∃ l,s.T j = some (.ptr l k off) ∧ s.H l = some (.row sz' (liftE es'))) ∧ sz' = sz ∧ 0 < sz ∧ es'.length = es.length
 | .map _,.map es'=>∃ l,s.T j = some (.map l) ∧ s.H l = some (.map (liftM es'))
 | _,_=>False
theorem lentEnd_spec {s : St} : ∀ {la : List LA} {bs : List (Option LB)} {i : Nat},lentEnd s la bs i → bs.map Option.isSome = la.map (fun a=>a.lb.isSome) ∧
  ∀ (j : Nat) b,bs[j]? = some (some b) → ∃ a,la[j]? = some a ∧ lentAt s a b (i + j):=by
 intro la
 induction la with
 | nil =>
  intro bs i h
  cases bs with
  | nil=>exact ⟨rfl,fun j b h=>by simp at h⟩
  | cons b bs=>simp [lentEnd] at h
 | cons a la ih =>
  intro bs i h
  have step : ∀ {c : Option LB} {bs' : List (Option LB)},lentEnd s la bs' (i + 1) → c.isSome = a.lb.isSome → (∀ b,c = some b → lentAt s a b i) → (c :: bs').map Option.isSome = (a :: la).map (fun a=>a.lb.isSome) ∧ ∀ (j : Nat) b,(c :: bs')[j]? = some (some b) → ∃ a',(a :: la)[j]? = some a' ∧ lentAt s a' b (i + j):=by
   intro c bs' h1 h2 h3
   obtain ⟨q1,q2⟩:=ih h1
   refine ⟨by simp only [List.map_cons,h2,q1],fun j b hb=>?_⟩
   cases j with
   | zero=>exact ⟨a,rfl,h3 b (by simpa using hb)⟩
   | succ j =>
    obtain ⟨a',r1,r2⟩:=q2 j b (by simpa using hb)
    refine ⟨a',by simpa using r1,?_⟩
    rw [show i + (j + 1) = i + 1 + j by omega]
    exact r2
  cases bs with
  | nil=>cases a <;> simp [lentEnd] at h
  | cons c bs =>
   cases a with
   | v x =>
    cases c with
    | none=>exact step h rfl (fun b hb=>by cases hb)
    | some b=>simp [lentEnd] at h
   | ptr k off sz es =>
    cases c with
    | none=>simp [lentEnd] at h
    | some b =>
     cases b with
     | row sz' es' =>
      obtain ⟨h1,h2,h3⟩:=h
      exact step h3 rfl (fun b hb=>by injection hb with hb; subst hb; exact ⟨h1,h2⟩)
     | map es'=>simp [lentEnd] at h
   | map es =>
    cases c with
    | none=>simp [lentEnd] at h
    | some b =>
     cases b with
     | row sz' es'=>simp [lentEnd] at h
     | map es'=>exact step h.2 rfl (fun b hb=>by injection hb with hb; subst hb; exact h.1)
theorem laPins_lt : ∀ {la : List LA} {i j : Nat},j ∈ laPins la i → i ≤ j ∧ j < i + la.length:=by
 intro la
 induction la with
 | nil=>intro i j h; simp [laPins] at h
 | cons a la ih =>
  intro i j h
  cases a with
  | v x=>have:=ih (i:=i + 1) h; simp; omega
  | ptr a b c d =>
   rcases List.mem_cons.1 h with h | h
   ·subst h; simp
   ·have:=ih h; simp; omega
  | map es =>
   rcases List.mem_cons.1 h with h | h
   ·subst h; simp
   ·have:=ih h; simp; omega
theorem laPins_mem : ∀ {la : List LA} {i j : Nat} {a : LA},la[j]? = some a → a.lb.isSome = true → i + j ∈ laPins la i:=by
 intro la
 induction la with
 | nil=>intro i j a h; simp at h
 | cons b la ih =>
  intro i j a h hl
  cases j with
  | zero =>
   simp at h; subst h
   cases b with
   | v x=>simp [LA.lb] at hl
   | ptr=>simp [laPins]
   | map=>simp [laPins]
  | succ j =>
   have:=ih (i:=i + 1) (by simpa using h) hl
   rw [show i + (j + 1) = i + 1 + j by omega]
   cases b with
   | v x=>exact this
   | ptr=>exact List.mem_cons_of_mem _ this
   | map=>exact List.mem_cons_of_mem _ this
def EndL (P : Program) (rs : Array ResultVar) (la : List LA) (bs : List (Option LB)) (r : PV) : Exit → St → Prop
 | .normal,s | .ret,s=>(resW P ⟨s.T,fun _=>none,s.nx⟩ rs.toList).map oneOr = some r ∧ lentEnd s la bs 0
 | _,_=>False
theorem LFn.of {f : FuncId} {fn : Func} {c : Code} {la : List LA} {bs : List (Option LB)} {r : PV} (hf : P.funcs[f]? = some fn) (hb : fn.body = some c) (hn : fn.name ≠ "runtime.NumGoroutine") {nt : Nat} (hnt : fn.ntmps = nt) {rs : Array ResultVar} (hrs : fn.results = rs) (hnt' : la.length ≤ nt)
  (hbs : bs.map Option.isSome = la.map (fun a=>a.lb.isSome)) (h : ∀ val : Nat → Value,AW P ⟨nt,laPins la 0,val⟩ c ⟨laT la 0,laH la 0,la.length⟩ (EndL P rs la bs r)) : LFn P f la bs r:=by
 subst hnt hrs
 refine ⟨by simp [enters,hf,hb,hn],hbs,fun w I σ vals hs hσ hr hH ht=>?_⟩
 have tx : TabX w (lentX σ (lendH la)) I:=⟨ht,fun g hg=>(hH.imm g hg).1,fun g ⟨l,s,q1,q2,q3⟩=>(hH.mine l g s q1 q2 q3).1⟩
 refine calls_of_wp hf hb ?_
 have eH : laH la 0 = lendH la:=by
  funext j
  rw [laH_at,if_neg (by omega),Nat.sub_zero]; rfl
 have at_ : ∀ i,i < vals.size → (vals ++ Array.replicate (fn.ntmps - vals.size) undef)[i]? = vals[i]?:=fun i hi=>by rw [Array.getElem?_append_left hi]
 have m : Matches ⟨fn.ntmps,laPins la 0,fun i=>vals.getD i undef⟩ w (lentX σ (lendH la)) I ⟨laT la 0,laH la 0,la.length⟩ { tmps:=vals ++ Array.replicate (fn.ntmps - vals.size) undef,defers:=[] } w:=by
  refine ⟨σ,I,hσ,rfl,(by simp; omega),fun i hi=>?_,by simp only; rw [eH]; exact hH,fun i x hx=>?_⟩
  ·have hlt:=(laPins_lt hi).2
   rw [Nat.zero_add,← hs] at hlt
   simp only
   rw [at_ i hlt,Array.getD_eq_getD_getElem?,Array.getElem?_eq_getElem hlt]
   rfl
  ·simp only at hx
   rw [laT_at,if_neg (by omega),Nat.sub_zero] at hx
   obtain ⟨a,ha,rfl⟩:=Option.map_eq_some_iff.1 hx
   have hi : i < vals.size:=by rw [hs]; exact (List.getElem?_eq_some_iff.1 ha).1
   exact ⟨vals[i],by rw [at_ i hi,Array.getElem?_eq_getElem hi],hr i _ a (Array.getElem?_eq_getElem hi) ha⟩
 refine wp_mono (h _ w _ I _ w tx m) ?_
 rintro e a' w' ⟨s',⟨σ',I',hn',m'⟩,q⟩
 have fin : ((resW P ⟨s'.T,fun _=>none,s'.nx⟩ fn.results.toList).map oneOr = some r ∧ lentEnd s' la bs 0) → a'.defers = [] ∧ ∃ v,(results fn a'.tmps).run P w' = .ok v w' ∧
   ∃ v' I',Ending.returned v = .returned v' ∧ HOK σ w' I' (outH bs) w (lentX σ (lendH la)) I ∧ rep w' I' v' r:=by
  rintro ⟨q,hend⟩
  obtain ⟨l,hl,rfl⟩:=Option.map_eq_some_iff.1 q
  obtain ⟨_,spec⟩:=lentEnd_spec hend
  have m0 : Match ⟨fn.ntmps,laPins la 0,fun i=>vals.getD i undef⟩ w (lentX σ (lendH la)) I σ' I' s'.T (fun _=>none) a' w':=⟨m'.defers,m'.size,m'.pins,m'.heap.less (fun l b h=>by cases h),m'.tmps⟩
  obtain ⟨vs,h1,h2,h3⟩:=run_results (s:=⟨s'.T,fun _=>none,s'.nx⟩) tx m0 (J:=I') (fun _ h=>h) (fun lb g sl q1 q2 q3=>absurd rfl q1) (hn' _ (Nat.le_refl _)) (resF a'.tmps) (fun t=>rfl) (fun t ty=>rfl) fn.results.toList l hl
  have hrun : (results fn a'.tmps).run P w' = .ok (if h : vs.length = 1 then vs[0] else .tuple vs.toArray) w':=by
   rw [results_eq,show fn.results = fn.results.toList.toArray by simp,List.mapM_toArray]
   simp only [Sem.run_bind,Sem.run_map,h1,Result.andThen_ok,Sem.run_pure,List.size_toArray,List.getElem_toArray]
  have slot : ∀ (j : Nat) b,bs[j]? = some (some b) → ∃ lb,σ' lb = σ j ∧ s'.H lb = some b.blk ∧ lendH la j ≠ none:=fun j b hj=>by
   obtain ⟨a,ha,hm⟩:=spec j b hj
   rw [Nat.zero_add] at hm
   have hjl : j < vals.size:=by rw [hs]; exact (List.getElem?_eq_some_iff.1 ha).1
   have hv:=hr j _ a (Array.getElem?_eq_getElem hjl) ha
   have pin : ∀ x,s'.T j = some x → a.lb.isSome = true → repA σ' w' I' vals[j] x:=fun x hx hls=>by
    have hp:=m'.pins j (by have:=laPins_mem (i:=0) ha hls; rwa [Nat.zero_add] at this)
    obtain ⟨u,hu,hru⟩:=m'.tmps j x hx
    rw [hp] at hu
    simp only [Option.some.injEq] at hu
    rw [Array.getD_eq_getD_getElem?,Array.getElem?_eq_getElem hjl] at hu
    simp only [Option.getD_some] at hu
    subst hu
    exact hru
   cases a with
   | v x=>cases b <;> exact hm.elim
   | ptr k off sz es =>
    cases b with
    | map es'=>exact hm.elim
    | row sz' es' =>
     obtain ⟨⟨lb,t1,t2⟩,rfl,hpos,hlen⟩:=hm
     have hv':=pin _ t1 rfl
     have hl0 : lendH la j = some (.row sz' (liftE es)):=by simp [lendH,ha,LA.lb,LB.blk]
     have b0:=hH.rows j _ hl0
     have b1:=m'.heap.rows lb _ t2
     simp only [LA.av] at hv
     generalize vals[j] = xv at hv hv'
     cases hv with
     | ptr s0 =>
      rename_i g n c sz0
      generalize hxe : Value.pointer (some ⟨g,k * sz0 + off,none⟩) = xv at hv'
      cases hv' with
      | ptr s1 =>
       rename_i g1 n1 c1 sz1
       injection hxe with hxe
       injection hxe with hxe
       injection hxe with hg _ _
       subst hg
       refine ⟨lb,?_,t2,by rw [hl0]; simp⟩
       obtain ⟨cur0,et0,p0,e0,f0⟩:=cells_slot b0 s0
       obtain ⟨cur1,et1,p1,e1,f1⟩:=cells_slot b1 s1
       obtain ⟨cur2,et2,p2,e2,f2⟩:=m'.heap.fr.shape g cur0 et0 p0 e0
       rw [e1] at e2
       injection e2 with e2
       injection e2 with e2
       subst e2
       have n0 : n = es.length ∧ sz0 = sz':=by
        generalize he : liftE es = ls at b0
        cases b0 with
        | emp h=>rw [s0] at h; cases h
        | row h=>rw [s0] at h; injection h with h; injection h with _ h2 _ h4; subst he; exact ⟨by rw [h2]; simp [liftE],h4⟩
       have n1' : n1 = es'.length ∧ sz1 = sz':=by
        generalize he : liftE es' = ls at b1
        cases b1 with
        | emp h=>rw [s1] at h; cases h
        | row h=>rw [s1] at h; injection h with h; injection h with _ h2 _ h4; subst he; exact ⟨by rw [h2]; simp [liftE],h4⟩
       obtain ⟨rfl,rfl⟩:=n0
       obtain ⟨rfl,rfl⟩:=n1'
       have hc : c1 = c:=Nat.eq_of_mul_eq_mul_right hpos (by rw [← f1,f2,f0])
       rw [s0,s1,hc,hlen]
   | map es =>
    cases b with
    | row sz' es'=>exact hm.elim
    | map es' =>
     obtain ⟨lb,t1,t2⟩:=hm
     have hv':=pin _ t1 rfl
     simp only [LA.av] at hv
     generalize vals[j] = xv at hv hv'
     cases hv with
     | map s0 =>
      cases hv' with
      | map s1=>exact ⟨lb,by rw [s0,s1],t2,by simp [lendH,ha,LA.lb]⟩
  have outs : ∀ j b,outH bs j = some b → ∃ b',bs[j]? = some (some b') ∧ b = b'.blk:=fun j b hj=>by
   unfold outH at hj
   obtain ⟨c,q1,q2⟩:=Option.bind_eq_some_iff.1 hj
   obtain ⟨b',rfl,rfl⟩:=Option.map_eq_some_iff.1 q2
   exact ⟨b',q1,rfl⟩
  refine ⟨m'.defers,_,hrun,_,I',rfl,⟨fun j b hj=>?_,fun j j' g s1 s2 q1 q2=>?_,fun j g s1 q1 q2 q3=>?_,m'.heap.imm,m'.heap.sub,m'.heap.fr⟩,?_⟩
  ·obtain ⟨b',q1,rfl⟩:=outs j b hj
   obtain ⟨lb,r1,r2,_⟩:=slot j b' q1
   exact blk_rel (fun s hs'=>by rw [← r1]; exact hs') (m'.heap.rows lb _ r2)
  ·obtain ⟨b1,hb1⟩:=Option.ne_none_iff_exists'.1 q1
   obtain ⟨b2,hb2⟩:=Option.ne_none_iff_exists'.1 q2
   obtain ⟨b1',r1,_⟩:=outs j b1 hb1
   obtain ⟨b2',r2,_⟩:=outs j' b2 hb2
   obtain ⟨_,_,_,t1⟩:=slot j b1' r1
   obtain ⟨_,_,_,t2⟩:=slot j' b2' r2
   exact hH.inj j j' g s1 s2 t1 t2
  ·obtain ⟨b1,hb1⟩:=Option.ne_none_iff_exists'.1 q1
   obtain ⟨b1',r1,_⟩:=outs j b1 hb1
   obtain ⟨lb,t1,t2,t3⟩:=slot j b1' r1
   exact ⟨(m'.heap.mine lb g s1 (by rw [t2]; simp) (by rw [t1]; exact q2) q3).1,.inl ⟨j,s1,t3,q2,q3⟩⟩
  ·by_cases h4 : vs.length = 1
   ·rw [dif_pos h4]
    obtain ⟨p,rfl⟩ : ∃ p,l = [p]:=List.length_eq_one_iff.1 (by omega)
    exact h3 0 _ p (List.getElem?_eq_getElem (by omega)) rfl
   ·rw [dif_neg h4]
    have : oneOr l = .tuple l:=by
     unfold oneOr
     split
     ·exact absurd h2 h4
     ·rfl
    rw [this]
    exact .tuple (by simpa using h2) (fun j u p q1 q2=>h3 j u p (by simpa using q1) q2)
 cases e with
 | normal=>exact fin q
 | ret=>exact fin q
 | exit _=>exact q.elim
 | goto _=>exact q.elim
 | panic _=>exact q.elim
 | outgrown=>exact q.elim
end Go.Aw
namespace Go.Aw
open Go.RowKit
section
variable {σ : Lab} {w : World} {I : Nat → Prop} {nt : Fm} {s : St}
theorem rep_ptr {J : Nat → Prop} {l sz i off : Nat} {es : List (List AV)} {ps : List (List PV)} {cs : List PV} {v : Value} (hb : repB σ w I l (.row sz es)) (hv : repA σ w I v (.ptr l i off)) (hp : unlift es = some ps) (hcs : ps[i]? = some cs) (hg : ∀ g s,σ l = some s → s.block = some g → J g) (hI : ∀ b,I b → J b) : rep w J v (.box cs off):=by
 obtain ⟨hl,hcells⟩:=unlift_spec hp
 cases hb with
 | emp h' =>
  have : ps = []:=List.eq_nil_of_length_eq_zero (by rw [← hl]; rfl)
  subst this
  simp at hcs
 | row h' hh hcur hc hs ho hr =>
  rename_i g0 c0 cur et
  cases hv with
  | ptr hs' =>
   rename_i g n c szz
   rw [hs'] at h'
   injection h' with h'
   injection h' with e1 e2 e3 e4
   subst e1 e2 e3 e4
   have hi : i < es.length:=by rw [hl]; exact (List.getElem?_eq_some_iff.1 hcs).1
   have he:=List.getElem?_eq_getElem hi
   obtain ⟨k1,k2⟩:=pureL_spec (hcells i _ cs he hcs)
   have at_ : ∀ (j : Nat) p,cs[j]? = some p → ∃ x,es[i][j]? = some x ∧ pure1 x = some p:=by
    intro j p h2
    have hj : j < (es[i]).length:=by rw [k1]; exact (List.getElem?_eq_some_iff.1 h2).1
    exact ⟨_,List.getElem?_eq_getElem hj,k2 j _ p (List.getElem?_eq_getElem hj) h2⟩
   refine .box g (i * szz) off cs (fun j=>(w.cell? ⟨g,i * szz + j,none⟩).getD undef) (hg _ _ hs' rfl) (fun p hp'=>?_) (fun j p h2=>?_) (fun j p h2=>?_)
   ·obtain ⟨j,hj,rfl⟩:=List.mem_iff_getElem.1 hp'
    obtain ⟨x,q2,q3⟩:=at_ j _ (List.getElem?_eq_getElem hj)
    exact pure1_one q3 (ho _ (List.mem_of_getElem? he) x (List.mem_of_getElem? q2))
   ·obtain ⟨x,q2,q3⟩:=at_ j p h2
    obtain ⟨u,hu,hru⟩:=hr i _ j x he q2
    have : w.cell? ⟨g,i * szz + j,none⟩ = some u:=by simp [World.cell?,hh,hu]
    rw [this]
    rfl
   ·obtain ⟨x,q2,q3⟩:=at_ j p h2
    obtain ⟨u,hu,hru⟩:=hr i _ j x he q2
    have : w.cell? ⟨g,i * szz + j,none⟩ = some u:=by simp [World.cell?,hh,hu]
    rw [this]
    exact (rep_pure1 hru q3).mono hI (fun _ _=>rfl)
def thawP1 (lb : Nat) (ps : List (List PV)) : AV → AV
 | .own l=>if l = lb then .p (.slice ps) else .own l
 | .ptr l i off=>if l = lb then (match ps[i]? with | some cs=>.p (.box cs off) | none=>.ptr l i off) else .ptr l i off
 | x=>x
def thawP (lb : Nat) (ps : List (List PV)) : AV → AV
 | .agg cs=>mkAgg (cs.map (thawP1 lb ps))
 | x=>thawP1 lb ps x
theorem thawP1_rep {J : Nat → Prop} {lb : Nat} {ps : List (List PV)} {v : Value} {x : AV} (hI : ∀ b,I b → J b) (hl : ∀ v,repA σ w I v (.own lb) → rep w J v (.slice ps)) (hp : ∀ v i off cs,ps[i]? = some cs → repA σ w I v (.ptr lb i off) → rep w J v (.box cs off)) (h : repA σ w I v x) : repA σ w J v (thawP1 lb ps x):=by
 unfold thawP1
 split
 ·split
  ·rename_i e
   subst e
   exact .p (hl v h)
  ·exact h.mono (fun _ _ h=>h) hI (fun _ _=>rfl)
 ·split
  ·rename_i e
   subst e
   split
   ·rename_i cs hc
    exact .p (hp v _ _ cs hc h)
   ·exact h.mono (fun _ _ h=>h) hI (fun _ _=>rfl)
  ·exact h.mono (fun _ _ h=>h) hI (fun _ _=>rfl)
 ·exact h.mono (fun _ _ h=>h) hI (fun _ _=>rfl)
theorem thawP1_one (lb : Nat) (ps : List (List PV)) (x : AV) (h : x.one = true) : (thawP1 lb ps x).one = true:=by
 unfold thawP1
 split
 ·split <;> rfl
 ·split
  ·split <;> rfl
  ·exact h
 ·exact h
theorem Ghost.freezeP {lb sz : Nat} {es : List (List AV)} {ps : List (List PV)} (hl : s.H lb = some (.row sz es)) (hp : unlift es = some ps) :
  Ghost nt s ⟨fun i=>(s.T i).map (thawP lb ps),fun l=>if l = lb then none else (s.H l).map fun | .row sz es=>.row sz (es.map fun e=>e.map (thawP1 lb ps)) | b=>b,s.nx⟩:=by
 rintro w0 X I0 a w ⟨σ,I,hσ,m⟩
 have hb:=m.heap.rows lb _ hl
 obtain ⟨sl,hs,hlt⟩:=hb.block
 have key : ∃ J : Nat → Prop,(∀ b,I b → J b) ∧ HOK σ w J (upd s.H lb none) w0 X I0 ∧ ∀ g s',σ lb = some s' → s'.block = some g → J g:=by
  cases hsb : sl.block with
  | none =>
   refine ⟨I,fun _ h=>h,m.heap.less fun l b hb=>?_,fun g s' q1 q2=>?_⟩
   ·by_cases hl : l = lb
    ·subst hl; rw [upd_same] at hb; cases hb
    ·rwa [upd_ne _ _ hl] at hb
   ·rw [hs] at q1; injection q1 with q1; subst q1; rw [hsb] at q2; cases q2
  | some g =>
   refine ⟨_,fun _ h=>.inl h,m.heap.freeze (by rw [hl]; simp) hs hsb,fun g' s' q1 q2=>?_⟩
   rw [hs] at q1; injection q1 with q1; subst q1; rw [hsb] at q2; injection q2 with q2; exact .inr q2.symm
 obtain ⟨J,hIJ,hJ,hg⟩:=key
 have hown : ∀ v,repA σ w I v (.own lb) → rep w J v (.slice ps):=fun v hv=>rep_own hb hv hp hg hIJ
 have hptr : ∀ v i off cs,ps[i]? = some cs → repA σ w I v (.ptr lb i off) → rep w J v (.box cs off):=fun v i off cs q hv=>rep_ptr hb hv hp q hg hIJ
 refine ⟨σ,J,hσ,m.defers,m.size,m.pins,⟨fun l b hb'=>?_,fun l1 l2 g s1 s2 h1 h2=>?_,fun l g s' h1=>?_,hJ.imm,hJ.sub,hJ.fr⟩,fun i x hx=>?_⟩
 ·simp only at hb'
  split at hb'
  ·cases hb'
  ·rename_i hne
   rw [Option.map_eq_some_iff] at hb'
   obtain ⟨b0,hb0,hb'⟩:=hb'
   have hr:=m.heap.rows l b0 hb0
   subst hb'
   cases hr with
   | emp h'=>exact .emp h'
   | row h' hh hcur hc hs' ho hrr =>
    refine .row (by rw [List.length_map]; exact h') hh hcur (by rw [List.length_map]; exact hc) (fun e he=>?_) (fun e he x hx=>?_) fun i e j x q1 q2=>?_
    ·obtain ⟨e',he',rfl⟩:=List.mem_map.1 he
     rw [List.length_map]
     exact hs' e' he'
    ·obtain ⟨e',he',rfl⟩:=List.mem_map.1 he
     obtain ⟨x',hx',rfl⟩:=List.mem_map.1 hx
     exact thawP1_one _ _ _ (ho e' he' x' hx')
    ·rw [List.getElem?_map,Option.map_eq_some_iff] at q1
     obtain ⟨e',he',rfl⟩:=q1
     rw [List.getElem?_map,Option.map_eq_some_iff] at q2
     obtain ⟨x',hx',rfl⟩:=q2
     obtain ⟨u,hu,hru⟩:=hrr i e' j x' he' hx'
     exact ⟨u,hu,thawP1_rep hIJ hown hptr hru⟩
   | map h' hh hn hrr=>exact .map h' hh hn fun i m e q1 q2=>⟨(hrr i m e q1 q2).1,((hrr i m e q1 q2).2).mono (fun _ _ h=>h) hIJ (fun _ _=>rfl)⟩
   | iter h' hh=>exact .iter h' hh
 ·refine hJ.inj l1 l2 g s1 s2 ?_ ?_
  ·intro h
   apply h1
   simp only
   split
   ·rfl
   ·rename_i hne; rw [upd_ne _ _ hne] at h; rw [h]; rfl
  ·intro h
   apply h2
   simp only
   split
   ·rfl
   ·rename_i hne; rw [upd_ne _ _ hne] at h; rw [h]; rfl
 ·refine hJ.mine l g s' fun h=>h1 ?_
  simp only
  split
  ·rfl
  ·rename_i hne; rw [upd_ne _ _ hne] at h; rw [h]; rfl
 ·simp only at hx
  rw [Option.map_eq_some_iff] at hx
  obtain ⟨x',hx',rfl⟩:=hx
  obtain ⟨u,hu,hru⟩:=m.tmps i x' hx'
  refine ⟨u,hu,?_⟩
  unfold thawP
  split
  ·cases hru with
   | agg hs' hr =>
    refine repA_agg (by rw [List.length_map]; exact hs') fun j u p q1 q2=>?_
    rw [List.getElem?_map,Option.map_eq_some_iff] at q2
    obtain ⟨x'',hx'',rfl⟩:=q2
    exact thawP1_rep hIJ hown hptr (hr j u x'' q1 hx'')
  ·exact thawP1_rep hIJ hown hptr hru
theorem AW.nilSplit {P : Program} {c : Code} {Q : Exit → St → Prop} {t : Nat} (ht : s.T t = some (.p (.slice []))) (h : ∀ a n,AW P nt c ⟨upd s.T t (some (.p (.cst (.slice a 0 n)))),s.H,s.nx⟩ Q) : AW P nt c s Q:=by
 rintro w0 X I0 a w tx hm
 obtain ⟨σ,I,hσ,m⟩:=hm
 obtain ⟨u,hu,hr⟩:=m.tmps _ _ ht
 obtain ⟨ad,n,rfl⟩ : ∃ ad n,u = .slice ad 0 n:=by
  cases hr with
  | p hr =>
   generalize hv : PV.slice [] = x at hr
   cases hr with
   | empty ad n=>exact ⟨_,_,rfl⟩
   | slice b o n c sz es us hn =>
    injection hv with hv
    subst hv
    subst hn
    exact ⟨_,_,rfl⟩
   | _=>cases hv
 refine h ad n w0 X I0 a w tx ⟨σ,I,hσ,m.defers,m.size,m.pins,m.heap,fun i z hz=>?_⟩
 simp only at hz
 by_cases hi : i = t
 ·subst hi
  rw [upd_same] at hz
  injection hz with hz
  subst hz
  exact ⟨_,hu,.p (.cst _)⟩
 ·rw [upd_ne _ _ hi] at hz
  exact m.tmps i z hz
theorem Ghost.unNil {t n : Nat} {a : Option Addr} (ht : s.T t = some (.p (.cst (.slice a 0 n)))) : Ghost nt s ⟨upd s.T t (some (.p (.slice []))),s.H,s.nx⟩ :=
 Ghost.weak ht fun _ _ _ _ h=>by
  cases h with
  | p h=>cases h with
   | cst=>exact .p (.empty _ _)
theorem eqIn_nil {P : Program} {t te : TypeId} (hu : P.underlying t = some (.slice te)) (w : World) (d : Nat) (a : Option Addr) (n c : Nat) : (Op.equalIn (d + 1) t (.slice a n c) (.slice none 0 0)).run P w = .ok a.isNone w:=by
 cases a <;> simp [Op.equalIn,run_underlying hu]
theorem eqP_nil {P : Program} {t te : TypeId} (hu : P.underlying t = some (.slice te)) (a : Option Addr) (n : Nat) : EqP P t (.cst (.slice a 0 n)) (.cst (.slice none 0 0)) a.isNone:=by
 intro w I u v h1 h2
 cases h1
 cases h2
 have e : (Op.equalIn 10000 t (.slice a 0 n) (.slice none 0 0)).run P w = .ok a.isNone w:=eqIn_nil hu w 9999 a 0 n
 refine ⟨?_,?_,fun op x y=>by cases op <;> rfl⟩
 ·simp only [binOp]; simp [Op.equal,Op.maxDepth,e]
 ·simp only [binOp]; simp [Op.equal,Op.maxDepth,e]
theorem eqP_some {P : Program} {t te : TypeId} (hu : P.underlying t = some (.slice te)) (e : List PV) (es : List (List PV)) : EqP P t (.slice (e :: es)) (.cst (.slice none 0 0)) false:=by
 intro w I u v h1 h2
 cases h2
 generalize hx : PV.slice (e :: es) = x at h1
 cases h1 with
 | slice b o n c sz es' us =>
  have e : (Op.equalIn 10000 t (.slice (some ⟨b,o,none⟩) n c) (.slice none 0 0)).run P w = .ok false w:=eqIn_nil hu w 9999 _ n c
  refine ⟨?_,?_,fun op x y=>by cases op <;> rfl⟩
  ·simp only [binOp]; simp [Op.equal,Op.maxDepth,e]
  ·simp only [binOp]; simp [Op.equal,Op.maxDepth,e]
 | empty a c=>injection hx with hx; cases hx
 | _=>cases hx
end
end Go.Aw
namespace Go.Aw
theorem Ghost.weakH {nt : Fm} {s : St} {l i j sz : Nat} {es : List (List AV)} {e : List AV} {x y : AV} (hl : s.H l = some (.row sz es)) (hi : es[i]? = some e) (hj : e[j]? = some x) (hy : y.one = true) (hw : ∀ σ w I v,repA σ w I v x → repA σ w I v y) :
  Ghost nt s ⟨s.T,upd s.H l (some (.row sz (es.set i (e.set j y)))),s.nx⟩:=by
 rintro w0 X I0 a w ⟨σ,I,hσ,m⟩
 have hb:=m.heap.rows l _ hl
 cases hb with
 | emp h=>simp at hi
 | row h hg hcur hc hs ho hr =>
  rename_i g c cur et
  refine ⟨σ,I,hσ,m.defers,m.size,m.pins,⟨fun l' b' h'=>?_,fun l1 l2 g s1 s2 h1 h2=>?_,fun l' g s' h1=>?_,m.heap.imm,m.heap.sub,m.heap.fr⟩,m.tmps⟩
  ·simp only at h'
   by_cases e2 : l' = l
   ·subst e2
    rw [upd_same] at h'
    injection h' with h'
    subst h'
    refine .row (by rw [List.length_set]; exact h) hg hcur (by rw [List.length_set]; exact hc) (fun e' he'=>?_) (fun e' he' x hx=>?_) fun i' e' j' x q1 q2=>?_
    ·rcases List.mem_or_eq_of_mem_set he' with he' | rfl
     ·exact hs e' he'
     ·rw [List.length_set]; exact hs e (List.mem_of_getElem? hi)
    ·rcases List.mem_or_eq_of_mem_set he' with he' | rfl
     ·exact ho e' he' x hx
     ·rcases List.mem_or_eq_of_mem_set hx with hx | rfl
      ·exact ho e (List.mem_of_getElem? hi) x hx
      ·exact hy
    ·rw [List.getElem?_set] at q1
     split at q1
     ·rename_i e3
      subst e3
      split at q1
      ·injection q1 with q1
       subst q1
       rw [List.getElem?_set] at q2
       split at q2
       ·rename_i e4
        subst e4
        split at q2
        ·injection q2 with q2
         subst q2
         obtain ⟨u,hu,hru⟩:=hr i e j _ hi hj
         exact ⟨u,hu,hw _ _ _ _ hru⟩
        ·cases q2
       ·exact hr i e j' x hi q2
      ·cases q1
     ·exact hr i' e' j' x q1 q2
   ·rw [upd_ne _ _ e2] at h'
    exact m.heap.rows l' b' h'
  ·refine m.heap.inj l1 l2 g s1 s2 ?_ ?_
   ·intro h0; apply h1
    show upd s.H l _ l1 = none
    by_cases e2 : l1 = l
    ·subst e2; rw [hl] at h0; cases h0
    ·rw [upd_ne _ _ e2]; exact h0
   ·intro h0; apply h2
    show upd s.H l _ l2 = none
    by_cases e2 : l2 = l
    ·subst e2; rw [hl] at h0; cases h0
    ·rw [upd_ne _ _ e2]; exact h0
  ·refine m.heap.mine l' g s' ?_
   intro h0; apply h1
   show upd s.H l _ l' = none
   by_cases e2 : l' = l
   ·subst e2; rw [hl] at h0; cases h0
   ·rw [upd_ne _ _ e2]; exact h0
theorem Ghost.exH {nt : Fm} {s : St} {l i j sz : Nat} {es : List (List AV)} {e : List AV} {x : List (List PV)} (hl : s.H l = some (.row sz es)) (hi : es[i]? = some e) (hj : e[j]? = some (.ex x)) :
  Ghost nt s ⟨s.T,upd s.H l (some (.row sz (es.set i (e.set j (.p (.slice x)))))),s.nx⟩ :=
 Ghost.weakH hl hi hj rfl fun _ _ _ _ h=>by
  cases h with
  | ex _ h=>exact .p h
end Go.Aw
namespace Go.Aw
open Go.RowKit Go.ChangeShapes
variable {P : Program} {w : World}
def OpnW (P : Program) (w : World) (t : TypeId) {α : Type} (e : α → List PV) (G : α → Prop) : Prop :=
 (∀ a,∀ p ∈ e a,p.one = true) ∧ ∀ (H : Type) (enc : TypeId × Value → H) (fuel : Nat) (cs : List Value) (d : DataW H × List MemPlace),DataW.trod enc P w 0 (fun _=>true) true fuel t cs = some d → (d.1.weights P t).all (· ≤ reachBytes) = true →
  ∃ a,G a ∧ cs.length = (e a).length ∧ ∀ (j : Nat) u p,cs[j]? = some u → (e a)[j]? = some p → rep w (old w) u p
theorem Opn.toW {t : TypeId} {α : Type} {e : α → List PV} {G : α → Prop} (h : Opn P w t e G) : OpnW P w t e G:=⟨h.1,fun H enc fuel cs d hd _=>h.2 H enc fuel cs d hd⟩
theorem OpnW.map {t : TypeId} {α β : Type} {e : α → List PV} {G : α → Prop} {e' : β → List PV} {G' : β → Prop} (h : OpnW P w t e G) (f : α → β) (he : ∀ a,e' (f a) = e a) (h1 : ∀ b,∀ p ∈ e' b,p.one = true) (hg : ∀ a,G a → G' (f a)) : OpnW P w t e' G':=by
 refine ⟨h1,fun H enc fuel cs d hd hw=>?_⟩
 obtain ⟨a,g,l,r⟩:=h.2 H enc fuel cs d hd hw
 exact ⟨f a,hg a g,by rw [he]; exact l,by rw [he]; exact r⟩
theorem opnW_str {t : TypeId} (hu : P.underlying t = some .string) : OpnW P w t (fun s : List UInt8=>[.str s]) (fun s=>s.length ≤ reachBytes):=by
 refine ⟨fun a p hp=>by simp at hp; subst hp; rfl,fun H enc fuel cs d hd hwt=>?_⟩
 cases fuel with
 | zero=>simp [DataW.trod] at hd
 | succ n =>
  unfold DataW.trod at hd
  rw [hu] at hd
  split at hd <;> rename_i hh <;> try (cases hh; done)
  all_goals try cases hh
  ·split at hd
   ·injection hd with hd
    subst hd
    simp only [DataW.weights,List.all_cons,Bool.and_eq_true,decide_eq_true_eq] at hwt
    refine ⟨(‹ByteArray›).data.toList,hwt.1,rfl,fun j u p h1 h2=>by
     cases j with
     | zero=>simp at h1 h2; subst h1; subst h2; exact .str _
     | succ j=>simp at h1⟩
   ·cases hd
  all_goals cases hd
theorem weightsAll_mem {H : Type} {te : TypeId} {R : Nat} : ∀ {l : List (DataW H)} {x : DataW H},(DataW.weightsAll P te l).all (· ≤ R) = true → x ∈ l → (x.weights P te).all (· ≤ R) = true
 | [],x,_,hx=>by cases hx
 | y :: l,x,h,hx=>by
  rw [DataW.weightsAll,List.all_append,Bool.and_eq_true] at h
  rcases List.mem_cons.1 hx with rfl | hx
  ·exact h.1
  ·exact weightsAll_mem h.2 hx
theorem opnW_slice {t te : TypeId} {sz : Nat} {α : Type} {e : α → List PV} {G : α → Prop} (hu : P.underlying t = some (.slice te)) (hz : P.cellsOf te = sz) (hp : 0 < sz) (h : OpnW P w te e G) (hs : ∀ a,(e a).length = sz) :
  OpnW P w t (fun l : List α=>[.slice (l.map e)]) (fun l=>(l.length ≤ maxLen ∧ l.length * P.bytesOf te ≤ reachBytes) ∧ ∀ a ∈ l,G a):=by
 refine ⟨fun a p hp=>by simp at hp; subst hp; rfl,fun H enc fuel cs d hd hwt=>?_⟩
 have one : ∀ (v : Value) (l : List α),rep w (old w) v (.slice (l.map e)) → ∀ (j : Nat) u p,[v][j]? = some u → ([PV.slice (l.map e)])[j]? = some p → rep w (old w) u p:=by
  intro v l hr j u p h1 h2
  cases j with
  | zero=>simp at h1 h2; subst h1; subst h2; exact hr
  | succ j=>simp at h1
 cases fuel with
 | zero=>simp [DataW.trod] at hd
 | succ n =>
  unfold DataW.trod at hd
  rw [hu] at hd
  split at hd <;> rename_i hh <;> try (cases hh; done)
  all_goals try cases hh
  ·exact ⟨[],⟨⟨by simp,by simp⟩,by simp⟩,rfl,one _ [] (.empty _ _)⟩
  ·rename_i a len cap
   dsimp only at hd
   split at hd
   ·rename_i hc
    obtain ⟨_,hlc,hcm⟩:=hc
    simp only [Option.bind_eq_some_iff] at hd
    obtain ⟨els,he,hrest⟩:=hd
    obtain ⟨hl,hg⟩:=mapM_get he
    have hd1 : ∃ sp,d.1 = .slice (els.map (·.1)) sp:=by
     clear hwt
     revert hrest
     simp only [Option.map_eq_some_iff]
     intro hrest
     first
     | (obtain ⟨sp,_,rfl⟩:=hrest; exact ⟨_,rfl⟩)
     | (obtain ⟨sp,_,hd⟩:=hrest; injection hd with hd; subst hd; exact ⟨_,rfl⟩)
     | (subst hrest; exact ⟨_,rfl⟩)
    obtain ⟨sp,hsp⟩:=hd1
    rw [hsp] at hwt
    simp only [DataW.weights,hu,List.all_cons,Bool.and_eq_true,decide_eq_true_eq,List.length_map,List.all_append] at hwt
    obtain ⟨hw1,hw2,_⟩:=hwt
    have hl' : els.length = len:=by simpa using hl
    rw [hl'] at hw1
    have hwlen : len * P.bytesOf te ≤ reachBytes:=Nat.le_trans (Nat.mul_le_mul_right _ (Nat.le_add_right _ _)) hw1
    have each : ∀ i,i < len → ∃ x : List Value × α,w.cells? 0 (a.add (i * sz)) sz = some x.1 ∧ G x.2 ∧ x.1.length = (e x.2).length ∧ ∀ (j : Nat) u p,x.1[j]? = some u → (e x.2)[j]? = some p → rep w (old w) u p:=by
     intro i hi
     obtain ⟨y,hyi,hy⟩:=hg i i (by simp [hi])
     obtain ⟨c,hc1,hc2⟩:=Option.bind_eq_some_iff.1 hy
     rw [hz] at hc1
     obtain ⟨b,g,l,r⟩:=h.2 H enc n c y hc2 (weightsAll_mem hw2 (List.mem_map.2 ⟨y,List.mem_of_getElem? hyi,rfl⟩))
     exact ⟨(c,b),hc1,g,l,r⟩
    obtain ⟨xs,hxl,hx⟩:=list_choose len each
    have hgl : ((xs.map (·.2)).length ≤ maxLen ∧ (xs.map (·.2)).length * P.bytesOf te ≤ reachBytes) ∧ ∀ b ∈ xs.map (·.2),G b:=by
     refine ⟨⟨by rw [List.length_map,hxl]; exact Nat.le_trans hlc hcm,by rw [List.length_map,hxl]; exact hwlen⟩,fun b hb=>?_⟩
     obtain ⟨x,hx1,rfl⟩:=List.mem_map.1 hb
     obtain ⟨i,hi⟩:=List.getElem?_of_mem hx1
     exact (hx i x hi).2.1
    refine ⟨xs.map (·.2),hgl,rfl,one _ _ ?_⟩
    rcases Nat.eq_zero_or_pos len with h0 | h0
    ·subst h0
     have : xs = []:=List.eq_nil_of_length_eq_zero hxl
     subst this
     exact .empty _ _
    ·obtain ⟨x0,hx0⟩ : ∃ x,xs[0]? = some x:=⟨_,List.getElem?_eq_getElem (by omega)⟩
     obtain ⟨c0,_,l0,_⟩:=hx 0 x0 hx0
     obtain ⟨_,cl0,cg0⟩:=World.cells?_some c0
     have q0:=cg0 0 hp
     rw [Nat.zero_mul] at q0
     have hadd : (a.add 0).add 0 = a:=by simp [Addr.add]
     rw [hadd,List.getElem?_eq_getElem (by omega)] at q0
     have hsp : a.spot = none ∧ a.block < w.heap.size:=by
      unfold World.cell? at q0
      split at q0
      ·rename_i hb
       split at q0
       ·cases q0
       ·rename_i hs'
        refine ⟨by simpa using hs',?_⟩
        rcases Nat.lt_or_ge a.block w.heap.size with h' | h'
        ·exact h'
        ·rw [Array.getElem?_eq_none h'] at hb; cases hb
      ·cases q0
     obtain ⟨b,o,sp⟩:=a
     obtain ⟨hsp,hbl⟩:=hsp
     dsimp only at hsp hbl
     subst hsp
     refine rep.slice (I:=old w) b o len cap sz ((xs.map (·.2)).map e) (fun i j=>((xs.getD i ([],x0.2)).1.getD j .nilIface)) (by simp [hxl]) hlc ?_ hbl ?_ ?_ ?_
     ·intro x hx
      simp only [List.map_map,List.mem_map] at hx
      obtain ⟨y,_,rfl⟩:=hx
      exact hs _
     ·intro x hx p hp'
      simp only [List.map_map,List.mem_map] at hx
      obtain ⟨y,_,rfl⟩:=hx
      exact h.1 _ _ hp'
     ·intro i x j p hi hj
      simp only [List.map_map,List.getElem?_map,Option.map_eq_some_iff] at hi
      obtain ⟨y,hy,rfl⟩:=hi
      obtain ⟨c1,_,l1,r1⟩:=hx i y hy
      obtain ⟨_,cl1,cg1⟩:=World.cells?_some c1
      have hjl : j < sz:=by rw [← hs y.2]; exact (List.getElem?_eq_some_iff.1 hj).1
      have:=cg1 j hjl
      have ea : ((⟨b,o,none⟩ : Addr).add (i * sz)).add j = ⟨b,o + (i * sz + j),none⟩:=by
       unfold Addr.add
       repeat' split
       all_goals simp <;> omega
      rw [ea,List.getElem?_eq_getElem (by omega)] at this
      rw [this]
      simp [List.getD,hy,List.getElem?_eq_getElem (show j < y.1.length by omega)]
     ·intro i x j p hi hj
      simp only [List.map_map,List.getElem?_map,Option.map_eq_some_iff] at hi
      obtain ⟨y,hy,rfl⟩:=hi
      obtain ⟨c1,_,l1,r1⟩:=hx i y hy
      obtain ⟨_,cl1,cg1⟩:=World.cells?_some c1
      have hjl : j < sz:=by rw [← hs y.2]; exact (List.getElem?_eq_some_iff.1 hj).1
      refine r1 j _ p ?_ hj
      simp [List.getD,hy,List.getElem?_eq_getElem (show j < y.1.length by omega)]
   ·cases hd
  all_goals cases hd
def OpnFW (P : Program) (w : World) (off : Nat) (fs : List Field) {α : Type} (e : α → List PV) (G : α → Prop) : Prop :=
 (∀ a,∀ p ∈ e a,p.one = true) ∧ (∀ a,(e a).length = (fs.map fun f=>P.cellsOf f.type).sum) ∧ ∀ (H : Type) (enc : TypeId × Value → H) (n : Nat) (cs : List Value) (xs : List (DataW H × List MemPlace)),
  fs.mapM (fun f=>DataW.trod enc P w 0 (fun _=>true) true n f.type ((cs.drop f.offset).take (P.cellsOf f.type))) = some xs → (DataW.weightsEach P (fs.map (·.type)) (xs.map (·.1))).all (· ≤ reachBytes) = true →
  ∃ a,G a ∧ ∀ (j : Nat) u p,cs[off + j]? = some u → (e a)[j]? = some p → rep w (old w) u p
theorem opnFW_nil {off : Nat} : OpnFW P w off [] (fun _ : Unit=>[]) (fun _=>True) :=
 ⟨fun a p hp=>by simp at hp,fun a=>rfl,fun H enc n cs xs h _=>⟨(),trivial,fun j u p h1 h2=>by simp at h2⟩⟩
theorem opnFW_cons {off sz : Nat} {f : Field} {fs : List Field} {α β : Type} {e : α → List PV} {G : α → Prop} {e' : β → List PV} {G' : β → Prop} (ho : f.offset = off) (hz : P.cellsOf f.type = sz) (h : OpnW P w f.type e G) (hs : ∀ a,(e a).length = sz) (h' : OpnFW P w (off + sz) fs e' G') :
  OpnFW P w off (f :: fs) (fun x : α × β=>e x.1 ++ e' x.2) (fun x=>G x.1 ∧ G' x.2):=by
 refine ⟨fun a p hp=>?_,fun a=>by simp [hs,hz,h'.2.1],fun H enc n cs xs hx hwt=>?_⟩
 ·rcases List.mem_append.1 hp with hp | hp
  ·exact h.1 _ _ hp
  ·exact h'.1 _ _ hp
 ·simp only [List.mapM_cons,Option.bind_eq_bind,Option.bind_eq_some_iff,Option.pure_def,Option.some.injEq] at hx
  obtain ⟨y,hy,ys,hys,rfl⟩:=hx
  rw [List.map_cons,List.map_cons,DataW.weightsEach,List.all_append,Bool.and_eq_true] at hwt
  obtain ⟨a,ga,la,ra⟩:=h.2 H enc n _ y hy hwt.1
  obtain ⟨b,gb,rb⟩:=h'.2.2 H enc n cs ys hys hwt.2
  refine ⟨(a,b),⟨ga,gb⟩,fun j u p h1 h2=>?_⟩
  rcases Nat.lt_or_ge j sz with hj | hj
  ·rw [List.getElem?_append_left (by rw [hs]; exact hj)] at h2
   refine ra j u p ?_ h2
   rw [ho,hz,List.getElem?_take,if_pos hj,List.getElem?_drop]
   exact h1
  ·rw [List.getElem?_append_right (by rw [hs]; exact hj),hs] at h2
   exact rb (j - sz) u p (by rw [← h1]; congr 1; omega) h2
theorem opnW_struct {t : TypeId} {fs : Array Field} {α : Type} {e : α → List PV} {G : α → Prop} (hu : P.underlying t = some (.struct fs)) (hz : P.cellsOf t = (fs.toList.map fun f=>P.cellsOf f.type).sum) (h : OpnFW P w 0 fs.toList e G) : OpnW P w t e G:=by
 refine ⟨h.1,fun H enc fuel cs d hd hwt=>?_⟩
 cases fuel with
 | zero=>simp [DataW.trod] at hd
 | succ n =>
  unfold DataW.trod at hd
  rw [hu] at hd
  split at hd <;> rename_i hh <;> try (cases hh; done)
  all_goals try cases hh
  all_goals try (cases hd; done)
  all_goals
   split at hd
   ·rename_i hl
    obtain ⟨xs,hx,hd⟩:=Option.map_eq_some_iff.1 hd
    subst hd
    simp only [DataW.weights,hu] at hwt
    obtain ⟨a,ga,ra⟩:=h.2.2 H enc n _ xs hx hwt
    exact ⟨a,ga,by rw [hl,hz,h.2.1],fun j u p h1 h2=>ra j u p (by rw [Nat.zero_add]; exact h1) h2⟩
   ·cases hd
theorem opnAW_flat {t : TypeId} {ts : List TypeId} {α β : Type} {e : α → PV} {G : α → Prop} {e' : β → List PV} {G' : β → Prop} (hf : flat P t = true) (h : OpnW P w t (fun a=>[e a]) G) (h' : OpnA P w ts e' G') : OpnA P w (t :: ts) (fun x : α × β=>e x.1 :: e' x.2) (fun x=>G x.1 ∧ G' x.2):=by
 intro H enc vs ds ps hh hv hwt
 obtain ⟨v,vs1,d,ds1,p,q,rfl,rfl,rfl,h1,h2⟩:=trodAll_cons hh
 rw [DataW.weightsEach,List.all_append,Bool.and_eq_true] at hwt
 obtain ⟨n,hn⟩:=h1
 obtain ⟨base,hv0⟩:=hv 0 t v rfl rfl
 rw [cells_flat hf hv0] at hn
 obtain ⟨a,ga,la,ra⟩:=h.2 H enc n _ _ hn hwt.1
 obtain ⟨b,gb,lb,rb⟩:=h' H enc vs1 ds1 q h2 (fun j t v h1 h2=>hv (j + 1) t v (by simpa using h1) (by simpa using h2)) hwt.2
 refine ⟨(a,b),⟨ga,gb⟩,by simp [lb],fun j u p h1 h2=>?_⟩
 cases j with
 | zero =>
  simp at h1 h2
  subst h1; subst h2
  exact ra 0 _ (e a) rfl rfl
 | succ j=>exact rb j u p (by simpa using h1) (by simpa using h2)
theorem opnAW_agg {t : TypeId} {ts : List TypeId} {fs : Array Field} {α β : Type} {e : α → List PV} {G : α → Prop} {e' : β → List PV} {G' : β → Prop} (hu : P.underlying t = some (.struct fs)) (h : OpnW P w t e G) (h' : OpnA P w ts e' G') : OpnA P w (t :: ts) (fun x : α × β=>.agg (e x.1) :: e' x.2) (fun x=>G x.1 ∧ G' x.2):=by
 intro H enc vs ds ps hh hv hwt
 obtain ⟨v,vs1,d,ds1,p,q,rfl,rfl,rfl,h1,h2⟩:=trodAll_cons hh
 rw [DataW.weightsEach,List.all_append,Bool.and_eq_true] at hwt
 obtain ⟨n,hn⟩:=h1
 obtain ⟨base,hv0⟩:=hv 0 t v rfl rfl
 unfold Value.okWide at hv0
 rw [hu] at hv0
 obtain ⟨cs,rfl,_,_⟩:=hv0
 obtain ⟨a,ga,la,ra⟩:=h.2 H enc n _ _ hn hwt.1
 obtain ⟨b,gb,lb,rb⟩:=h' H enc vs1 ds1 q h2 (fun j t v h1 h2=>hv (j + 1) t v (by simpa using h1) (by simpa using h2)) hwt.2
 refine ⟨(a,b),⟨ga,gb⟩,by simp [lb],fun j u p h1 h2=>?_⟩
 cases j with
 | zero =>
  simp at h1 h2
  subst h1; subst h2
  exact .agg (by simpa [Value.cells] using la) fun j u p h1 h2=>ra j u p (by simpa [Value.cells] using h1) h2
 | succ j=>exact rb j u p (by simpa using h1) (by simpa using h2)
end Go.Aw
namespace Go.Aw
open Go.Proofs
structure Ty where
 kind : Int
 name : List UInt8
 deriving DecidableEq
structure Fd where
 name : List UInt8
 tag : Int
 label : Int
 ty : Ty
 deriving DecidableEq
structure Ms where
 name : List UInt8
 fields : List Fd
 res : List Int
 deriving DecidableEq
structure Nm where
 name : List UInt8
 n : Int
 deriving DecidableEq
structure En where
 name : List UInt8
 vals : List Nm
 deriving DecidableEq
structure Mt where
 name : List UInt8
 inn : List UInt8
 out : List UInt8
 deriving DecidableEq
structure Sc where
 name : List UInt8
 msgs : List Ms
 enums : List En
 meths : List Mt
 deriving DecidableEq
def encI (n : Int) : List PV:=[.int .i64 n]
def encS (s : List UInt8) : List PV:=[.str s]
def encTy (y : Ty) : List PV:=[.int .i64 y.kind,.str y.name]
def encFd (f : Fd) : List PV:=[.str f.name,.int .i64 f.tag,.int .i64 f.label,.int .i64 f.ty.kind,.str f.ty.name]
def encMs (m : Ms) : List PV:=[.str m.name,.slice (m.fields.map encFd),.slice (m.res.map encI)]
def encNm (v : Nm) : List PV:=[.str v.name,.int .i64 v.n]
def encEn (e : En) : List PV:=[.str e.name,.slice (e.vals.map encNm)]
def encMt (m : Mt) : List PV:=[.str m.name,.str m.inn,.str m.out]
def encSc (s : Sc) : List PV:=[.str s.name,.slice (s.msgs.map encMs),.slice (s.enums.map encEn),.slice (s.meths.map encMt)]
def zTy : Ty:=⟨0,[]⟩
def zFd : Fd:=⟨[],0,0,zTy⟩
def zMs : Ms:=⟨[],[],[]⟩
def zEn : En:=⟨[],[]⟩
def zMt : Mt:=⟨[],[],[]⟩
def cellsSc (s : Sc) : List AV:=[.p (.str s.name),.p (.slice (s.msgs.map encMs)),.p (.slice (s.enums.map encEn)),.p (.slice (s.meths.map encMt))]
def cellsMs (m : Ms) : List AV:=[.p (.str m.name),.p (.slice (m.fields.map encFd)),.p (.slice (m.res.map encI))]
def cellsEn (e : En) : List AV:=[.p (.str e.name),.p (.slice (e.vals.map encNm))]
def firstP {α : Type} (p : α → Bool) (z : α) (l : List α) : α × Bool:=match l.find? p with | some m=>(m,true) | none=>(z,false)
theorem all_next {α : Type} {l : List α} {p : α → Bool} {k : Nat} {r : α} (h : l[k]? = some r) (ha : (l.take k).all p = true) (hr : p r = true) : (l.take (k + 1)).all p = true:=by
 rw [List.take_add_one,h,List.all_append,ha]
 simp [hr]
theorem all_not {α : Type} {l : List α} {p : α → Bool} {k : Nat} {r : α} (h : l[k]? = some r) (hr : p r = false) : l.all p = false:=by
 rw [List.all_eq_false]
 exact ⟨r,List.mem_of_getElem? h,by simp [hr]⟩
theorem find_at {α : Type} {p : α → Bool} {l : List α} {i : Nat} {e : α} (h : l[i]? = some e) (ha : (l.take i).all (fun x=>!p x) = true) (hp : p e = true) : l.find? p = some e:=by
 have e0 : l = l.take i ++ (e :: l.drop (i + 1)):=by
  rw [← (List.getElem?_eq_some_iff.1 h).2,← List.drop_eq_getElem_cons,List.take_append_drop]
 rw [e0,List.find?_append,List.find?_eq_none.2 (by
  intro x hx
  have:=List.all_eq_true.1 ha x hx
  simpa using this)]
 simp [hp]
theorem find_not {α : Type} {p : α → Bool} {l : List α} (ha : l.all (fun x=>!p x) = true) : l.find? p = none:=by
 rw [List.find?_eq_none]
 intro x hx
 have:=List.all_eq_true.1 ha x hx
 simpa using this
theorem first_at {α : Type} {p : α → Bool} {z : α} {l : List α} {i : Nat} {e : α} (h : l[i]? = some e) (ha : (l.take i).all (fun x=>!p x) = true) (hp : p e = true) : firstP p z l = (e,true):=by
 rw [firstP,find_at h ha hp]
theorem first_not {α : Type} {p : α → Bool} {z : α} {l : List α} (ha : l.all (fun x=>!p x) = true) : firstP p z l = (z,false):=by
 rw [firstP,find_not ha]
end Go.Aw
namespace Go.Aw
open Go.RowKit Go.ChangeShapes Go.Proofs
def okI (n : Int) : Prop:=(Lit.int .i64 n).wf = true
def okS (s : List UInt8) : Prop:=s.length ≤ reachBytes
theorem opn_i64 (W : World) : OpnW Tryz.prog W 3 (fun n : Int=>[.int .i64 n]) okI:=(opn_int Tryz.underlying3).toW
theorem opn_s9 (W : World) : OpnW Tryz.prog W 9 (fun s : List UInt8=>[.str s]) okS:=opnW_str Tryz.underlying9
structure GTy (a : Ty) : Prop where
 kind : okI a.kind
 name : okS a.name
theorem opn_ty (W : World) : OpnW Tryz.prog W 57 encTy GTy:=by
 have c3 : Tryz.prog.cellsOf 3 = 1:=by kernel_rfl
 have c9 : Tryz.prog.cellsOf 9 = 1:=by kernel_rfl
 refine OpnW.map (G:=fun x : Int × List UInt8 × Unit=>(okI) x.1 ∧ (okS) x.2.1 ∧ True) (opnW_struct Tryz.underlying57 (by kernel_rfl) ?_) (fun x : Int × List UInt8 × Unit=>(⟨x.1,x.2.1⟩ : Ty)) (fun a=>rfl) (fun b p hp=>by simp [encTy] at hp; rcases hp with rfl | rfl <;> rfl) ?_
 ·have f1 := opnFW_cons (P := Tryz.prog) (w := W) (off := 1) (f := { name := "Name", type := 9, offset := 1, embedded := false, tag := "", pkgPath := "", byteOffset := 8 }) rfl c9 (opn_s9 W) (fun _ => rfl) opnFW_nil
  have f0 := opnFW_cons (P := Tryz.prog) (w := W) (off := 0) (f := { name := "Kind", type := 3, offset := 0, embedded := false, tag := "", pkgPath := "", byteOffset := 0 }) rfl c3 (opn_i64 W) (fun _ => rfl) f1
  exact f0
 ·intro x h
  exact ⟨h.1,h.2.1⟩
structure GFd (a : Fd) : Prop where
 name : okS a.name
 tag : okI a.tag
 label : okI a.label
 ty : GTy a.ty
theorem opn_fd (W : World) : OpnW Tryz.prog W 59 encFd GFd:=by
 have c3 : Tryz.prog.cellsOf 3 = 1:=by kernel_rfl
 have c9 : Tryz.prog.cellsOf 9 = 1:=by kernel_rfl
 have c46 : Tryz.prog.cellsOf 57 = 2:=by kernel_rfl
 refine OpnW.map (G:=fun x : List UInt8 × Int × Int × Ty × Unit=>(okS) x.1 ∧ (okI) x.2.1 ∧ (okI) x.2.2.1 ∧ (GTy) x.2.2.2.1 ∧ True) (opnW_struct Tryz.underlying59 (by kernel_rfl) ?_) (fun x : List UInt8 × Int × Int × Ty × Unit=>(⟨x.1,x.2.1,x.2.2.1,x.2.2.2.1⟩ : Fd)) (fun a=>rfl) (fun b p hp=>by simp [encFd] at hp; rcases hp with rfl | rfl | rfl | rfl | rfl <;> rfl) ?_
 ·have f3 := opnFW_cons (P := Tryz.prog) (w := W) (off := 3) (f := { name := "Type", type := 57, offset := 3, embedded := false, tag := "", pkgPath := "", byteOffset := 32 }) rfl c46 (opn_ty W) (fun _ => rfl) opnFW_nil
  have f2 := opnFW_cons (P := Tryz.prog) (w := W) (off := 2) (f := { name := "Label", type := 3, offset := 2, embedded := false, tag := "", pkgPath := "", byteOffset := 24 }) rfl c3 (opn_i64 W) (fun _ => rfl) f3
  have f1 := opnFW_cons (P := Tryz.prog) (w := W) (off := 1) (f := { name := "Tag", type := 3, offset := 1, embedded := false, tag := "", pkgPath := "", byteOffset := 16 }) rfl c3 (opn_i64 W) (fun _ => rfl) f2
  have f0 := opnFW_cons (P := Tryz.prog) (w := W) (off := 0) (f := { name := "Name", type := 9, offset := 0, embedded := false, tag := "", pkgPath := "", byteOffset := 0 }) rfl c9 (opn_s9 W) (fun _ => rfl) f1
  exact f0
 ·intro x h
  exact ⟨h.1,h.2.1,h.2.2.1,h.2.2.2.1⟩
structure GNm (a : Nm) : Prop where
 name : okS a.name
 n : okI a.n
theorem opn_nm (W : World) : OpnW Tryz.prog W 64 encNm GNm:=by
 have c3 : Tryz.prog.cellsOf 3 = 1:=by kernel_rfl
 have c9 : Tryz.prog.cellsOf 9 = 1:=by kernel_rfl
 refine OpnW.map (G:=fun x : List UInt8 × Int × Unit=>(okS) x.1 ∧ (okI) x.2.1 ∧ True) (opnW_struct Tryz.underlying64 (by kernel_rfl) ?_) (fun x : List UInt8 × Int × Unit=>(⟨x.1,x.2.1⟩ : Nm)) (fun a=>rfl) (fun b p hp=>by simp [encNm] at hp; rcases hp with rfl | rfl <;> rfl) ?_
 ·have f1 := opnFW_cons (P := Tryz.prog) (w := W) (off := 1) (f := { name := "N", type := 3, offset := 1, embedded := false, tag := "", pkgPath := "", byteOffset := 16 }) rfl c3 (opn_i64 W) (fun _ => rfl) opnFW_nil
  have f0 := opnFW_cons (P := Tryz.prog) (w := W) (off := 0) (f := { name := "Name", type := 9, offset := 0, embedded := false, tag := "", pkgPath := "", byteOffset := 0 }) rfl c9 (opn_s9 W) (fun _ => rfl) f1
  exact f0
 ·intro x h
  exact ⟨h.1,h.2.1⟩
structure GMt (a : Mt) : Prop where
 name : okS a.name
 inn : okS a.inn
 out : okS a.out
theorem opn_mt (W : World) : OpnW Tryz.prog W 66 encMt GMt:=by
 have c9 : Tryz.prog.cellsOf 9 = 1:=by kernel_rfl
 refine OpnW.map (G:=fun x : List UInt8 × List UInt8 × List UInt8 × Unit=>(okS) x.1 ∧ (okS) x.2.1 ∧ (okS) x.2.2.1 ∧ True) (opnW_struct Tryz.underlying66 (by kernel_rfl) ?_) (fun x : List UInt8 × List UInt8 × List UInt8 × Unit=>(⟨x.1,x.2.1,x.2.2.1⟩ : Mt)) (fun a=>rfl) (fun b p hp=>by simp [encMt] at hp; rcases hp with rfl | rfl | rfl <;> rfl) ?_
 ·have f2 := opnFW_cons (P := Tryz.prog) (w := W) (off := 2) (f := { name := "Out", type := 9, offset := 2, embedded := false, tag := "", pkgPath := "", byteOffset := 32 }) rfl c9 (opn_s9 W) (fun _ => rfl) opnFW_nil
  have f1 := opnFW_cons (P := Tryz.prog) (w := W) (off := 1) (f := { name := "In", type := 9, offset := 1, embedded := false, tag := "", pkgPath := "", byteOffset := 16 }) rfl c9 (opn_s9 W) (fun _ => rfl) f2
  have f0 := opnFW_cons (P := Tryz.prog) (w := W) (off := 0) (f := { name := "Name", type := 9, offset := 0, embedded := false, tag := "", pkgPath := "", byteOffset := 0 }) rfl c9 (opn_s9 W) (fun _ => rfl) f1
  exact f0
 ·intro x h
  exact ⟨h.1,h.2.1,h.2.2.1⟩
def GFds (l : List Fd) : Prop:=(l.length ≤ maxLen ∧ l.length * Tryz.prog.bytesOf 59 ≤ reachBytes) ∧ ∀ a ∈ l,GFd a
theorem opn_fds (W : World) : OpnW Tryz.prog W 36 (fun l : List Fd=>[.slice (l.map encFd)]) GFds :=
 opnW_slice (sz:=5) Tryz.underlying36 (by kernel_rfl) (by decide) (opn_fd W) (fun _=>rfl)
def okIs (l : List Int) : Prop:=(l.length ≤ maxLen ∧ l.length * Tryz.prog.bytesOf 3 ≤ reachBytes) ∧ ∀ a ∈ l,okI a
theorem opn_ints (W : World) : OpnW Tryz.prog W 37 (fun l : List Int=>[.slice (l.map encI)]) okIs :=
 opnW_slice (sz:=1) Tryz.underlying37 (by kernel_rfl) (by decide) (opn_i64 W) (fun _=>rfl)
def GNms (l : List Nm) : Prop:=(l.length ≤ maxLen ∧ l.length * Tryz.prog.bytesOf 64 ≤ reachBytes) ∧ ∀ a ∈ l,GNm a
theorem opn_nms (W : World) : OpnW Tryz.prog W 60 (fun l : List Nm=>[.slice (l.map encNm)]) GNms :=
 opnW_slice (sz:=2) Tryz.underlying60 (by kernel_rfl) (by decide) (opn_nm W) (fun _=>rfl)
def GMts (l : List Mt) : Prop:=(l.length ≤ maxLen ∧ l.length * Tryz.prog.bytesOf 66 ≤ reachBytes) ∧ ∀ a ∈ l,GMt a
theorem opn_mts (W : World) : OpnW Tryz.prog W 24 (fun l : List Mt=>[.slice (l.map encMt)]) GMts :=
 opnW_slice (sz:=3) Tryz.underlying24 (by kernel_rfl) (by decide) (opn_mt W) (fun _=>rfl)
structure GMs (a : Ms) : Prop where
 name : okS a.name
 fields : GFds a.fields
 res : okIs a.res
theorem opn_ms (W : World) : OpnW Tryz.prog W 39 encMs GMs:=by
 have c9 : Tryz.prog.cellsOf 9 = 1:=by kernel_rfl
 have c32 : Tryz.prog.cellsOf 36 = 1:=by kernel_rfl
 have c33 : Tryz.prog.cellsOf 37 = 1:=by kernel_rfl
 refine OpnW.map (G:=fun x : List UInt8 × List Fd × List Int × Unit=>(okS) x.1 ∧ (GFds) x.2.1 ∧ (okIs) x.2.2.1 ∧ True) (opnW_struct Tryz.underlying39 (by kernel_rfl) ?_) (fun x : List UInt8 × List Fd × List Int × Unit=>(⟨x.1,x.2.1,x.2.2.1⟩ : Ms)) (fun a=>rfl) (fun b p hp=>by simp [encMs] at hp; rcases hp with rfl | rfl | rfl <;> rfl) ?_
 ·have f2 := opnFW_cons (P := Tryz.prog) (w := W) (off := 2) (f := { name := "Reserved", type := 37, offset := 2, embedded := false, tag := "", pkgPath := "", byteOffset := 40 }) rfl c33 (opn_ints W) (fun _ => rfl) opnFW_nil
  have f1 := opnFW_cons (P := Tryz.prog) (w := W) (off := 1) (f := { name := "Fields", type := 36, offset := 1, embedded := false, tag := "", pkgPath := "", byteOffset := 16 }) rfl c32 (opn_fds W) (fun _ => rfl) f2
  have f0 := opnFW_cons (P := Tryz.prog) (w := W) (off := 0) (f := { name := "Name", type := 9, offset := 0, embedded := false, tag := "", pkgPath := "", byteOffset := 0 }) rfl c9 (opn_s9 W) (fun _ => rfl) f1
  exact f0
 ·intro x h
  exact ⟨h.1,h.2.1,h.2.2.1⟩
structure GEn (a : En) : Prop where
 name : okS a.name
 vals : GNms a.vals
theorem opn_en (W : World) : OpnW Tryz.prog W 62 encEn GEn:=by
 have c9 : Tryz.prog.cellsOf 9 = 1:=by kernel_rfl
 have c37 : Tryz.prog.cellsOf 60 = 1:=by kernel_rfl
 refine OpnW.map (G:=fun x : List UInt8 × List Nm × Unit=>(okS) x.1 ∧ (GNms) x.2.1 ∧ True) (opnW_struct Tryz.underlying62 (by kernel_rfl) ?_) (fun x : List UInt8 × List Nm × Unit=>(⟨x.1,x.2.1⟩ : En)) (fun a=>rfl) (fun b p hp=>by simp [encEn] at hp; rcases hp with rfl | rfl <;> rfl) ?_
 ·have f1 := opnFW_cons (P := Tryz.prog) (w := W) (off := 1) (f := { name := "Values", type := 60, offset := 1, embedded := false, tag := "", pkgPath := "", byteOffset := 16 }) rfl c37 (opn_nms W) (fun _ => rfl) opnFW_nil
  have f0 := opnFW_cons (P := Tryz.prog) (w := W) (off := 0) (f := { name := "Name", type := 9, offset := 0, embedded := false, tag := "", pkgPath := "", byteOffset := 0 }) rfl c9 (opn_s9 W) (fun _ => rfl) f1
  exact f0
 ·intro x h
  exact ⟨h.1,h.2.1⟩
def GMss (l : List Ms) : Prop:=(l.length ≤ maxLen ∧ l.length * Tryz.prog.bytesOf 39 ≤ reachBytes) ∧ ∀ a ∈ l,GMs a
theorem opn_mss (W : World) : OpnW Tryz.prog W 22 (fun l : List Ms=>[.slice (l.map encMs)]) GMss :=
 opnW_slice (sz:=3) Tryz.underlying22 (by kernel_rfl) (by decide) (opn_ms W) (fun _=>rfl)
def GEns (l : List En) : Prop:=(l.length ≤ maxLen ∧ l.length * Tryz.prog.bytesOf 62 ≤ reachBytes) ∧ ∀ a ∈ l,GEn a
theorem opn_ens (W : World) : OpnW Tryz.prog W 23 (fun l : List En=>[.slice (l.map encEn)]) GEns :=
 opnW_slice (sz:=2) Tryz.underlying23 (by kernel_rfl) (by decide) (opn_en W) (fun _=>rfl)
structure GSc (a : Sc) : Prop where
 name : okS a.name
 msgs : GMss a.msgs
 enums : GEns a.enums
 meths : GMts a.meths
theorem opn_sc (W : World) : OpnW Tryz.prog W 26 encSc GSc:=by
 have c9 : Tryz.prog.cellsOf 9 = 1:=by kernel_rfl
 have c22 : Tryz.prog.cellsOf 22 = 1:=by kernel_rfl
 have c23 : Tryz.prog.cellsOf 23 = 1:=by kernel_rfl
 have c24 : Tryz.prog.cellsOf 24 = 1:=by kernel_rfl
 refine OpnW.map (G:=fun x : List UInt8 × List Ms × List En × List Mt × Unit=>(okS) x.1 ∧ (GMss) x.2.1 ∧ (GEns) x.2.2.1 ∧ (GMts) x.2.2.2.1 ∧ True) (opnW_struct Tryz.underlying26 (by kernel_rfl) ?_) (fun x : List UInt8 × List Ms × List En × List Mt × Unit=>(⟨x.1,x.2.1,x.2.2.1,x.2.2.2.1⟩ : Sc)) (fun a=>rfl) (fun b p hp=>by simp [encSc] at hp; rcases hp with rfl | rfl | rfl | rfl <;> rfl) ?_
 ·have f3 := opnFW_cons (P := Tryz.prog) (w := W) (off := 3) (f := { name := "Methods", type := 24, offset := 3, embedded := false, tag := "", pkgPath := "", byteOffset := 64 }) rfl c24 (opn_mts W) (fun _ => rfl) opnFW_nil
  have f2 := opnFW_cons (P := Tryz.prog) (w := W) (off := 2) (f := { name := "Enums", type := 23, offset := 2, embedded := false, tag := "", pkgPath := "", byteOffset := 40 }) rfl c23 (opn_ens W) (fun _ => rfl) f3
  have f1 := opnFW_cons (P := Tryz.prog) (w := W) (off := 1) (f := { name := "Messages", type := 22, offset := 1, embedded := false, tag := "", pkgPath := "", byteOffset := 16 }) rfl c22 (opn_mss W) (fun _ => rfl) f2
  have f0 := opnFW_cons (P := Tryz.prog) (w := W) (off := 0) (f := { name := "Name", type := 9, offset := 0, embedded := false, tag := "", pkgPath := "", byteOffset := 0 }) rfl c9 (opn_s9 W) (fun _ => rfl) f1
  exact f0
 ·intro x h
  exact ⟨h.1,h.2.1,h.2.2.1,h.2.2.2.1⟩
end Go.Aw
namespace Go.Proofs
open Go.Shelf
def Tryz.lays197_ren : Go.Shelf.Ren:=⟨fun | 197=>97 | 260=>100 | n=>n,fun | 9=>9 | 21=>21 | 3=>3 | 4=>4 | 5=>5 | 105=>175 | 119=>178 | 0=>0 | 46=>179 | 139=>182 | 138=>181 | n=>n,fun | 3=>0 | 4=>1 | n=>n⟩
theorem Tryz.lays197 : Go.Proofs.Lays.n197 Tryz.prog Tryz.lays197_ren:={
 mixed:=by kernel_rfl
 f197:=Tryz.func97.trans (congrArg some (by kernel_rfl))
 f260:=Tryz.func100.trans (congrArg some (by kernel_rfl))
 t0:=Tryz.underlying0
 a0:=Tryz.isAgg0
 z0:=Tryz.sizeOf0
 v0:=Tryz.zeroValue0
 t3:=Tryz.underlying3
 a3:=Tryz.isAgg3
 z3:=Tryz.sizeOf3
 v3:=Tryz.zeroValue3
 t4:=Tryz.underlying4
 a4:=Tryz.isAgg4
 z4:=Tryz.sizeOf4
 v4:=Tryz.zeroValue4
 t5:=Tryz.underlying5
 a5:=Tryz.isAgg5
 z5:=Tryz.sizeOf5
 v5:=Tryz.zeroValue5
 t9:=Tryz.underlying9
 a9:=Tryz.isAgg9
 z9:=Tryz.sizeOf9
 v9:=Tryz.zeroValue9
 t21:=Tryz.underlying21
 a21:=Tryz.isAgg21
 z21:=Tryz.sizeOf21
 v21:=Tryz.zeroValue21
 t46:=Tryz.underlying179
 a46:=Tryz.isAgg179
 z46:=Tryz.sizeOf179
 v46:=Tryz.zeroValue179
 t105:=Tryz.underlying175
 a105:=Tryz.isAgg175
 z105:=Tryz.sizeOf175
 v105:=Tryz.zeroValue175
 t119:=Tryz.underlying178
 a119:=Tryz.isAgg178
 z119:=Tryz.sizeOf178
 t138:=Tryz.underlying181
 a138:=Tryz.isAgg181
 z138:=Tryz.sizeOf181
 v138:=Tryz.zeroValue181
 t139:=Tryz.underlying182
 a139:=Tryz.isAgg182
 z139:=Tryz.sizeOf182
 v139:=Tryz.zeroValue182
 g3:=by kernel_rfl
 g4:=by kernel_rfl }
open Go.RowKit Go.Lib in
def Tryz.lays260_ren : Go.Shelf.Ren:=⟨fun | 260=>100 | n=>n,fun | 9=>9 | 21=>21 | 3=>3 | 4=>4 | 5=>5 | 119=>178 | 0=>0 | 46=>179 | 139=>182 | 138=>181 | n=>n,fun | 3=>0 | 4=>1 | n=>n⟩
theorem Tryz.lays260 : Go.Proofs.Lays.n260 Tryz.prog Tryz.lays260_ren:={
 mixed:=by kernel_rfl
 f260:=Tryz.func100.trans (congrArg some (by kernel_rfl))
 t0:=Tryz.underlying0
 a0:=Tryz.isAgg0
 z0:=Tryz.sizeOf0
 v0:=Tryz.zeroValue0
 t3:=Tryz.underlying3
 a3:=Tryz.isAgg3
 z3:=Tryz.sizeOf3
 v3:=Tryz.zeroValue3
 t4:=Tryz.underlying4
 a4:=Tryz.isAgg4
 z4:=Tryz.sizeOf4
 v4:=Tryz.zeroValue4
 t5:=Tryz.underlying5
 a5:=Tryz.isAgg5
 z5:=Tryz.sizeOf5
 v5:=Tryz.zeroValue5
 t9:=Tryz.underlying9
 a9:=Tryz.isAgg9
 z9:=Tryz.sizeOf9
 v9:=Tryz.zeroValue9
 t21:=Tryz.underlying21
 a21:=Tryz.isAgg21
 z21:=Tryz.sizeOf21
 v21:=Tryz.zeroValue21
 t46:=Tryz.underlying179
 a46:=Tryz.isAgg179
 z46:=Tryz.sizeOf179
 v46:=Tryz.zeroValue179
 t119:=Tryz.underlying178
 a119:=Tryz.isAgg178
 z119:=Tryz.sizeOf178
 t138:=Tryz.underlying181
 a138:=Tryz.isAgg181
 z138:=Tryz.sizeOf181
 v138:=Tryz.zeroValue181
 t139:=Tryz.underlying182
 a139:=Tryz.isAgg182
 z139:=Tryz.sizeOf182
 v139:=Tryz.zeroValue182
 g3:=by kernel_rfl
 g4:=by kernel_rfl }
open Go.RowKit Go.Lib in
open Go.RowKit Go.Lib in
theorem Tryz.utf8_DecodeRuneInString (s : ByteArray) (w : World) (hT : Lib.Utf8Tabs 0 1 w) :
  Calls Tryz.prog 97 #[.string s] w fun e w'=>e = .returned (.tuple #[.int .i32 (Lib.decodeGo s).1,.int .i64 (Lib.decodeGo s).2]) ∧ Below w.heap.size w w':=Any.utf8_DecodeRuneInString Tryz.lays197 s w hT
end Go.Proofs
namespace Go.Aw
open Go.Proofs Go.Lib
theorem tryMaps : mapsRowed Tryz.prog = true:=by kernel_rfl
theorem tryLaid : laidOutB Tryz.prog = true:=by kernel_rfl
theorem trySlices : ((List.range Tryz.prog.types.size).all fun t=>match Tryz.prog.underlying t with | some (.slice e)=>decide (0 < Tryz.prog.cellsOf e) | _=>true) = true:=by kernel_rfl
theorem first_eq : YtpbangopjdlfcaaGreatDoor.Rows.laid_unicode_utf8_first = firstData:=by kernel_rfl
theorem accept_eq : YtpbangopjdlfcaaGreatDoor.Rows.laid_unicode_utf8_acceptRanges = acceptData:=by kernel_rfl
theorem tab_of_laid {W : World} {l : List (String × DataW Unit)} (h : laidMet Tryz.prog l W) (hl : l = [("unicode/utf8.acceptRanges", YtpbangopjdlfcaaGreatDoor.Rows.laid_unicode_utf8_acceptRanges), ("unicode/utf8.first", YtpbangopjdlfcaaGreatDoor.Rows.laid_unicode_utf8_first)]) : tabOK W (old W) := by
 subst hl
 have h1:=laidMet.reads h (.head _)
 have h2:=laidMet.reads h (.tail _ (.head _))
 rw [accept_eq] at h1
 rw [first_eq] at h2
 have hU : Lib.Utf8Tabs 0 1 W:=utf8Tabs_of_reads (ρ:=Tryz.lays260_ren) Tryz.lays260 ⟨by kernel_rfl,by kernel_rfl,by kernel_rfl,by kernel_rfl,by kernel_rfl,by kernel_rfl,by kernel_rfl⟩ h2 h1
 have lt : ∀ g c v,W.cell? ⟨g,c,none⟩ = some v → g < W.heap.size:=fun g c v hc=>by
  unfold World.cell? at hc
  split at hc
  ·rename_i hb
   rcases Nat.lt_or_ge g W.heap.size with h' | h'
   ·exact h'
   ·rw [Array.getElem?_eq_none h'] at hb; cases hb
  ·cases hc
 exact ⟨hU,lt 0 _ _ (hU.1 0 (by decide)),lt 1 _ _ (hU.2 0 (by decide)).1⟩
end Go.Aw
namespace Go.Aw
open Go.Proofs
theorem tryOrder : YtpbangopjdlfcaaGreatDoor.Tryz.pinned.checked.prog.initOrder = "harness f466c8ca48b9c1df851c433e6f91e59bbf160bfb328471098fbfa3139a910859 cut " ++ "at concordat/concordatlaw16.InterpMakes" := by kernel_rfl
theorem tryWords0 (t : List Char) : wordsSigns ("harness f466c8ca48b9c1df851c433e6f91e59bbf160bfb328471098fbfa3139a910859 cut ".toList ++ t) = "harness".toList :: "f466c8ca48b9c1df851c433e6f91e59bbf160bfb328471098fbfa3139a910859".toList :: "cut".toList :: wordsSigns t := by kernel_rfl
theorem words_of {s a b : String} {l : List (List Char)} (h : s = a ++ b) (hw : ∀ t,wordsSigns (a.toList ++ t) = l ++ wordsSigns t) : ∃ ws,wordsSigns s.toList = l ++ ws:=by
 subst h
 rw [String.toList_append]
 exact ⟨_,hw _⟩
theorem tryWords : ∃ ws, wordsSigns YtpbangopjdlfcaaGreatDoor.Tryz.pinned.checked.prog.initOrder.toList = ["harness".toList, "f466c8ca48b9c1df851c433e6f91e59bbf160bfb328471098fbfa3139a910859".toList, "cut".toList] ++ ws := words_of tryOrder tryWords0
theorem headLifts_of {P : Program} {S : String} {ws : List (List Char)} (e : wordsSigns P.initOrder.toList = ["harness".toList, S.toList, "cut".toList] ++ ws) (hs : isSumSigns S.toList = true) : behindMainWord (wordsSigns P.initOrder.toList) = "cut".toList :: ws ∧ P.headLifts = [] := by
 have h1 : behindMainWord (wordsSigns P.initOrder.toList) = "cut".toList :: ws := by
  rw [e]
  show (if ("harness".toList == "harness".toList || "harness".toList == "ownmain".toList) && isSumSigns S.toList then "cut".toList :: ws else _) = _
  rw [hs]
  rfl
 refine ⟨h1,?_⟩
 unfold Program.headLifts
 rw [h1]
 have h2 : stripLifts liftWords ("cut".toList :: ws) = ([], "cut".toList :: ws) := by kernel_rfl
 rw [h2]
 rfl
theorem trySum : isSumSigns "f466c8ca48b9c1df851c433e6f91e59bbf160bfb328471098fbfa3139a910859".toList = true := by kernel_rfl
theorem final_of {P : Program} {ws : List (List Char)} (h1 : behindMainWord (wordsSigns P.initOrder.toList) = "cut".toList :: ws) (h2 : P.headLifts = []) : P.liftsFinal = false := by
 unfold Program.liftsFinal
 rw [h1,h2]
 kernel_rfl
theorem make_of {P : Program} {ws : List (List Char)} (h1 : behindMainWord (wordsSigns P.initOrder.toList) = "cut".toList :: ws) : P.make = some .cut := by
 unfold Program.make
 rw [h1]
 kernel_rfl
theorem tryFinal : YtpbangopjdlfcaaGreatDoor.Tryz.pinned.checked.prog.liftsFinal = false:=by
 obtain ⟨ws,e⟩:=tryWords
 obtain ⟨h1,h2⟩:=headLifts_of e trySum
 exact final_of h1 h2
theorem tryMake : YtpbangopjdlfcaaGreatDoor.Tryz.pinned.checked.prog.make = some .cut:=by
 obtain ⟨ws,e⟩:=tryWords
 obtain ⟨h1,h2⟩:=headLifts_of e trySum
 exact make_of h1
theorem enter_of {P : Program} {ws : List (List Char)} (h1 : behindMainWord (wordsSigns P.initOrder.toList) = "cut".toList :: ws) (a : P.laysLater = false) (b : P.bearsReflect = false) (c : P.doorFits [] = true) : P.mayEnter = true := by
 unfold Program.mayEnter
 rw [h1]
 have h2 : stripLifts liftWords ("cut".toList :: ws) = ([], "cut".toList :: ws) := by kernel_rfl
 dsimp only
 rw [h2,a,b,c]
 rfl
theorem tryEnter : YtpbangopjdlfcaaGreatDoor.Tryz.pinned.checked.prog.mayEnter = true:=by
 obtain ⟨ws,e⟩:=tryWords
 obtain ⟨h1,h2⟩:=headLifts_of e trySum
 exact enter_of h1 (by kernel_rfl) (by kernel_rfl) (by kernel_rfl)
theorem main_of {P : Program} {S : String} {ws : List (List Char)} (e : wordsSigns P.initOrder.toList = ["harness".toList, S.toList, "cut".toList] ++ ws) (hs : isSumSigns S.toList = true) : P.mainIs = some (true, S.toList) := by
 unfold Program.mainIs
 rw [e]
 show (if (!isSumSigns S.toList) = true then none else _) = _
 rw [hs]
 rfl
theorem tryMain : YtpbangopjdlfcaaGreatDoor.Tryz.pinned.checked.prog.mainIs = some (true, "f466c8ca48b9c1df851c433e6f91e59bbf160bfb328471098fbfa3139a910859".toList) := by
 obtain ⟨ws,e⟩:=tryWords
 exact main_of e trySum
end Go.Aw
namespace Go.Aw.T
open Go.Proofs
structure Raw where
 tag : Int
 wire : Int
 n : Int
 b : List UInt8
deriving DecidableEq
def encRaw (r : Raw) : List PV:=[.int .i64 r.tag,.int .i64 r.wire,.int .i64 r.n,.str r.b]
def i64ok (n : Int) : Prop:=(Lit.int .i64 n).wf = true
def rawOK (r : Raw) : Prop:=i64ok r.tag ∧ i64ok r.wire ∧ i64ok r.n ∧ r.b.length ≤ maxLen
theorem i64ok_iff {n : Int} : i64ok n ↔ -9223372036854775808 ≤ n ∧ n ≤ 9223372036854775807:=by
 have e1 : IntKind.i64.min = -9223372036854775808:=by decide
 have e2 : IntKind.i64.max = 9223372036854775807:=by decide
 simp [i64ok,Lit.wf,e1,e2]
theorem rep_raw {w : World} {I : Nat → Prop} {u : Value} {r : Raw} (h : rep w I u (.agg (encRaw r))) : u = .agg #[.int .i64 r.tag,.int .i64 r.wire,.int .i64 r.n,.string ⟨⟨r.b⟩⟩]:=by
 cases h with
 | agg hs hr =>
 rename_i vs
 have hs4 : vs.size = 4:=by rw [hs]; rfl
 have h0:=hr 0 _ _ (Array.getElem?_eq_getElem (by omega)) rfl
 have h1:=hr 1 _ _ (Array.getElem?_eq_getElem (by omega)) rfl
 have h2:=hr 2 _ _ (Array.getElem?_eq_getElem (by omega)) rfl
 have h3:=hr 3 _ _ (Array.getElem?_eq_getElem (by omega)) rfl
 generalize e0 : vs[0] = v0 at h0
 generalize e1 : vs[1] = v1 at h1
 generalize e2 : vs[2] = v2 at h2
 generalize e3 : vs[3] = v3 at h3
 cases h0; cases h1; cases h2; cases h3
 congr 1
 apply Array.ext
 ·rw [hs4]; rfl
 ·intro i hi hi'
  have : i < 4:=by simpa using hi'
  match i,this with
  | 0,_=>exact e0
  | 1,_=>exact e1
  | 2,_=>exact e2
  | 3,_=>exact e3
theorem eq28 (x y : Raw) (w : World) : (Op.equalIn 10000 107 (.agg #[.int .i64 x.tag,.int .i64 x.wire,.int .i64 x.n,.string ⟨⟨x.b⟩⟩]) (.agg #[.int .i64 y.tag,.int .i64 y.wire,.int .i64 y.n,.string ⟨⟨y.b⟩⟩])).run Tryz.prog w = .ok (decide (x = y)) w:=by
 have u3:=Tryz.underlying3
 have u9:=Tryz.underlying9
 have a3:=Tryz.isAgg3
 have a9:=Tryz.isAgg9
 have z3:=Tryz.sizeOf3
 have z9:=Tryz.sizeOf9
 have hS : Tryz.prog.underlying 107 = some (.struct (Tryz.prog.fieldsOf 107)):=by kernel_rfl
 have hp : Tryz.prog.stoodInHeld 107 = false:=by kernel_rfl
 rw [show (10000 : Nat) = 9999 + 1 from rfl,run_equalIn_agg w 9999 107 _ _ hS hp]
 simp only [Program.fieldsOf,Tryz.underlying107]
 go_simp
 obtain ⟨a1,a2,a3,a4⟩:=x
 obtain ⟨b1,b2,b3,b4⟩:=y
 simp only [Raw.mk.injEq]
 by_cases h1 : a1 = b1 <;> by_cases h2 : a2 = b2 <;> by_cases h3 : a3 = b3 <;> by_cases h4 : a4 = b4 <;> simp [h1,h2,h3,h4]
theorem eqP_raw (x y : Raw) : EqP Tryz.prog 107 (.agg (encRaw x)) (.agg (encRaw y)) (decide (x = y)):=by
 intro w I u v hu hv
 rw [rep_raw hu,rep_raw hv]
 refine ⟨?_,?_,fun op a b=>run_eqGuard_agg _ op 107 a b _ _ (by kernel_rfl)⟩
 ·rw [run_eql_struct,eq28]; rfl
 ·rw [run_neq_struct,eq28]; rfl
def place (v n : Int) : Int:=let k:=v.tmod n; if k < 0 then k + n else k
theorem law00_Place (v n : Int) (hv : i64ok v) (hn : 0 < n) (hn' : i64ok n) : PFn Tryz.prog 8 [.int .i64 v,.int .i64 n] (.int .i64 (place v n)):=by
 refine PFn.of Tryz.func8 rfl (by decide) Tryz.ntmps8 Tryz.results8 (Nat.le_of_ble_eq_true rfl) ?_
 simp only [argsT]
 refine AW.rT (by rfl) fun K hK=>?_
 simp -implicitDefEqProofs only [go_sem]
 apply hK;clear hK K
 have h0 : (n = 0) = False:=by simp; omega
 refine AW.rT (by rfl) fun K hK=>?_
 simp -implicitDefEqProofs only [go_sem,↓reduceIte,Nat.reduceAdd,Nat.reduceEqDiff,reduceCtorEq,h0]
 apply hK;clear hK K
 have hm1 : -n < v.tmod n ∧ v.tmod n < n:=by
  refine ⟨?_,Int.tmod_lt_of_pos v hn⟩
  have:=Int.lt_tmod_of_pos v hn
  omega
 have hn2:=(i64ok_iff.1 hn').2
 refine AW.seq ?_
 refine AW.rT (by rfl) fun K hK=>?_
 simp -implicitDefEqProofs only [go_sem,↓reduceIte,Nat.reduceAdd]
 apply hK;clear hK K
 refine AW.cond _ (by simp -implicitDefEqProofs only [go_sem]; rfl) (fun hc=>?_) (fun hc=>?_)
 ·simp at hc
  have w2 : IntKind.wrap .i64 (v.tmod n + n) = v.tmod n + n:=by rw [w64] <;> omega
  refine AW.rE (by rfl) fun K hK=>?_
  simp -implicitDefEqProofs only [go_sem,↓reduceIte,Nat.reduceAdd,Nat.reduceEqDiff,w2]
  apply hK;clear hK K
  simp only [andThen]
  refine AW.rT (by rfl) fun K hK=>?_
  simp -implicitDefEqProofs only [go_sem,Nat.reduceAdd]
  apply hK;clear hK K
  refine AW.ret ?_
  simp -implicitDefEqProofs only [go_sem]
  simp [place,hc]
 ·simp at hc
  refine AW.skip ?_
  simp only [andThen]
  refine AW.rT (by rfl) fun K hK=>?_
  simp -implicitDefEqProofs only [go_sem,↓reduceIte,Nat.reduceAdd,Nat.reduceEqDiff]
  apply hK;clear hK K
  refine AW.ret ?_
  simp -implicitDefEqProofs only [go_sem]
  simp only [place,if_neg (show ¬ v.tmod n < 0 by omega)]
end Go.Aw.T
namespace Go.Aw.T
open Go.Proofs
def checkR (r : Raw) : Bool :=
 if r.tag < 1 ∨ 500 < r.tag then false else if r.wire = 0 then decide (r.b = []) else if r.wire = 1 then decide (r.n = 0) && decide (r.b.length ≤ 4096) else false
theorem wire_Check (r : Raw) : PFn Tryz.prog 98 [.agg (encRaw r)] (.bool (checkR r)):=by
 refine PFn.of Tryz.func98 rfl (by decide) Tryz.ntmps98 Tryz.results98 (Nat.le_of_ble_eq_true rfl) ?_
 simp only [argsT]
 refine AW.rT (by rfl) fun K hK=>?_
 simp -implicitDefEqProofs only [go_sem,Nat.reduceAdd,encRaw]
 apply hK;clear hK K
 refine AW.seq ?_
 by_cases h1 : r.tag < 1
 ·refine AW.rT (by rfl) fun K hK=>?_
  simp -implicitDefEqProofs only [go_sem,↓reduceIte,Nat.reduceAdd,Nat.reduceEqDiff,h1]
  apply hK;clear hK K
  refine AW.cond _ (by simp -implicitDefEqProofs only [go_sem]; rfl) (fun hc=>?_) (fun hc=>?_)
  ·refine AW.rT (by rfl) fun K hK=>?_
   simp -implicitDefEqProofs only [go_sem,Nat.reduceAdd]
   apply hK;clear hK K
   refine AW.ret ?_
   simp -implicitDefEqProofs only [go_sem]
   simp [checkR,h1]
  ·simp at hc
 by_cases h2 : 500 < r.tag
 ·refine AW.rT (by rfl) fun K hK=>?_
  simp -implicitDefEqProofs only [go_sem,↓reduceIte,Nat.reduceAdd,Nat.reduceEqDiff,h1,h2]
  apply hK;clear hK K
  refine AW.cond _ (by simp -implicitDefEqProofs only [go_sem]; rfl) (fun hc=>?_) (fun hc=>?_)
  ·refine AW.rT (by rfl) fun K hK=>?_
   simp -implicitDefEqProofs only [go_sem,Nat.reduceAdd]
   apply hK;clear hK K
   refine AW.ret ?_
   simp -implicitDefEqProofs only [go_sem]
   simp [checkR,h1,h2]
  ·simp at hc
 refine AW.rT (by rfl) fun K hK=>?_
 simp -implicitDefEqProofs only [go_sem,↓reduceIte,Nat.reduceAdd,Nat.reduceEqDiff,h1,h2]
 apply hK;clear hK K
 refine AW.cF rfl ?_
 refine AW.skip ?_
 simp only [andThen]
 refine AW.seq ?_
 refine AW.rT (by rfl) fun K hK=>?_
 simp -implicitDefEqProofs only [go_sem,↓reduceIte,Nat.reduceAdd,Nat.reduceEqDiff]
 apply hK;clear hK K
 refine AW.block ?_
 by_cases h3 : r.wire = 0
 ·refine AW.rT (by rfl) fun K hK=>?_
  simp -implicitDefEqProofs only [go_sem,↓reduceIte,Nat.reduceAdd,h3]
  apply hK;clear hK K
  refine AW.cond _ (by simp -implicitDefEqProofs only [go_sem]; rfl) (fun hc=>?_) (fun hc=>?_)
  ·refine AW.rT (by rfl) fun K hK=>?_
   simp -implicitDefEqProofs only [go_sem,↓reduceIte,Nat.reduceAdd,Nat.reduceEqDiff]
   apply hK;clear hK K
   refine AW.ret ?_
   simp -implicitDefEqProofs only [go_sem]
   by_cases hb : r.b = [] <;> simp [checkR,h1,h2,h3,hb]
  ·simp at hc
 have h3':=beqf h3
 refine AW.rT (by rfl) fun K hK=>?_
 simp -implicitDefEqProofs only [go_sem,↓reduceIte,Nat.reduceAdd,h3']
 apply hK;clear hK K
 refine AW.cF rfl ?_
 by_cases h4 : r.wire = 1
 ·refine AW.rT (by rfl) fun K hK=>?_
  simp -implicitDefEqProofs only [go_sem,↓reduceIte,Nat.reduceAdd,Nat.reduceEqDiff,h4]
  apply hK;clear hK K
  refine AW.cond _ (by simp -implicitDefEqProofs only [go_sem]; rfl) (fun hc=>?_) (fun hc=>?_)
  ·by_cases h5 : r.n = 0
   ·refine AW.rT (by rfl) fun K hK=>?_
    simp -implicitDefEqProofs only [go_sem,↓reduceIte,Nat.reduceAdd,Nat.reduceEqDiff,h5]
    apply hK;clear hK K
    refine AW.ret ?_
    simp -implicitDefEqProofs only [go_sem]
    simp [checkR,h1,h2,h4,h5]
    omega
   ·have h5':=beqf h5
    refine AW.rT (by rfl) fun K hK=>?_
    simp -implicitDefEqProofs only [go_sem,↓reduceIte,Nat.reduceAdd,Nat.reduceEqDiff,h5']
    apply hK;clear hK K
    refine AW.ret ?_
    simp -implicitDefEqProofs only [go_sem]
    simp [checkR,h1,h2,h4,h5]
  ·simp at hc
 have h4':=beqf h4
 refine AW.rT (by rfl) fun K hK=>?_
 simp -implicitDefEqProofs only [go_sem,↓reduceIte,Nat.reduceAdd,Nat.reduceEqDiff,h4']
 apply hK;clear hK K
 refine AW.cF rfl ?_
 refine AW.skip ?_
 simp only [andThen,inBlk]
 refine AW.rT (by rfl) fun K hK=>?_
 simp -implicitDefEqProofs only [go_sem,Nat.reduceAdd]
 apply hK;clear hK K
 refine AW.ret ?_
 simp -implicitDefEqProofs only [go_sem]
 simp [checkR,h1,h2,h3,h4]
def encB (x : UInt8) : List PV:=[.int .u8 (x.toNat : Int)]
end Go.Aw.T
namespace Go.Aw.T
open Go.Proofs
end Go.Aw.T
namespace Go.Aw.T
end Go.Aw.T
namespace Go.Aw.T
open Go.Proofs
end Go.Aw.T
namespace Go.Aw.T
open Go.Proofs
def rising : List Raw → Bool
 | a :: b :: r=>if b.tag < a.tag then false else rising (b :: r)
 | _=>true
theorem rising_drop (l : List Raw) (i : Nat) (a b : Raw) (ha : l[i]? = some a) (hb : l[i+1]? = some b) : rising (l.drop i) = if b.tag < a.tag then false else rising (l.drop (i+1)):=by
 obtain ⟨h1,h2⟩:=List.getElem?_eq_some_iff.1 ha
 obtain ⟨h3,h4⟩:=List.getElem?_eq_some_iff.1 hb
 rw [List.drop_eq_getElem_cons h1,List.drop_eq_getElem_cons h3,h2,h4]
 simp [rising]
theorem rising_end (l : List Raw) (i : Nat) (h : l.length ≤ i + 1) : rising (l.drop i) = true:=by
 match he : l.drop i with
 | []=>rfl
 | [a]=>rfl
 | a :: b :: r =>
  have:=congrArg List.length he
  simp at this
  omega
theorem wire_Rising (l : List Raw) (hl : l.length ≤ maxLen) : PFn Tryz.prog 99 [.slice (l.map encRaw)] (.bool (rising l)):=by
 have hm : maxLen = 9223372036854775807:=by decide
 refine PFn.of Tryz.func99 rfl (by decide) Tryz.ntmps99 Tryz.results99 (Nat.le_of_ble_eq_true rfl) ?_
 simp only [argsT]
 refine AW.rT (by rfl) fun K hK=>?_
 simp -implicitDefEqProofs only [go_sem]
 apply hK;clear hK K
 refine AW.seq ?_
 refine AW.rT (by rfl) fun K hK=>?_
 simp -implicitDefEqProofs only [go_sem,Nat.reduceAdd]
 apply hK;clear hK K
 refine AW.block ?_
 refine AW.loop (α:=Nat) (fun i=>⟨ofL [(0,.p (.slice (l.map encRaw))),(3,.p (.int .i64 ((i : Int) + 1)))],ofH [],0⟩) (fun i=>rising (l.drop i) = rising l) (fun i=>l.length - i) 0 ?_ (by simp) fun i hi=>?_
 ·refine Ghost.sub ?_ ?_ <;> simp -implicitDefEqProofs only [go_sem,↓reduceIte,reduceCtorEq,List.forall_mem_cons,List.not_mem_nil,false_implies,implies_true,and_self,AV.labsIn]
  simp
 refine AW.seq ?_
 refine AW.rT (by rfl) fun K hK=>?_
 simp -implicitDefEqProofs only [go_sem,↓reduceIte,Nat.reduceAdd,Nat.reduceEqDiff,reduceCtorEq]
 apply hK;clear hK K
 refine AW.cond _ (by simp -implicitDefEqProofs only [go_sem]; rfl) (fun hc=>?_) (fun hc=>?_)
 ·refine AW.skip ?_
  simp only [andThen]
  simp at hc
  refine AW.seq ?_
  refine AW.block ?_
  obtain ⟨a,ha⟩ : ∃ a,l[i]? = some a:=⟨_,List.getElem?_eq_getElem (by omega)⟩
  obtain ⟨b,hb⟩ : ∃ a,l[i+1]? = some a:=⟨_,List.getElem?_eq_getElem (by omega)⟩
  have w1 : IntKind.wrap .i64 ((i : Int) + 1 - 1) = i:=by rw [w64] <;> omega
  have ⟨hb1,hb2,hb3⟩:=at_map encRaw hb (i:=(i : Int) + 1) (by omega)
  have ⟨ha1,ha2,ha3⟩:=at_map' encRaw ha
  refine AW.dT mixed (by rfl) (by decide +kernel) fun K hK=>?_
  simp -implicitDefEqProofs only [go_sem,↓reduceIte,Nat.reduceAdd,Nat.reduceEqDiff,reduceCtorEq,w1,hb1,hb2,hb3,ha1,ha2,ha3,encRaw]
  refine ⟨heapOK_nil rfl,?_⟩
  apply hK;clear hK K
  have hr:=rising_drop l i a b ha hb
  refine AW.cond _ (by simp -implicitDefEqProofs only [go_sem]; rfl) (fun hc=>?_) (fun hc=>?_)
  ·simp at hc
   refine AW.rT (by rfl) fun K hK=>?_
   simp -implicitDefEqProofs only [go_sem,Nat.reduceAdd]
   apply hK;clear hK K
   refine AW.ret ?_
   simp -implicitDefEqProofs only [go_sem]
   simp [hc] at hr
   rw [← hi,hr]
  ·refine AW.skip ?_
   simp only [andThen,inBlk]
   have w2 : IntKind.wrap .i64 ((i : Int) + 1 + 1) = ((i + 1 : Nat) : Int) + 1:=by rw [w64] <;> omega
   refine AW.rE (by rfl) fun K hK=>?_
   simp -implicitDefEqProofs only [go_sem,↓reduceIte,Nat.reduceAdd,Nat.reduceEqDiff,reduceCtorEq,w2]
   apply hK;clear hK K
   refine ⟨i + 1,?_,by omega,?_⟩
   ·simp at hc
    rw [if_neg (by omega)] at hr
    rw [← hr,hi]
   ·refine Ghost.sub ?_ ?_ <;> simp -implicitDefEqProofs only [go_sem,↓reduceIte,reduceCtorEq,List.forall_mem_cons,List.not_mem_nil,false_implies,implies_true,and_self,AV.labsIn]
 ·refine AW.exit ?_
  simp -implicitDefEqProofs only [go_sem,↓reduceIte]
  refine AW.rT (by rfl) fun K hK=>?_
  simp -implicitDefEqProofs only [go_sem,Nat.reduceAdd]
  apply hK;clear hK K
  refine AW.ret ?_
  simp -implicitDefEqProofs only [go_sem]
  simp at hc
  rw [← hi,rising_end l i (by omega)]
theorem ref04_Rising (l : List Raw) (hl : l.length ≤ maxLen) : PFn Tryz.prog 88 [.slice (l.map encRaw)] (.bool (rising l)):=by
 have hm : maxLen = 9223372036854775807:=by decide
 refine PFn.of Tryz.func88 rfl (by decide) Tryz.ntmps88 Tryz.results88 (Nat.le_of_ble_eq_true rfl) ?_
 simp only [argsT]
 refine AW.rT (by rfl) fun K hK=>?_
 simp -implicitDefEqProofs only [go_sem]
 apply hK;clear hK K
 refine AW.seq ?_
 refine AW.rT (by rfl) fun K hK=>?_
 simp -implicitDefEqProofs only [go_sem,Nat.reduceAdd]
 apply hK;clear hK K
 refine AW.block ?_
 refine AW.loop (α:=Nat) (fun i=>⟨ofL [(0,.p (.slice (l.map encRaw))),(3,.p (.int .i64 ((i : Int) + 1)))],ofH [],0⟩) (fun i=>rising (l.drop i) = rising l) (fun i=>l.length - i) 0 ?_ (by simp) fun i hi=>?_
 ·refine Ghost.sub ?_ ?_ <;> simp -implicitDefEqProofs only [go_sem,↓reduceIte,reduceCtorEq,List.forall_mem_cons,List.not_mem_nil,false_implies,implies_true,and_self,AV.labsIn]
  simp
 refine AW.seq ?_
 refine AW.rT (by rfl) fun K hK=>?_
 simp -implicitDefEqProofs only [go_sem,↓reduceIte,Nat.reduceAdd,Nat.reduceEqDiff,reduceCtorEq]
 apply hK;clear hK K
 refine AW.cond _ (by simp -implicitDefEqProofs only [go_sem]; rfl) (fun hc=>?_) (fun hc=>?_)
 ·refine AW.skip ?_
  simp only [andThen]
  simp at hc
  refine AW.seq ?_
  refine AW.block ?_
  obtain ⟨a,ha⟩ : ∃ a,l[i]? = some a:=⟨_,List.getElem?_eq_getElem (by omega)⟩
  obtain ⟨b,hb⟩ : ∃ a,l[i+1]? = some a:=⟨_,List.getElem?_eq_getElem (by omega)⟩
  have w1 : IntKind.wrap .i64 ((i : Int) + 1 - 1) = i:=by rw [w64] <;> omega
  have ⟨hb1,hb2,hb3⟩:=at_map encRaw hb (i:=(i : Int) + 1) (by omega)
  have ⟨ha1,ha2,ha3⟩:=at_map' encRaw ha
  refine AW.dT mixed (by rfl) (by decide +kernel) fun K hK=>?_
  simp -implicitDefEqProofs only [go_sem,↓reduceIte,Nat.reduceAdd,Nat.reduceEqDiff,reduceCtorEq,w1,hb1,hb2,hb3,ha1,ha2,ha3,encRaw]
  refine ⟨heapOK_nil rfl,?_⟩
  apply hK;clear hK K
  have hr:=rising_drop l i a b ha hb
  refine AW.cond _ (by simp -implicitDefEqProofs only [go_sem]; rfl) (fun hc=>?_) (fun hc=>?_)
  ·simp at hc
   refine AW.rT (by rfl) fun K hK=>?_
   simp -implicitDefEqProofs only [go_sem,Nat.reduceAdd]
   apply hK;clear hK K
   refine AW.ret ?_
   simp -implicitDefEqProofs only [go_sem]
   simp [hc] at hr
   rw [← hi,hr]
  ·refine AW.skip ?_
   simp only [andThen,inBlk]
   have w2 : IntKind.wrap .i64 ((i : Int) + 1 + 1) = ((i + 1 : Nat) : Int) + 1:=by rw [w64] <;> omega
   refine AW.rE (by rfl) fun K hK=>?_
   simp -implicitDefEqProofs only [go_sem,↓reduceIte,Nat.reduceAdd,Nat.reduceEqDiff,reduceCtorEq,w2]
   apply hK;clear hK K
   refine ⟨i + 1,?_,by omega,?_⟩
   ·simp at hc
    rw [if_neg (by omega)] at hr
    rw [← hr,hi]
   ·refine Ghost.sub ?_ ?_ <;> simp -implicitDefEqProofs only [go_sem,↓reduceIte,reduceCtorEq,List.forall_mem_cons,List.not_mem_nil,false_implies,implies_true,and_self,AV.labsIn]
 ·refine AW.exit ?_
  simp -implicitDefEqProofs only [go_sem,↓reduceIte]
  refine AW.rT (by rfl) fun K hK=>?_
  simp -implicitDefEqProofs only [go_sem,Nat.reduceAdd]
  apply hK;clear hK K
  refine AW.ret ?_
  simp -implicitDefEqProofs only [go_sem]
  simp at hc
  rw [← hi,rising_end l i (by omega)]
end Go.Aw.T
namespace Go.Aw.T
open Go.Proofs
end Go.Aw.T
namespace Go.Aw.T
open Go.Proofs
def strOK (s : List UInt8) : Prop:=s.length ≤ maxLen
theorem opn_raw (W : World) : Opn Tryz.prog W 107 encRaw rawOK:=by
 have i3 : Opn Tryz.prog W 3 (fun n : Int=>[.int .i64 n]) i64ok:=opn_int Tryz.underlying3
 have s9 : Opn Tryz.prog W 9 (fun s : List UInt8=>[.str s]) strOK:=opn_str Tryz.underlying9
 have c3 : Tryz.prog.cellsOf 3 = 1:=by kernel_rfl
 have c9 : Tryz.prog.cellsOf 9 = 1:=by kernel_rfl
 refine Opn.map (G:=fun x : Int × Int × Int × List UInt8 × Unit=>i64ok x.1 ∧ i64ok x.2.1 ∧ i64ok x.2.2.1 ∧ strOK x.2.2.2.1 ∧ True) (opn_struct Tryz.underlying107 (by kernel_rfl) ?_) (fun x : Int × Int × Int × List UInt8 × Unit=>(⟨x.1,x.2.1,x.2.2.1,x.2.2.2.1⟩ : Raw)) (fun a=>rfl) (fun b p hp=>by simp [encRaw] at hp; rcases hp with rfl | rfl | rfl | rfl <;> rfl) ?_
 ·have f3 := opnF_cons (P := Tryz.prog) (w := W) (off := 3) (f := { name := "B", type := 9, offset := 3, embedded := false, tag := "", pkgPath := "", byteOffset := 24 }) rfl c9 s9 (fun _ => rfl) opnF_nil
  have f2 := opnF_cons (P := Tryz.prog) (w := W) (off := 2) (f := { name := "N", type := 3, offset := 2, embedded := false, tag := "", pkgPath := "", byteOffset := 16 }) rfl c3 i3 (fun _ => rfl) f3
  have f1 := opnF_cons (P := Tryz.prog) (w := W) (off := 1) (f := { name := "Wire", type := 3, offset := 1, embedded := false, tag := "", pkgPath := "", byteOffset := 8 }) rfl c3 i3 (fun _ => rfl) f2
  have f0 := opnF_cons (P := Tryz.prog) (w := W) (off := 0) (f := { name := "Tag", type := 3, offset := 0, embedded := false, tag := "", pkgPath := "", byteOffset := 0 }) rfl c3 i3 (fun _ => rfl) f1
  exact f0
 ·exact fun a h=>⟨h.1,h.2.1,h.2.2.1,h.2.2.2.1⟩
theorem opn_raws (W : World) : Opn Tryz.prog W 28 (fun l : List Raw=>[.slice (l.map encRaw)]) (fun l=>l.length ≤ maxLen ∧ ∀ a ∈ l,rawOK a) :=
 opn_slice (sz:=4) Tryz.underlying28 (by kernel_rfl) (by decide) (opn_raw W) (fun _=>rfl)
theorem Opn.mapG {P : Program} {w : World} {t : TypeId} {α β : Type} {e : α → List PV} {G : α → Prop} {e' : β → List PV} {G' : β → Prop} (h : Opn P w t e G) (f : α → β) (he : ∀ a,G a → e' (f a) = e a) (h1 : ∀ b,∀ p ∈ e' b,p.one = true) (hg : ∀ a,G a → G' (f a)) : Opn P w t e' G':=by
 refine ⟨h1,fun H enc fuel cs d hd=>?_⟩
 obtain ⟨a,g,l,r⟩:=h.2 H enc fuel cs d hd
 exact ⟨f a,hg a g,by rw [he a g]; exact l,by rw [he a g]; exact r⟩
theorem opn_i64 (W : World) : Opn Tryz.prog W 3 (fun n : Int=>[.int .i64 n]) i64ok:=opn_int Tryz.underlying3
theorem tryMaps : mapsRowed Tryz.prog = true:=by kernel_rfl
theorem tryLaid : laidOutB Tryz.prog = true:=by kernel_rfl
theorem trySlices : ((List.range Tryz.prog.types.size).all fun t=>match Tryz.prog.underlying t with | some (.slice e)=>decide (0 < Tryz.prog.cellsOf e) | _=>true) = true:=by kernel_rfl
end Go.Aw.T
