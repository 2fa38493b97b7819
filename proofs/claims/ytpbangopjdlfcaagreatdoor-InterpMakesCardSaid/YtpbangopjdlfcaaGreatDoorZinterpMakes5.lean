/- What the law LawInterpMakes leans on, joined (part 5). -/
import Derived.Test.YtpbangopjdlfcaaGreatDoorZinterpMakes4
set_option linter.unusedSimpArgs false
set_option linter.unusedVariables false
set_option maxRecDepth 100000
set_option maxHeartbeats 8000000
namespace Go.Aw
open Go.RowKit
variable {P : Program}
def SeqR (P : Program) (nt : Fm) (ops : Array Oper) (i : Nat) (s : St) (K : St → Prop) : Prop :=
 ∀ w0 X I0 a w (Q : Exit → Act → World → Prop),TabX w0 X I0 → Matches nt w0 X I0 s a w → (∀ s' a' w',Matches nt w0 X I0 s' a' w' → K s' → Q .normal a' w') → wpOps P ops Q (List.range' i (ops.size - i)) a w
theorem SeqR.ghost {nt : Fm} {ops : Array Oper} {i : Nat} {s s' : St} {K : St → Prop} (g : Ghost nt s s') (h : SeqR P nt ops i s' K) : SeqR P nt ops i s K :=
 fun w0 X I0 a w Q tx m hQ=>h w0 X I0 a w Q tx (g w0 X I0 a w m) hQ
theorem SeqR.last {nt : Fm} {ops : Array Oper} {i : Nat} {s : St} {K : St → Prop} (hi : ops.size = i) (h : K s) : SeqR P nt ops i s K:=by
 intro w0 X I0 a w Q tx m hQ
 subst hi
 rw [Nat.sub_self]
 exact hQ s a w m h
theorem SeqR.ev {nt : Fm} {ops : Array Oper} {i : Nat} {s : St} {K : St → Prop} (k : Nat) (hd : ops.toList.all (dstOK nt) = true) (hk : i + k ≤ ops.size) (h : seqO P ops.toList s.nx ((ops.toList.drop i).take k) s.T s.H fun T H n=>SeqR P nt ops (i + k) ⟨T,H,n⟩ K) : SeqR P nt ops i s K:=by
 intro w0 X I0 a w Q tx ⟨σ,I,hn,m⟩ hQ
 rw [seqO_eq] at h
 have hl : ops.toList.length = ops.size:=Array.length_toList
 have main:=seq_part (P:=P) (w0:=w0) (X:=X) (I0:=I0) (r':=ops.toList.drop (i + k)) (Q:=Q) hd tx ((ops.toList.drop i).take k) i s.nx s.T s.H σ I a w (by rw [← List.drop_drop,List.take_append_drop]) m hn h
  (fun T H n σ I a w m hn hq=>by
   have:=hq w0 X I0 a w Q tx ⟨σ,I,hn,m⟩ hQ
   rw [List.length_take,List.length_drop,Nat.min_eq_left (by omega),List.length_drop,hl]
   exact this)
 rw [← List.drop_drop,List.take_append_drop,List.length_drop,hl] at main
 exact main
def CallD (P : Program) (nt : Fm) (o : Oper) (s : St) (K : St → Prop) : Prop :=
 ∀ w0 X I0 a w (next : Act → World → Prop) (Q : Exit → Act → World → Prop),TabX w0 X I0 → Matches nt w0 X I0 s a w → (∀ s' a' w',Matches nt w0 X I0 s' a' w' → K s' → next a' w') → o.wp P a w next Q
theorem SeqR.op {nt : Fm} {ops : Array Oper} {i : Nat} {s : St} {K : St → Prop} {o : Oper} (ho : ops[i]? = some o) (hg : o.guard = none) (h : CallD P nt o s fun s'=>SeqR P nt ops (i + 1) s' K) : SeqR P nt ops i s K:=by
 intro w0 X I0 a w Q tx m hQ
 have hi : i < ops.size:=(Array.getElem?_eq_some_iff.1 ho).1
 rw [show ops.size - i = (ops.size - (i + 1)) + 1 by omega,List.range'_succ]
 simp only [wpOps,ho]
 have : Region.wanted o (yielded ops a.tmps) = true:=by simp [Region.wanted,hg]
 rw [if_pos this]
 exact .inl (h w0 X I0 a w _ Q tx m fun s' a' w' m' k=>k w0 X I0 a' w' Q tx m' hQ)
theorem AW.rR {nt : Fm} {id : Nat} {ops : Array Oper} {y : Code} {s : St} {Q : Exit → St → Prop} (h : SeqR P nt ops 0 s fun s'=>AW P nt y s' Q) : AW P nt (.seq (.region id ops false) y) s Q:=by
 refine AW.seq ?_
 intro w0 X I0 a w tx m
 refine wp_region ?_
 have:=h w0 X I0 a w (fun e a' w'=>∃ s',Matches nt w0 X I0 s' a' w' ∧ andThen (fun s'=>AW P nt y s' Q) Q e s') tx m fun s' a' w' m' k=>⟨s',m',k⟩
 rw [List.range_eq_range']
 simpa using this
theorem AW.rRE {nt : Fm} {id : Nat} {ops : Array Oper} {s : St} {Q : Exit → St → Prop} (h : SeqR P nt ops 0 s fun s'=>Q .normal s') : AW P nt (.region id ops false) s Q:=by
 intro w0 X I0 a w tx m
 refine wp_region ?_
 have:=h w0 X I0 a w (fun e a' w'=>∃ s',Matches nt w0 X I0 s' a' w' ∧ Q e s') tx m fun s' a' w' m' k=>⟨s',m',k⟩
 rw [List.range_eq_range']
 simpa using this
mutual
def AV.labsBy (p : Nat → Bool) : AV → Bool
 | .p _ | .ex _ | .vw _ _=>true
 | .own l | .cut l _ _ | .ptr l _ _ | .map l | .it l=>p l
 | .agg cs | .tuple cs | .fn _ cs=>labsByL p cs
 | .iface _ x=>x.labsBy p
def labsByL (p : Nat → Bool) : List AV → Bool
 | []=>true
 | x :: l=>x.labsBy p && labsByL p l
end
theorem labsByL_mem {p : Nat → Bool} {l : List AV} (h : labsByL p l = true) {x : AV} (hx : x ∈ l) : x.labsBy p = true:=by
 induction l with
 | nil=>cases hx
 | cons y l ih =>
  rw [labsByL,Bool.and_eq_true] at h
  rcases List.mem_cons.1 hx with rfl | hx
  ·exact h.1
  ·exact ih h.2 hx
def Blk.labsBy (p : Nat → Bool) : Blk → Bool
 | .row _ es=>es.all (labsByL p)
 | .map es=>es.all fun e=>e.2.labsBy p
 | .iter _ _=>true
theorem repA_by {σ σ' : Lab} {w : World} {I : Nat → Prop} {ρ : Nat → Nat} {p : Nat → Bool} (hp : ∀ l,p l = true → ∀ s,σ l = some s → σ' (ρ l) = some s) {u : Value} {x : AV} (h : repA σ w I u x) : x.labsBy p = true → repA σ' w I u (x.ren ρ):=by
 induction h with
 | p h=>intro _; exact .p h
 | ex hn h=>intro _; exact .ex hn h
 | vw hn hm hc h=>intro _; exact .vw hn hm hc h
 | ownE h=>intro q; exact .ownE (hp _ q _ h)
 | own h=>intro q; exact .own (hp _ q _ h)
 | cut h hm hc=>intro q; exact .cut (hp _ q _ h) hm hc
 | ptr h=>intro q; exact .ptr (hp _ q _ h)
 | map h=>intro q; exact .map (hp _ q _ h)
 | it h=>intro q; exact .it (hp _ q _ h)
 | agg hs hr ih =>
  intro q
  refine .agg (by rw [renL_length]; exact hs) fun j u y h1 h2=>?_
  rw [renL_get,Option.map_eq_some_iff] at h2
  obtain ⟨z,hz,rfl⟩:=h2
  exact ih j u z h1 hz (labsByL_mem q (List.mem_of_getElem? hz))
 | tuple hs hr ih =>
  intro q
  refine .tuple (by rw [renL_length]; exact hs) fun j u y h1 h2=>?_
  rw [renL_get,Option.map_eq_some_iff] at h2
  obtain ⟨z,hz,rfl⟩:=h2
  exact ih j u z h1 hz (labsByL_mem q (List.mem_of_getElem? hz))
 | iface t h ih=>intro q; exact .iface t (ih q)
 | fn f hs hr ih =>
  intro q
  refine .fn f (by rw [renL_length]; exact hs) fun j u y h1 h2=>?_
  rw [renL_get,Option.map_eq_some_iff] at h2
  obtain ⟨z,hz,rfl⟩:=h2
  exact ih j u z h1 hz (labsByL_mem q (List.mem_of_getElem? hz))
theorem repB_by {σ σ' : Lab} {w : World} {I : Nat → Prop} {ρ : Nat → Nat} {p : Nat → Bool} (hp : ∀ l,p l = true → ∀ s,σ l = some s → σ' (ρ l) = some s) {l : Nat} {b : Blk} (hl : p l = true) (h : repB σ w I l b) (hb : b.labsBy p = true) : repB σ' w I (ρ l) (b.ren ρ):=by
 cases h with
 | emp h=>exact .emp (hp _ hl _ h)
 | row h hg hcur hc hs ho hr =>
  rename_i g c sz cur et es
  refine .row (by rw [List.length_map]; exact hp _ hl _ h) hg hcur (by rw [List.length_map]; exact hc) (fun e he=>?_) (fun e he x hx=>?_) fun i e j x q1 q2=>?_
  ·obtain ⟨e',he',rfl⟩:=List.mem_map.1 he
   rw [renL_length]
   exact hs e' he'
  ·obtain ⟨e',he',rfl⟩:=List.mem_map.1 he
   obtain ⟨j,hj⟩:=List.getElem?_of_mem hx
   rw [renL_get,Option.map_eq_some_iff] at hj
   obtain ⟨x',hx',rfl⟩:=hj
   rw [AV.one_ren]
   exact ho e' he' x' (List.mem_of_getElem? hx')
  ·rw [List.getElem?_map,Option.map_eq_some_iff] at q1
   obtain ⟨e',he',rfl⟩:=q1
   rw [renL_get,Option.map_eq_some_iff] at q2
   obtain ⟨x',hx',rfl⟩:=q2
   obtain ⟨u,hu,hru⟩:=hr i e' j x' he' hx'
   exact ⟨u,hu,repA_by hp hru (labsByL_mem (List.all_eq_true.1 hb e' (List.mem_of_getElem? he')) (List.mem_of_getElem? hx'))⟩
 | map h hg hn hr =>
  rename_i g k ms es
  refine .map (hp _ hl _ h) hg (by rw [List.length_map]; exact hn) fun i m e q1 q2=>?_
  rw [List.getElem?_map,Option.map_eq_some_iff] at q2
  obtain ⟨e',he',rfl⟩:=q2
  obtain ⟨r1,r2⟩:=hr i m e' q1 he'
  exact ⟨r1,repA_by hp r2 (List.all_eq_true.1 hb e' (List.mem_of_getElem? he'))⟩
 | iter h hg=>exact .iter (hp _ hl _ h) hg
def DFn (P : Program) (f : FuncId) (args : List AV) (h : List (Nat × Blk)) (n : Nat) (rt : List Nat) (r : AV) (h' : List (Nat × Blk)) (m : Nat) : Prop :=
 enters P f = true ∧ ∀ (w : World) (I : Nat → Prop) (σ : Lab) (vals : Array Value),vals.size = args.length → (∀ l,n ≤ l → σ l = none) → (∀ (j : Nat) u x,vals[j]? = some u → args[j]? = some x → repA σ w I u x) →
  HOK σ w I (ofH h) w (lentX σ (ofH h)) I → tabOK w I →
  Calls P f vals w fun e w'=>∃ v σ' I',e = .returned v ∧ HOK σ' w' I' (ofH h') w (lentX σ (ofH h)) I ∧ repA σ' w' I' v r ∧ (∀ l ∈ rt,σ' l = σ l) ∧ (∀ l,n + m ≤ l → σ' l = none)
def avT : List AV → Nat → Nat → Option AV
 | [],_=>fun _=>none
 | x :: l,i=>upd (avT l (i + 1)) i (some x)
theorem avT_at : ∀ (l : List AV) (i j : Nat),avT l i j = if j < i then none else l[j - i]?:=by
 intro l
 induction l with
 | nil=>intro i j; simp [avT]
 | cons a l ih =>
  intro i j
  rw [avT]
  by_cases h : j = i
  ·subst h; rw [upd_same,if_neg (by omega),Nat.sub_self]; rfl
  ·rw [upd_ne _ _ h,ih]
   by_cases h2 : j < i
   ·rw [if_pos (by omega),if_pos h2]
   ·rw [if_neg (by omega),if_neg h2,show j - i = (j - (i + 1)) + 1 by omega,List.getElem?_cons_succ]
def resD (P : Program) (s : St) : List ResultVar → List AV → Prop
 | [],[]=>True
 | .tmp t :: r,x :: l=>s.T t = some x ∧ resD P s r l
 | .cell t ty :: r,x :: l=>loadW P ty (s.T t) s.H (fun e=>e = ⟨some x,[]⟩) ∧ resD P s r l
 | _,_=>False
def oneOrA : List AV → AV
 | [x]=>x
 | l=>.tuple l
def rootOK (s : St) (args : List AV) (h h' : List (Nat × Blk)) (pins : List Nat) (ρ : Nat → Nat) (l : Nat) : Prop :=
 (∃ j i off sz es es',j ∈ pins ∧ args[j]? = some (.ptr l i off) ∧ s.T j = some (.ptr (ρ l) i off) ∧ ofH h l = some (.row sz es) ∧ ofH h' l = some (.row sz es') ∧ es'.length = es.length ∧ 0 < sz) ∨
 (∃ j es,j ∈ pins ∧ args[j]? = some (.map l) ∧ s.T j = some (.map (ρ l)) ∧ ofH h l = some (.map es)) ∨
 (∃ (j k : Nat) (cs cs' : List AV) (sz : Nat) (es es' : List (List AV)),j ∈ pins ∧ args[j]? = some (.agg cs) ∧ cs[k]? = some (AV.own l) ∧ s.T j = some (.agg cs') ∧ cs'[k]? = some (AV.own (ρ l)) ∧ ofH h l = some (.row sz es) ∧ ofH h' l = some (.row sz es') ∧ es ≠ [] ∧ es' ≠ [])
def EndD (P : Program) (rs : Array ResultVar) (args : List AV) (h : List (Nat × Blk)) (n : Nat) (rt : List Nat) (r : AV) (h' : List (Nat × Blk)) (m : Nat) (pins : List Nat) : Exit → St → Prop
 | .normal,s | .ret,s=>∃ (ρ : Nat → Nat) (l : List AV),resD P s rs.toList l ∧ oneOrA l = r.ren ρ ∧ r.labsIn (n + m) = true ∧ (∀ x ∈ h',s.H (ρ x.1) = some (x.2.ren ρ) ∧ x.1 < n + m ∧ x.2.labsIn (n + m) = true) ∧
   (∀ x ∈ h',∀ y ∈ h',ρ x.1 = ρ y.1 → x.1 = y.1) ∧ ∀ l ∈ rt,l < n ∧ rootOK s args h h' pins ρ l
 | _,_=>False
theorem slot_kept {σ0 σ1 : Lab} {w0 w1 : World} {I0 I1 : Nat → Prop} {v : Value} {l l1 i off sz : Nat} {es es1 : List (List AV)} (h0 : repA σ0 w0 I0 v (.ptr l i off)) (h1 : repA σ1 w1 I1 v (.ptr l1 i off)) (b0 : repB σ0 w0 I0 l (.row sz es)) (b1 : repB σ1 w1 I1 l1 (.row sz es1))
  (hl : es1.length = es.length) (hz : 0 < sz) (hfr : ∀ (b : Nat) (cur : Array Value) (et : TypeId) (p : Nat × Nat),w0.heap[b]? = some (Obj.cells cur et p) → ∃ (cur' : Array Value) (et' : TypeId) (p' : Nat × Nat),w1.heap[b]? = some (Obj.cells cur' et' p') ∧ cur'.size = cur.size) : σ1 l1 = σ0 l:=by
 cases h0 with
 | ptr s0 =>
  rename_i g n c sz0
  generalize hxe : Value.pointer (some ⟨g,i * sz0 + off,none⟩) = xv at h1
  cases h1 with
  | ptr s1 =>
   rename_i g1 n1 c1 sz1
   injection hxe with hxe
   injection hxe with hxe
   injection hxe with hg _ _
   subst hg
   obtain ⟨cur0,et0,p0,e0,f0⟩:=cells_slot b0 s0
   obtain ⟨cur1,et1,p1,e1,f1⟩:=cells_slot b1 s1
   obtain ⟨cur2,et2,p2,e2,f2⟩:=hfr g cur0 et0 p0 e0
   rw [e1] at e2
   injection e2 with e2
   injection e2 with e2
   subst e2
   have n0 : n = es.length ∧ sz0 = sz:=by
    cases b0 with
    | emp h=>rw [s0] at h; cases h
    | row h=>rw [s0] at h; injection h with h; injection h with _ h2 _ h4; exact ⟨h2,h4⟩
   have n1' : n1 = es1.length ∧ sz1 = sz:=by
    cases b1 with
    | emp h=>rw [s1] at h; cases h
    | row h=>rw [s1] at h; injection h with h; injection h with _ h2 _ h4; exact ⟨h2,h4⟩
   obtain ⟨rfl,rfl⟩:=n0
   obtain ⟨rfl,rfl⟩:=n1'
   have hc : c1 = c:=Nat.eq_of_mul_eq_mul_right hz (by rw [← f1,f2,f0])
   rw [s0,s1,hc,hl]
theorem own_kept {σ0 σ1 : Lab} {w0 w1 : World} {I0 I1 : Nat → Prop} {v : Value} {l l1 sz : Nat} {es es1 : List (List AV)} (h0 : repA σ0 w0 I0 v (.own l)) (h1 : repA σ1 w1 I1 v (.own l1)) (b0 : repB σ0 w0 I0 l (.row sz es)) (b1 : repB σ1 w1 I1 l1 (.row sz es1))
  (hz : es ≠ []) (hz1 : es1 ≠ []) : σ1 l1 = σ0 l:=by
 cases b0 with
 | emp h=>exact absurd rfl hz
 | row s0 =>
  cases b1 with
  | emp h=>exact absurd rfl hz1
  | row s1 =>
   cases h0 with
   | ownE q=>rw [s0] at q; cases q
   | own q0 =>
    rw [s0] at q0
    injection q0 with q0
    injection q0 with a1 a2 a3 a4
    subst a1 a2 a3 a4
    generalize hxe : Value.slice _ _ _ = xv at h1
    cases h1 with
    | ownE q=>rw [s1] at q; cases q
    | own q1 =>
     rw [s1] at q1
     injection q1 with q1
     injection q1 with c1 c2 c3 c4
     subst c1 c2 c3 c4
     injection hxe with e1 e2 e3
     injection e1 with e1
     injection e1 with e1 _ _
     rw [s0,s1,e1,e2,e3]
theorem aggA {σ : Lab} {w : World} {I : Nat → Prop} {v : Value} {cs : List AV} (h : repA σ w I v (.agg cs)) : ∃ vs : Array Value,v = .agg vs ∧ vs.size = cs.length ∧ ∀ (j : Nat) u p,vs[j]? = some u → cs[j]? = some p → repA σ w I u p:=by
 cases h with
 | agg h hr=>exact ⟨_,rfl,h,hr⟩
theorem resD_run {nt : Fm} {w0 : World} {X I0 : Nat → Prop} {σ : Lab} {I : Nat → Prop} {s : St} {a : Act} {w : World} (tx : TabX w0 X I0) (m : Match nt w0 X I0 σ I s.T s.H a w) (hlab : σ s.nx = none) (f : ResultVar → Sem Value) (hf : ∀ t,f (.tmp t) = pure (a.tmps.getD t undef)) (hf' : ∀ t ty,f (.cell t ty) = (do loadVar ty (← asAddr (a.tmps.getD t undef)))) : ∀ (rs : List ResultVar) (l : List AV),resD P s rs l →
  ∃ vs : List Value,(rs.mapM f).run P w = .ok vs w ∧ vs.length = l.length ∧ ∀ (j : Nat) u x,vs[j]? = some u → l[j]? = some x → repA σ w I u x:=by
 intro rs
 induction rs with
 | nil =>
  intro l h
  cases l with
  | nil=>exact ⟨[],rfl,rfl,fun j u p h _=>by simp at h⟩
  | cons x l=>simp [resD] at h
 | cons r rs ih =>
  intro l h
  cases l with
  | nil=>cases r <;> simp [resD] at h
  | cons x l =>
   cases r with
   | cell t ty =>
    obtain ⟨hx,hl⟩:=h
    obtain ⟨ad,v,y,q1,q2,q3,q4⟩:=load_run (P:=P) (lab:=s.nx) (t:=ty) (x:=.tmp t) (k:=fun e=>e = ⟨some x,[]⟩) ⟨m.heap,m.tmps,hlab,tx⟩ hx
    simp only [Eff.mk.injEq,Option.some.injEq,and_true] at q4
    subst q4
    obtain ⟨vs,h1,h2,h3⟩:=ih l hl
    refine ⟨v :: vs,?_,by simp [h2],fun j u p r1 r2=>?_⟩
    ·have q1' : a.tmps.getD t undef = .pointer (some ad):=q1
     rw [List.mapM_cons,hf',q1']
     simp [asAddr,q2,h1]
    ·rcases j with _ | j
     ·simp at r1 r2; subst r1 r2; exact q3
     ·exact h3 j u p (by simpa using r1) (by simpa using r2)
   | tmp t =>
    obtain ⟨hx,hl⟩:=h
    obtain ⟨u,hu,hru⟩:=m.tmps t x hx
    obtain ⟨vs,h1,h2,h3⟩:=ih l hl
    refine ⟨u :: vs,?_,by simp [h2],fun j u' p r1 r2=>?_⟩
    ·rw [List.mapM_cons,hf]
     have : a.tmps.getD t undef = u:=by simp [Array.getD_eq_getD_getElem?,hu]
     rw [this]
     simp [h1]
    ·rcases j with _ | j
     ·simp at r1 r2; subst r1 r2; exact hru
     ·exact h3 j u' p (by simpa using r1) (by simpa using r2)
end Go.Aw
namespace Go.Aw
open Go.RowKit
variable {P : Program}
theorem DFn.of {f : FuncId} {fn : Func} {c : Code} {args : List AV} {h : List (Nat × Blk)} {n : Nat} {rt : List Nat} {r : AV} {h' : List (Nat × Blk)} {m : Nat} (pins : List Nat) (hf : P.funcs[f]? = some fn) (hb : fn.body = some c) (hn : fn.name ≠ "runtime.NumGoroutine") {nt : Nat} (hnt : fn.ntmps = nt) {rs : Array ResultVar} (hrs : fn.results = rs) (hnt' : args.length ≤ nt)
  (hpins : ∀ i ∈ pins,i < args.length) (hw : ∀ val : Nat → Value,AW P ⟨nt,pins,val⟩ c ⟨avT args 0,ofH h,n⟩ (EndD P rs args h n rt r h' m pins)) : DFn P f args h n rt r h' m:=by
 subst hnt hrs
 refine ⟨by simp [enters,hf,hb,hn],fun w I σ vals hs hσ hr hH ht=>?_⟩
 have tx : TabX w (lentX σ (ofH h)) I:=⟨ht,fun g hg=>(hH.imm g hg).1,fun g ⟨l,s,q1,q2,q3⟩=>(hH.mine l g s q1 q2 q3).1⟩
 refine calls_of_wp hf hb ?_
 have at_ : ∀ i,i < vals.size → (vals ++ Array.replicate (fn.ntmps - vals.size) undef)[i]? = vals[i]?:=fun i hi=>by rw [Array.getElem?_append_left hi]
 have mt : Matches ⟨fn.ntmps,pins,fun i=>vals.getD i undef⟩ w (lentX σ (ofH h)) I ⟨avT args 0,ofH h,n⟩ { tmps:=vals ++ Array.replicate (fn.ntmps - vals.size) undef,defers:=[] } w:=by
  refine ⟨σ,I,hσ,rfl,(by simp; omega),fun i hi=>?_,hH,fun i x hx=>?_⟩
  ·have hlt:=hpins i hi
   rw [← hs] at hlt
   simp only
   rw [at_ i hlt,Array.getD_eq_getD_getElem?,Array.getElem?_eq_getElem hlt]
   rfl
  ·simp only at hx
   rw [avT_at,if_neg (by omega),Nat.sub_zero] at hx
   have hi : i < vals.size:=by rw [hs]; exact (List.getElem?_eq_some_iff.1 hx).1
   exact ⟨vals[i],by rw [at_ i hi,Array.getElem?_eq_getElem hi],hr i _ x (Array.getElem?_eq_getElem hi) hx⟩
 refine wp_mono (hw _ w _ I _ w tx mt) ?_
 rintro e a' w' ⟨s',⟨σ',I',hn',m'⟩,q⟩
 have fin : EndD P fn.results args h n rt r h' m pins .ret s' → a'.defers = [] ∧ ∃ v,(results fn a'.tmps).run P w' = .ok v w' ∧
   ∃ v' σ'' I'',Ending.returned v = .returned v' ∧ HOK σ'' w' I'' (ofH h') w (lentX σ (ofH h)) I ∧ repA σ'' w' I'' v' r ∧ (∀ l ∈ rt,σ'' l = σ l) ∧ (∀ l,n + m ≤ l → σ'' l = none):=by
  rintro ⟨ρ,l,q1,q2,q3,q4,q5,q6⟩
  obtain ⟨vs,h1,h2,h3⟩:=resD_run (P:=P) tx m' (hn' _ (Nat.le_refl _)) (resF a'.tmps) (fun t=>rfl) (fun t ty=>rfl) fn.results.toList l q1
  have hrun : (results fn a'.tmps).run P w' = .ok (if h : vs.length = 1 then vs[0] else .tuple vs.toArray) w':=by
   rw [results_eq,show fn.results = fn.results.toList.toArray by simp,List.mapM_toArray]
   simp only [Sem.run_bind,Sem.run_map,h1,Result.andThen_ok,Sem.run_pure,List.size_toArray,List.getElem_toArray]
  have hat : ∀ l b,ofH h' l = some b → s'.H (ρ l) = some (b.ren ρ) ∧ l < n + m ∧ b.labsIn (n + m) = true:=fun l b hl=>q4 (l,b) (ofH_mem hl)
  have hv : repA σ' w' I' (if h : vs.length = 1 then vs[0] else .tuple vs.toArray) (oneOrA l):=by
   by_cases h4 : vs.length = 1
   ·rw [dif_pos h4]
    obtain ⟨p,rfl⟩ : ∃ p,l = [p]:=List.length_eq_one_iff.1 (by omega)
    exact h3 0 _ p (List.getElem?_eq_getElem (by omega)) rfl
   ·rw [dif_neg h4]
    have : oneOrA l = .tuple l:=by
     unfold oneOrA
     split
     ·exact absurd h2 h4
     ·rfl
    rw [this]
    exact .tuple (by simpa using h2) (fun j u p q1 q2=>h3 j u p (by simpa using q1) q2)
  refine ⟨m'.defers,_,hrun,_,relab ρ (n + m) σ',I',rfl,⟨fun l b hl=>?_,fun l l' g s1 s2 n1 n2 e1 e2 g1 g2=>?_,fun l g s1 n1 e1 g1=>?_,m'.heap.imm,m'.heap.sub,m'.heap.fr⟩,repA_ren hv r q2 q3,fun l hl=>?_,fun l hl=>?_⟩
  ·obtain ⟨p1,p2,p3⟩:=hat l b hl
   exact repB_ren p2 (m'.heap.rows _ _ p1) p3
  ·obtain ⟨b1,hb1⟩:=Option.ne_none_iff_exists'.1 n1
   obtain ⟨b2,hb2⟩:=Option.ne_none_iff_exists'.1 n2
   obtain ⟨p1,p2,p3⟩:=hat l b1 hb1
   obtain ⟨p1',p2',p3'⟩:=hat l' b2 hb2
   unfold relab at e1 e2
   rw [if_pos p2] at e1
   rw [if_pos p2'] at e2
   have:=m'.heap.inj (ρ l) (ρ l') g s1 s2 (by rw [p1]; simp) (by rw [p1']; simp) e1 e2 g1 g2
   exact q5 (l,b1) (ofH_mem hb1) (l',b2) (ofH_mem hb2) this
  ·obtain ⟨b1,hb1⟩:=Option.ne_none_iff_exists'.1 n1
   obtain ⟨p1,p2,p3⟩:=hat l b1 hb1
   unfold relab at e1
   rw [if_pos p2] at e1
   exact m'.heap.mine (ρ l) g s1 (by rw [p1]; simp) e1 g1
  ·obtain ⟨hln,hroot⟩:=q6 l hl
   unfold relab
   rw [if_pos (by omega)]
   have pin : ∀ j,j ∈ pins → ∀ x,s'.T j = some x → ∃ u,vals[j]? = some u ∧ repA σ' w' I' u x:=fun j hj x hx=>by
    have hp:=m'.pins j hj
    obtain ⟨u,hu,hru⟩:=m'.tmps j x hx
    rw [hp] at hu
    have hlt : j < vals.size:=by rw [hs]; exact hpins j hj
    simp only [Option.some.injEq] at hu
    rw [Array.getD_eq_getD_getElem?,Array.getElem?_eq_getElem hlt] at hu
    simp only [Option.getD_some] at hu
    subst hu
    exact ⟨_,Array.getElem?_eq_getElem hlt,hru⟩
   rcases hroot with ⟨j,i,off,sz,es,es',r1,r2,r3,r4,r5,r6,r7⟩ | ⟨j,es,r1,r2,r3,r4⟩ | ⟨j,k,cs,cs',sz,es,es',r1,r2,r3,r4,r5,r6,r7,r8,r9⟩
   ·obtain ⟨u,hu,hru⟩:=pin j r1 _ r3
    obtain ⟨p1,p2,p3⟩:=hat l _ r5
    have hu0:=hr j u _ hu r2
    have b0:=hH.rows l _ r4
    have b1:=m'.heap.rows _ _ p1
    exact slot_kept hu0 hru b0 b1 (by rw [List.length_map]; exact r6) r7 m'.heap.fr.shape
   ·obtain ⟨u,hu,hru⟩:=pin j r1 _ r3
    have hu0:=hr j u _ hu r2
    cases hu0 with
    | map s0 =>
     cases hru with
     | map s1=>rw [s0,s1]
   ·obtain ⟨u,hu,hru⟩:=pin j r1 _ r4
    obtain ⟨p1,p2,p3⟩:=hat l _ r7
    have hu0:=hr j u _ hu r2
    have b0:=hH.rows l _ r6
    have b1:=m'.heap.rows _ _ p1
    obtain ⟨vs,rfl,z1,z2⟩:=aggA hu0
    obtain ⟨vs',e',z3,z4⟩:=aggA hru
    injection e' with e'
    subst e'
    have hk : k < vs.size:=by rw [z1]; exact (List.getElem?_eq_some_iff.1 r3).1
    have y0:=z2 k _ _ (Array.getElem?_eq_getElem hk) r3
    have y1:=z4 k _ _ (Array.getElem?_eq_getElem hk) r5
    exact own_kept y0 y1 b0 b1 r8 (by simpa using r9)
  ·unfold relab
   rw [if_neg (by omega)]
 cases e with
 | normal=>exact fin q
 | ret=>exact fin q
 | exit _=>exact q.elim
 | goto _=>exact q.elim
 | panic _=>exact q.elim
 | outgrown=>exact q.elim
def argD (T : Nat → Option AV) (ρ : Nat → Nat) : List Operand → List AV → Prop
 | [],[]=>True
 | x :: xs,.p p :: ys=>(match ev T x with | some v=>pureA v = some p | none=>False) ∧ argD T ρ xs ys
 | x :: xs,y :: ys=>ev T x = some (y.ren ρ) ∧ argD T ρ xs ys
 | _,_=>False
theorem argD_spec {T : Nat → Option AV} {ρ : Nat → Nat} : ∀ {xs : List Operand} {ys : List AV},argD T ρ xs ys → xs.length = ys.length ∧ ∀ (j : Nat) x y,xs[j]? = some x → ys[j]? = some y → (∃ p v,y = .p p ∧ ev T x = some v ∧ pureA v = some p) ∨ ev T x = some (y.ren ρ):=by
 intro xs
 induction xs with
 | nil =>
  intro ys h
  cases ys with
  | nil=>exact ⟨rfl,fun j x y h=>by simp at h⟩
  | cons y ys=>simp [argD] at h
 | cons x xs ih =>
  intro ys h
  cases ys with
  | nil=>simp [argD] at h
  | cons y ys =>
   have main : argD T ρ xs ys → ((∃ p v,y = .p p ∧ ev T x = some v ∧ pureA v = some p) ∨ ev T x = some (y.ren ρ)) → (x :: xs).length = (y :: ys).length ∧ ∀ (j : Nat) x' y',(x :: xs)[j]? = some x' → (y :: ys)[j]? = some y' → (∃ p v,y' = .p p ∧ ev T x' = some v ∧ pureA v = some p) ∨ ev T x' = some (y'.ren ρ):=by
    intro h1 h2
    obtain ⟨q1,q2⟩:=ih h1
    refine ⟨by simp [q1],fun j x' y' e1 e2=>?_⟩
    cases j with
    | zero=>simp at e1 e2; subst e1 e2; exact h2
    | succ j=>exact q2 j x' y' (by simpa using e1) (by simpa using e2)
   cases y with
   | p p =>
    simp only [argD] at h
    obtain ⟨h1,h2⟩:=h
    split at h1
    ·rename_i v hv
     exact main h2 (.inl ⟨p,v,rfl,hv,h1⟩)
    ·exact h1.elim
   | _=>exact main h.2 (.inr h.1)
def lift2 (ρ : Nat → Nat) (n nx : Nat) (l : Nat) : Nat:=if l < n then ρ l else nx + (l - n)
def goneU (ρ : Nat → Nat) (h : List (Nat × Blk)) : List (Nat × Option Blk):=h.map fun x=>(ρ x.1,none)
def newU (ρ : Nat → Nat) (h : List (Nat × Blk)) : List (Nat × Option Blk):=h.map fun x=>(ρ x.1,some (x.2.ren ρ))
theorem putH_gone (ρ : Nat → Nat) (l : Nat) : ∀ (h : List (Nat × Blk)) (H : Nat → Option Blk),(putH H (goneU ρ h) l = H l ∧ ∀ x ∈ h,ρ x.1 ≠ l) ∨ (putH H (goneU ρ h) l = none ∧ ∃ x ∈ h,ρ x.1 = l)
 | [],H=>.inl ⟨rfl,fun x hx=>by cases hx⟩
 | x :: h,H=>by
  have e : putH H (goneU ρ (x :: h)) = putH (upd H (ρ x.1) none) (goneU ρ h):=rfl
  rw [e]
  rcases putH_gone ρ l h (upd H (ρ x.1) none) with ⟨h1,h2⟩ | ⟨h1,y,hy,h2⟩
  ·by_cases hl : ρ x.1 = l
   ·right
    refine ⟨?_,x,List.mem_cons_self,hl⟩
    rw [h1,hl,upd_same]
   ·left
    refine ⟨by rw [h1,upd_ne _ _ (fun h=>hl h.symm)],fun y hy=>?_⟩
    rcases List.mem_cons.1 hy with rfl | hy
    ·exact hl
    ·exact h2 y hy
  ·exact .inr ⟨h1,y,List.mem_cons_of_mem _ hy,h2⟩
theorem putH_new (ρ : Nat → Nat) (l : Nat) : ∀ (h : List (Nat × Blk)) (H : Nat → Option Blk),(putH H (newU ρ h) l = H l ∧ ∀ x ∈ h,ρ x.1 ≠ l) ∨ (∃ x ∈ h,ρ x.1 = l ∧ putH H (newU ρ h) l = some (x.2.ren ρ))
 | [],H=>.inl ⟨rfl,fun x hx=>by cases hx⟩
 | x :: h,H=>by
  have e : putH H (newU ρ (x :: h)) = putH (upd H (ρ x.1) (some (x.2.ren ρ))) (newU ρ h):=rfl
  rw [e]
  rcases putH_new ρ l h (upd H (ρ x.1) (some (x.2.ren ρ))) with ⟨h1,h2⟩ | ⟨y,hy,h1,h2⟩
  ·by_cases hl : ρ x.1 = l
   ·right
    refine ⟨x,List.mem_cons_self,hl,?_⟩
    rw [h1,← hl,upd_same]
   ·left
    refine ⟨by rw [h1,upd_ne _ _ (fun h=>hl h.symm)],fun y hy=>?_⟩
    rcases List.mem_cons.1 hy with rfl | hy
    ·exact hl
    ·exact h2 y hy
  ·exact .inr ⟨y,List.mem_cons_of_mem _ hy,h1,h2⟩
def distinct : List Nat → Bool
 | []=>true
 | x :: l=>!l.contains x && distinct l
theorem ofH_of_mem : ∀ {h : List (Nat × Blk)} {x : Nat × Blk},distinct (h.map (·.1)) = true → x ∈ h → ofH h x.1 = some x.2
 | [],_,_,h=>by cases h
 | y :: h,x,hd,hx=>by
  simp only [List.map_cons,distinct,Bool.and_eq_true,Bool.not_eq_true'] at hd
  obtain ⟨a,b⟩:=y
  rcases List.mem_cons.1 hx with rfl | hx'
  ·simp [ofH]
  ·have : x.1 ≠ a:=by
    intro e
    have : (h.map (·.1)).contains a = true:=by
     rw [List.contains_iff_mem]
     exact List.mem_map.2 ⟨x,hx',e⟩
    rw [this] at hd
    cases hd.1
   simp only [ofH,if_neg this]
   exact ofH_of_mem hd.2 hx'
structure FitD (s : St) (xs : List Operand) (args : List AV) (h : List (Nat × Blk)) (n : Nat) (rt : List Nat) (r : AV) (h' : List (Nat × Blk)) (ρ : Nat → Nat) : Prop where
 opd : argD s.T ρ xs args
 labs : args.all (fun y=>y.labsIn n) = true
 here : ∀ x ∈ h,s.H (ρ x.1) = some (x.2.ren ρ) ∧ x.1 < n ∧ x.2.labsIn n = true
 inj : distinct (h.map fun x=>ρ x.1) = true
 dist : distinct (h.map (·.1)) = true
 dist' : distinct (h'.map (·.1)) = true
 roots : rt.all (fun l=>(h.map (·.1)).contains l) = true
 res : r.labsBy (fun l=>rt.contains l || decide (n ≤ l)) = true
 mem : h'.all (fun x=>(rt.contains x.1 || decide (n ≤ x.1)) && x.2.labsBy (fun l=>rt.contains l || decide (n ≤ l))) = true
theorem distinct_inj {ρ : Nat → Nat} : ∀ {h : List (Nat × Blk)},distinct (h.map fun x=>ρ x.1) = true → ∀ x ∈ h,∀ y ∈ h,ρ x.1 = ρ y.1 → x = y
 | [],_,x,hx,_,_,_=>by cases hx
 | z :: h,hd,x,hx,y,hy,e=>by
  simp only [List.map_cons,distinct,Bool.and_eq_true,Bool.not_eq_true'] at hd
  have no : ∀ v ∈ h,ρ v.1 ≠ ρ z.1:=fun v hv e=>by
   have : (h.map fun x=>ρ x.1).contains (ρ z.1) = true:=by
    rw [List.contains_iff_mem]
    exact List.mem_map.2 ⟨v,hv,e⟩
   rw [this] at hd
   cases hd.1
  rcases List.mem_cons.1 hx with hx' | hx'
  ·rcases List.mem_cons.1 hy with hy' | hy'
   ·rw [hx',hy']
   ·rw [hx'] at e
    exact absurd e.symm (no y hy')
  ·rcases List.mem_cons.1 hy with hy' | hy'
   ·rw [hy'] at e
    exact absurd e (no x hx')
   ·exact distinct_inj hd.2 x hx' y hy' e
theorem callD_fn {nt : Fm} {s : St} {K : St → Prop} {o : Oper} {f : FuncId} {xs : Array Operand} {ts : Array TypeId} {args : List AV} {h : List (Nat × Blk)} {n : Nat} {rt : List Nat} {r : AV} {h' : List (Nat × Blk)} {m : Nat} (ρ : Nat → Nat)
  (ho : o.op = .call { callee:=.value (.func f),args:=xs,argTypes:=ts }) (hd : dstOK nt o = true) (D : DFn P f args h n rt r h' m) (F : FitD s xs.toList args h n rt r h' ρ)
  (hk : K ⟨putT s.T o.dst (some (r.ren (lift2 ρ n s.nx))),putH (putH s.H (goneU ρ h)) (newU (lift2 ρ n s.nx) h'),s.nx + m⟩) : CallD P nt o s K:=by
 obtain ⟨hen,hp⟩:=D
 intro w0 X I0 a w next Q tx ⟨σ,I,hn,mm⟩ hnext
 have IN : In σ w I s.T s.H w0 X I0 a s.nx:=⟨mm.heap,mm.tmps,hn _ (Nat.le_refl _),tx⟩
 have hrun : (execOp a.eval o).run P w = .ok (.enter f (xs.map a.eval)) w:=by
  have he : a.eval (.func f) = .func (.func f) #[] #[]:=rfl
  simp only [execOp,ho,resolve,he,Deferred.ofValue,Sem.run_bind,Sem.run_pure,Result.andThen_ok,invoke,Array.append_empty,Array.empty_append,run_enter hen]
 obtain ⟨p1,p2⟩:=argD_spec F.opd
 have here : ∀ l b,ofH h l = some b → s.H (ρ l) = some (b.ren ρ) ∧ l < n ∧ b.labsIn n = true:=fun l b hl=>F.here (l,b) (ofH_mem hl)
 have inj : ∀ l l' b b',ofH h l = some b → ofH h l' = some b' → ρ l = ρ l' → l = l':=fun l l' b b' h1 h2 e=>by
  have:=distinct_inj F.inj (l,b) (ofH_mem h1) (l',b') (ofH_mem h2) e
  injection this
 generalize hσc : relab ρ n σ = σc
 have σat : ∀ l,l < n → σc l = σ (ρ l):=fun l hl=>by rw [← hσc]; unfold relab; rw [if_pos hl]
 have σno : ∀ l,n ≤ l → σc l = none:=fun l hl=>by rw [← hσc]; unfold relab; rw [if_neg (by omega)]
 have Xof : ∀ g,lentX σc (ofH h) g → ∃ l b sl,ofH h l = some b ∧ s.H (ρ l) = some (b.ren ρ) ∧ σ (ρ l) = some sl ∧ sl.block = some g:=fun g ⟨l,sl,q1,q2,q3⟩=>by
  obtain ⟨b,hb⟩:=Option.ne_none_iff_exists'.1 q1
  obtain ⟨r1,r2,_⟩:=here l b hb
  exact ⟨l,b,sl,hb,r1,by rw [← σat l r2]; exact q2,q3⟩
 have hH : HOK σc w I (ofH h) w (lentX σc (ofH h)) I:=by
  refine ⟨fun l b hl=>?_,fun l l' g s1 s2 n1 n2 e1 e2 g1 g2=>?_,fun l g s1 n1 e1 g1=>?_,fun g hg=>⟨(mm.heap.imm g hg).1,.inl hg⟩,fun _ h=>h,Fr.refl _ _⟩
  ·obtain ⟨r1,r2,r3⟩:=here l b hl
   rw [← hσc]
   exact repB_ren r2 (mm.heap.rows _ _ r1) r3
  ·obtain ⟨b1,hb1⟩:=Option.ne_none_iff_exists'.1 n1
   obtain ⟨b2,hb2⟩:=Option.ne_none_iff_exists'.1 n2
   obtain ⟨r1,r2,_⟩:=here l b1 hb1
   obtain ⟨r1',r2',_⟩:=here l' b2 hb2
   rw [σat l r2] at e1
   rw [σat l' r2'] at e2
   exact inj l l' b1 b2 hb1 hb2 (mm.heap.inj _ _ g s1 s2 (by rw [r1]; simp) (by rw [r1']; simp) e1 e2 g1 g2)
  ·obtain ⟨b1,hb1⟩:=Option.ne_none_iff_exists'.1 n1
   obtain ⟨r1,r2,_⟩:=here l b1 hb1
   refine ⟨?_,.inl ⟨l,s1,n1,e1,g1⟩⟩
   rw [σat l r2] at e1
   exact (mm.heap.mine _ g s1 (by rw [r1]; simp) e1 g1).1
 have hargs:=hp w I σc (xs.map a.eval) (by simpa using p1) σno (fun j u y q1 q2=>by
  rw [Array.getElem?_map,Option.map_eq_some_iff] at q1
  obtain ⟨x,hx,rfl⟩:=q1
  have hlab : y.labsIn n = true:=List.all_eq_true.1 F.labs y (List.mem_of_getElem? q2)
  rcases p2 j x y (by simpa using hx) q2 with ⟨p,v,rfl,hv,hpv⟩ | hv
  ·exact .p (rep_pureA (IN.ev hv) hpv)
  ·rw [← hσc]
   exact repA_ren (IN.ev hv) y rfl hlab) hH IN.tabs
 unfold Oper.wp
 rw [hrun,Oper.upon_enter]
 refine hargs.mono fun e w' he=>?_
 obtain ⟨v,σ',I',rfl,hh,hrv,hroot,hnew⟩:=he
 -- the caller's labels behind the call
 obtain ⟨σ2,hσ2⟩ : ∃ σ2 : Lab,∀ l,σ2 l = if l < s.nx then σ l else σ' (n + (l - s.nx)):=⟨fun l=>if l < s.nx then σ l else σ' (n + (l - s.nx)),fun _=>rfl⟩
 have old : ∀ l sl,σ l = some sl → σ2 l = some sl:=fun l sl hl=>by
  rw [hσ2]
  rcases Nat.lt_or_ge l s.nx with q | q
  ·rw [if_pos q]; exact hl
  ·rw [hn l q] at hl; cases hl
 have new : ∀ l,(rt.contains l || decide (n ≤ l)) = true → ∀ sl,σ' l = some sl → σ2 (lift2 ρ n s.nx l) = some sl:=fun l hl sl hs=>by
  unfold lift2
  rcases Nat.lt_or_ge l n with q | q
  ·rw [if_pos q]
   have hm : l ∈ rt:=by
    rcases Bool.or_eq_true_iff.1 hl with hl | hl
    ·exact List.contains_iff_mem.1 hl
    ·simp at hl; omega
   rw [hroot l hm,σat l q] at hs
   exact old _ _ hs
  ·rw [if_neg (by omega),hσ2,if_neg (by omega),show n + (s.nx + (l - n) - s.nx) = l by omega]
   exact hs
 have blk : ∀ l g sl,s.H l ≠ none → σ l = some sl → sl.block = some g → g < w.heap.size:=fun l g sl hn hs hg=>by
  obtain ⟨b,hb⟩:=Option.ne_none_iff_exists'.1 hn
  obtain ⟨s',hs',hlt⟩:=(mm.heap.rows l b hb).block
  rw [hs] at hs'; injection hs' with hs'; subst hs'
  exact hlt g hg
 have Xmine : ∀ g,lentX σc (ofH h) g → ¬ I g ∧ (X g ∨ w0.heap.size ≤ g) ∧ g < w.heap.size:=fun g hg=>by
  obtain ⟨l,b,sl,q1,q2,q3,q4⟩:=Xof g hg
  obtain ⟨m1,m2⟩:=mm.heap.mine _ g sl (by rw [q2]; simp) q3 q4
  exact ⟨m1,m2,blk _ g sl (by rw [q2]; simp) q3 q4⟩
 have same : ∀ b,I b → w'.heap[b]? = w.heap[b]?:=fun b hb=>hh.fr.block b (mm.heap.imm b hb).1 fun hx=>(Xmine b hx).1 hb
 have hI : ∀ g,I g → I' g:=hh.sub
 have fresh : ∀ g,I' g → I g ∨ lentX σc (ofH h) g ∨ w.heap.size ≤ g:=fun g hg=>(hh.imm g hg).2
 have frame : ∀ l b,s.H l = some b → (∀ x ∈ h,ρ x.1 ≠ l) → ∀ g sl,σ l = some sl → sl.block = some g → ¬ lentX σc (ofH h) g:=fun l b hl hno g sl hs hg hx=>by
  obtain ⟨l2,b2,sl2,q1,q2,q3,q4⟩:=Xof g hx
  exact hno (l2,b2) (ofH_mem q1) (mm.heap.inj _ _ g sl2 sl (by rw [q2]; simp) (by rw [hl]; simp) q3 hs q4 hg)
 -- what stands where
 have cls : ∀ l b,putH (putH s.H (goneU ρ h)) (newU (lift2 ρ n s.nx) h') l = some b → (∃ x ∈ h',lift2 ρ n s.nx x.1 = l ∧ b = x.2.ren (lift2 ρ n s.nx)) ∨ (s.H l = some b ∧ (∀ x ∈ h,ρ x.1 ≠ l)):=fun l b hl=>by
  rcases putH_new (lift2 ρ n s.nx) l h' (putH s.H (goneU ρ h)) with ⟨e1,e2⟩ | ⟨x,hx,e1,e2⟩
  ·rw [e1] at hl
   rcases putH_gone ρ l h s.H with ⟨e3,e4⟩ | ⟨e3,_⟩
   ·rw [e3] at hl; exact .inr ⟨hl,e4⟩
   ·rw [e3] at hl; cases hl
  ·rw [e2] at hl
   injection hl with hl
   exact .inl ⟨x,hx,e1,hl.symm⟩
 have mem' : ∀ x ∈ h',(rt.contains x.1 || decide (n ≤ x.1)) = true ∧ x.2.labsBy (fun l=>rt.contains l || decide (n ≤ l)) = true:=fun x hx=>by
  have:=List.all_eq_true.1 F.mem x hx
  rwa [Bool.and_eq_true] at this
 have inv : ∀ l,(rt.contains l || decide (n ≤ l)) = true → ∀ sl,σ2 (lift2 ρ n s.nx l) = some sl → σ' l = some sl:=fun l hl sl hs=>by
  unfold lift2 at hs
  rcases Nat.lt_or_ge l n with q | q
  ·rw [if_pos q] at hs
   have hm : l ∈ rt:=by
    rcases Bool.or_eq_true_iff.1 hl with hl | hl
    ·exact List.contains_iff_mem.1 hl
    ·simp at hl; omega
   rw [hroot l hm,σat l q]
   have hc:=List.contains_iff_mem.1 (List.all_eq_true.1 F.roots l hm)
   obtain ⟨x,hx,hxl⟩:=List.mem_map.1 hc
   obtain ⟨r1,r2,_⟩:=F.here x hx
   have hlt : ρ l < s.nx:=by
    rcases Nat.lt_or_ge (ρ l) s.nx with z | z
    ·exact z
    ·obtain ⟨sl',hsl',_⟩:=(mm.heap.rows _ _ r1).block
     rw [hxl,hn _ z] at hsl'; cases hsl'
   rw [hσ2,if_pos hlt] at hs
   exact hs
  ·rw [if_neg (by omega),hσ2,if_neg (by omega),show n + (s.nx + (l - n) - s.nx) = l by omega] at hs
   exact hs
 have OK : HOK σ2 w' I' (putH (putH s.H (goneU ρ h)) (newU (lift2 ρ n s.nx) h')) w0 X I0:=by
  have rowN : ∀ x ∈ h',repB σ' w' I' x.1 x.2:=fun x hx=>hh.rows x.1 x.2 (ofH_of_mem F.dist' hx)
  have neN : ∀ x ∈ h',ofH h' x.1 ≠ none:=fun x hx=>by rw [ofH_of_mem F.dist' hx]; simp
  have slotF : ∀ l b sl,s.H l = some b → σ2 l = some sl → σ l = some sl:=fun l b sl hl hs=>by
   obtain ⟨sl',hsl',_⟩:=(mm.heap.rows l b hl).block
   rw [old l sl' hsl'] at hs
   rw [hsl']; exact hs
  refine ⟨fun l b hl=>?_,fun l1 l2 g s1 s2 n1 n2 e1 e2 g1 g2=>?_,fun l g sl n1 e1 g1=>?_,fun g hg=>?_,fun g hg=>hh.sub g (mm.heap.sub g hg),⟨hh.fr.os.trans mm.heap.fr.os,hh.fr.tape.trans mm.heap.fr.tape,hh.fr.output.trans mm.heap.fr.output,Nat.le_trans mm.heap.fr.size hh.fr.size,fun b hb hx=>?_,mm.heap.fr.step fun b cur et p hb hc=>hh.fr.shape b cur et p hc⟩⟩
  ·rcases cls l b hl with ⟨x,hx,rfl,rfl⟩ | ⟨hl',hno⟩
   ·exact repB_by new (mem' x hx).1 (rowN x hx) (mem' x hx).2
   ·obtain ⟨sl,hsl,hlt⟩:=(mm.heap.rows l b hl').block
    refine (mm.heap.rows l b hl').mono old hI same fun g s' q1 q2=>?_
    rw [hsl] at q1; injection q1 with q1; subst q1
    exact hh.fr.block g (hlt g q2) (frame l b hl' hno g _ hsl q2)
  ·obtain ⟨b1,hb1⟩:=Option.ne_none_iff_exists'.1 n1
   obtain ⟨b2,hb2⟩:=Option.ne_none_iff_exists'.1 n2
   rcases cls l1 b1 hb1 with ⟨x,hx,rfl,rfl⟩ | ⟨h1,no1⟩
   ·have f1:=inv x.1 (mem' x hx).1 s1 e1
    rcases cls l2 b2 hb2 with ⟨y,hy,rfl,rfl⟩ | ⟨h2,no2⟩
    ·have f2:=inv y.1 (mem' y hy).1 s2 e2
     rw [hh.inj x.1 y.1 g s1 s2 (neN x hx) (neN y hy) f1 f2 g1 g2]
    ·exfalso
     have f2:=slotF l2 b2 s2 h2 e2
     rcases (hh.mine x.1 g s1 (neN x hx) f1 g1).2 with q | q
     ·exact frame l2 b2 h2 no2 g s2 f2 g2 q
     ·have:=blk l2 g s2 (by rw [h2]; simp) f2 g2; omega
   ·have f1:=slotF l1 b1 s1 h1 e1
    rcases cls l2 b2 hb2 with ⟨y,hy,rfl,rfl⟩ | ⟨h2,no2⟩
    ·exfalso
     have f2:=inv y.1 (mem' y hy).1 s2 e2
     rcases (hh.mine y.1 g s2 (neN y hy) f2 g2).2 with q | q
     ·exact frame l1 b1 h1 no1 g s1 f1 g1 q
     ·have:=blk l1 g s1 (by rw [h1]; simp) f1 g1; omega
    ·exact mm.heap.inj l1 l2 g s1 s2 (by rw [h1]; simp) (by rw [h2]; simp) f1 (slotF l2 b2 s2 h2 e2) g1 g2
  ·obtain ⟨b1,hb1⟩:=Option.ne_none_iff_exists'.1 n1
   rcases cls l b1 hb1 with ⟨x,hx,rfl,rfl⟩ | ⟨h1,no1⟩
   ·have f1:=inv x.1 (mem' x hx).1 sl e1
    obtain ⟨m1,m2⟩:=hh.mine x.1 g sl (neN x hx) f1 g1
    refine ⟨m1,?_⟩
    rcases m2 with q | q
    ·exact (Xmine g q).2.1
    ·exact .inr (Nat.le_trans mm.heap.fr.size q)
   ·have f1:=slotF l b1 sl h1 e1
    obtain ⟨m1,m2⟩:=mm.heap.mine l g sl (by rw [h1]; simp) f1 g1
    refine ⟨fun hg=>?_,m2⟩
    rcases fresh g hg with q | q | q
    ·exact m1 q
    ·exact frame l b1 h1 no1 g sl f1 g1 q
    ·have:=blk l g sl (by rw [h1]; simp) f1 g1; omega
  ·refine ⟨(hh.imm g hg).1,?_⟩
   rcases fresh g hg with q | q | q
   ·exact (mm.heap.imm g q).2
   ·exact .inr (Xmine g q).2.1
   ·exact .inr (.inr (Nat.le_trans mm.heap.fr.size q))
  ·rw [hh.fr.block b (by have:=mm.heap.fr.size; omega) fun hx'=>?_]
   ·exact mm.heap.fr.block b hb hx
   ·rcases (Xmine b hx').2.1 with q | q
    ·exact hx q
    ·omega
 refine hnext ⟨putT s.T o.dst (some (r.ren (lift2 ρ n s.nx))),_,s.nx + m⟩ _ w' ⟨σ2,I',fun l hl=>?_,mm.put hd OK old hI same fun y hy=>by injection hy with hy; subst hy; exact repA_by new hrv F.res⟩ hk
 simp only at hl
 rw [hσ2,if_neg (by omega)]
 exact hnew _ (by omega)
end Go.Aw
namespace Go.Aw
open Go.Proofs Go.RowKit
theorem SeqR.call {P : Program} {nt : Fm} {s : St} {ops : Array Oper} {i : Nat} {K : St → Prop} {d : Tmp} {f : FuncId} {xs : Array Operand} {ts : Array TypeId} {ty : TypeId} {ps : String} {af : Array Edge} {args : List AV} {h : List (Nat × Blk)} {n : Nat} {rt : List Nat} {r : AV} {h' : List (Nat × Blk)} {m : Nat} (ρ : Nat → Nat)
  (ho : ops[i]? = some ⟨some d,.call { callee:=.value (.func f),args:=xs,argTypes:=ts },ty,ps,af,none⟩) (hd : dstOK nt ⟨some d,.call { callee:=.value (.func f),args:=xs,argTypes:=ts },ty,ps,af,none⟩ = true) (D : DFn P f args h n rt r h' m) (F : FitD s xs.toList args h n rt r h' ρ)
  (hk : SeqR P nt ops (i + 1) ⟨upd s.T d (some (r.ren (lift2 ρ n s.nx))),putH (putH s.H (goneU ρ h)) (newU (lift2 ρ n s.nx) h'),s.nx + m⟩ K) : SeqR P nt ops i s K :=
 SeqR.op ho rfl (callD_fn ρ rfl hd D F hk)
theorem labsBy_lift {p : Nat → Bool} {sz : Nat} {es : List (List PV)} : (Blk.row sz (liftE es)).labsBy p = true:=by
 have : ∀ l : List PV,labsByL p (l.map AV.p) = true:=fun l=>by
  induction l with
  | nil=>rfl
  | cons a l ih=>rw [List.map_cons,labsByL,ih]; rfl
 simp only [Blk.labsBy,liftE,List.all_map,List.all_eq_true]
 intro e _
 exact this e
end Go.Aw
namespace Go.Aw
open Go.Proofs Go.RowKit
def addP (l : List Pr) (p : Pr) : List Pr:=if l.contains p = true then l else l ++ [p]
end Go.Aw
namespace Go.Aw
open Go.Proofs Go.RowKit
def fOf (m : Ms) (t : Int) : Fd × Bool:=firstP (fun x=>x.tag == t) zFd m.fields
end Go.Aw
namespace Go.Aw
open Go.Proofs Go.RowKit
theorem rep_pr8 {w : World} {I : Nat → Prop} {u : Value} {r : Pr} (h : rep w I u (.agg (encPr r))) : u = .agg #[.string ⟨⟨r.o⟩⟩,.string ⟨⟨r.n⟩⟩]:=by
 cases h with
 | agg hs hr =>
 rename_i vs
 have hsz : vs.size = 2:=by rw [hs]; rfl
 have h0:=hr 0 _ _ (Array.getElem?_eq_getElem (by omega)) rfl
 have h1:=hr 1 _ _ (Array.getElem?_eq_getElem (by omega)) rfl
 generalize e0 : vs[0] = v0 at h0
 generalize e1 : vs[1] = v1 at h1
 cases h0; cases h1
 congr 1
 apply Array.ext
 ·rw [hsz]; rfl
 ·intro i hi hi'
  have : i < 2:=by simpa using hi'
  match i,this with
  | 0,_=>exact e0
  | 1,_=>exact e1
theorem eq118 (x y : Pr) (w : World) : (Op.equalIn 10000 92 (.agg #[.string ⟨⟨x.o⟩⟩,.string ⟨⟨x.n⟩⟩]) (.agg #[.string ⟨⟨y.o⟩⟩,.string ⟨⟨y.n⟩⟩])).run Tryz.prog w = .ok (decide (x = y)) w:=by
 have u3:=Tryz.underlying3
 have u9:=Tryz.underlying9
 have a3:=Tryz.isAgg3
 have a9:=Tryz.isAgg9
 have z3:=Tryz.sizeOf3
 have z9:=Tryz.sizeOf9
 have hS : Tryz.prog.underlying 92 = some (.struct (Tryz.prog.fieldsOf 92)):=by kernel_rfl
 have hp : Tryz.prog.stoodInHeld 92 = false:=by kernel_rfl
 rw [show (10000 : Nat) = 9999 + 1 from rfl,run_equalIn_agg w 9999 92 _ _ hS hp]
 simp only [Program.fieldsOf,Tryz.underlying92]
 go_simp
 obtain ⟨a0,a1⟩:=x
 obtain ⟨b0,b1⟩:=y
 simp only [Pr.mk.injEq]
 by_cases h0 : a0 = b0 <;> by_cases h1 : a1 = b1 <;> simp [h0,h1]
theorem eqP_pr8 (x y : Pr) : EqP Tryz.prog 92 (.agg (encPr x)) (.agg (encPr y)) (decide (x = y)):=by
 intro w I u v hu hv
 rw [rep_pr8 hu,rep_pr8 hv]
 refine ⟨?_,?_,fun op a b=>run_eqGuard_agg _ op 92 a b _ _ (by kernel_rfl)⟩
 ·rw [run_eql_struct,eq118]; rfl
 ·rw [run_neq_struct,eq118]; rfl
def raS (l : List Pr) (p : Pr) (i : Nat) : St:=⟨ofL [(0,.own 0),(3,.ptr 1 0 0),(5,.p (.int .i64 (i : Int)))],ofH [(0,.row 2 (liftE (l.map encPr))),(1,.row 2 [[.p (.str p.o),.p (.str p.n)]])],2⟩
theorem raEnd {l : List Pr} {args : List AV} {h : List (Nat × Blk)} {s : St} (X : Nat) (h1 : s.T 4 = some (.own X)) (h2 : s.H X = some (.row 2 (liftE (l.map encPr)))) :
  EndD Tryz.prog #[.tmp 4] args h 1 [] (.own 1) [(1,.row 2 (liftE (l.map encPr)))] 1 [] .ret s:=by
 refine ⟨fun _=>X,[.own X],⟨h1,trivial⟩,rfl,rfl,?_,?_,?_⟩
 ·simp -implicitDefEqProofs only [go_sem,Nat.reduceAdd,List.forall_mem_cons,List.not_mem_nil,false_implies,implies_true,h2]
  first | done | decide
 ·simp
 ·simp
theorem ref14_Add (l : List Pr) (p : Pr) (hl : l.length ≤ 1000000) : DFn Tryz.prog 29 [.own 0,.p (.agg (encPr p))] [(0,.row 2 (liftE (l.map encPr)))] 1 [] (.own 1) [(1,.row 2 (liftE ((addP l p).map encPr)))] 1:=by
 refine DFn.of [] Tryz.func29 rfl (by decide) Tryz.ntmps29 Tryz.results29 (Nat.le_of_ble_eq_true rfl) (by simp) fun val=>?_
 simp only [avT,encPr]
 have li : (liftE (l.map encPr)).length = l.length:=by rw [liftE_length,List.length_map]
 try simp only [encPr] at li
 refine AW.rT (by rfl) fun K hK=>?_
 simp -implicitDefEqProofs only [go_sem,↓reduceIte,Nat.reduceAdd]
 apply hK;clear hK K
 refine AW.seq ?_
 refine AW.rT (by rfl) fun K hK=>?_
 simp -implicitDefEqProofs only [go_sem,Nat.reduceAdd]
 apply hK;clear hK K
 refine AW.block ?_
 refine AW.loop (raS l p) (fun i=>i ≤ l.length ∧ (l.take i).all (fun x=>!(x == p)) = true) (fun i=>l.length - i) 0 ?_ (by simp) fun i hi=>?_
 ·simp only [raS]
  refine Ghost.sub ?_ ?_ <;> simp -implicitDefEqProofs only [go_sem,↓reduceIte,Nat.reduceEqDiff,reduceCtorEq,List.forall_mem_cons,List.not_mem_nil,false_implies,implies_true,and_self,labsIn_lift,List.all_cons,List.all_nil,Nat.reduceLT,labsInL,AV.labsIn]
  all_goals first | rfl | decide | skip
 obtain ⟨i1,i2⟩:=hi
 simp only [raS]
 refine AW.seq ?_
 by_cases hil : i < l.length
 case neg =>
  have hc1 : ((i : Int) < (l.length : Int)) = False:=eq_false (by omega)
  rw [List.take_of_length_le (by omega)] at i2
  have e : addP l p = l ++ [p]:=by
   unfold addP
   rw [if_neg]
   rw [Bool.not_eq_true,contains_any,List.any_eq_false]
   intro x hx
   have:=List.all_eq_true.1 i2 x hx
   simp at this ⊢
   intro e
   exact this e.symm
  refine AW.rT (by rfl) fun K hK=>?_
  simp -implicitDefEqProofs only [go_sem,↓reduceIte,Nat.reduceAdd,Nat.reduceEqDiff,reduceCtorEq,hc1,liftE_length,List.length_map]
  apply hK;clear hK K
  refine AW.cF rfl ?_
  refine AW.exit ?_
  simp only [andThen,inBlk,↓reduceIte]
  refine AW.rT (by rfl) fun K hK=>?_
  simp -implicitDefEqProofs only [go_sem,↓reduceIte,Nat.reduceAdd,Nat.reduceMul,Nat.reduceEqDiff,Nat.reduceLeDiff,reduceCtorEq]
  refine ⟨⟨by simp,by simp [oneAll,AV.one,PV.one],by simp⟩,by simp [liftE_length]; omega,?_⟩
  apply hK;clear hK K
  refine AW.ret (raEnd 9 ?_ ?_)
  ·simp -implicitDefEqProofs only [go_sem]
  ·rw [e]
   simp -implicitDefEqProofs only [go_sem,encPr,List.map_append,liftE_append,liftE_cons,liftE_nil]
 obtain ⟨x,hx⟩ : ∃ x,l[i]? = some x:=⟨_,List.getElem?_eq_getElem hil⟩
 have g1:=at_lift encPr hx
 have b0 : 0 ≤ (i : Int):=by omega
 have b1 : (i : Int) < (l.length : Int):=by omega
 have hc1 : ((i : Int) < (l.length : Int)) = True:=eq_true (by omega)
 have w1 : IntKind.wrap .i64 ((i : Int) + 1) = ((i + 1 : Nat) : Int):=by rw [w64] <;> omega
 have E:=eqP_pr8 x p
 have ev : decide (x = p) = (x == p):=by rw [Bool.eq_iff_iff]; simp
 rw [ev] at E
 simp only [encPr,List.map_cons,List.map_nil] at g1 E
 refine AW.rT (by rfl) fun K hK=>?_
 simp -implicitDefEqProofs only [go_sem,↓reduceIte,Nat.reduceAdd,Nat.reduceEqDiff,reduceCtorEq,hc1,liftE_length,List.length_map]
 apply hK;clear hK K
 refine AW.cT rfl ?_
 refine AW.skip ?_
 simp only [andThen]
 refine AW.seq ?_
 refine AW.block ?_
 cases hxp : (x == p) with
 | true =>
  rw [hxp] at E
  have e : addP l p = l:=by
   unfold addP
   have : x = p:=by simpa using hxp
   subst this
   rw [if_pos (by rw [List.contains_iff_mem]; exact List.mem_of_getElem? hx)]
  refine AW.dT mixed (by rfl) (by decide +kernel) fun K hK=>?_
  simp -implicitDefEqProofs only [go_sem,↓reduceIte,Nat.reduceAdd,Nat.reduceEqDiff,Nat.reduceLeDiff,reduceCtorEq,g1,b0,b1,liftE_length,List.length_map]
  refine ⟨_,E,?_⟩
  try simp -implicitDefEqProofs only [go_sem,Nat.reduceAdd]
  refine ⟨heapOK_nil rfl,?_⟩
  apply hK;clear hK K
  refine AW.cT rfl ?_
  refine AW.rT (by rfl) fun K hK=>?_
  simp -implicitDefEqProofs only [go_sem,↓reduceIte,Nat.reduceAdd,reduceCtorEq]
  apply hK;clear hK K
  rw [e]
  refine AW.ret (raEnd 0 ?_ ?_) <;> simp -implicitDefEqProofs only [go_sem,↓reduceIte]
 | false =>
  rw [hxp] at E
  refine AW.dT mixed (by rfl) (by decide +kernel) fun K hK=>?_
  simp -implicitDefEqProofs only [go_sem,↓reduceIte,Nat.reduceAdd,Nat.reduceEqDiff,Nat.reduceLeDiff,reduceCtorEq,g1,b0,b1,liftE_length,List.length_map]
  refine ⟨_,E,?_⟩
  try simp -implicitDefEqProofs only [go_sem,Nat.reduceAdd]
  refine ⟨heapOK_nil rfl,?_⟩
  apply hK;clear hK K
  refine AW.cF rfl ?_
  refine AW.skip ?_
  simp only [andThen,inBlk]
  refine AW.rE (by rfl) fun K hK=>?_
  simp -implicitDefEqProofs only [go_sem,↓reduceIte,Nat.reduceAdd,Nat.reduceEqDiff,reduceCtorEq,w1]
  apply hK;clear hK K
  refine ⟨i + 1,⟨by omega,all_next hx i2 (by rw [hxp]; rfl)⟩,by omega,?_⟩
  refine Ghost.sub ?_ ?_ <;> simp -implicitDefEqProofs only [go_sem,↓reduceIte,Nat.reduceEqDiff,reduceCtorEq,List.forall_mem_cons,List.not_mem_nil,false_implies,implies_true,and_self,labsIn_lift,List.all_cons,List.all_nil,Nat.reduceLT,labsInL,AV.labsIn]
end Go.Aw
namespace Go.Aw
open Go.Proofs Go.RowKit
def noGo (Q : Exit → St → Prop) : Exit → St → Prop
 | .goto _,_=>False
 | e,s=>Q e s
attribute [go_sem] noGo
end Go.Aw
namespace Go.Aw
open Go.Proofs Go.RowKit
def msgOf (S : Sc) (k : List UInt8) : Ms:=(firstP (fun x=>x.name == k) zMs S.msgs).1
structure PairsOK (S U : Sc) (l : List Pr) : Prop where
 here : ∀ p ∈ l,hasM S p.o = true ∧ hasM U p.n = true
 nd : l.Nodup
theorem addP_ok {S U : Sc} {l : List Pr} {p : Pr} (h : PairsOK S U l) (h1 : hasM S p.o = true) (h2 : hasM U p.n = true) : PairsOK S U (addP l p):=by
 unfold addP
 split
 ·exact h
 ·rename_i hn
  refine ⟨fun q hq=>?_,?_⟩
  ·rcases List.mem_append.1 hq with hq | hq
   ·exact h.here q hq
   ·simp at hq; subst hq; exact ⟨h1,h2⟩
  ·rw [List.nodup_append]
   refine ⟨h.nd,by simp,fun x hx y hy=>?_⟩
   simp at hy
   subst hy
   rintro rfl
   exact hn (by rw [List.contains_iff_mem]; exact hx)
theorem sub_len {α : Type} [DecidableEq α] : ∀ {a b : List α},a.Nodup → (∀ x ∈ a,x ∈ b) → a.length ≤ b.length
 | [],b,_,_=>Nat.zero_le _
 | x :: a,b,hn,hs=>by
  have hx:=hs x List.mem_cons_self
  have h:=sub_len (a:=a) (b:=b.erase x) (List.nodup_cons.1 hn).2 fun y hy=>by
   have hy':=hs y (List.mem_cons_of_mem _ hy)
   have hne : y ≠ x:=by
    rintro rfl
    exact (List.nodup_cons.1 hn).1 hy
   exact (List.mem_erase_of_ne hne).2 hy'
  have hl:=List.length_erase_of_mem hx
  have : 0 < b.length:=List.length_pos_of_mem hx
  rw [List.length_cons]
  omega
def allPairs (S U : Sc) : List Pr:=S.msgs.flatMap fun x=>U.msgs.map fun y=>⟨x.name,y.name⟩
theorem flat_len {α β : Type} {f : α → List β} {n : Nat} : ∀ {l : List α},(∀ x ∈ l,(f x).length = n) → (l.flatMap f).length = l.length * n
 | [],_=>by simp
 | x :: l,h=>by
  rw [List.flatMap_cons,List.length_append,flat_len (l:=l) fun y hy=>h y (List.mem_cons_of_mem _ hy),h x List.mem_cons_self,List.length_cons,Nat.add_mul,Nat.one_mul,Nat.add_comm]
theorem pairs_len {S U : Sc} {l : List Pr} (h : PairsOK S U l) (h1 : S.msgs.length ≤ 10) (h2 : U.msgs.length ≤ 10) : l.length ≤ 100:=by
 have q:=sub_len (b:=allPairs S U) h.nd fun p hp=>by
  obtain ⟨q1,q2⟩:=h.here p hp
  unfold hasM at q1 q2
  rw [found_any,List.any_eq_true] at q1 q2
  obtain ⟨x,hx,ex⟩:=q1
  obtain ⟨y,hy,ey⟩:=q2
  unfold allPairs
  rw [List.mem_flatMap]
  refine ⟨x,hx,List.mem_map.2 ⟨y,hy,?_⟩⟩
  have e1 : x.name = p.o:=by simpa using ex
  have e2 : y.name = p.n:=by simpa using ey
  rw [e1,e2]
 have e : (allPairs S U).length = S.msgs.length * U.msgs.length:=flat_len fun x _=>by simp
 have : S.msgs.length * U.msgs.length ≤ 10 * 10:=Nat.mul_le_mul h1 h2
 omega
theorem first_found {α : Type} {p : α → Bool} {z : α} {l : List α} (h : (firstP p z l).2 = true) : (firstP p z l).1 ∈ l ∧ p (firstP p z l).1 = true:=by
 unfold firstP at *
 cases e : l.find? p with
 | none=>rw [e] at h; cases h
 | some a=>exact ⟨List.mem_of_find?_eq_some e,List.find?_some e⟩
theorem kind7 {S : Sc} (R : RightS S) {m : Ms} (hm : m ∈ S.msgs) {f : Fd} (hf : f ∈ m.fields) (k : f.ty.kind = 7) : hasM S f.ty.name = true:=by
 obtain ⟨i,hi⟩:=List.getElem?_of_mem hf
 have q:=(R.fld m hm i f hi).2.2.1
 unfold fieldB at q
 rw [Bool.and_eq_true] at q
 have q:=q.2
 unfold kindB at q
 rw [if_neg (by omega),if_pos k] at q
 exact q
end Go.Aw
namespace Go.Aw
open Go.Proofs Go.RowKit
theorem msgOf_mem {S : Sc} {k : List UInt8} (h : hasM S k = true) : msgOf S k ∈ S.msgs ∧ (msgOf S k).name = k:=by
 have:=first_found (p:=fun x : Ms=>x.name == k) (z:=zMs) (l:=S.msgs) h
 exact ⟨this.1,eq_of_beq this.2⟩
end Go.Aw
namespace Go.Aw
open Go.Proofs Go.RowKit
end Go.Aw
namespace Go.Aw
open Go.Proofs Go.RowKit
theorem flds_iff {S : Sc} : ∀ {l : List Fd} {ns : List (List UInt8)} {us : List Int},fldsC S ns us l = 0 ↔ (∀ f ∈ l,nameB f.name = true ∧ tagB f.tag = true ∧ fieldB S f = true ∧ f.name ∉ ns ∧ f.tag ∉ us) ∧ (l.map Fd.name).Nodup ∧ (l.map Fd.tag).Nodup
 | [],ns,us=>by simp [fldsC]
 | f :: l,ns,us=>by
  rw [fldsC,List.map_cons,List.map_cons,List.nodup_cons,List.nodup_cons]
  constructor
  ·intro h
   split at h
   ·rename_i h1
    split at h
    ·rename_i h2
     split at h
     ·rename_i h3
      obtain ⟨q1,q2,q3⟩:=(flds_iff (l:=l)).1 h
      have t1:=takes_iff.1 h1
      rw [Bool.and_eq_true,Bool.not_eq_true',← Bool.not_eq_true,List.contains_iff_mem] at h2
      refine ⟨fun g hg=>?_,⟨fun hm=>?_,q2⟩,⟨fun hm=>?_,q3⟩⟩
      ·rcases List.mem_cons.1 hg with rfl | hg
       ·exact ⟨t1.1,h2.1,h3,t1.2,h2.2⟩
       ·obtain ⟨a,b,c,d,e⟩:=q1 g hg
        exact ⟨a,b,c,fun hm=>d (List.mem_append.2 (.inl hm)),fun hm=>e (List.mem_append.2 (.inl hm))⟩
      ·obtain ⟨g,hg,e⟩:=List.mem_map.1 hm
       exact (q1 g hg).2.2.2.1 (by rw [e]; simp)
      ·obtain ⟨g,hg,e⟩:=List.mem_map.1 hm
       exact (q1 g hg).2.2.2.2 (by rw [e]; simp)
     ·cases h
    ·cases h
   ·cases h
  ·rintro ⟨h,⟨n1,n2⟩,⟨m1,m2⟩⟩
   obtain ⟨a,b,c,d,e⟩:=h f List.mem_cons_self
   rw [if_pos (takes_iff.2 ⟨a,d⟩),if_pos (by rw [Bool.and_eq_true,Bool.not_eq_true',← Bool.not_eq_true,List.contains_iff_mem]; exact ⟨b,e⟩),if_pos c]
   refine (flds_iff (l:=l)).2 ⟨fun g hg=>?_,n2,m2⟩
   obtain ⟨a',b',c',d',e'⟩:=h g (List.mem_cons_of_mem _ hg)
   refine ⟨a',b',c',fun hm=>?_,fun hm=>?_⟩
   ·rcases List.mem_append.1 hm with hm | hm
    ·exact d' hm
    ·simp at hm; exact n1 (List.mem_map.2 ⟨g,hg,hm⟩)
   ·rcases List.mem_append.1 hm with hm | hm
    ·exact e' hm
    ·simp at hm; exact m1 (List.mem_map.2 ⟨g,hg,hm⟩)
theorem res_iff : ∀ {l : List Int} {us : List Int},resBad us l = false ↔ (∀ t ∈ l,tagB t = true ∧ t ∉ us) ∧ l.Nodup
 | [],us=>by simp [resBad]
 | t :: l,us=>by
  rw [resBad,List.nodup_cons]
  constructor
  ·intro h
   split at h
   ·rename_i h2
    rw [Bool.and_eq_true,Bool.not_eq_true',← Bool.not_eq_true,List.contains_iff_mem] at h2
    obtain ⟨q1,q2⟩:=(res_iff (l:=l)).1 h
    refine ⟨fun g hg=>?_,fun hm=>?_,q2⟩
    ·rcases List.mem_cons.1 hg with rfl | hg
     ·exact h2
     ·exact ⟨(q1 g hg).1,fun hm=>(q1 g hg).2 (List.mem_append.2 (.inl hm))⟩
    ·exact (q1 t hm).2 (by simp)
   ·cases h
  ·rintro ⟨h,n1,n2⟩
   obtain ⟨a,b⟩:=h t List.mem_cons_self
   rw [if_pos (by rw [Bool.and_eq_true,Bool.not_eq_true',← Bool.not_eq_true,List.contains_iff_mem]; exact ⟨a,b⟩)]
   refine (res_iff (l:=l)).2 ⟨fun g hg=>?_,n2⟩
   obtain ⟨a',b'⟩:=h g (List.mem_cons_of_mem _ hg)
   refine ⟨a',fun hm=>?_⟩
   rcases List.mem_append.1 hm with hm | hm
   ·exact b' hm
   ·simp at hm; subst hm; exact n1 hg
structure FitM (S : Sc) (m : Ms) : Prop where
 no : m.fields.length ≤ 16 ∧ m.res.length ≤ 32
 res : ∀ t ∈ m.res,tagB t = true
 rnd : m.res.Nodup
 fld : ∀ f ∈ m.fields,nameB f.name = true ∧ tagB f.tag = true ∧ fieldB S f = true ∧ f.tag ∉ m.res
 nnd : (m.fields.map Fd.name).Nodup
 tnd : (m.fields.map Fd.tag).Nodup
theorem body_iff {S : Sc} {m : Ms} : bodyC S m = 0 ↔ FitM S m:=by
 unfold bodyC
 constructor
 ·intro h
  split at h
  ·cases h
  rename_i h1
  split at h
  ·cases h
  rename_i h2
  obtain ⟨q1,q2,q3⟩:=flds_iff.1 h
  obtain ⟨r1,r2⟩:=res_iff.1 (by simpa using h2)
  exact ⟨by omega,fun t ht=>(r1 t ht).1,r2,fun f hf=>⟨(q1 f hf).1,(q1 f hf).2.1,(q1 f hf).2.2.1,(q1 f hf).2.2.2.2⟩,q2,q3⟩
 ·intro F
  have:=F.no
  rw [if_neg (by omega),if_neg (by rw [Bool.not_eq_true]; exact res_iff.2 ⟨fun t ht=>⟨F.res t ht,by simp⟩,F.rnd⟩)]
  exact flds_iff.2 ⟨fun f hf=>⟨(F.fld f hf).1,(F.fld f hf).2.1,(F.fld f hf).2.2.1,by simp,(F.fld f hf).2.2.2⟩,F.nnd,F.tnd⟩
theorem fOf_tag {m : Ms} {t : Int} (h : (fOf m t).2 = true) : (fOf m t).1 ∈ m.fields ∧ (fOf m t).1.tag = t:=by
 have:=first_found (p:=fun x : Fd=>x.tag == t) (z:=zFd) (l:=m.fields) h
 exact ⟨this.1,eq_of_beq this.2⟩
theorem fit_msgs {S : Sc} (F : FitS S) {m : Ms} (h : m ∈ S.msgs) : FitM S m:=body_iff.1 (F.body m h)
end Go.Aw
namespace Go.Aw
open Go.Proofs Go.RowKit
end Go.Aw
namespace Go.Aw
open Go.Proofs Go.RowKit
structure Stp where
 op : Int
 tag : Int
 sub : Int
 deriving DecidableEq
def encSt (s : Stp) : List PV:=[.int .i64 s.op,.int .i64 s.tag,.int .i64 s.sub]
def encPt (l : List Stp) : List PV:=[.slice (l.map encSt)]
def placeP (l : List Pr) (p : Pr) : Nat:=l.findIdx (fun x=>x == p)
theorem place_yes {l : List Pr} {p : Pr} (h : p ∈ l) : placeP l p < l.length ∧ l[placeP l p]? = some p:=by
 have h1 : placeP l p < l.length:=List.findIdx_lt_length_of_exists ⟨p,h,by simp⟩
 refine ⟨h1,?_⟩
 have h2 : l[placeP l p]? = some l[placeP l p]:=List.getElem?_eq_getElem h1
 have h3 : (l[placeP l p] == p) = true:=List.findIdx_getElem (p:=fun x=>x == p) (w:=h1)
 rw [h2,show l[placeP l p] = p by simpa using h3]
theorem place_no {l : List Pr} {p : Pr} (h : p ∉ l) : placeP l p = l.length :=
 List.findIdx_eq_length_of_false fun x hx=>by
  rw [beq_eq_false_iff_ne]
  rintro rfl
  exact h hx
def intoB (mo mn : Ms) (t : Int) : Bool:=(fOf mo t).2 && (fOf mn t).2 && ((fOf mo t).1.label == (fOf mn t).1.label) && ((fOf mo t).1.ty.kind == 7) && ((fOf mn t).1.ty.kind == 7)
def pairO (mo mn : Ms) (t : Int) : Pr:=⟨(fOf mo t).1.ty.name,(fOf mn t).1.ty.name⟩
def stepO (mo mn : Ms) (t : Int) (l : List Pr) : Option Stp :=
 if (fOf mo t).2 = true ∧ (fOf mn t).2 = true ∧ (fOf mo t).1.label = (fOf mn t).1.label then
  (if (fOf mo t).1.ty.kind = 7 ∧ (fOf mn t).1.ty.kind = 7 then some ⟨if (fOf mo t).1.label = 1 then 4 else 3,t,placeP l (pairO mo mn t)⟩
  else if (fOf mo t).1.ty.kind = 2 ∧ (fOf mn t).1.ty.kind = 1 then some ⟨2,t,0⟩
  else if (fOf mo t).1.ty.kind = (fOf mn t).1.ty.kind ∨ (fOf mo t).1.ty.kind = 1 ∧ (fOf mn t).1.ty.kind = 2 then some ⟨1,t,0⟩ else none)
 else none
def stepLs (mo mn : Ms) (t : Int) (l : List Pr) : List Pr:=if intoB mo mn t = true then addP l (pairO mo mn t) else l
def stepsP (mo mn : Ms) : Nat → Int → List Pr → List Stp × List Pr
 | 0,_,l=>([],l)
 | n + 1,t,l=>((stepO mo mn t l).toList ++ (stepsP mo mn n (t + 1) (stepLs mo mn t l)).1,(stepsP mo mn n (t + 1) (stepLs mo mn t l)).2)
def makeP (S U : Sc) : Nat → Nat → List Pr → List (List Stp)
 | 0,_,_=>[]
 | n + 1,i,l=>match l[i]? with
  | none=>[]
  | some p=>(stepsP (msgOf S p.o) (msgOf U p.n) 500 1 l).1 :: makeP S U n (i + 1) (stepsP (msgOf S p.o) (msgOf U p.n) 500 1 l).2
def makeR (S U : Sc) (a b : List UInt8) : List (List Stp) × Int :=
 if checkC S = 0 ∧ checkC U = 0 then (if hasM S a = true ∧ hasM U b = true then (makeP S U 101 0 [⟨a,b⟩],0) else ([],14)) else ([],1)
theorem pref_stepLs (mo mn : Ms) (t : Int) (l : List Pr) : ∀ (i : Nat) p,l[i]? = some p → (stepLs mo mn t l)[i]? = some p:=by
 intro i p h
 unfold stepLs addP
 split
 ·split
  ·exact h
  ·rw [List.getElem?_append_left (List.getElem?_eq_some_iff.1 h).1]; exact h
 ·exact h
theorem intoB_spec {mo mn : Ms} {t : Int} (h : intoB mo mn t = true) : (fOf mo t).2 = true ∧ (fOf mn t).2 = true ∧ (fOf mo t).1.label = (fOf mn t).1.label ∧ (fOf mo t).1.ty.kind = 7 ∧ (fOf mn t).1.ty.kind = 7:=by
 unfold intoB at h
 simp only [Bool.and_eq_true,beq_iff_eq] at h
 obtain ⟨⟨⟨⟨a,b⟩,c⟩,d⟩,e⟩:=h
 exact ⟨a,b,c,d,e⟩
theorem stepLs_ok {S U : Sc} (RS : RightS S) (RU : RightS U) {mo mn : Ms} (hmo : mo ∈ S.msgs) (hmn : mn ∈ U.msgs) {t : Int} {l : List Pr} (h : PairsOK S U l) : PairsOK S U (stepLs mo mn t l):=by
 unfold stepLs
 split
 ·rename_i hb
  obtain ⟨a,b,_,d,e⟩:=intoB_spec hb
  exact addP_ok h (kind7 RS hmo (fOf_tag a).1 d) (kind7 RU hmn (fOf_tag b).1 e)
 ·exact h
def stOK (n : Nat) (last : Int) (s : Stp) : Bool:=decide (last < s.tag ∧ s.tag ≤ 500) && ((decide (s.op = 1 ∨ s.op = 2) && (s.sub == 0)) || (decide (s.op = 3 ∨ s.op = 4) && decide (0 ≤ s.sub ∧ s.sub < n)))
def partB (n : Nat) : Int → List Stp → Bool
 | _,[]=>true
 | last,s :: l=>stOK n last s && partB n s.tag l
def progB (p : List (List Stp)) : Bool:=decide (1 ≤ p.length ∧ p.length ≤ 100) && p.all (partB p.length 0)
end Go.Aw
namespace Go.Aw.T
open Go.Proofs
def getG {α : Type} (es : List (Int × List α)) (g : Int) : List α:=match es.find? (fun e=>e.1 == g) with | some e=>e.2 | none=>[]
theorem getG_map {α β : Type} (h : α → β) (g : Int) : ∀ es : List (Int × List α),getG (es.map fun e=>(e.1,e.2.map h)) g = (getG es g).map h
 | []=>rfl
 | (k,l) :: es=>by
  have ih:=getG_map h g es
  unfold getG at ih ⊢
  rw [List.map_cons,List.find?_cons,List.find?_cons]
  simp only
  cases hk : (k == g) with
  | true=>rfl
  | false=>exact ih
theorem getG_cases {α : Type} (es : List (Int × List α)) (g : Int) : getG es g = [] ∨ ∃ e ∈ es,e.1 = g ∧ getG es g = e.2:=by
 unfold getG
 cases hf : es.find? (fun e=>e.1 == g) with
 | none=>exact .inl rfl
 | some e=>exact .inr ⟨e,List.mem_of_find?_eq_some hf,by simpa using List.find?_some hf,rfl⟩
mutual
def subT {β : Type} (F : List (Int × List (Tr × (Int → β))) → Int → β) : Tr → Int → β
 | .mk _ _ _ es _=>F (subE F es)
def subE {β : Type} (F : List (Int × List (Tr × (Int → β))) → Int → β) : List (Int × List Tr) → List (Int × List (Tr × (Int → β)))
 | []=>[]
 | (g,l) :: es=>(g,subL F l) :: subE F es
def subL {β : Type} (F : List (Int × List (Tr × (Int → β))) → Int → β) : List Tr → List (Tr × (Int → β))
 | []=>[]
 | t :: l=>(t,subT F t) :: subL F l
end
theorem subL_map {β : Type} (F : List (Int × List (Tr × (Int → β))) → Int → β) : ∀ l : List Tr,subL F l = l.map fun x=>(x,subT F x)
 | []=>by rw [subL]; rfl
 | t :: l=>by rw [subL,subL_map F l]; rfl
theorem subE_map {β : Type} (F : List (Int × List (Tr × (Int → β))) → Int → β) : ∀ es : List (Int × List Tr),subE F es = es.map fun e=>(e.1,e.2.map fun x=>(x,subT F x))
 | []=>by rw [subE]; rfl
 | (g,l) :: es=>by rw [subE,subE_map F es,subL_map]; rfl
theorem subT_eq {β : Type} (F : List (Int × List (Tr × (Int → β))) → Int → β) (t : Tr) : subT F t = F (t.ents.map fun e=>(e.1,e.2.map fun x=>(x,subT F x))):=by
 cases t
 rw [subT,subE_map]
 rfl
def lastL {α : Type} (s : Stp) (l : List α) : List α:=if s.op = 4 then l.drop (l.length - 1) else l
theorem lastL_map {α β : Type} (s : Stp) (h : α → β) (l : List α) : lastL s (l.map h) = (lastL s l).map h:=by
 unfold lastL
 split
 ·rw [List.map_drop,List.length_map]
 ·rfl
theorem lastL_mem {α : Type} {s : Stp} {l : List α} {x : α} (h : x ∈ lastL s l) : x ∈ l:=by
 unfold lastL at h
 split at h
 ·exact List.mem_of_mem_drop h
 ·exact h
theorem lastL_len {α : Type} (s : Stp) (l : List α) : (lastL s l).length ≤ l.length ∧ (1 ≤ l.length → 1 ≤ (lastL s l).length) ∧ (s.op = 4 → (lastL s l).length ≤ 1):=by
 unfold lastL
 split
 ·rw [List.length_drop]; omega
 ·omega
def kindOK (s : Stp) (l : List Tr) : Bool:=if s.op = 2 then l.all (fun t=>decide (t.kind = 1)) else if s.op = 3 ∨ s.op = 4 then l.all (fun t=>decide (t.kind = 3)) else true
def clampT (t : Tr) : Tr:=.mk t.kind (clampV t.n) t.s t.ents t.rest
def run1 (s : Stp) (x : Tr × (Int → Tr)) : Tr:=if s.op = 2 then clampT x.1 else if s.op = 3 ∨ s.op = 4 then x.2 s.sub else x.1
def stepR (s : Stp) (l : List (Tr × (Int → Tr))) : List Tr :=
 if kindOK s (l.map Prod.fst) = false then [] else if s.op = 4 ∧ ((lastL s l).map (run1 s)).any (fun y=>y.ents.isEmpty) = true then [] else (lastL s l).map (run1 s)
def entR (R : List (Int × List (Tr × (Int → Tr)))) (s : Stp) : List (Int × List Tr):=if (stepR s (getG R s.tag)).isEmpty = true then [] else [(s.tag,stepR s (getG R s.tag))]
def partO (P : List (List Stp)) (i : Int) : List Stp:=P.getD i.toNat []
def runF (P : List (List Stp)) : Tr → Int → Tr:=subT fun R i=>.mk 3 0 [] ((partO P i).flatMap (entR R)) []
def run1F (P : List (List Stp)) (s : Stp) (t : Tr) : Tr:=if s.op = 2 then clampT t else if s.op = 3 ∨ s.op = 4 then runF P t s.sub else t
def stepF (P : List (List Stp)) (s : Stp) (l : List Tr) : List Tr :=
 if kindOK s l = false then [] else if s.op = 4 ∧ ((lastL s l).map (run1F P s)).any (fun y=>y.ents.isEmpty) = true then [] else (lastL s l).map (run1F P s)
def entF (P : List (List Stp)) (es : List (Int × List Tr)) (s : Stp) : List (Int × List Tr):=if (stepF P s (getG es s.tag)).isEmpty = true then [] else [(s.tag,stepF P s (getG es s.tag))]
theorem stepR_F (P : List (List Stp)) (s : Stp) (l : List Tr) : stepR s (l.map fun x=>(x,runF P x)) = stepF P s l:=by
 unfold stepR stepF
 rw [List.map_map,lastL_map,List.map_map]
 have e1 : (Prod.fst ∘ fun x : Tr=>(x,runF P x)) = id:=rfl
 have e2 : (run1 s ∘ fun x : Tr=>(x,runF P x)) = run1F P s:=rfl
 rw [e1,e2,List.map_id]
theorem runF_eq (P : List (List Stp)) (t : Tr) (i : Int) : runF P t i = .mk 3 0 [] ((partO P i).flatMap (entF P t.ents)) []:=by
 have h : runF P t = (fun R i=>Tr.mk 3 0 [] ((partO P i).flatMap (entR R)) []) (t.ents.map fun e=>(e.1,e.2.map fun x=>(x,runF P x))):=by
  conv=>lhs; unfold runF
  rw [subT_eq]
  rfl
 rw [h]
 simp only
 congr 1
 congr 1
 funext s
 unfold entR entF
 rw [getG_map,stepR_F]
def lookR (s : Stp) (l : List (Tr × (Int → Nat))) : Nat:=if (s.op = 3 ∨ s.op = 4) ∧ kindOK s (l.map Prod.fst) = true then ((lastL s l).map fun x=>x.2 s.sub).sum else 0
def lookF (P : List (List Stp)) : Tr → Int → Nat:=subT fun R i=>((partO P i).map fun s=>1 + lookR s (getG R s.tag)).sum
def lookS (P : List (List Stp)) (s : Stp) (l : List Tr) : Nat:=if (s.op = 3 ∨ s.op = 4) ∧ kindOK s l = true then ((lastL s l).map fun x=>lookF P x s.sub).sum else 0
theorem lookF_eq (P : List (List Stp)) (t : Tr) (i : Int) : lookF P t i = ((partO P i).map fun s=>1 + lookS P s (getG t.ents s.tag)).sum:=by
 have h : lookF P t = (fun R i=>((partO P i).map fun s=>1 + lookR s (getG R s.tag)).sum) (t.ents.map fun e=>(e.1,e.2.map fun x=>(x,lookF P x))):=by
  conv=>lhs; unfold lookF
  rw [subT_eq]
  rfl
 rw [h]
 simp only
 congr 1
 congr 1
 funext s
 congr 1
 unfold lookR lookS
 rw [getG_map,List.map_map,lastL_map,List.map_map]
 have e1 : (Prod.fst ∘ fun x : Tr=>(x,lookF P x)) = id:=rfl
 rw [e1,List.map_id]
 rfl
def runP (P : List (List Stp)) (t : Tr) : Tr × Int:=if progB P = false ∨ t.kind ≠ 3 ∨ okT t = false then (zeroTr,1) else (runF P t 0,0)
def lookP (P : List (List Stp)) (t : Tr) : Nat:=if progB P = false ∨ t.kind ≠ 3 ∨ okT t = false then 0 else lookF P t 0
theorem wrap_more (a : Int) (n : Nat) : IntKind.wrap .i64 (IntKind.wrap .i64 a + (n : Int)) = IntKind.wrap .i64 (a + (n : Int)):=by
 have e : (2 : Int) ^ 64 = 18446744073709551616:=by decide
 have e' : (2 : Int) ^ (64 - 1) = 9223372036854775808:=by decide
 simp only [IntKind.wrap,IntKind.bits,IntKind.signed,e,e',Bool.true_and,decide_eq_true_eq]
 split <;> split <;> split <;> omega
end Go.Aw.T
namespace Go.Aw
open Go.RowKit
variable {P : Program}
end Go.Aw
namespace Go.Aw
open Go.RowKit
variable {P : Program}
end Go.Aw
namespace Go.Aw
open Go.RowKit
variable {P : Program}
section
variable {nt : Fm} {ops : Array Oper} {L : List (Oper × Rec)} {nx dc ex : Nat} {T0 : Nat → Option AV} {H0 : Nat → Option Blk} {w0 : World} {X I0 : Nat → Prop}
end
end Go.Aw
namespace Go.Aw
open Go.RowKit
variable {P : Program}
end Go.Aw
namespace Go.Aw.T
open Go.Proofs
def keptJ : In0 → PV
 | .none=>.cst .nilIface
 | .num n=>.iface 3 (.int .i64 n)
 | .str _=>.cst .nilIface
 | .node cs=>.iface 130 (.box cs 0)
theorem interp_kept (x : In0) : PFn Tryz.prog 84 [.agg [encIn x]] (keptJ x):=by
 have A1:=value_AsNum x
 have A2:=value_AsNode x
 refine PFn.of Tryz.func84 rfl (by decide) Tryz.ntmps84 Tryz.results84 (Nat.le_of_ble_eq_true rfl) ?_
 simp only [argsT]
 cases x with
 | num n =>
  simp only [encIn,asNum] at A1 ⊢
  refine AW.rT (by rfl) fun K hK=>?_
  simp -implicitDefEqProofs only [go_sem,Nat.reduceAdd]
  apply hK;clear hK K
  refine AW.seq ?_
  refine AW.rT (by rfl) fun K hK=>?_
  simp -implicitDefEqProofs only [go_sem,↓reduceIte,Nat.reduceAdd,Nat.reduceEqDiff,Nat.reduceLeDiff]
  refine ⟨.pure _,A1,?_⟩
  try simp -implicitDefEqProofs only [go_sem,↓reduceIte,Nat.reduceAdd,Nat.reduceEqDiff]
  apply hK;clear hK K
  refine AW.rT (by rfl) fun K hK=>?_
  simp -implicitDefEqProofs only [go_sem,Nat.reduceAdd]
  apply hK;clear hK K
  refine AW.cT rfl ?_
  refine AW.rT (by rfl) fun K hK=>?_
  simp -implicitDefEqProofs only [go_sem,↓reduceIte,Nat.reduceAdd,Nat.reduceEqDiff]
  apply hK;clear hK K
  refine AW.ret ?_
  simp -implicitDefEqProofs only [go_sem,keptJ]
 | node cs =>
  simp only [encIn,asNum,asNode] at A1 A2 ⊢
  refine AW.rT (by rfl) fun K hK=>?_
  simp -implicitDefEqProofs only [go_sem,Nat.reduceAdd]
  apply hK;clear hK K
  refine AW.seq ?_
  refine AW.rT (by rfl) fun K hK=>?_
  simp -implicitDefEqProofs only [go_sem,↓reduceIte,Nat.reduceAdd,Nat.reduceEqDiff,Nat.reduceLeDiff]
  refine ⟨.pure _,A1,?_⟩
  try simp -implicitDefEqProofs only [go_sem,↓reduceIte,Nat.reduceAdd,Nat.reduceEqDiff]
  apply hK;clear hK K
  refine AW.rT (by rfl) fun K hK=>?_
  simp -implicitDefEqProofs only [go_sem,Nat.reduceAdd]
  apply hK;clear hK K
  refine AW.cF rfl ?_
  refine AW.skip ?_
  simp only [andThen]
  refine AW.seq ?_
  refine AW.rT (by rfl) fun K hK=>?_
  simp -implicitDefEqProofs only [go_sem,↓reduceIte,Nat.reduceAdd,Nat.reduceEqDiff,Nat.reduceLeDiff]
  refine ⟨.pure _,A2,?_⟩
  try simp -implicitDefEqProofs only [go_sem,↓reduceIte,Nat.reduceAdd,Nat.reduceEqDiff]
  apply hK;clear hK K
  refine AW.rT (by rfl) fun K hK=>?_
  simp -implicitDefEqProofs only [go_sem,Nat.reduceAdd]
  apply hK;clear hK K
  refine AW.cT rfl ?_
  refine AW.rT (by rfl) fun K hK=>?_
  simp -implicitDefEqProofs only [go_sem,↓reduceIte,Nat.reduceAdd,Nat.reduceEqDiff]
  apply hK;clear hK K
  refine AW.ret ?_
  simp -implicitDefEqProofs only [go_sem,keptJ]
 | none =>
  simp only [encIn,asNum,asNode] at A1 A2 ⊢
  refine AW.rT (by rfl) fun K hK=>?_
  simp -implicitDefEqProofs only [go_sem,Nat.reduceAdd]
  apply hK;clear hK K
  refine AW.seq ?_
  refine AW.rT (by rfl) fun K hK=>?_
  simp -implicitDefEqProofs only [go_sem,↓reduceIte,Nat.reduceAdd,Nat.reduceEqDiff,Nat.reduceLeDiff]
  refine ⟨.pure _,A1,?_⟩
  try simp -implicitDefEqProofs only [go_sem,↓reduceIte,Nat.reduceAdd,Nat.reduceEqDiff]
  apply hK;clear hK K
  refine AW.rT (by rfl) fun K hK=>?_
  simp -implicitDefEqProofs only [go_sem,Nat.reduceAdd]
  apply hK;clear hK K
  refine AW.cF rfl ?_
  refine AW.skip ?_
  simp only [andThen]
  refine AW.seq ?_
  refine AW.rT (by rfl) fun K hK=>?_
  simp -implicitDefEqProofs only [go_sem,↓reduceIte,Nat.reduceAdd,Nat.reduceEqDiff,Nat.reduceLeDiff]
  refine ⟨.pure _,A2,?_⟩
  try simp -implicitDefEqProofs only [go_sem,↓reduceIte,Nat.reduceAdd,Nat.reduceEqDiff]
  apply hK;clear hK K
  refine AW.rT (by rfl) fun K hK=>?_
  simp -implicitDefEqProofs only [go_sem,Nat.reduceAdd]
  apply hK;clear hK K
  refine AW.cF rfl ?_
  refine AW.skip ?_
  simp only [andThen]
  refine AW.rT (by rfl) fun K hK=>?_
  simp -implicitDefEqProofs only [go_sem,Nat.reduceAdd]
  apply hK;clear hK K
  refine AW.ret ?_
  simp -implicitDefEqProofs only [go_sem,keptJ]
 | str s =>
  simp only [encIn,asNum,asNode] at A1 A2 ⊢
  refine AW.rT (by rfl) fun K hK=>?_
  simp -implicitDefEqProofs only [go_sem,Nat.reduceAdd]
  apply hK;clear hK K
  refine AW.seq ?_
  refine AW.rT (by rfl) fun K hK=>?_
  simp -implicitDefEqProofs only [go_sem,↓reduceIte,Nat.reduceAdd,Nat.reduceEqDiff,Nat.reduceLeDiff]
  refine ⟨.pure _,A1,?_⟩
  try simp -implicitDefEqProofs only [go_sem,↓reduceIte,Nat.reduceAdd,Nat.reduceEqDiff]
  apply hK;clear hK K
  refine AW.rT (by rfl) fun K hK=>?_
  simp -implicitDefEqProofs only [go_sem,Nat.reduceAdd]
  apply hK;clear hK K
  refine AW.cF rfl ?_
  refine AW.skip ?_
  simp only [andThen]
  refine AW.seq ?_
  refine AW.rT (by rfl) fun K hK=>?_
  simp -implicitDefEqProofs only [go_sem,↓reduceIte,Nat.reduceAdd,Nat.reduceEqDiff,Nat.reduceLeDiff]
  refine ⟨.pure _,A2,?_⟩
  try simp -implicitDefEqProofs only [go_sem,↓reduceIte,Nat.reduceAdd,Nat.reduceEqDiff]
  apply hK;clear hK K
  refine AW.rT (by rfl) fun K hK=>?_
  simp -implicitDefEqProofs only [go_sem,Nat.reduceAdd]
  apply hK;clear hK K
  refine AW.cF rfl ?_
  refine AW.skip ?_
  simp only [andThen]
  refine AW.rT (by rfl) fun K hK=>?_
  simp -implicitDefEqProofs only [go_sem,Nat.reduceAdd]
  apply hK;clear hK K
  refine AW.ret ?_
  simp -implicitDefEqProofs only [go_sem,keptJ]
end Go.Aw.T
namespace Go.Aw.T
open Go.Proofs Go.RowKit
theorem project_Clamp (n : Int) : PFn Tryz.prog 85 [.int .i64 n] (.int .i64 (clampV n)):=by
 refine PFn.of Tryz.func85 rfl (by decide) Tryz.ntmps85 Tryz.results85 (Nat.le_of_ble_eq_true rfl) ?_
 simp only [argsT]
 refine AW.rT (by rfl) fun K hK=>?_
 simp -implicitDefEqProofs only [go_sem]
 apply hK;clear hK K
 refine AW.rT (by rfl) fun K hK=>?_
 simp -implicitDefEqProofs only [go_sem,↓reduceIte,Nat.reduceAdd,reduceCtorEq]
 try simp -implicitDefEqProofs only [go_sem,↓reduceIte,Nat.reduceAdd,Nat.reduceMul,Nat.reduceEqDiff,Nat.reduceLeDiff,reduceCtorEq,Int.reduceToNat]
 apply hK;clear hK K
 refine AW.ret ?_
 simp -implicitDefEqProofs only [go_sem]
 congr 1
 unfold clampV
 repeat' split
 all_goals omega
theorem ref13_Clamp (n : Int) : PFn Tryz.prog 71 [.int .i64 n] (.int .i64 (clampV n)):=by
 refine PFn.of Tryz.func71 rfl (by decide) Tryz.ntmps71 Tryz.results71 (Nat.le_of_ble_eq_true rfl) ?_
 simp only [argsT]
 refine AW.rT (by rfl) fun K hK=>?_
 simp -implicitDefEqProofs only [go_sem]
 apply hK;clear hK K
 refine AW.rT (by rfl) fun K hK=>?_
 simp -implicitDefEqProofs only [go_sem,↓reduceIte,Nat.reduceAdd,reduceCtorEq]
 try simp -implicitDefEqProofs only [go_sem,↓reduceIte,Nat.reduceAdd,Nat.reduceMul,Nat.reduceEqDiff,Nat.reduceLeDiff,reduceCtorEq,Int.reduceToNat]
 apply hK;clear hK K
 refine AW.ret ?_
 simp -implicitDefEqProofs only [go_sem]
 congr 1
 unfold clampV
 repeat' split
 all_goals omega
end Go.Aw.T
namespace Go.Aw.T
open Go.Proofs Go.RowKit
def memR (P : List (List Stp)) (a : Int) : List (Nat × Blk):=[(0,.row 2 [[.p (.slice (P.map encPt)),.p (.int .i64 a)]])]
theorem mem_root {s : St} {args : List AV} {P : List (List Stp)} {a b : Int} (h : args[0]? = some (.ptr 0 0 0)) (hs : s.T 0 = some (.ptr 0 0 0)) : ∀ l ∈ ([0] : List Nat),l < 1 ∧ rootOK s args (memR P a) (memR P b) [0] (fun k=>k) l:=by
 intro k hk
 simp only [List.mem_singleton] at hk
 subst hk
 exact ⟨by decide,.inl ⟨0,0,0,2,_,_,by simp,h,hs,rfl,rfl,rfl,by decide⟩⟩
def PartOK (P : List (List Stp)) (t : Tr) : Prop:=∀ (i : Nat) (a : Int),i < P.length → IntKind.wrap .i64 a = a → DFn Tryz.prog 48 [.ptr 0 0 0,.p (.int .i64 (i : Int)),.p (.box (ndV t) 0)] (memR P a) 1 [0] (.p (.agg (encTr (runF P t (i : Int))))) (memR P (IntKind.wrap .i64 (a + (lookF P t (i : Int) : Nat)))) 0
def lk1 (P : List (List Stp)) (s : Stp) (x : Tr) : Nat:=if s.op = 3 ∨ s.op = 4 then lookF P x s.sub else 0
theorem sum_zero : ∀ (l : List Tr),(l.map fun _=>0).sum = 0
 | []=>rfl
 | x :: l=>by rw [List.map_cons,List.sum_cons,sum_zero l]
theorem lookS_yes {P : List (List Stp)} {s : Stp} {l : List Tr} (h : kindOK s l = true) : lookS P s l = ((lastL s l).map (lk1 P s)).sum:=by
 unfold lookS
 by_cases h3 : s.op = 3 ∨ s.op = 4
 ·rw [if_pos ⟨h3,h⟩]
  congr 2
  funext x
  unfold lk1
  rw [if_pos h3]
 ·rw [if_neg (fun q=>h3 q.1)]
  have : (fun x=>lk1 P s x) = fun _=>0:=by
   funext x
   unfold lk1
   rw [if_neg h3]
  rw [show lk1 P s = fun _=>0 from this,sum_zero]
theorem lookS_no {P : List (List Stp)} {s : Stp} {l : List Tr} (h : kindOK s l = false) : lookS P s l = 0:=by
 unfold lookS
 rw [if_neg (by rw [h]; simp)]
theorem wrap_wrap (a : Int) : IntKind.wrap .i64 (IntKind.wrap .i64 a) = IntKind.wrap .i64 a:=by
 have:=wrap_more a 0
 simpa using this
theorem wrap_nat (a : Int) (n m : Nat) : IntKind.wrap .i64 (IntKind.wrap .i64 (a + (n : Int)) + (m : Int)) = IntKind.wrap .i64 (a + ((n + m : Nat) : Int)):=by
 rw [wrap_more]
 congr 1
 push_cast
 omega
def se (P : List (List Stp)) (r : List Tr) (b : Int) : St:=⟨ofL [(0,.ptr 0 0 0),(6,.p (.slice (r.map encTr)))],ofH [(0,.row 2 [[.p (.slice (P.map encPt)),.p (.int .i64 b)]])],1⟩
theorem step_end {P : List (List Stp)} {args : List AV} {r : List Tr} {a b : Int} (h : args[0]? = some (.ptr 0 0 0)) : EndD Tryz.prog #[ResultVar.tmp 6] args (memR P a) 1 [0] (.p (.slice (r.map encTr))) (memR P b) 0 [0] .ret (se P r b):=by
 refine ⟨fun k=>k,[.p (.slice (r.map encTr))],⟨?_,trivial⟩,rfl,rfl,?_,?_,?_⟩
 ·simp only [se]
  simp -implicitDefEqProofs only [go_sem,↓reduceIte,reduceCtorEq]
  done
 ·simp only [memR,se]
  simp -implicitDefEqProofs only [go_sem,↓reduceIte,List.forall_mem_cons,List.not_mem_nil,false_implies,implies_true]
  first | done | decide
 ·simp [memR]
 ·exact mem_root h rfl
def ys (s : Stp) (P : List (List Stp)) (b : Int) (L : List (Nat × AV)) (H : List (Nat × Blk)) (n : Nat) : St:=⟨ofL ((0,.ptr 0 0 0) :: (4,.ptr 1 0 0) :: L),ofH ((0,.row 2 [[.p (.slice (P.map encPt)),.p (.int .i64 b)]]) :: (1,.row 3 [[.p (.int .i64 s.op),.p (.int .i64 s.tag),.p (.int .i64 s.sub)]]) :: H),n⟩
def ysA (q : List Tr) (j : Nat) : List (Nat × AV):=[(7,.own 2),(24,.p (.slice (q.map encV1))),(25,.p (.int .i64 (q.length : Int))),(26,.p (.int .i64 (j : Int)))]
theorem interp_step (P : List (List Stp)) (s : Stp) (l : List Tr) (c : Int) (h1 : 1 ≤ s.op) (h4 : s.op ≤ 4) (hsub : s.op = 3 ∨ s.op = 4 → ∃ k : Nat,s.sub = (k : Int) ∧ k < P.length) (hl1 : 1 ≤ l.length) (hl : l.length ≤ 1000)
  (hx : ∀ x ∈ l,lensT x = true ∧ rightT x = true ∧ x.kind = c) (IH : ∀ x ∈ l,PartOK P x) (a : Int) (ha : IntKind.wrap .i64 a = a) :
  DFn Tryz.prog 67 [.ptr 0 0 0,.p (.agg (encSt s)),.p (.slice (l.map encV1))] (memR P a) 1 [0] (.p (.slice ((stepF P s l).map encTr))) (memR P (IntKind.wrap .i64 (a + (lookS P s l : Nat)))) 0:=by
 refine DFn.of [0] Tryz.func67 rfl (by decide) Tryz.ntmps67 Tryz.results67 (Nat.le_of_ble_eq_true rfl) (by simp) fun val=>?_
 simp only [avT,memR]
 refine AW.rT (by rfl) fun K hK=>?_
 simp -implicitDefEqProofs only [go_sem,↓reduceIte,Nat.reduceAdd,encSt]
 apply hK;clear hK K
 refine AW.rT (by rfl) fun K hK=>?_
 simp -implicitDefEqProofs only [go_sem,Nat.reduceAdd]
 apply hK;clear hK K
 obtain ⟨sl1,sl2,sl3⟩:=lastL_len s l
 refine AW.cut (fun _ : Unit=>ys s P a [(7,.ex []),(2,.p (.slice ((lastL s l).map encV1)))] [] 2) (fun _=>True) ?_ fun _ _=>?_
 ·by_cases o4 : s.op = 4
  ·have b4:=eqb o4
   have e : lastL s l = l.drop (l.length - 1):=by unfold lastL; rw [if_pos o4]
   have ws : IntKind.wrap .i64 ((l.length : Int) - 1) = ((l.length - 1 : Nat) : Int):=by rw [w64] <;> omega
   rw [e]
   refine AW.rT (by rfl) fun K hK=>?_
   simp -implicitDefEqProofs only [go_sem,↓reduceIte,Nat.reduceAdd,Nat.reduceEqDiff,b4]
   apply hK;clear hK K
   refine AW.cT rfl ?_
   refine AW.rE (by rfl) fun K hK=>?_
   simp -implicitDefEqProofs only [go_sem,↓reduceIte,Nat.reduceAdd,Nat.reduceEqDiff,reduceCtorEq,ws,List.length_map]
   refine ⟨fun y hy=>by
    obtain ⟨x,_,rfl⟩:=List.mem_map.1 hy
    rfl,by simp,⟨by omega,by omega,by omega⟩,?_⟩
   apply hK;clear hK K
   simp only [andThen]
   refine ⟨(),trivial,?_⟩
   try simp only [ys]
   have tk : List.take l.length (l.map encV1) = l.map encV1:=List.take_of_length_le (by simp)
   refine Ghost.sub ?_ ?_ <;> simp -implicitDefEqProofs only [go_sem,↓reduceIte,Nat.reduceEqDiff,reduceCtorEq,List.map_drop,tk,List.forall_mem_cons,List.not_mem_nil,false_implies,implies_true,and_self,List.all_cons,List.all_nil,Nat.reduceLT,labsInL,AV.labsIn]
   done
  ·have b4:=beqf o4
   have e : lastL s l = l:=by unfold lastL; rw [if_neg o4]
   rw [e]
   refine AW.rT (by rfl) fun K hK=>?_
   simp -implicitDefEqProofs only [go_sem,↓reduceIte,Nat.reduceAdd,Nat.reduceEqDiff,b4]
   apply hK;clear hK K
   refine AW.cF rfl ?_
   refine AW.skip ?_
   simp only [andThen]
   refine ⟨(),trivial,?_⟩
   try simp only [ys]
   refine Ghost.sub ?_ ?_ <;> simp -implicitDefEqProofs only [go_sem,↓reduceIte,Nat.reduceEqDiff,reduceCtorEq,List.forall_mem_cons,List.not_mem_nil,false_implies,implies_true,and_self,List.all_cons,List.all_nil,Nat.reduceLT,labsInL,AV.labsIn]
   done
 have qx : ∀ x ∈ lastL s l,lensT x = true ∧ rightT x = true ∧ x.kind = c ∧ PartOK P x:=fun x h=>⟨(hx x (lastL_mem h)).1,(hx x (lastL_mem h)).2.1,(hx x (lastL_mem h)).2.2,IH x (lastL_mem h)⟩
 have LY:=@lookS_yes P s l
 have LN:=@lookS_no P s l
 have SF : stepF P s l = if kindOK s l = false then [] else if s.op = 4 ∧ ((lastL s l).map (run1F P s)).any (fun y=>y.ents.isEmpty) = true then [] else (lastL s l).map (run1F P s):=rfl
 have KO : kindOK s l = if s.op = 2 then decide (c = 1) else if s.op = 3 ∨ s.op = 4 then decide (c = 3) else true:=by
  have al : ∀ k : Int,l.all (fun t=>decide (t.kind = k)) = decide (c = k):=fun k=>by
   by_cases hk : c = k
   ·rw [decide_eq_true hk,List.all_eq_true]
    intro x h
    rw [(hx x h).2.2,decide_eq_true hk]
   ·rw [decide_eq_false hk,List.all_eq_false]
    obtain ⟨x,hxx⟩ : ∃ x,l[0]? = some x:=⟨_,List.getElem?_eq_getElem (by omega)⟩
    refine ⟨x,List.mem_of_getElem? hxx,?_⟩
    rw [(hx x (List.mem_of_getElem? hxx)).2.2,decide_eq_false hk]
    simp
  unfold kindOK
  rw [al,al]
 generalize kindOK s l = ko at *
 generalize lookS P s l = lks at *
 generalize stepF P s l = sf at *
 generalize lastL s l = q at *
 have q1:=sl2 hl1
 simp only [ys]
 refine AW.seq ?_
 refine AW.rT (by rfl) fun K hK=>?_
 simp -implicitDefEqProofs only [go_sem,↓reduceIte,Nat.reduceAdd,Nat.reduceEqDiff,reduceCtorEq,List.length_map]
 apply hK;clear hK K
 refine AW.block ?_
 refine AW.loop (fun j : Nat=>ys s P (IntKind.wrap .i64 (a + (((q.take j).map (lk1 P s)).sum : Nat))) (ysA q j) [(2,.row 5 (liftE (((q.map (run1F P s)).take j).map encTr)))] 3) (fun j=>j ≤ q.length ∧ (1 ≤ j → sf = q.map (run1F P s) ∧ ko = true)) (fun j=>q.length - j) 0 ?_ (by simp) fun j hj=>?_
 ·refine Ghost.trans (Ghost.nil (t:=7) (sz:=5) rfl) ?_
  rw [show IntKind.wrap .i64 (a + ((((q.take 0).map (lk1 P s)).sum : Nat) : Int)) = a by simpa using ha]
  simp only [ys,ysA]
  refine Ghost.ent (fun l=>if l = 2 then 5 else l) ?_ ?_ ?_ <;> simp -implicitDefEqProofs only [go_sem,↓reduceIte,Nat.reduceEqDiff,reduceCtorEq,List.take_zero,List.map_nil,liftE_nil,List.forall_mem_cons,List.not_mem_nil,false_implies,implies_true,and_self,List.all_cons,List.all_nil,Nat.reduceLT,labsInL,AV.labsIn]
  all_goals first | rfl | skip
 obtain ⟨hj1,hj2⟩:=hj
 by_cases hjl : j < q.length
 case neg =>
  have hj' : j = q.length:=by omega
  subst hj'
  obtain ⟨e1,e2⟩:=hj2 q1
  rw [LY e2,e1]
  rw [List.take_length,List.take_of_length_le (by simp)]
  generalize q.map (run1F P s) = ps
  generalize IntKind.wrap .i64 (a + (((q.map (lk1 P s)).sum : Nat) : Int)) = b
  have hc1 : ((q.length : Int) < (q.length : Int)) = False:=eq_false (by omega)
  simp only [ys,ysA]
  refine AW.rT (by rfl) fun K hK=>?_
  simp -implicitDefEqProofs only [go_sem,↓reduceIte,Nat.reduceAdd,Nat.reduceEqDiff,reduceCtorEq,hc1]
  apply hK;clear hK K
  refine AW.seq ?_
  refine AW.cF rfl ?_
  refine AW.exit ?_
  simp only [andThen,inBlk,↓reduceIte]
  refine AW.ghost (s':=ys s P b [(7,.p (.slice (ps.map encTr)))] [] 2) (Ghost.trans (Ghost.freeze (lb:=2) (ps:=ps.map encTr) rfl (unlift_liftE _)) ?_) ?_
  ·simp only [ys]
   refine Ghost.sub ?_ ?_ <;> simp -implicitDefEqProofs only [go_sem,↓reduceIte,Nat.reduceEqDiff,reduceCtorEq,thaw,thaw1,Option.map_some,List.map_cons,List.map_nil,List.forall_mem_cons,List.not_mem_nil,false_implies,implies_true,and_self,List.all_cons,List.all_nil,Nat.reduceLT,labsInL,AV.labsIn]
   done
  simp only [ys]
  refine AW.rT (by rfl) fun K hK=>?_
  simp -implicitDefEqProofs only [go_sem,↓reduceIte,Nat.reduceAdd,Nat.reduceEqDiff,reduceCtorEq]
  apply hK;clear hK K
  refine AW.ghost (s':=se P ps b) ?_ (AW.ret (step_end rfl))
  simp only [se]
  refine Ghost.sub ?_ ?_ <;> simp -implicitDefEqProofs only [go_sem,↓reduceIte,reduceCtorEq,List.forall_mem_cons,List.not_mem_nil,false_implies,implies_true,and_self,List.all_cons,List.all_nil,Nat.reduceLT,labsInL,AV.labsIn]
  done
 obtain ⟨x,hxj⟩ : ∃ x,q[j]? = some x:=⟨_,List.getElem?_eq_getElem hjl⟩
 obtain ⟨x1,x2,x3,x4⟩:=qx x (List.mem_of_getElem? hxj)
 have ⟨hx1,hx2,hx3⟩:=at_map' encV1 hxj
 have hc1 : ((j : Int) < (q.length : Int)) = True:=eq_true (by omega)
 have VT:=value_Tree x x1 x2
 have KJ:=interp_kept (inV x)
 rw [encIn_inV] at KJ
 rw [encTr_eq] at VT
 have w1 : IntKind.wrap .i64 ((j : Int) + 1) = ((j + 1 : Nat) : Int):=by rw [w64] <;> omega
 have BN : IntKind.wrap .i64 (a + ((((q.take (j + 1)).map (lk1 P s)).sum : Nat) : Int)) = IntKind.wrap .i64 (IntKind.wrap .i64 (a + ((((q.take j).map (lk1 P s)).sum : Nat) : Int)) + ((lk1 P s x : Nat) : Int)):=by
  rw [wrap_nat,List.take_add_one,hxj]
  simp
 have wb : IntKind.wrap .i64 (IntKind.wrap .i64 (a + ((((q.take j).map (lk1 P s)).sum : Nat) : Int))) = IntKind.wrap .i64 (a + ((((q.take j).map (lk1 P s)).sum : Nat) : Int)):=wrap_wrap _
 generalize hb : IntKind.wrap .i64 (a + ((((q.take j).map (lk1 P s)).sum : Nat) : Int)) = b at BN wb
 simp only [ys,ysA]
 refine AW.rT (by rfl) fun K hK=>?_
 simp -implicitDefEqProofs only [go_sem,↓reduceIte,Nat.reduceAdd,Nat.reduceEqDiff,reduceCtorEq,hc1]
 apply hK;clear hK K
 refine AW.seq ?_
 refine AW.cT rfl ?_
 refine AW.skip ?_
 simp only [andThen]
 refine AW.seq ?_
 refine AW.block ?_
 refine AW.rT (by rfl) fun K hK=>?_
 simp -implicitDefEqProofs only [go_sem,↓reduceIte,Nat.reduceAdd,Nat.reduceEqDiff,Nat.reduceLeDiff,reduceCtorEq,hc1,hx1,hx3,encV1,List.length_map]
 refine ⟨encV_one x,?_⟩
 apply hK;clear hK K
 have eo:=encV_one x
 refine AW.rT (by rfl) fun K hK=>?_
 simp -implicitDefEqProofs only [go_sem,Nat.reduceAdd,Nat.reduceLeDiff]
 refine ⟨.pure _,VT,?_⟩
 try simp -implicitDefEqProofs only [go_sem,↓reduceIte,Nat.reduceAdd,Nat.reduceEqDiff,Nat.reduceLeDiff]
 apply hK;clear hK K
 generalize hQs : ((q.map (run1F P s)).take j).map encTr = Qs at *
 refine AW.ghost (s':=ys s P b (ysA q j ++ [(9,.ptr 3 0 0),(10,.ptr 4 0 0)]) [(2,.row 5 (liftE Qs)),(3,.row 1 [[.p (encV x)]]),(4,.row 5 [cellsT x])] 5) ?_ ?_
 ·simp only [ys,ysA,cellsT,List.cons_append,List.nil_append]
  refine Ghost.ent (fun l=>if l = 3 then 6 else if l = 4 then 10 else l) ?_ ?_ ?_ <;> simp -implicitDefEqProofs only [go_sem,↓reduceIte,Nat.reduceEqDiff,reduceCtorEq,List.forall_mem_cons,List.not_mem_nil,false_implies,implies_true,and_self,map_renL_lift,labsIn_lift,List.all_cons,List.all_nil,Nat.reduceLT,labsInL,AV.labsIn]
  all_goals first | rfl | skip
 refine AW.cut (fun _ : Unit=>ys s P (IntKind.wrap .i64 (a + ((((q.take (j + 1)).map (lk1 P s)).sum : Nat) : Int))) (ysA q j ++ [(10,.ptr 4 0 0)]) [(2,.row 5 (liftE Qs)),(4,.row 5 [cellsT (run1F P s x)])] 5) (fun _=>sf = q.map (run1F P s) ∧ ko = true) ?_ fun _ hfin=>?_
 ·rw [BN]
  simp only [ys,ysA,cellsT,List.cons_append,List.nil_append]
  by_cases o1 : s.op = 1
  ·have e2:=beqf (show s.op ≠ 2 by omega)
   have e3:=beqf (show s.op ≠ 3 by omega)
   have e4:=beqf (show s.op ≠ 4 by omega)
   have LK : lk1 P s x = 0:=by unfold lk1; rw [if_neg (by omega)]
   have R1 : run1F P s x = x:=by unfold run1F; rw [if_neg (by omega),if_neg (by omega)]
   have KT : ko = true:=by rw [KO,if_neg (by omega),if_neg (by omega)]
   rw [LK,R1,show IntKind.wrap .i64 (b + ((0 : Nat) : Int)) = b by simpa using wb]
   generalize keptJ (inV x) = r at KJ
   refine AW.rT (by rfl) fun K hK=>?_
   simp -implicitDefEqProofs only [go_sem,↓reduceIte,Nat.reduceAdd,Nat.reduceEqDiff,Nat.reduceLeDiff,reduceCtorEq]
   refine ⟨.pure _,KJ,?_⟩
   try simp -implicitDefEqProofs only [go_sem,Nat.reduceAdd]
   apply hK;clear hK K
   refine AW.rT (by rfl) fun K hK=>?_
   simp -implicitDefEqProofs only [go_sem,↓reduceIte,Nat.reduceAdd,Nat.reduceEqDiff,reduceCtorEq]
   apply hK;clear hK K
   refine AW.block ?_
   refine AW.rT (by rfl) fun K hK=>?_
   simp -implicitDefEqProofs only [go_sem,↓reduceIte,Nat.reduceAdd,e2]
   apply hK;clear hK K
   refine AW.cF rfl ?_
   refine AW.seq ?_
   refine AW.rT (by rfl) fun K hK=>?_
   simp -implicitDefEqProofs only [go_sem,↓reduceIte,Nat.reduceAdd,Nat.reduceEqDiff,e3]
   apply hK;clear hK K
   refine AW.cF rfl ?_
   refine AW.rE (by rfl) fun K hK=>?_
   simp -implicitDefEqProofs only [go_sem,↓reduceIte,Nat.reduceAdd,Nat.reduceEqDiff,e4]
   apply hK;clear hK K
   simp only [andThen]
   refine AW.cF rfl ?_
   refine AW.skip ?_
   simp only [andThen,inBlk]
   refine ⟨(),⟨by rw [SF,KT,if_neg (by simp),if_neg (by omega)],KT⟩,?_⟩
   refine Ghost.sub ?_ ?_ <;> simp -implicitDefEqProofs only [go_sem,↓reduceIte,Nat.reduceEqDiff,reduceCtorEq,List.forall_mem_cons,List.not_mem_nil,false_implies,implies_true,and_self,labsIn_lift,List.all_cons,List.all_nil,Nat.reduceLT,labsInL,AV.labsIn]
   done
  have kinds : x.kind = 1 ∨ x.kind = 2 ∨ x.kind = 3:=by
   rcases right_kinds x2 with ⟨k,_⟩ | ⟨k,_⟩ | ⟨k,_⟩ <;> omega
  have KJ2 : x.kind = 2 → keptJ (inV x) = .cst .nilIface:=fun k=>by unfold inV; rw [if_neg (by omega),if_pos k]; rfl
  have KJ1 : x.kind = 1 → keptJ (inV x) = .iface 3 (.int .i64 x.n):=fun k=>by unfold inV; rw [if_pos k]; rfl
  have KJ3 : x.kind = 3 → keptJ (inV x) = .iface 130 (.box (ndV x) 0):=fun k=>by unfold inV; rw [if_neg (by omega),if_neg (by omega)]; rfl
  by_cases o2 : s.op = 2
  ·have e2:=eqb o2
   have LK : lk1 P s x = 0:=by unfold lk1; rw [if_neg (by omega)]
   rw [LK,show IntKind.wrap .i64 (b + ((0 : Nat) : Int)) = b by simpa using wb]
   by_cases k1 : x.kind = 1
   ·have R1 : run1F P s x = clampT x:=by unfold run1F; rw [if_pos o2]
    have KT : ko = true:=by rw [KO,if_pos o2,decide_eq_true (by omega)]
    rw [KJ1 k1] at KJ
    have CC:=project_Clamp x.n
    rw [R1]
    refine AW.rT (by rfl) fun K hK=>?_
    simp -implicitDefEqProofs only [go_sem,↓reduceIte,Nat.reduceAdd,Nat.reduceEqDiff,Nat.reduceLeDiff,reduceCtorEq]
    refine ⟨.pure _,KJ,?_⟩
    try simp -implicitDefEqProofs only [go_sem,Nat.reduceAdd]
    apply hK;clear hK K
    refine AW.rT (by rfl) fun K hK=>?_
    simp -implicitDefEqProofs only [go_sem,↓reduceIte,Nat.reduceAdd,Nat.reduceEqDiff,reduceCtorEq]
    apply hK;clear hK K
    refine AW.block ?_
    refine AW.rT (by rfl) fun K hK=>?_
    simp -implicitDefEqProofs only [go_sem,↓reduceIte,Nat.reduceAdd,e2]
    apply hK;clear hK K
    refine AW.cT rfl ?_
    refine AW.rT (by rfl) fun K hK=>?_
    simp -implicitDefEqProofs only [go_sem,↓reduceIte,Nat.reduceAdd,Nat.reduceEqDiff]
    apply hK;clear hK K
    refine AW.seq ?_
    refine AW.rT (by rfl) fun K hK=>?_
    simp -implicitDefEqProofs only [go_sem,Nat.reduceAdd]
    apply hK;clear hK K
    refine AW.cF rfl ?_
    refine AW.skip ?_
    simp only [andThen]
    refine AW.rE (by rfl) fun K hK=>?_
    simp -implicitDefEqProofs only [go_sem,↓reduceIte,Nat.reduceAdd,Nat.reduceEqDiff]
    refine ⟨.pure _,CC,?_⟩
    try simp -implicitDefEqProofs only [go_sem,↓reduceIte,Nat.reduceAdd,Nat.reduceEqDiff,Nat.reduceLeDiff,reduceCtorEq]
    apply hK;clear hK K
    simp only [andThen,inBlk]
    refine ⟨(),⟨by rw [SF,KT,if_neg (by simp),if_neg (by omega)],KT⟩,?_⟩
    simp only [clampT,Tr.kind,Tr.n,Tr.s,Tr.ents,Tr.rest]
    refine Ghost.sub ?_ ?_ <;> simp -implicitDefEqProofs only [go_sem,↓reduceIte,Nat.reduceEqDiff,reduceCtorEq,List.forall_mem_cons,List.not_mem_nil,false_implies,implies_true,and_self,labsIn_lift,List.all_cons,List.all_nil,Nat.reduceLT,labsInL,AV.labsIn]
    done
   ·have KT : ko = false:=by rw [KO,if_pos o2,decide_eq_false (by omega)]
    have S0 : sf = []:=by rw [SF,if_pos KT]
    have j0 : j = 0:=by
     rcases Nat.eq_zero_or_pos j with h | h
     ·exact h
     ·have:=(hj2 h).2
      rw [KT] at this
      cases this
    have BA : b = IntKind.wrap .i64 (a + (lks : Int)):=by
     rw [LN KT,← hb,j0]
     simp
    rw [S0,← BA]
    rcases (show x.kind = 2 ∨ x.kind = 3 by omega) with k | k
    ·rw [KJ2 k] at KJ
     refine AW.rT (by rfl) fun K hK=>?_
     simp -implicitDefEqProofs only [go_sem,↓reduceIte,Nat.reduceAdd,Nat.reduceEqDiff,Nat.reduceLeDiff,reduceCtorEq]
     refine ⟨.pure _,KJ,?_⟩
     try simp -implicitDefEqProofs only [go_sem,Nat.reduceAdd]
     apply hK;clear hK K
     refine AW.rT (by rfl) fun K hK=>?_
     simp -implicitDefEqProofs only [go_sem,↓reduceIte,Nat.reduceAdd,Nat.reduceEqDiff,reduceCtorEq]
     apply hK;clear hK K
     refine AW.block ?_
     refine AW.rT (by rfl) fun K hK=>?_
     simp -implicitDefEqProofs only [go_sem,↓reduceIte,Nat.reduceAdd,e2]
     apply hK;clear hK K
     refine AW.cT rfl ?_
     refine AW.rT (by rfl) fun K hK=>?_
     simp -implicitDefEqProofs only [go_sem,↓reduceIte,Nat.reduceAdd,Nat.reduceEqDiff]
     apply hK;clear hK K
     refine AW.seq ?_
     refine AW.rT (by rfl) fun K hK=>?_
     simp -implicitDefEqProofs only [go_sem,Nat.reduceAdd]
     apply hK;clear hK K
     refine AW.cT rfl ?_
     refine AW.rT (by rfl) fun K hK=>?_
     simp -implicitDefEqProofs only [go_sem,Nat.reduceAdd]
     apply hK;clear hK K
     refine AW.ghost (s':=se P [] b) (Ghost.trans (Ghost.exP (t:=6) (es:=[]) rfl) ?_) (AW.ret (step_end rfl))
     simp only [se,List.map_nil]
     refine Ghost.sub ?_ ?_ <;> simp -implicitDefEqProofs only [go_sem,↓reduceIte,reduceCtorEq,List.forall_mem_cons,List.not_mem_nil,false_implies,implies_true,and_self,List.all_cons,List.all_nil,Nat.reduceLT,labsInL,AV.labsIn]
     done
    ·rw [KJ3 k] at KJ
     refine AW.rT (by rfl) fun K hK=>?_
     simp -implicitDefEqProofs only [go_sem,↓reduceIte,Nat.reduceAdd,Nat.reduceEqDiff,Nat.reduceLeDiff,reduceCtorEq]
     refine ⟨.pure _,KJ,?_⟩
     try simp -implicitDefEqProofs only [go_sem,Nat.reduceAdd]
     apply hK;clear hK K
     refine AW.rT (by rfl) fun K hK=>?_
     simp -implicitDefEqProofs only [go_sem,↓reduceIte,Nat.reduceAdd,Nat.reduceEqDiff,reduceCtorEq]
     apply hK;clear hK K
     refine AW.block ?_
     refine AW.rT (by rfl) fun K hK=>?_
     simp -implicitDefEqProofs only [go_sem,↓reduceIte,Nat.reduceAdd,e2]
     apply hK;clear hK K
     refine AW.cT rfl ?_
     refine AW.rT (by rfl) fun K hK=>?_
     simp -implicitDefEqProofs only [go_sem,↓reduceIte,Nat.reduceAdd,Nat.reduceEqDiff]
     apply hK;clear hK K
     refine AW.seq ?_
     refine AW.rT (by rfl) fun K hK=>?_
     simp -implicitDefEqProofs only [go_sem,Nat.reduceAdd]
     apply hK;clear hK K
     refine AW.cT rfl ?_
     refine AW.rT (by rfl) fun K hK=>?_
     simp -implicitDefEqProofs only [go_sem,Nat.reduceAdd]
     apply hK;clear hK K
     refine AW.ghost (s':=se P [] b) (Ghost.trans (Ghost.exP (t:=6) (es:=[]) rfl) ?_) (AW.ret (step_end rfl))
     simp only [se,List.map_nil]
     refine Ghost.sub ?_ ?_ <;> simp -implicitDefEqProofs only [go_sem,↓reduceIte,reduceCtorEq,List.forall_mem_cons,List.not_mem_nil,false_implies,implies_true,and_self,List.all_cons,List.all_nil,Nat.reduceLT,labsInL,AV.labsIn]
     done
  have e2:=beqf o2
  have o34 : s.op = 3 ∨ s.op = 4:=by omega
  obtain ⟨k,hsk,hkl⟩:=hsub o34
  have LK : lk1 P s x = lookF P x (k : Int):=by unfold lk1; rw [if_pos o34,hsk]
  have R1 : run1F P s x = runF P x (k : Int):=by unfold run1F; rw [if_neg o2,if_pos o34,hsk]
  by_cases k3 : x.kind = 3
  ·have KT : ko = true:=by rw [KO,if_neg o2,if_pos o34,decide_eq_true (by omega)]
   rw [KJ3 k3] at KJ
   have PT:=x4 k b hkl wb
   rw [LK,R1]
   rw [LK] at BN
   generalize hz : runF P x (k : Int) = z at PT R1
   generalize lookF P x (k : Int) = n at PT BN LK
   rw [encTr_eq,← hsk] at PT
   refine AW.rT (by rfl) fun K hK=>?_
   simp -implicitDefEqProofs only [go_sem,↓reduceIte,Nat.reduceAdd,Nat.reduceEqDiff,Nat.reduceLeDiff,reduceCtorEq]
   refine ⟨.pure _,KJ,?_⟩
   try simp -implicitDefEqProofs only [go_sem,Nat.reduceAdd]
   apply hK;clear hK K
   refine AW.rT (by rfl) fun K hK=>?_
   simp -implicitDefEqProofs only [go_sem,↓reduceIte,Nat.reduceAdd,Nat.reduceEqDiff,reduceCtorEq]
   apply hK;clear hK K
   refine AW.block ?_
   refine AW.rT (by rfl) fun K hK=>?_
   simp -implicitDefEqProofs only [go_sem,↓reduceIte,Nat.reduceAdd,e2]
   apply hK;clear hK K
   refine AW.cF rfl ?_
   refine AW.cut (fun _ : Unit=>ys s P b (ysA q j ++ [(10,.ptr 4 0 0),(11,.p (.iface 130 (.box (ndV x) 0))),(48,.p (.bool true))]) [(2,.row 5 (liftE Qs)),(4,.row 5 [cellsT x])] 5) (fun _=>True) ?_ fun _ _=>?_
   ·by_cases o3 : s.op = 3
    ·have e3:=eqb o3
     refine AW.rT (by rfl) fun K hK=>?_
     simp -implicitDefEqProofs only [go_sem,↓reduceIte,Nat.reduceAdd,Nat.reduceEqDiff,e3]
     apply hK;clear hK K
     refine AW.cT rfl ?_
     refine AW.skip ?_
     simp only [andThen]
     refine ⟨(),trivial,?_⟩
     simp only [ys,ysA,cellsT,List.cons_append,List.nil_append]
     refine Ghost.sub ?_ ?_ <;> simp -implicitDefEqProofs only [go_sem,↓reduceIte,Nat.reduceEqDiff,reduceCtorEq,List.forall_mem_cons,List.not_mem_nil,false_implies,implies_true,and_self,labsIn_lift,List.all_cons,List.all_nil,Nat.reduceLT,labsInL,AV.labsIn]
     done
    ·have e3:=beqf o3
     have e4:=eqb (show s.op = 4 by omega)
     refine AW.rT (by rfl) fun K hK=>?_
     simp -implicitDefEqProofs only [go_sem,↓reduceIte,Nat.reduceAdd,Nat.reduceEqDiff,e3]
     apply hK;clear hK K
     refine AW.cF rfl ?_
     refine AW.rE (by rfl) fun K hK=>?_
     simp -implicitDefEqProofs only [go_sem,↓reduceIte,Nat.reduceAdd,Nat.reduceEqDiff,e4]
     apply hK;clear hK K
     simp only [andThen]
     refine ⟨(),trivial,?_⟩
     simp only [ys,ysA,cellsT,List.cons_append,List.nil_append]
     refine Ghost.sub ?_ ?_ <;> simp -implicitDefEqProofs only [go_sem,↓reduceIte,Nat.reduceEqDiff,reduceCtorEq,List.forall_mem_cons,List.not_mem_nil,false_implies,implies_true,and_self,labsIn_lift,List.all_cons,List.all_nil,Nat.reduceLT,labsInL,AV.labsIn]
     done
   simp only [ys,ysA,cellsT,List.cons_append,List.nil_append]
   refine AW.cT rfl ?_
   refine AW.rT (by rfl) fun K hK=>?_
   simp -implicitDefEqProofs only [go_sem,↓reduceIte,Nat.reduceAdd,Nat.reduceEqDiff,reduceCtorEq]
   apply hK;clear hK K
   refine AW.seq ?_
   refine AW.rT (by rfl) fun K hK=>?_
   simp -implicitDefEqProofs only [go_sem,Nat.reduceAdd]
   apply hK;clear hK K
   refine AW.cF rfl ?_
   refine AW.skip ?_
   simp only [andThen]
   refine AW.rR (SeqR.ev 4 (by rfl) (by decide) ?_)
   simp -implicitDefEqProofs only [go_sem,↓reduceIte,Nat.reduceAdd,Nat.reduceEqDiff,reduceCtorEq]
   refine SeqR.call (fun k=>k) rfl rfl PT ⟨?_,rfl,?_,rfl,rfl,rfl,rfl,rfl,rfl⟩ ?_
   ·simp -implicitDefEqProofs only [go_sem,↓reduceIte,Nat.reduceEqDiff,argD]
   ·simp only [memR]
    simp -implicitDefEqProofs only [go_sem,↓reduceIte,List.forall_mem_cons,List.not_mem_nil,false_implies,implies_true]
    first | done | decide
   simp only [memR,AV.ren]
   refine SeqR.ev 1 (by rfl) (by decide) ?_
   simp -implicitDefEqProofs only [go_sem,↓reduceIte,Nat.reduceAdd,Nat.reduceEqDiff,Nat.reduceLeDiff,reduceCtorEq,lift2,goneU,newU,List.map_cons,List.map_nil,putH,Nat.reduceLT]
   refine SeqR.last rfl ?_
   refine AW.ghost (s':=ys s P (IntKind.wrap .i64 (b + (n : Int))) (ysA q j ++ [(10,.ptr 4 0 0)]) [(2,.row 5 (liftE Qs)),(4,.row 5 [cellsT z])] 5) ?_ ?_
   ·simp only [ys,ysA,cellsT,List.cons_append,List.nil_append]
    refine Ghost.sub ?_ ?_ <;> simp -implicitDefEqProofs only [go_sem,↓reduceIte,Nat.reduceEqDiff,reduceCtorEq,List.forall_mem_cons,List.not_mem_nil,false_implies,implies_true,and_self,labsIn_lift,List.all_cons,List.all_nil,Nat.reduceLT,labsInL,AV.labsIn]
    done
   simp only [ys,ysA,cellsT,List.cons_append,List.nil_append]
   by_cases o4 : s.op = 4
   ·have e4:=eqb o4
    have ql:=sl3 o4
    have j0 : j = 0:=by omega
    have qq : q = [x]:=by
     have : q.length = 1:=by omega
     match q,this,hxj with
     | [y],_,hxj =>
      rw [j0] at hxj
      injection hxj with h
      rw [h]
    have AN : ((q.map (run1F P s)).any fun y=>y.ents.isEmpty) = z.ents.isEmpty:=by
     rw [qq,List.map_cons,List.map_nil,R1]
     simp
    have zl : ((z.ents.length : Int) == 0) = z.ents.isEmpty:=by
     cases z.ents with
     | nil=>rfl
     | cons y l=>simp; omega
    rw [AN] at SF
    cases hem : z.ents.isEmpty with
    | true =>
     have S0 : sf = []:=by rw [SF,KT,if_neg (by simp),if_pos ⟨o4,hem⟩]
     have BA : IntKind.wrap .i64 (b + (n : Int)) = IntKind.wrap .i64 (a + (lks : Int)):=by
      rw [LY KT,← BN,j0]
      rw [qq]
      rfl
     rw [S0,← BA]
     rw [hem] at zl
     refine AW.rT (by rfl) fun K hK=>?_
     simp -implicitDefEqProofs only [go_sem,↓reduceIte,Nat.reduceAdd,Nat.reduceEqDiff,reduceCtorEq,e4,List.length_map,zl]
     apply hK;clear hK K
     refine AW.cT rfl ?_
     refine AW.rT (by rfl) fun K hK=>?_
     simp -implicitDefEqProofs only [go_sem,Nat.reduceAdd]
     apply hK;clear hK K
     refine AW.ghost (s':=se P [] (IntKind.wrap .i64 (b + (n : Int)))) (Ghost.trans (Ghost.exP (t:=6) (es:=[]) rfl) ?_) (AW.ret (step_end rfl))
     simp only [se,List.map_nil]
     refine Ghost.sub ?_ ?_ <;> simp -implicitDefEqProofs only [go_sem,↓reduceIte,reduceCtorEq,List.forall_mem_cons,List.not_mem_nil,false_implies,implies_true,and_self,List.all_cons,List.all_nil,Nat.reduceLT,labsInL,AV.labsIn]
     done
    | false =>
     rw [hem] at zl
     refine AW.rT (by rfl) fun K hK=>?_
     simp -implicitDefEqProofs only [go_sem,↓reduceIte,Nat.reduceAdd,Nat.reduceEqDiff,reduceCtorEq,e4,List.length_map,zl]
     apply hK;clear hK K
     refine AW.cF rfl ?_
     refine AW.skip ?_
     simp only [andThen,inBlk]
     refine ⟨(),⟨by rw [SF,KT,if_neg (by simp),if_neg (by simp [hem])],KT⟩,?_⟩
     show Ghost _ _ (ys s P (IntKind.wrap .i64 (b + (n : Int))) (ysA q j ++ [(10,.ptr 4 0 0)]) [(2,.row 5 (liftE Qs)),(4,.row 5 [cellsT z])] 5)
     simp only [ys,ysA,cellsT,List.cons_append,List.nil_append]
     refine Ghost.sub ?_ ?_ <;> simp -implicitDefEqProofs only [go_sem,↓reduceIte,Nat.reduceEqDiff,reduceCtorEq,List.forall_mem_cons,List.not_mem_nil,false_implies,implies_true,and_self,labsIn_lift,List.all_cons,List.all_nil,Nat.reduceLT,labsInL,AV.labsIn]
     done
   ·have e4:=beqf o4
    refine AW.rT (by rfl) fun K hK=>?_
    simp -implicitDefEqProofs only [go_sem,↓reduceIte,Nat.reduceAdd,Nat.reduceEqDiff,reduceCtorEq,e4]
    apply hK;clear hK K
    refine AW.cF rfl ?_
    refine AW.skip ?_
    simp only [andThen,inBlk]
    refine ⟨(),⟨by rw [SF,KT,if_neg (by simp),if_neg (by simp [o4])],KT⟩,?_⟩
    show Ghost _ _ (ys s P (IntKind.wrap .i64 (b + (n : Int))) (ysA q j ++ [(10,.ptr 4 0 0)]) [(2,.row 5 (liftE Qs)),(4,.row 5 [cellsT z])] 5)
    simp only [ys,ysA,cellsT,List.cons_append,List.nil_append]
    refine Ghost.sub ?_ ?_ <;> simp -implicitDefEqProofs only [go_sem,↓reduceIte,Nat.reduceEqDiff,reduceCtorEq,List.forall_mem_cons,List.not_mem_nil,false_implies,implies_true,and_self,labsIn_lift,List.all_cons,List.all_nil,Nat.reduceLT,labsInL,AV.labsIn]
    done
  ·have KT : ko = false:=by rw [KO,if_neg o2,if_pos o34,decide_eq_false (by omega)]
   have S0 : sf = []:=by rw [SF,if_pos KT]
   have j0 : j = 0:=by
    rcases Nat.eq_zero_or_pos j with h | h
    ·exact h
    ·have:=(hj2 h).2
     rw [KT] at this
     cases this
   have BA : b = IntKind.wrap .i64 (a + (lks : Int)):=by
    rw [LN KT,← hb,j0]
    simp
   rw [S0,← BA]
   rcases (show x.kind = 1 ∨ x.kind = 2 by omega) with k' | k'
   ·rw [KJ1 k'] at KJ
    refine AW.rT (by rfl) fun K hK=>?_
    simp -implicitDefEqProofs only [go_sem,↓reduceIte,Nat.reduceAdd,Nat.reduceEqDiff,Nat.reduceLeDiff,reduceCtorEq]
    refine ⟨.pure _,KJ,?_⟩
    try simp -implicitDefEqProofs only [go_sem,Nat.reduceAdd]
    apply hK;clear hK K
    refine AW.rT (by rfl) fun K hK=>?_
    simp -implicitDefEqProofs only [go_sem,↓reduceIte,Nat.reduceAdd,Nat.reduceEqDiff,reduceCtorEq]
    apply hK;clear hK K
    refine AW.block ?_
    refine AW.rT (by rfl) fun K hK=>?_
    simp -implicitDefEqProofs only [go_sem,↓reduceIte,Nat.reduceAdd,e2]
    apply hK;clear hK K
    refine AW.cF rfl ?_
    refine AW.cut (fun _ : Unit=>ys s P b (ysA q j ++ [(11,.p (.iface 3 (.int .i64 x.n))),(48,.p (.bool true))]) [] 5) (fun _=>True) ?_ fun _ _=>?_
    ·by_cases o3 : s.op = 3
     ·have e3:=eqb o3
      refine AW.rT (by rfl) fun K hK=>?_
      simp -implicitDefEqProofs only [go_sem,↓reduceIte,Nat.reduceAdd,Nat.reduceEqDiff,e3]
      apply hK;clear hK K
      refine AW.cT rfl ?_
      refine AW.skip ?_
      simp only [andThen]
      refine ⟨(),trivial,?_⟩
      simp only [ys,ysA,List.cons_append,List.nil_append]
      refine Ghost.sub ?_ ?_ <;> simp -implicitDefEqProofs only [go_sem,↓reduceIte,Nat.reduceEqDiff,reduceCtorEq,List.forall_mem_cons,List.not_mem_nil,false_implies,implies_true,and_self,List.all_cons,List.all_nil,Nat.reduceLT,labsInL,AV.labsIn]
      done
     ·have e3:=beqf o3
      have e4:=eqb (show s.op = 4 by omega)
      refine AW.rT (by rfl) fun K hK=>?_
      simp -implicitDefEqProofs only [go_sem,↓reduceIte,Nat.reduceAdd,Nat.reduceEqDiff,e3]
      apply hK;clear hK K
      refine AW.cF rfl ?_
      refine AW.rE (by rfl) fun K hK=>?_
      simp -implicitDefEqProofs only [go_sem,↓reduceIte,Nat.reduceAdd,Nat.reduceEqDiff,e4]
      apply hK;clear hK K
      simp only [andThen]
      refine ⟨(),trivial,?_⟩
      simp only [ys,ysA,List.cons_append,List.nil_append]
      refine Ghost.sub ?_ ?_ <;> simp -implicitDefEqProofs only [go_sem,↓reduceIte,Nat.reduceEqDiff,reduceCtorEq,List.forall_mem_cons,List.not_mem_nil,false_implies,implies_true,and_self,List.all_cons,List.all_nil,Nat.reduceLT,labsInL,AV.labsIn]
      done
    simp only [ys,ysA,List.cons_append,List.nil_append]
    refine AW.cT rfl ?_
    refine AW.rT (by rfl) fun K hK=>?_
    simp -implicitDefEqProofs only [go_sem,↓reduceIte,Nat.reduceAdd,Nat.reduceEqDiff,reduceCtorEq]
    apply hK;clear hK K
    refine AW.seq ?_
    refine AW.rT (by rfl) fun K hK=>?_
    simp -implicitDefEqProofs only [go_sem,Nat.reduceAdd]
    apply hK;clear hK K
    refine AW.cT rfl ?_
    refine AW.rT (by rfl) fun K hK=>?_
    simp -implicitDefEqProofs only [go_sem,Nat.reduceAdd]
    apply hK;clear hK K
    refine AW.ghost (s':=se P [] b) (Ghost.trans (Ghost.exP (t:=6) (es:=[]) rfl) ?_) (AW.ret (step_end rfl))
    simp only [se,List.map_nil]
    refine Ghost.sub ?_ ?_ <;> simp -implicitDefEqProofs only [go_sem,↓reduceIte,reduceCtorEq,List.forall_mem_cons,List.not_mem_nil,false_implies,implies_true,and_self,List.all_cons,List.all_nil,Nat.reduceLT,labsInL,AV.labsIn]
    done
   ·rw [KJ2 k'] at KJ
    refine AW.rT (by rfl) fun K hK=>?_
    simp -implicitDefEqProofs only [go_sem,↓reduceIte,Nat.reduceAdd,Nat.reduceEqDiff,Nat.reduceLeDiff,reduceCtorEq]
    refine ⟨.pure _,KJ,?_⟩
    try simp -implicitDefEqProofs only [go_sem,Nat.reduceAdd]
    apply hK;clear hK K
    refine AW.rT (by rfl) fun K hK=>?_
    simp -implicitDefEqProofs only [go_sem,↓reduceIte,Nat.reduceAdd,Nat.reduceEqDiff,reduceCtorEq]
    apply hK;clear hK K
    refine AW.block ?_
    refine AW.rT (by rfl) fun K hK=>?_
    simp -implicitDefEqProofs only [go_sem,↓reduceIte,Nat.reduceAdd,e2]
    apply hK;clear hK K
    refine AW.cF rfl ?_
    refine AW.cut (fun _ : Unit=>ys s P b (ysA q j ++ [(11,.p (.cst .nilIface)),(48,.p (.bool true))]) [] 5) (fun _=>True) ?_ fun _ _=>?_
    ·by_cases o3 : s.op = 3
     ·have e3:=eqb o3
      refine AW.rT (by rfl) fun K hK=>?_
      simp -implicitDefEqProofs only [go_sem,↓reduceIte,Nat.reduceAdd,Nat.reduceEqDiff,e3]
      apply hK;clear hK K
      refine AW.cT rfl ?_
      refine AW.skip ?_
      simp only [andThen]
      refine ⟨(),trivial,?_⟩
      simp only [ys,ysA,List.cons_append,List.nil_append]
      refine Ghost.sub ?_ ?_ <;> simp -implicitDefEqProofs only [go_sem,↓reduceIte,Nat.reduceEqDiff,reduceCtorEq,List.forall_mem_cons,List.not_mem_nil,false_implies,implies_true,and_self,List.all_cons,List.all_nil,Nat.reduceLT,labsInL,AV.labsIn]
      done
     ·have e3:=beqf o3
      have e4:=eqb (show s.op = 4 by omega)
      refine AW.rT (by rfl) fun K hK=>?_
      simp -implicitDefEqProofs only [go_sem,↓reduceIte,Nat.reduceAdd,Nat.reduceEqDiff,e3]
      apply hK;clear hK K
      refine AW.cF rfl ?_
      refine AW.rE (by rfl) fun K hK=>?_
      simp -implicitDefEqProofs only [go_sem,↓reduceIte,Nat.reduceAdd,Nat.reduceEqDiff,e4]
      apply hK;clear hK K
      simp only [andThen]
      refine ⟨(),trivial,?_⟩
      simp only [ys,ysA,List.cons_append,List.nil_append]
      refine Ghost.sub ?_ ?_ <;> simp -implicitDefEqProofs only [go_sem,↓reduceIte,Nat.reduceEqDiff,reduceCtorEq,List.forall_mem_cons,List.not_mem_nil,false_implies,implies_true,and_self,List.all_cons,List.all_nil,Nat.reduceLT,labsInL,AV.labsIn]
      done
    simp only [ys,ysA,List.cons_append,List.nil_append]
    refine AW.cT rfl ?_
    refine AW.rT (by rfl) fun K hK=>?_
    simp -implicitDefEqProofs only [go_sem,↓reduceIte,Nat.reduceAdd,Nat.reduceEqDiff,reduceCtorEq]
    apply hK;clear hK K
    refine AW.seq ?_
    refine AW.rT (by rfl) fun K hK=>?_
    simp -implicitDefEqProofs only [go_sem,Nat.reduceAdd]
    apply hK;clear hK K
    refine AW.cT rfl ?_
    refine AW.rT (by rfl) fun K hK=>?_
    simp -implicitDefEqProofs only [go_sem,Nat.reduceAdd]
    apply hK;clear hK K
    refine AW.ghost (s':=se P [] b) (Ghost.trans (Ghost.exP (t:=6) (es:=[]) rfl) ?_) (AW.ret (step_end rfl))
    simp only [se,List.map_nil]
    refine Ghost.sub ?_ ?_ <;> simp -implicitDefEqProofs only [go_sem,↓reduceIte,reduceCtorEq,List.forall_mem_cons,List.not_mem_nil,false_implies,implies_true,and_self,List.all_cons,List.all_nil,Nat.reduceLT,labsInL,AV.labsIn]
    done
 obtain ⟨hf1,hf2⟩:=hfin
 have e7 : liftE Qs ++ [cellsT (run1F P s x)] = liftE (((q.map (run1F P s)).take (j + 1)).map encTr):=by
  rw [List.take_add_one,map_at hxj,← hQs]
  simp [liftE,encTr_eq,cellsT]
 have rlen : (liftE Qs).length ≤ j:=by rw [liftE_length,← hQs,List.length_map,List.length_take]; omega
 generalize run1F P s x = z at e7
 generalize hb' : IntKind.wrap .i64 (a + ((((q.take (j + 1)).map (lk1 P s)).sum : Nat) : Int)) = b' at *
 simp only [cellsT] at e7
 simp only [ys,ysA,cellsT,List.cons_append,List.nil_append]
 refine AW.rE (by rfl) fun K hK=>?_
 simp -implicitDefEqProofs only [go_sem,↓reduceIte,Nat.reduceAdd,Nat.reduceMul,Nat.reduceEqDiff,Nat.reduceLeDiff,reduceCtorEq]
 refine ⟨⟨by simp,by simp [oneAll,AV.one,PV.one],by simp⟩,by omega,?_⟩
 try simp -implicitDefEqProofs only [go_sem,↓reduceIte,Nat.reduceAdd,Nat.reduceMul,Nat.reduceEqDiff,Nat.reduceLeDiff,reduceCtorEq,Int.reduceToNat]
 apply hK;clear hK K
 simp only [andThen,inBlk]
 refine AW.rE (by rfl) fun K hK=>?_
 simp -implicitDefEqProofs only [go_sem,↓reduceIte,Nat.reduceAdd,Nat.reduceEqDiff,reduceCtorEq,w1]
 apply hK;clear hK K
 refine ⟨j + 1,⟨by omega,fun _=>⟨hf1,hf2⟩⟩,by omega,?_⟩
 show Ghost _ _ (ys s P (IntKind.wrap .i64 (a + ((((q.take (j + 1)).map (lk1 P s)).sum : Nat) : Int))) (ysA q (j + 1)) [(2,.row 5 (liftE (((q.map (run1F P s)).take (j + 1)).map encTr)))] 3)
 rw [hb',← e7]
 simp only [ys,ysA]
 refine Ghost.ent (fun l=>if l = 2 then 8 else l) ?_ ?_ ?_ <;> simp -implicitDefEqProofs only [go_sem,↓reduceIte,Nat.reduceEqDiff,reduceCtorEq,List.forall_mem_cons,List.not_mem_nil,false_implies,implies_true,and_self,map_renL_lift,labsIn_lift,List.all_append,List.all_cons,List.all_nil,List.map_append,Nat.reduceLT,labsInL,AV.labsIn]
 all_goals first | rfl | skip
end Go.Aw.T
namespace Go.Aw.T
open Go.Proofs Go.RowKit
theorem lookS_nil (P : List (List Stp)) (s : Stp) : lookS P s [] = 0:=by
 unfold lookS lastL
 split
 ·split <;> rfl
 ·rfl
theorem stepF_none (P : List (List Stp)) (s : Stp) : stepF P s [] = []:=by
 have h1 : kindOK s [] = true:=by
  unfold kindOK
  split
  ·rfl
  ·split <;> rfl
 have h2 : lastL s ([] : List Tr) = []:=by
  unfold lastL
  split <;> rfl
 unfold stepF
 rw [h1,h2,if_neg (by simp),if_neg (by simp)]
 rfl
theorem rightTs_kind : ∀ {l : List Tr} {c : Int},rightTs l c = true → ∀ x ∈ l,x.kind = c ∧ rightT x = true
 | [],c,_,x,hx=>by cases hx
 | y :: l,c,h,x,hx=>by
  rw [rightTs] at h
  split at h
  ·cases h
  rename_i h1
  split at h
  ·rename_i h2
   rcases List.mem_cons.1 hx with rfl | hx
   ·exact ⟨by simpa using h1,h2⟩
   ·exact rightTs_kind h x hx
  ·cases h
theorem rightE_in : ∀ {es : List (Int × List Tr)} {last : Int},rightE es last = true → ∀ e ∈ es,1 ≤ e.2.length ∧ e.2.length ≤ 64 ∧ ∀ x ∈ e.2,x.kind = headK e.2 ∧ rightT x = true
 | [],_,_,e,he=>by cases he
 | (g,l) :: es,last,h,e,he=>by
  rw [rightE] at h
  split at h
  ·cases h
  rename_i h1
  split at h
  ·rename_i h2
   rcases List.mem_cons.1 he with rfl | he
   ·exact ⟨by simp only; omega,by simp only; omega,rightTs_kind h2⟩
   ·exact rightE_in h e he
  ·cases h
theorem getE_G (es : List (Int × List Tr)) (g : Int) : getE es g = getG es g:=by
 unfold getE getG
 cases es.find? (fun e=>e.1 == g) <;> rfl
theorem prog_step {P : List (List Stp)} (h : progB P = true) {x : List Stp} (hx : x ∈ P) {s : Stp} (hs : s ∈ x) : 1 ≤ s.op ∧ s.op ≤ 4 ∧ (s.op = 3 ∨ s.op = 4 → ∃ k : Nat,s.sub = (k : Int) ∧ k < P.length):=by
 unfold progB at h
 rw [Bool.and_eq_true,List.all_eq_true] at h
 have q:=h.2 x hx
 have go : ∀ (l : List Stp) (last : Int),partB P.length last l = true → s ∈ l → ∃ la,stOK P.length la s = true:=by
  intro l
  induction l with
  | nil=>intro _ _ hh; cases hh
  | cons y l ih =>
   intro last hp hm
   rw [partB,Bool.and_eq_true] at hp
   rcases List.mem_cons.1 hm with rfl | hm
   ·exact ⟨last,hp.1⟩
   ·exact ih _ hp.2 hm
 obtain ⟨la,hl⟩:=go x 0 q hs
 unfold stOK at hl
 simp only [Bool.and_eq_true,Bool.or_eq_true,decide_eq_true_eq,beq_iff_eq] at hl
 obtain ⟨_,hl⟩:=hl
 refine ⟨by omega,by omega,fun h34=>?_⟩
 have : 0 ≤ s.sub ∧ s.sub < (P.length : Int):=by
  rcases hl with ⟨a,_⟩ | ⟨_,a⟩
  ·omega
  ·exact a
 exact ⟨s.sub.toNat,by omega,by omega⟩
theorem part_len {n : Nat} : ∀ {l : List Stp} {last : Int},partB n last l = true → last ≤ 500 → last + l.length ≤ 500
 | [],last,_,h=>by simpa using h
 | s :: l,last,hp,h=>by
  rw [partB,Bool.and_eq_true] at hp
  have q:=hp.1
  unfold stOK at q
  rw [Bool.and_eq_true,decide_eq_true_eq] at q
  have:=part_len hp.2 (by omega)
  rw [List.length_cons]
  push_cast
  omega
theorem prog_len {P : List (List Stp)} (h : progB P = true) {x : List Stp} (hx : x ∈ P) : x.length ≤ 500:=by
 unfold progB at h
 rw [Bool.and_eq_true,List.all_eq_true] at h
 have:=part_len (h.2 x hx) (by omega)
 omega
def outP (P : List (List Stp)) (t : Tr) (x : List Stp) (k : Nat) : List (Int × List Tr):=(x.take k).flatMap (entF P t.ents)
def sumP (P : List (List Stp)) (t : Tr) (x : List Stp) (k : Nat) : Nat:=((x.take k).map fun s=>1 + lookS P s (getG t.ents s.tag)).sum
theorem outP_at {P : List (List Stp)} {t : Tr} {x : List Stp} {k : Nat} {s : Stp} (h : x[k]? = some s) : outP P t x (k + 1) = outP P t x k ++ entF P t.ents s:=by
 unfold outP
 rw [List.take_add_one,h,List.flatMap_append]
 simp
theorem sumP_at {P : List (List Stp)} {t : Tr} {x : List Stp} {k : Nat} {s : Stp} (h : x[k]? = some s) : sumP P t x (k + 1) = sumP P t x k + (1 + lookS P s (getG t.ents s.tag)):=by
 unfold sumP
 rw [List.take_add_one,h,List.map_append,List.sum_append]
 simp
theorem outP_len (P : List (List Stp)) (t : Tr) (x : List Stp) (k : Nat) : (outP P t x k).length ≤ k:=by
 unfold outP
 have : ∀ l : List Stp,(l.flatMap (entF P t.ents)).length ≤ l.length:=fun l=>by
  induction l with
  | nil=>simp
  | cons s l ih =>
   rw [List.flatMap_cons,List.length_append,List.length_cons]
   have : (entF P t.ents s).length ≤ 1:=by
    unfold entF
    split <;> simp
   omega
 have:=this (x.take k)
 rw [List.length_take] at this
 omega
def ype (P : List (List Stp)) (r : Tr) (b : Int) : St:=⟨ofL [(0,.ptr 0 0 0),(6,.ptr 1 0 0)],ofH [(0,.row 2 [[.p (.slice (P.map encPt)),.p (.int .i64 b)]]),(1,.row 5 [cellsT r])],2⟩
theorem part_end {P : List (List Stp)} {args : List AV} {r : Tr} {a b : Int} (h : args[0]? = some (.ptr 0 0 0)) : EndD Tryz.prog #[ResultVar.cell 6 30] args (memR P a) 1 [0] (.p (.agg (encTr r))) (memR P b) 0 [0] .ret (ype P r b):=by
 refine ⟨fun k=>k,[.p (.agg (encTr r))],⟨?_,trivial⟩,rfl,rfl,?_,?_,?_⟩
 ·simp only [ype,cellsT,encTr_eq]
  simp -implicitDefEqProofs only [go_sem,↓reduceIte,Nat.reduceAdd,Nat.reduceLeDiff,reduceCtorEq]
  done
 ·simp only [memR,ype]
  simp -implicitDefEqProofs only [go_sem,↓reduceIte,List.forall_mem_cons,List.not_mem_nil,false_implies,implies_true]
  first | done | decide
 ·simp [memR]
 ·exact mem_root h rfl
def yp (P : List (List Stp)) (t : Tr) (x : List Stp) (k : Nat) (es : List (Int × List Tr)) (b : Int) (L : List (Nat × AV)) (H : List (Nat × Blk)) (n : Nat) : St :=
 ⟨ofL ((0,.ptr 0 0 0) :: (2,.p (.box (ndV t) 0)) :: (6,.ptr 1 0 0) :: (7,.ptr 2 0 0) :: (20,.p (.slice (x.map encSt))) :: (21,.p (.int .i64 (x.length : Int))) :: (22,.p (.int .i64 (k : Int))) :: L),
 ofH ((0,.row 2 [[.p (.slice (P.map encPt)),.p (.int .i64 b)]]) :: (1,.row 5 [[.p (.int .i64 0),.p (.int .i64 0),.p (.str []),.ex [],.ex []]]) :: (2,.row 5 [[.p (.int .i64 3),.p (.int .i64 0),.p (.str []),.own 3,.ex []]]) :: (3,.row 2 (liftE (es.map encEn))) :: H),n⟩
def ypw (P : List (List Stp)) (es : List (Int × List Tr)) (b : Int) : St:=⟨ofL [(0,.ptr 0 0 0),(6,.ptr 1 0 0),(7,.ptr 2 0 0)],ofH [(0,.row 2 [[.p (.slice (P.map encPt)),.p (.int .i64 b)]]),(1,.row 5 [[.p (.int .i64 0),.p (.int .i64 0),.p (.str []),.ex [],.ex []]]),(2,.row 5 [[.p (.int .i64 3),.p (.int .i64 0),.p (.str []),.p (.slice (es.map encEn)),.p (.slice [])]])],3⟩
theorem interp_part (P : List (List Stp)) (hP : progB P = true) : ∀ (t : Tr),lensT t = true → rightT t = true → PartOK P t:=by
 intro t
 induction h : SizeOf.sizeOf t using Nat.strongRecOn generalizing t with
 | _ sz ih =>
 subst h
 intro hlt hrt i a hi ha
 obtain ⟨x,hx⟩ : ∃ x,P[i]? = some x:=⟨_,List.getElem?_eq_getElem hi⟩
 have hxm:=List.mem_of_getElem? hx
 have hPO : partO P (i : Int) = x:=by
  unfold partO
  rw [Int.toNat_natCast,List.getD_eq_getElem?_getD,hx]
  rfl
 have RF : runF P t (i : Int) = .mk 3 0 [] (outP P t x x.length) []:=by
  rw [runF_eq,hPO]
  unfold outP
  rw [List.take_length]
 have LF : lookF P t (i : Int) = sumP P t x x.length:=by
  rw [lookF_eq,hPO]
  unfold sumP
  rw [List.take_length]
 rw [RF,LF]
 have hre : rightE t.ents 0 = true:=by
  rcases right_kinds hrt with ⟨_,q⟩ | ⟨_,q⟩ | ⟨_,_,_,q,_⟩
  ·rw [q]
   show rightE [] 0 = true
   rw [rightE]
  ·rw [q]
   show rightE [] 0 = true
   rw [rightE]
  ·exact q
 obtain ⟨la1,la2,la3⟩:=lensT_mk hlt
 have OL:=outP_len P t x
 have x500:=prog_len hP hxm
 refine DFn.of [0] Tryz.func48 rfl (by decide) Tryz.ntmps48 Tryz.results48 (Nat.le_of_ble_eq_true rfl) (by simp) fun val=>?_
 simp only [avT,memR]
 have ⟨hx1,hx2,hx3⟩:=at_map' encPt hx
 refine AW.rT (by rfl) fun K hK=>?_
 simp -implicitDefEqProofs only [go_sem,Nat.reduceAdd]
 apply hK;clear hK K
 refine AW.rT (by rfl) fun K hK=>?_
 simp -implicitDefEqProofs only [go_sem,↓reduceIte,Nat.reduceAdd,Nat.reduceEqDiff,Nat.reduceLeDiff]
 apply hK;clear hK K
 refine AW.seq ?_
 have hi' : (i : Int) < (P.length : Int):=by omega
 refine AW.rT (by rfl) fun K hK=>?_
 simp -implicitDefEqProofs only [go_sem,↓reduceIte,Nat.reduceAdd,Nat.reduceEqDiff,reduceCtorEq,hx1,hi',hx3,encPt,List.length_map]
 apply hK;clear hK K
 refine AW.block ?_
 refine AW.loop (fun k : Nat=>yp P t x k (outP P t x k) (IntKind.wrap .i64 (a + (sumP P t x k : Nat))) [] [] 4) (fun k=>k ≤ x.length) (fun k=>x.length - k) 0 ?_ (by simp) fun k hk=>?_
 ·refine Ghost.trans (Ghost.nilH (l:=3) (i:=0) (j:=3) (sz':=2) rfl rfl rfl) ?_
  rw [show IntKind.wrap .i64 (a + ((sumP P t x 0 : Nat) : Int)) = a by unfold sumP; simpa using ha,show outP P t x 0 = [] from rfl]
  simp only [yp]
  refine Ghost.ent (fun l=>if l = 2 then 3 else if l = 3 then 15 else l) ?_ ?_ ?_ <;> simp -implicitDefEqProofs only [go_sem,↓reduceIte,Nat.reduceEqDiff,reduceCtorEq,List.map_nil,liftE_nil,List.set_cons_zero,List.set_cons_succ,List.forall_mem_cons,List.not_mem_nil,false_implies,implies_true,and_self,List.all_cons,List.all_nil,Nat.reduceLT,labsInL,AV.labsIn]
  all_goals first | rfl | skip
 by_cases hkl : k < x.length
 case neg =>
  have hk' : k = x.length:=by omega
  subst hk'
  generalize outP P t x x.length = es
  generalize IntKind.wrap .i64 (a + ((sumP P t x x.length : Nat) : Int)) = b
  have hc1 : ((x.length : Int) < (x.length : Int)) = False:=eq_false (by omega)
  simp only [yp]
  refine AW.rT (by rfl) fun K hK=>?_
  simp -implicitDefEqProofs only [go_sem,↓reduceIte,Nat.reduceAdd,Nat.reduceEqDiff,reduceCtorEq,hc1]
  apply hK;clear hK K
  refine AW.seq ?_
  refine AW.cF rfl ?_
  refine AW.exit ?_
  simp only [andThen,inBlk,↓reduceIte]
  refine AW.ghost (s':=ypw P es b) (Ghost.trans (Ghost.freeze (lb:=3) (ps:=es.map encEn) rfl (unlift_liftE _)) (Ghost.trans (Ghost.exH (l:=2) (i:=0) (j:=4) rfl rfl rfl) ?_)) ?_
  ·simp only [ypw]
   refine Ghost.sub ?_ ?_ <;> simp -implicitDefEqProofs only [go_sem,↓reduceIte,Nat.reduceEqDiff,reduceCtorEq,thaw,thaw1,Option.map_some,List.map_cons,List.map_nil,List.set_cons_zero,List.set_cons_succ,List.forall_mem_cons,List.not_mem_nil,false_implies,implies_true,and_self,List.all_cons,List.all_nil,Nat.reduceLT,labsInL,AV.labsIn]
   done
  simp only [ypw]
  refine AW.rT (by rfl) fun K hK=>?_
  simp -implicitDefEqProofs only [go_sem,↓reduceIte,Nat.reduceAdd,Nat.reduceEqDiff,Nat.reduceLeDiff,reduceCtorEq,List.set_cons_zero]
  apply hK;clear hK K
  refine AW.ghost (s':=ype P (.mk 3 0 [] es []) b) ?_ (AW.ret (part_end rfl))
  simp only [ype,cellsT,Tr.kind,Tr.n,Tr.s,Tr.ents,Tr.rest,List.map_nil]
  refine Ghost.sub ?_ ?_ <;> simp -implicitDefEqProofs only [go_sem,↓reduceIte,Nat.reduceEqDiff,reduceCtorEq,List.forall_mem_cons,List.not_mem_nil,false_implies,implies_true,and_self,List.all_cons,List.all_nil,Nat.reduceLT,labsInL,AV.labsIn]
  done
 obtain ⟨s,hs⟩ : ∃ s,x[k]? = some s:=⟨_,List.getElem?_eq_getElem hkl⟩
 have hsm:=List.mem_of_getElem? hs
 have ⟨hs1,hs2,hs3⟩:=at_map' encSt hs
 have hc1 : ((k : Int) < (x.length : Int)) = True:=eq_true (by omega)
 have w1 : IntKind.wrap .i64 ((k : Int) + 1) = ((k + 1 : Nat) : Int):=by rw [w64] <;> omega
 obtain ⟨p1,p2,p3⟩:=prog_step hP hxm hsm
 have OA:=outP_at (P:=P) (t:=t) hs
 have OLk:=OL k
 have BN : IntKind.wrap .i64 (a + ((sumP P t x (k + 1) : Nat) : Int)) = IntKind.wrap .i64 (IntKind.wrap .i64 (IntKind.wrap .i64 (a + ((sumP P t x k : Nat) : Int)) + 1) + ((lookS P s (getG t.ents s.tag) : Nat) : Int)):=by
  rw [sumP_at hs,show (1 : Int) = ((1 : Nat) : Int) from rfl,wrap_nat,wrap_nat]
 have GC:=getG_cases t.ents s.tag
 have CG:=node_Get t hlt s.tag
 rw [getE_G] at CG
 have EF : entF P t.ents s = if (stepF P s (getG t.ents s.tag)).isEmpty = true then [] else [(s.tag,stepF P s (getG t.ents s.tag))]:=rfl
 have nextK : ∀ (s' : St) (es : List (Int × List Tr)) (b : Int),outP P t x (k + 1) = es → IntKind.wrap .i64 (a + ((sumP P t x (k + 1) : Nat) : Int)) = b → Ghost ⟨58,[0],val⟩ s' (yp P t x (k + 1) es b [] [] 4) → ∃ y : Nat,y ≤ x.length ∧ x.length - y < x.length - k ∧ Ghost ⟨58,[0],val⟩ s' (yp P t x y (outP P t x y) (IntKind.wrap .i64 (a + ((sumP P t x y : Nat) : Int))) [] [] 4) :=
  fun s' es b h1 h2 g=>⟨k + 1,by omega,by omega,by rw [h1,h2]; exact g⟩
 generalize hb : IntKind.wrap .i64 (a + ((sumP P t x k : Nat) : Int)) = b at BN
 generalize hes : outP P t x k = es at OA OLk
 simp only [yp]
 refine AW.rT (by rfl) fun K hK=>?_
 simp -implicitDefEqProofs only [go_sem,↓reduceIte,Nat.reduceAdd,Nat.reduceEqDiff,reduceCtorEq,hc1]
 apply hK;clear hK K
 refine AW.seq ?_
 refine AW.cT rfl ?_
 refine AW.skip ?_
 simp only [andThen]
 refine AW.seq ?_
 refine AW.block ?_
 refine AW.rT (by rfl) fun K hK=>?_
 simp -implicitDefEqProofs only [go_sem,↓reduceIte,Nat.reduceAdd,Nat.reduceEqDiff,Nat.reduceLeDiff,reduceCtorEq,hs1,hs3,hc1,encSt,List.length_map]
 apply hK;clear hK K
 refine AW.rT (by rfl) fun K hK=>?_
 simp -implicitDefEqProofs only [go_sem,↓reduceIte,Nat.reduceAdd,Nat.reduceEqDiff,Nat.reduceLeDiff,reduceCtorEq,List.set_cons_zero]
 apply hK;clear hK K
 refine AW.rT (by rfl) fun K hK=>?_
 simp -implicitDefEqProofs only [go_sem,↓reduceIte,Nat.reduceAdd,Nat.reduceEqDiff,reduceCtorEq]
 refine ⟨.pure _,CG,?_⟩
 try simp -implicitDefEqProofs only [go_sem,Nat.reduceAdd]
 apply hK;clear hK K
 refine AW.ghost (s':=yp P t x k es (IntKind.wrap .i64 (b + 1)) [(9,.ptr 4 0 0),(10,.p (.slice ((getG t.ents s.tag).map encV1)))] [(4,.row 3 [[.p (.int .i64 s.op),.p (.int .i64 s.tag),.p (.int .i64 s.sub)]])] 5) ?_ ?_
 ·simp only [yp]
  refine Ghost.ent (fun l=>if l = 4 then 7 else l) ?_ ?_ ?_ <;> simp -implicitDefEqProofs only [go_sem,↓reduceIte,Nat.reduceEqDiff,reduceCtorEq,List.forall_mem_cons,List.not_mem_nil,false_implies,implies_true,and_self,map_renL_lift,labsIn_lift,List.all_cons,List.all_nil,Nat.reduceLT,labsInL,AV.labsIn]
  all_goals first | rfl | skip
 simp only [yp]
 refine AW.seq ?_
 rcases GC with GC | ⟨e,he,heg,GC⟩
 ·rw [GC] at BN EF ⊢
  rw [stepF_none,if_pos (show ([] : List Tr).isEmpty = true from rfl)] at EF
  rw [lookS_nil] at BN
  have BN' : IntKind.wrap .i64 (a + ((sumP P t x (k + 1) : Nat) : Int)) = IntKind.wrap .i64 (b + 1):=by
   rw [BN]
   simpa using wrap_wrap (b + 1)
  rw [EF,List.append_nil] at OA
  refine AW.rT (by rfl) fun K hK=>?_
  simp -implicitDefEqProofs only [go_sem,↓reduceIte,Nat.reduceAdd,Nat.reduceEqDiff,reduceCtorEq]
  apply hK;clear hK K
  refine AW.cT rfl ?_
  refine AW.exit ?_
  simp only [andThen,inBlk,↓reduceIte]
  refine AW.rE (by rfl) fun K hK=>?_
  simp -implicitDefEqProofs only [go_sem,↓reduceIte,Nat.reduceAdd,Nat.reduceEqDiff,reduceCtorEq,w1]
  apply hK;clear hK K
  refine nextK _ _ _ OA BN' ?_
  simp only [yp]
  refine Ghost.sub ?_ ?_ <;> simp -implicitDefEqProofs only [go_sem,↓reduceIte,Nat.reduceEqDiff,reduceCtorEq,List.forall_mem_cons,List.not_mem_nil,false_implies,implies_true,and_self,labsIn_lift,List.all_cons,List.all_nil,Nat.reduceLT,labsInL,AV.labsIn]
  done
 obtain ⟨r1,r2,r3⟩:=rightE_in hre e he
 have hem:=List.getElem?_of_mem he
 obtain ⟨ei,hei⟩:=hem
 have ⟨le1,le2⟩:=lensE_at la3 hei
 have ST:=interp_step P s e.2 (headK e.2) p1 p2 p3 r1 le1 (fun y hy=>by
  obtain ⟨yj,hyj⟩:=List.getElem?_of_mem hy
  exact ⟨lensTs_at le2 hyj,(r3 y hy).2,(r3 y hy).1⟩) (fun y hy=>by
  obtain ⟨yj,hyj⟩:=List.getElem?_of_mem hy
  exact ih _ (size_ent hei hyj) y rfl (lensTs_at le2 hyj) (r3 y hy).2) (IntKind.wrap .i64 (b + 1)) (wrap_wrap _)
 rw [GC] at BN EF ⊢
 have z0 : ((e.2.length : Int) == 0) = false:=by
  rw [beq_eq_false_iff_ne]
  omega
 generalize stepF P s e.2 = sf at ST EF
 generalize lookS P s e.2 = lk at ST BN
 simp only [encSt] at ST
 refine AW.rT (by rfl) fun K hK=>?_
 simp -implicitDefEqProofs only [go_sem,↓reduceIte,Nat.reduceAdd,Nat.reduceEqDiff,reduceCtorEq,z0,List.length_map]
 apply hK;clear hK K
 refine AW.cF rfl ?_
 refine AW.skip ?_
 simp only [andThen]
 refine AW.rR (SeqR.ev 3 (by rfl) (by decide) ?_)
 simp -implicitDefEqProofs only [go_sem,↓reduceIte,Nat.reduceAdd,Nat.reduceEqDiff,Nat.reduceLeDiff,reduceCtorEq]
 refine SeqR.call (fun k=>k) rfl rfl ST ⟨?_,rfl,?_,rfl,rfl,rfl,rfl,rfl,rfl⟩ ?_
 ·simp -implicitDefEqProofs only [go_sem,↓reduceIte,Nat.reduceEqDiff,argD]
 ·simp only [memR]
  simp -implicitDefEqProofs only [go_sem,↓reduceIte,List.forall_mem_cons,List.not_mem_nil,false_implies,implies_true]
  first | done | decide
 simp only [memR,AV.ren]
 refine SeqR.ev 1 (by rfl) (by decide) ?_
 simp -implicitDefEqProofs only [go_sem,↓reduceIte,Nat.reduceAdd,lift2,goneU,newU,List.map_cons,List.map_nil,putH,Nat.reduceLT]
 refine SeqR.last rfl ?_
 rw [← BN]
 generalize hb' : IntKind.wrap .i64 (a + ((sumP P t x (k + 1) : Nat) : Int)) = b' at *
 refine AW.ghost (s':=yp P t x k es b' [(9,.ptr 4 0 0),(11,.p (.slice (sf.map encTr)))] [(4,.row 3 [[.p (.int .i64 s.op),.p (.int .i64 s.tag),.p (.int .i64 s.sub)]])] 5) ?_ ?_
 ·simp only [yp]
  refine Ghost.sub ?_ ?_ <;> simp -implicitDefEqProofs only [go_sem,↓reduceIte,Nat.reduceEqDiff,reduceCtorEq,List.forall_mem_cons,List.not_mem_nil,false_implies,implies_true,and_self,labsIn_lift,List.all_cons,List.all_nil,Nat.reduceLT,labsInL,AV.labsIn]
  done
 simp only [yp]
 by_cases h0 : sf = []
 ·subst h0
  rw [if_pos (show ([] : List Tr).isEmpty = true from rfl)] at EF
  rw [EF,List.append_nil] at OA
  refine AW.rT (by rfl) fun K hK=>?_
  simp -implicitDefEqProofs only [go_sem,↓reduceIte,Nat.reduceAdd,Nat.reduceEqDiff,reduceCtorEq]
  apply hK;clear hK K
  refine AW.cF rfl ?_
  refine AW.skip ?_
  simp only [andThen,inBlk]
  refine AW.rE (by rfl) fun K hK=>?_
  simp -implicitDefEqProofs only [go_sem,↓reduceIte,Nat.reduceAdd,Nat.reduceEqDiff,reduceCtorEq,w1]
  apply hK;clear hK K
  refine nextK _ _ _ OA rfl ?_
  simp only [yp]
  refine Ghost.sub ?_ ?_ <;> simp -implicitDefEqProofs only [go_sem,↓reduceIte,Nat.reduceEqDiff,reduceCtorEq,List.forall_mem_cons,List.not_mem_nil,false_implies,implies_true,and_self,labsIn_lift,List.all_cons,List.all_nil,Nat.reduceLT,labsInL,AV.labsIn]
  done
 ·have hp:=List.length_pos_iff.2 h0
  have g1 : ((sf.length : Int) > 0) = True:=eq_true (by omega)
  rw [if_neg (by simp [h0])] at EF
  rw [EF] at OA
  have e8 : liftE (es.map encEn) ++ [[AV.p (.int .i64 s.tag),.p (.slice (sf.map encTr))]] = liftE ((es ++ [(s.tag,sf)]).map encEn):=by
   simp [liftE,encEn]
  refine AW.rT (by rfl) fun K hK=>?_
  simp -implicitDefEqProofs only [go_sem,↓reduceIte,Nat.reduceAdd,Nat.reduceEqDiff,reduceCtorEq,g1,List.length_map]
  apply hK;clear hK K
  refine AW.cT rfl ?_
  refine AW.rE (by rfl) fun K hK=>?_
  simp -implicitDefEqProofs only [go_sem,↓reduceIte,Nat.reduceAdd,Nat.reduceMul,Nat.reduceEqDiff,Nat.reduceLeDiff,reduceCtorEq]
  refine ⟨⟨by simp,by simp [oneAll,AV.one,PV.one],by simp⟩,by simp [liftE_length]; omega,?_⟩
  try simp -implicitDefEqProofs only [go_sem,↓reduceIte,Nat.reduceAdd,Nat.reduceMul,Nat.reduceEqDiff,Nat.reduceLeDiff,reduceCtorEq,Int.reduceToNat]
  apply hK;clear hK K
  simp only [andThen,inBlk]
  refine AW.rE (by rfl) fun K hK=>?_
  simp -implicitDefEqProofs only [go_sem,↓reduceIte,Nat.reduceAdd,Nat.reduceEqDiff,reduceCtorEq,w1]
  apply hK;clear hK K
  refine nextK _ _ _ OA rfl ?_
  simp only [yp]
  rw [← e8]
  refine Ghost.ent (fun l=>if l = 3 then 15 else l) ?_ ?_ ?_ <;> simp -implicitDefEqProofs only [go_sem,↓reduceIte,Nat.reduceEqDiff,reduceCtorEq,List.forall_mem_cons,List.not_mem_nil,false_implies,implies_true,and_self,map_renL_lift,labsIn_lift,List.all_append,List.all_cons,List.all_nil,List.map_append,Nat.reduceLT,labsInL,AV.labsIn]
  all_goals first | rfl | skip
end Go.Aw.T
namespace Go.Aw
open Go.Proofs Go.RowKit
theorem LFn.ofD {P : Program} {f : FuncId} {i off sz : Nat} {es es' : List (List PV)} {rest : List PV} {r : PV}
  (h : DFn P f (.ptr 0 i off :: rest.map AV.p) [(0,.row sz (liftE es))] 1 [0] (.p r) [(0,.row sz (liftE es'))] 0) :
  LFn P f (.ptr i off sz es :: rest.map LA.v) (some (.row sz es') :: rest.map fun _=>none) r:=by
 obtain ⟨he,h⟩:=h
 refine ⟨he,by simp [LA.lb,Function.comp_def],fun w I σ vals hs hσ hr hH ht=>?_⟩
 have eH : lendH (.ptr i off sz es :: rest.map LA.v) = ofH [(0,.row sz (liftE es))]:=by
  funext j
  cases j with
  | zero=>rfl
  | succ j =>
   simp only [lendH,List.getElem?_cons_succ,List.getElem?_map]
   cases rest[j]? <;> simp [LA.lb,ofH]
 have eO : outH (some (.row sz es') :: rest.map fun _=>none) = ofH [(0,.row sz (liftE es'))]:=by
  funext j
  cases j with
  | zero=>rfl
  | succ j =>
   simp only [outH,List.getElem?_cons_succ,List.getElem?_map]
   cases rest[j]? <;> simp [ofH]
 rw [eH] at hH ⊢
 rw [eO]
 have at0 : ∀ (b : List (Nat × Blk)) (x : Blk),b = [(0,x)] → ∀ l,ofH b l ≠ none → l = 0:=by
  rintro b x rfl l hl
  by_cases q : l = 0
  ·exact q
  ·exact absurd (by simp [ofH,q]) hl
 -- labels: only the row's
 have relab : ∀ (σ1 σ2 : Lab) (w1 : World) (I1 : Nat → Prop) (X1 : Nat → Prop) (x : List (List PV)),σ1 0 = σ2 0 → HOK σ1 w1 I1 (ofH [(0,.row sz (liftE x))]) w X1 I → HOK σ2 w1 I1 (ofH [(0,.row sz (liftE x))]) w X1 I:=by
  intro σ1 σ2 w1 I1 X1 x e k
  have z:=at0 _ _ (rfl : [((0 : Nat),Blk.row sz (liftE x))] = _)
  refine ⟨fun l b hb=>?_,fun l l' g s s' q1 q2 q3 q4 q5 q6=>?_,fun l g s q1 q2 q3=>?_,k.imm,k.sub,k.fr⟩
  ·have hl:=z l (by rw [hb]; simp)
   subst hl
   have e0 : b = .row sz (liftE x):=by
    have : ofH [((0 : Nat),Blk.row sz (liftE x))] 0 = some (.row sz (liftE x)):=rfl
    rw [this] at hb
    injection hb with hb
    exact hb.symm
   subst e0
   have:=repB_by (σ:=σ1) (σ':=σ2) (ρ:=fun l=>l) (p:=fun l=>l == 0) (fun l hl s hs=>by
    have : l = 0:=by simpa using hl
    subst this
    rw [← e]; exact hs) (l:=0) (by simp) (k.rows 0 _ hb) labsBy_lift
   rw [Blk.ren_id] at this
   exact this
  ·rw [z l q1,z l' q2]
  ·have hl:=z l q1
   subst hl
   exact k.mine 0 g s q1 (by rw [e]; exact q2) q3
 have hX : ∀ (σ1 σ2 : Lab),σ1 0 = σ2 0 → lentX σ1 (ofH [(0,.row sz (liftE es))]) = lentX σ2 (ofH [(0,.row sz (liftE es))]):=by
  intro σ1 σ2 e
  funext g
  have z:=at0 _ _ (rfl : [((0 : Nat),Blk.row sz (liftE es))] = _)
  apply propext
  constructor
  ·rintro ⟨l,s,q1,q2,q3⟩
   refine ⟨l,s,q1,?_,q3⟩
   rw [z l q1] at q2 ⊢
   rw [← e]; exact q2
  ·rintro ⟨l,s,q1,q2,q3⟩
   refine ⟨l,s,q1,?_,q3⟩
   rw [z l q1] at q2 ⊢
   rw [e]; exact q2
 let σ0 : Lab:=fun l=>if l = 0 then σ 0 else none
 have e0 : σ 0 = σ0 0:=rfl
 have hH0:=relab σ σ0 w I _ es e0 hH
 rw [hX σ σ0 e0] at hH0
 refine (h w I σ0 vals (by rw [hs]; simp) (fun l hl=>by show (if l = 0 then σ 0 else none) = none; rw [if_neg (by omega)]) (fun j u x q1 q2=>?_) hH0 ht).mono ?_
 ·cases j with
  | zero =>
   have:=hr 0 u _ q1 rfl
   simp only [List.getElem?_cons_zero,Option.some.injEq] at q2
   subst q2
   have:=repA_by (σ:=σ) (σ':=σ0) (ρ:=fun l=>l) (p:=fun l=>l == 0) (fun l hl s hs=>by
    have : l = 0:=by simpa using hl
    subst this
    exact hs) this (by simp [LA.av,AV.labsBy])
   rw [AV.ren_id] at this
   exact this
  | succ j =>
   rw [List.getElem?_cons_succ,List.getElem?_map,Option.map_eq_some_iff] at q2
   obtain ⟨y,hy,rfl⟩:=q2
   have:=hr (j + 1) u (.v y) q1 (by rw [List.getElem?_cons_succ,List.getElem?_map,hy]; rfl)
   cases this with
   | p h=>exact .p h
 ·rintro e w' ⟨v,σ',I',q1,q2,q3,q4,q5⟩
  refine ⟨v,I',q1,?_,?_⟩
  ·rw [hX σ σ0 e0]
   exact relab σ' σ w' I' _ es' ((q4 0 (by simp)).trans e0.symm) q2
  ·cases q3 with
   | p h=>exact h
end Go.Aw
namespace Go.Aw.T
open Go.Proofs
def undV (t : Tr) (g : Int) : List Tr:=match t.ents.find? (fun e=>e.1 == g) with | some e=>e.2 | none=>[]
theorem find_none {es : List (Int × List Tr)} {g : Int} (h : es.all (fun e=>e.1 != g) = true) : es.find? (fun e=>e.1 == g) = none:=by
 rw [List.find?_eq_none]
 intro e he
 have:=List.all_eq_true.1 h e he
 simpa using this
theorem find_some {es : List (Int × List Tr)} {g : Int} {i : Nat} {e : Int × List Tr} (h : (es.take i).all (fun e=>e.1 != g) = true) (he : es[i]? = some e) (hg : e.1 = g) : es.find? (fun e=>e.1 == g) = some e:=by
 have hl:=(List.getElem?_eq_some_iff.1 he).1
 have e1 : es = es.take i ++ e :: es.drop (i + 1):=by
  conv=>lhs; rw [← List.take_append_drop i es,List.drop_eq_getElem_cons hl,(List.getElem?_eq_some_iff.1 he).2]
 rw [e1,List.find?_append,find_none h]
 simp [hg]
theorem all_take {es : List (Int × List Tr)} {g : Int} {i : Nat} {e : Int × List Tr} (he : es[i]? = some e) (h : (es.take i).all (fun e=>e.1 != g) = true) (hg : e.1 ≠ g) : (es.take (i + 1)).all (fun e=>e.1 != g) = true:=by
 rw [List.take_add_one,he,List.all_append,h]
 simpa using hg
def vu (t : Tr) (g : Int) (i : Nat) : St:=⟨ofL [(1,.p (.int .i64 g)),(2,.ptr 0 0 0),(5,.p (.int .i64 (i : Int)))],ofH [(0,.row 5 [cellsT t])],1⟩
theorem ref_Under (t : Tr) (hlt : lensT t = true) (g : Int) : PFn Tryz.prog 52 [.agg (encTr t),.int .i64 g] (.slice ((undV t g).map encTr)):=by
 obtain ⟨la1,la2,la3⟩:=lensT_mk hlt
 refine PFn.of Tryz.func52 rfl (by decide) Tryz.ntmps52 Tryz.results52 (Nat.le_of_ble_eq_true rfl) ?_
 simp only [argsT]
 refine AW.rT (by rfl) fun K hK=>?_
 simp -implicitDefEqProofs only [go_sem,Nat.reduceAdd,encTr_eq]
 apply hK;clear hK K
 refine AW.seq ?_
 refine AW.rT (by rfl) fun K hK=>?_
 simp -implicitDefEqProofs only [go_sem,Nat.reduceAdd]
 apply hK;clear hK K
 refine AW.block ?_
 refine AW.loop (fun i : Nat=>vu t g i) (fun i=>i ≤ t.ents.length ∧ (t.ents.take i).all (fun e=>e.1 != g) = true) (fun i=>t.ents.length - i) 0 ?_ ⟨by simp,by simp⟩ fun i hi=>?_
 ·simp only [vu,cellsT]
  refine Ghost.sub ?_ ?_ <;> simp -implicitDefEqProofs only [go_sem,↓reduceIte,Nat.reduceEqDiff,List.forall_mem_cons,List.not_mem_nil,false_implies,implies_true,and_self,List.all_cons,List.all_nil,Nat.reduceLT,labsInL,AV.labsIn]
  rfl
 obtain ⟨g1,g2⟩:=hi
 simp only [vu,cellsT]
 refine AW.seq ?_
 by_cases hil : i < t.ents.length
 case neg =>
  have hc1 : ((i : Int) < (t.ents.length : Int)) = False:=eq_false (by omega)
  rw [List.take_of_length_le (by omega)] at g2
  have HH : undV t g = []:=by unfold undV; rw [find_none g2]
  refine AW.rT (by rfl) fun K hK=>?_
  simp -implicitDefEqProofs only [go_sem,↓reduceIte,Nat.reduceAdd,Nat.reduceEqDiff,hc1,List.length_map]
  apply hK;clear hK K
  refine AW.cF rfl ?_
  refine AW.exit ?_
  simp only [andThen,inBlk,↓reduceIte]
  refine AW.rT (by rfl) fun K hK=>?_
  simp -implicitDefEqProofs only [go_sem,Nat.reduceAdd]
  apply hK;clear hK K
  refine AW.ret ?_
  simp -implicitDefEqProofs only [go_sem,HH,List.map_nil]
 obtain ⟨e,he⟩ : ∃ e,t.ents[i]? = some e:=⟨_,List.getElem?_eq_getElem hil⟩
 have ⟨he1,he2,he3⟩:=at_map' encEn he
 have hc1 : ((i : Int) < (t.ents.length : Int)) = True:=eq_true (by omega)
 refine AW.rT (by rfl) fun K hK=>?_
 simp -implicitDefEqProofs only [go_sem,↓reduceIte,Nat.reduceAdd,Nat.reduceEqDiff,hc1,List.length_map]
 apply hK;clear hK K
 refine AW.cT rfl ?_
 refine AW.skip ?_
 simp only [andThen]
 refine AW.seq ?_
 refine AW.block ?_
 by_cases hg : e.1 = g
 ·have b1:=eqb hg
  have HH : undV t g = e.2:=by unfold undV; rw [find_some g2 he hg]
  refine AW.rT (by rfl) fun K hK=>?_
  simp -implicitDefEqProofs only [go_sem,↓reduceIte,Nat.reduceAdd,Nat.reduceEqDiff,he1,he3,hc1,encEn,List.length_map,b1]
  apply hK;clear hK K
  refine AW.cT rfl ?_
  refine AW.rT (by rfl) fun K hK=>?_
  simp -implicitDefEqProofs only [go_sem,↓reduceIte,Nat.reduceAdd,Nat.reduceEqDiff,he1,he3,hc1,encEn,List.length_map]
  apply hK;clear hK K
  refine AW.ret ?_
  simp -implicitDefEqProofs only [go_sem,HH]
 ·have b1:=beqf hg
  have w1 : IntKind.wrap .i64 ((i : Int) + 1) = ((i + 1 : Nat) : Int):=by rw [w64] <;> omega
  refine AW.rT (by rfl) fun K hK=>?_
  simp -implicitDefEqProofs only [go_sem,↓reduceIte,Nat.reduceAdd,Nat.reduceEqDiff,he1,he3,hc1,encEn,List.length_map,b1]
  apply hK;clear hK K
  refine AW.cF rfl ?_
  refine AW.skip ?_
  simp only [andThen,inBlk]
  refine AW.rE (by rfl) fun K hK=>?_
  simp -implicitDefEqProofs only [go_sem,↓reduceIte,Nat.reduceAdd,Nat.reduceEqDiff,w1]
  apply hK;clear hK K
  refine ⟨i + 1,⟨by omega,all_take he g2 hg⟩,by omega,?_⟩
  show Ghost _ _ (vu t g (i + 1))
  simp only [vu,cellsT]
  refine Ghost.sub ?_ ?_ <;> simp -implicitDefEqProofs only [go_sem,↓reduceIte,Nat.reduceEqDiff,List.forall_mem_cons,List.not_mem_nil,false_implies,implies_true,and_self,List.all_cons,List.all_nil,Nat.reduceLT,labsInL,AV.labsIn]
  done
end Go.Aw.T
namespace Go.Aw.T
open Go.Proofs Go.RowKit
def PartRK (P : List (List Stp)) (t : Tr) : Prop:=∀ (i : Nat) (a : Int),i < P.length → IntKind.wrap .i64 a = a → DFn Tryz.prog 34 [.ptr 0 0 0,.p (.int .i64 (i : Int)),.p (.agg (encTr t))] (memR P a) 1 [0] (.p (.agg (encTr (runF P t (i : Int))))) (memR P (IntKind.wrap .i64 (a + (lookF P t (i : Int) : Nat)))) 0
theorem part_endR {P : List (List Stp)} {args : List AV} {r : Tr} {a b : Int} (h : args[0]? = some (.ptr 0 0 0)) : EndD Tryz.prog #[ResultVar.cell 6 30] args (memR P a) 1 [0] (.p (.agg (encTr r))) (memR P b) 0 [0] .ret (ype P r b):=by
 refine ⟨fun k=>k,[.p (.agg (encTr r))],⟨?_,trivial⟩,rfl,rfl,?_,?_,?_⟩
 ·simp only [ype,cellsT,encTr_eq]
  simp -implicitDefEqProofs only [go_sem,↓reduceIte,Nat.reduceAdd,Nat.reduceLeDiff,reduceCtorEq]
  done
 ·simp only [memR,ype]
  simp -implicitDefEqProofs only [go_sem,↓reduceIte,List.forall_mem_cons,List.not_mem_nil,false_implies,implies_true]
  first | done | decide
 ·simp [memR]
 ·exact mem_root h rfl
theorem ref16_one (P : List (List Stp)) (s : Stp) (x : Tr) (h1 : 1 ≤ s.op) (h4 : s.op ≤ 4) (hsub : s.op = 3 ∨ s.op = 4 → ∃ k : Nat,s.sub = (k : Int) ∧ k < P.length) (hr : rightT x = true) (h2 : s.op = 2 → x.kind = 1) (IH : PartRK P x) (a : Int) (ha : IntKind.wrap .i64 a = a) :
  DFn Tryz.prog 53 [.ptr 0 0 0,.p (.agg (encSt s)),.p (.agg (encTr x))] (memR P a) 1 [0] (.p (.agg (encTr (run1F P s x)))) (memR P (IntKind.wrap .i64 (a + (lk1 P s x : Nat)))) 0:=by
 refine DFn.of [0] Tryz.func53 rfl (by decide) Tryz.ntmps53 Tryz.results53 (Nat.le_of_ble_eq_true rfl) (by simp) fun val=>?_
 simp only [avT,memR]
 refine AW.rT (by rfl) fun K hK=>?_
 simp -implicitDefEqProofs only [go_sem,↓reduceIte,Nat.reduceAdd,Nat.reduceEqDiff,reduceCtorEq,encSt,encTr_eq]
 apply hK;clear hK K
 refine AW.seq ?_
 refine AW.rT (by rfl) fun K hK=>?_
 simp -implicitDefEqProofs only [go_sem,↓reduceIte,Nat.reduceAdd,Nat.reduceEqDiff]
 apply hK;clear hK K
 refine AW.block ?_
 by_cases o1 : s.op = 1
 ·have e1:=eqb o1
  have R1 : run1F P s x = x:=by unfold run1F; rw [if_neg (by omega),if_neg (by omega)]
  have LK : lk1 P s x = 0:=by unfold lk1; rw [if_neg (by omega)]
  rw [R1,LK,show IntKind.wrap .i64 (a + ((0 : Nat) : Int)) = a by simpa using ha]
  refine AW.rT (by rfl) fun K hK=>?_
  simp -implicitDefEqProofs only [go_sem,↓reduceIte,Nat.reduceAdd,e1]
  apply hK;clear hK K
  refine AW.cT rfl ?_
  refine AW.rT (by rfl) fun K hK=>?_
  simp -implicitDefEqProofs only [go_sem,↓reduceIte,Nat.reduceAdd,Nat.reduceEqDiff,Nat.reduceLeDiff,List.set_cons_zero]
  apply hK;clear hK K
  refine AW.ghost (s':=ype P x a) ?_ (AW.ret (part_endR rfl))
  simp only [ype,cellsT]
  show Ghost _ _ _
  refine Ghost.ent (fun l=>if l = 1 then 3 else l) ?_ ?_ ?_ <;> simp -implicitDefEqProofs only [go_sem,↓reduceIte,Nat.reduceEqDiff,reduceCtorEq,List.forall_mem_cons,List.not_mem_nil,false_implies,implies_true,and_self,List.all_cons,List.all_nil,Nat.reduceLT,labsInL,AV.labsIn]
  all_goals first | rfl | skip
 have e1:=beqf o1
 by_cases o2 : s.op = 2
 ·have e2:=eqb o2
  have R1 : run1F P s x = clampT x:=by unfold run1F; rw [if_pos o2]
  have LK : lk1 P s x = 0:=by unfold lk1; rw [if_neg (by omega)]
  have CT : clampT x = .mk 1 (clampV x.n) [] [] []:=by
   rcases right_kinds hr with ⟨k,e⟩ | ⟨k,_⟩ | ⟨k,_⟩
   ·conv=>lhs; rw [e]
    rfl
   ·have:=h2 o2
    omega
   ·have:=h2 o2
    omega
  have CC:=ref13_Clamp x.n
  rw [R1,CT,LK,show IntKind.wrap .i64 (a + ((0 : Nat) : Int)) = a by simpa using ha]
  refine AW.rT (by rfl) fun K hK=>?_
  simp -implicitDefEqProofs only [go_sem,↓reduceIte,Nat.reduceAdd,e1]
  apply hK;clear hK K
  refine AW.cF rfl ?_
  refine AW.rT (by rfl) fun K hK=>?_
  simp -implicitDefEqProofs only [go_sem,↓reduceIte,Nat.reduceAdd,Nat.reduceEqDiff,e2]
  apply hK;clear hK K
  refine AW.cT rfl ?_
  refine AW.rT (by rfl) fun K hK=>?_
  simp -implicitDefEqProofs only [go_sem,↓reduceIte,Nat.reduceAdd,Nat.reduceEqDiff]
  refine ⟨.pure _,CC,?_⟩
  try simp -implicitDefEqProofs only [go_sem,↓reduceIte,Nat.reduceAdd,Nat.reduceEqDiff,Nat.reduceLeDiff]
  apply hK;clear hK K
  refine AW.ghost (s':=ype P (.mk 1 (clampV x.n) [] [] []) a) (Ghost.trans (Ghost.exH (l:=3) (i:=0) (j:=3) rfl rfl rfl) (Ghost.trans (Ghost.exH (l:=3) (i:=0) (j:=4) rfl rfl rfl) ?_)) (AW.ret (part_endR rfl))
  simp only [ype,cellsT,Tr.kind,Tr.n,Tr.s,Tr.ents,Tr.rest,List.map_nil]
  show Ghost _ _ _
  refine Ghost.ent (fun l=>if l = 1 then 3 else l) ?_ ?_ ?_ <;> simp -implicitDefEqProofs only [go_sem,↓reduceIte,Nat.reduceEqDiff,reduceCtorEq,List.set_cons_zero,List.set_cons_succ,List.forall_mem_cons,List.not_mem_nil,false_implies,implies_true,and_self,List.all_cons,List.all_nil,Nat.reduceLT,labsInL,AV.labsIn]
  all_goals first | rfl | skip
 have e2:=beqf o2
 have o34 : s.op = 3 ∨ s.op = 4:=by omega
 obtain ⟨k,hsk,hkl⟩:=hsub o34
 have LK : lk1 P s x = lookF P x (k : Int):=by unfold lk1; rw [if_pos o34,hsk]
 have R1 : run1F P s x = runF P x (k : Int):=by unfold run1F; rw [if_neg o2,if_pos o34,hsk]
 have PT:=IH k a hkl ha
 rw [LK,R1]
 generalize runF P x (k : Int) = z at PT
 generalize lookF P x (k : Int) = n at PT
 rw [encTr_eq z,encTr_eq x,← hsk] at PT
 rw [encTr_eq z]
 refine AW.rT (by rfl) fun K hK=>?_
 simp -implicitDefEqProofs only [go_sem,↓reduceIte,Nat.reduceAdd,e1]
 apply hK;clear hK K
 refine AW.cF rfl ?_
 refine AW.rT (by rfl) fun K hK=>?_
 simp -implicitDefEqProofs only [go_sem,↓reduceIte,Nat.reduceAdd,Nat.reduceEqDiff,e2]
 apply hK;clear hK K
 refine AW.cF rfl ?_
 refine AW.skip ?_
 simp only [andThen,inBlk]
 refine AW.rR (SeqR.ev 4 (by rfl) (by decide) ?_)
 simp -implicitDefEqProofs only [go_sem,↓reduceIte,Nat.reduceAdd,Nat.reduceEqDiff,Nat.reduceLeDiff,reduceCtorEq]
 refine SeqR.call (fun k=>k) rfl rfl PT ⟨?_,rfl,?_,rfl,rfl,rfl,rfl,rfl,rfl⟩ ?_
 ·simp -implicitDefEqProofs only [go_sem,↓reduceIte,Nat.reduceEqDiff,argD]
 ·simp only [memR]
  simp -implicitDefEqProofs only [go_sem,↓reduceIte,reduceCtorEq,List.forall_mem_cons,List.not_mem_nil,false_implies,implies_true]
  first | done | decide
 simp only [memR,AV.ren]
 refine SeqR.ev 1 (by rfl) (by decide) ?_
 simp -implicitDefEqProofs only [go_sem,↓reduceIte,Nat.reduceAdd,Nat.reduceEqDiff,Nat.reduceLeDiff,reduceCtorEq,lift2,goneU,newU,List.map_cons,List.map_nil,putH,Nat.reduceLT]
 refine SeqR.last rfl ?_
 rw [← encTr_eq z]
 refine AW.ghost (s':=ype P z (IntKind.wrap .i64 (a + (n : Int)))) ?_ (AW.ret (part_endR rfl))
 simp only [ype,cellsT]
 show Ghost _ _ _
 refine Ghost.ent (fun l=>if l = 1 then 3 else l) ?_ ?_ ?_ <;> simp -implicitDefEqProofs only [go_sem,↓reduceIte,Nat.reduceEqDiff,reduceCtorEq,List.forall_mem_cons,List.not_mem_nil,false_implies,implies_true,and_self,List.all_cons,List.all_nil,Nat.reduceLT,labsInL,AV.labsIn]
 all_goals first | rfl | skip
end Go.Aw.T
namespace Go.Aw.T
open Go.Proofs Go.RowKit
theorem und_G (t : Tr) (g : Int) : undV t g = getG t.ents g:=by
 unfold undV getG
 cases t.ents.find? (fun e=>e.1 == g) <;> rfl
theorem kind_same {s : Stp} {l : List Tr} {c : Int} (hl1 : 1 ≤ l.length) (hx : ∀ x ∈ l,x.kind = c) : kindOK s l = if s.op = 2 then decide (c = 1) else if s.op = 3 ∨ s.op = 4 then decide (c = 3) else true:=by
 have al : ∀ k : Int,l.all (fun t=>decide (t.kind = k)) = decide (c = k):=fun k=>by
  by_cases hk : c = k
  ·rw [decide_eq_true hk,List.all_eq_true]
   intro x h
   rw [hx x h,decide_eq_true hk]
  ·rw [decide_eq_false hk,List.all_eq_false]
   obtain ⟨x,hxx⟩ : ∃ x,l[0]? = some x:=⟨_,List.getElem?_eq_getElem (by omega)⟩
   refine ⟨x,List.mem_of_getElem? hxx,?_⟩
   rw [hx x (List.mem_of_getElem? hxx),decide_eq_false hk]
   simp
 unfold kindOK
 rw [al,al]
def rp (P : List (List Stp)) (t : Tr) (i k : Nat) (es : List (Int × List Tr)) (b : Int) (L : List (Nat × AV)) (H : List (Nat × Blk)) (n : Nat) : St :=
 ⟨ofL ((0,.ptr 0 0 0) :: (1,.p (.int .i64 (i : Int))) :: (5,.ptr 1 0 0) :: (6,.ptr 2 0 0) :: (7,.ptr 3 0 0) :: (8,.p (.int .i64 (k : Int))) :: L),
 ofH ((0,.row 2 [[.p (.slice (P.map encPt)),.p (.int .i64 b)]]) :: (1,.row 5 [cellsT t]) :: (2,.row 5 [[.p (.int .i64 0),.p (.int .i64 0),.p (.str []),.ex [],.ex []]]) :: (3,.row 5 [[.p (.int .i64 3),.p (.int .i64 0),.p (.str []),.own 4,.ex []]]) :: (4,.row 2 (liftE (es.map encEn))) :: H),n⟩
def rpw (P : List (List Stp)) (es : List (Int × List Tr)) (b : Int) : St:=⟨ofL [(0,.ptr 0 0 0),(6,.ptr 2 0 0),(7,.ptr 3 0 0)],ofH [(0,.row 2 [[.p (.slice (P.map encPt)),.p (.int .i64 b)]]),(2,.row 5 [[.p (.int .i64 0),.p (.int .i64 0),.p (.str []),.ex [],.ex []]]),(3,.row 5 [[.p (.int .i64 3),.p (.int .i64 0),.p (.str []),.p (.slice (es.map encEn)),.p (.slice [])]])],4⟩
theorem ref16_part (P : List (List Stp)) (hP : progB P = true) : ∀ (t : Tr),lensT t = true → rightT t = true → PartRK P t:=by
 intro t
 induction h : SizeOf.sizeOf t using Nat.strongRecOn generalizing t with
 | _ sz ih =>
 subst h
 intro hlt hrt i a hi ha
 obtain ⟨x,hx⟩ : ∃ x,P[i]? = some x:=⟨_,List.getElem?_eq_getElem hi⟩
 have hxm:=List.mem_of_getElem? hx
 have hPO : partO P (i : Int) = x:=by
  unfold partO
  rw [Int.toNat_natCast,List.getD_eq_getElem?_getD,hx]
  rfl
 have RF : runF P t (i : Int) = .mk 3 0 [] (outP P t x x.length) []:=by
  rw [runF_eq,hPO]
  unfold outP
  rw [List.take_length]
 have LF : lookF P t (i : Int) = sumP P t x x.length:=by
  rw [lookF_eq,hPO]
  unfold sumP
  rw [List.take_length]
 rw [RF,LF]
 have hre : rightE t.ents 0 = true:=by
  rcases right_kinds hrt with ⟨_,q⟩ | ⟨_,q⟩ | ⟨_,_,_,q,_⟩
  ·rw [q]
   show rightE [] 0 = true
   rw [rightE]
  ·rw [q]
   show rightE [] 0 = true
   rw [rightE]
  ·exact q
 obtain ⟨la1,la2,la3⟩:=lensT_mk hlt
 have OL:=outP_len P t x
 have x500:=prog_len hP hxm
 refine DFn.of [0] Tryz.func34 rfl (by decide) Tryz.ntmps34 Tryz.results34 (Nat.le_of_ble_eq_true rfl) (by simp) fun val=>?_
 simp only [avT,memR]
 have ⟨hx1,hx2,hx3⟩:=at_map' encPt hx
 have hi' : (i : Int) < (P.length : Int):=by omega
 refine AW.rT (by rfl) fun K hK=>?_
 simp -implicitDefEqProofs only [go_sem,↓reduceIte,Nat.reduceAdd,reduceCtorEq,encTr_eq]
 apply hK;clear hK K
 refine AW.rT (by rfl) fun K hK=>?_
 simp -implicitDefEqProofs only [go_sem,↓reduceIte,Nat.reduceAdd,Nat.reduceEqDiff,Nat.reduceLeDiff]
 apply hK;clear hK K
 refine AW.seq ?_
 refine AW.rT (by rfl) fun K hK=>?_
 simp -implicitDefEqProofs only [go_sem,Nat.reduceAdd]
 apply hK;clear hK K
 refine AW.block ?_
 refine AW.loop (fun k : Nat=>rp P t i k (outP P t x k) (IntKind.wrap .i64 (a + (sumP P t x k : Nat))) [] [] 5) (fun k=>k ≤ x.length) (fun k=>x.length - k) 0 ?_ (by simp) fun k hk=>?_
 ·refine Ghost.trans (Ghost.nilH (l:=4) (i:=0) (j:=3) (sz':=2) rfl rfl rfl) ?_
  rw [show IntKind.wrap .i64 (a + ((sumP P t x 0 : Nat) : Int)) = a by unfold sumP; simpa using ha,show outP P t x 0 = [] from rfl]
  simp only [rp,cellsT]
  refine Ghost.ent (fun l=>if l = 3 then 4 else if l = 4 then 7 else l) ?_ ?_ ?_ <;> simp -implicitDefEqProofs only [go_sem,↓reduceIte,Nat.reduceEqDiff,reduceCtorEq,List.map_nil,liftE_nil,List.set_cons_zero,List.set_cons_succ,List.forall_mem_cons,List.not_mem_nil,false_implies,implies_true,and_self,List.all_cons,List.all_nil,Nat.reduceLT,labsInL,AV.labsIn]
  all_goals first | rfl | skip
 refine AW.seq ?_
 by_cases hkl : k < x.length
 case neg =>
  have hk' : k = x.length:=by omega
  subst hk'
  generalize outP P t x x.length = es
  generalize IntKind.wrap .i64 (a + ((sumP P t x x.length : Nat) : Int)) = b
  have hc1 : ((x.length : Int) < (x.length : Int)) = False:=eq_false (by omega)
  simp only [rp,cellsT]
  refine AW.rT (by rfl) fun K hK=>?_
  simp -implicitDefEqProofs only [go_sem,↓reduceIte,Nat.reduceAdd,Nat.reduceEqDiff,reduceCtorEq,hx1,hi',hx3,encPt,List.length_map,hc1]
  apply hK;clear hK K
  refine AW.cF rfl ?_
  refine AW.exit ?_
  simp only [andThen,inBlk,↓reduceIte]
  refine AW.ghost (s':=rpw P es b) (Ghost.trans (Ghost.freeze (lb:=4) (ps:=es.map encEn) rfl (unlift_liftE _)) (Ghost.trans (Ghost.exH (l:=3) (i:=0) (j:=4) rfl rfl rfl) ?_)) ?_
  ·simp only [rpw]
   refine Ghost.sub ?_ ?_ <;> simp -implicitDefEqProofs only [go_sem,↓reduceIte,Nat.reduceEqDiff,reduceCtorEq,thaw,thaw1,Option.map_some,List.map_cons,List.map_nil,List.set_cons_zero,List.set_cons_succ,List.forall_mem_cons,List.not_mem_nil,false_implies,implies_true,and_self,List.all_cons,List.all_nil,Nat.reduceLT,labsInL,AV.labsIn]
   done
  simp only [rpw]
  refine AW.rT (by rfl) fun K hK=>?_
  simp -implicitDefEqProofs only [go_sem,↓reduceIte,Nat.reduceAdd,Nat.reduceEqDiff,Nat.reduceLeDiff,reduceCtorEq,List.set_cons_zero]
  apply hK;clear hK K
  refine AW.ghost (s':=ype P (.mk 3 0 [] es []) b) ?_ (AW.ret (part_endR rfl))
  simp only [ype,cellsT,Tr.kind,Tr.n,Tr.s,Tr.ents,Tr.rest,List.map_nil]
  show Ghost _ _ _
  refine Ghost.ent (fun l=>if l = 1 then 2 else l) ?_ ?_ ?_ <;> simp -implicitDefEqProofs only [go_sem,↓reduceIte,Nat.reduceEqDiff,reduceCtorEq,List.forall_mem_cons,List.not_mem_nil,false_implies,implies_true,and_self,List.all_cons,List.all_nil,Nat.reduceLT,labsInL,AV.labsIn]
  all_goals first | rfl | skip
 obtain ⟨s,hs⟩ : ∃ s,x[k]? = some s:=⟨_,List.getElem?_eq_getElem hkl⟩
 have hsm:=List.mem_of_getElem? hs
 have ⟨hs1,hs2,hs3⟩:=at_map' encSt hs
 have hc1 : ((k : Int) < (x.length : Int)) = True:=eq_true (by omega)
 have w1 : IntKind.wrap .i64 ((k : Int) + 1) = ((k + 1 : Nat) : Int):=by rw [w64] <;> omega
 obtain ⟨p1,p2,p3⟩:=prog_step hP hxm hsm
 have OA:=outP_at (P:=P) (t:=t) hs
 have OLk:=OL k
 have BN : IntKind.wrap .i64 (a + ((sumP P t x (k + 1) : Nat) : Int)) = IntKind.wrap .i64 (IntKind.wrap .i64 (IntKind.wrap .i64 (a + ((sumP P t x k : Nat) : Int)) + 1) + ((lookS P s (getG t.ents s.tag) : Nat) : Int)):=by
  rw [sumP_at hs,show (1 : Int) = ((1 : Nat) : Int) from rfl,wrap_nat,wrap_nat]
 have GC:=getG_cases t.ents s.tag
 have CG:=ref_Under t hlt s.tag
 rw [und_G,encTr_eq t] at CG
 have EF : entF P t.ents s = if (stepF P s (getG t.ents s.tag)).isEmpty = true then [] else [(s.tag,stepF P s (getG t.ents s.tag))]:=rfl
 have nextK : ∀ (s' : St) (es : List (Int × List Tr)) (b : Int),outP P t x (k + 1) = es → IntKind.wrap .i64 (a + ((sumP P t x (k + 1) : Nat) : Int)) = b → Ghost ⟨122,[0],val⟩ s' (rp P t i (k + 1) es b [] [] 5) → ∃ y : Nat,y ≤ x.length ∧ x.length - y < x.length - k ∧ Ghost ⟨122,[0],val⟩ s' (rp P t i y (outP P t x y) (IntKind.wrap .i64 (a + ((sumP P t x y : Nat) : Int))) [] [] 5) :=
  fun s' es b h1 h2 g=>⟨k + 1,by omega,by omega,by rw [h1,h2]; exact g⟩
 generalize hb : IntKind.wrap .i64 (a + ((sumP P t x k : Nat) : Int)) = b at BN
 generalize hes : outP P t x k = es at OA OLk
 simp only [rp,cellsT]
 refine AW.rT (by rfl) fun K hK=>?_
 simp -implicitDefEqProofs only [go_sem,↓reduceIte,Nat.reduceAdd,Nat.reduceEqDiff,reduceCtorEq,hx1,hi',hx3,encPt,List.length_map,hc1]
 apply hK;clear hK K
 refine AW.cT rfl ?_
 refine AW.skip ?_
 simp only [andThen]
 refine AW.seq ?_
 refine AW.block ?_
 refine AW.rT (by rfl) fun K hK=>?_
 simp -implicitDefEqProofs only [go_sem,↓reduceIte,Nat.reduceAdd,Nat.reduceEqDiff,Nat.reduceLeDiff,reduceCtorEq,hx1,hi',hx3,encPt,hs1,hs3,hc1,encSt,List.length_map]
 apply hK;clear hK K
 refine AW.rT (by rfl) fun K hK=>?_
 simp -implicitDefEqProofs only [go_sem,↓reduceIte,Nat.reduceAdd,Nat.reduceEqDiff,Nat.reduceLeDiff,reduceCtorEq,List.set_cons_zero]
 apply hK;clear hK K
 refine AW.rT (by rfl) fun K hK=>?_
 simp -implicitDefEqProofs only [go_sem,↓reduceIte,Nat.reduceAdd,Nat.reduceEqDiff,Nat.reduceLeDiff,reduceCtorEq]
 refine ⟨.pure _,CG,?_⟩
 try simp -implicitDefEqProofs only [go_sem,Nat.reduceAdd]
 apply hK;clear hK K
 have LYN:=@lookS_no P s (getG t.ents s.tag)
 have LYY:=@lookS_yes P s (getG t.ents s.tag)
 refine AW.ghost (s':=rp P t i k es (IntKind.wrap .i64 (b + 1)) [(9,.ptr 5 0 0),(10,.p (.slice ((getG t.ents s.tag).map encTr)))] [(5,.row 3 [[.p (.int .i64 s.op),.p (.int .i64 s.tag),.p (.int .i64 s.sub)]])] 6) ?_ ?_
 ·simp only [rp,cellsT]
  refine Ghost.ent (fun l=>if l = 5 then 25 else l) ?_ ?_ ?_ <;> simp -implicitDefEqProofs only [go_sem,↓reduceIte,Nat.reduceEqDiff,reduceCtorEq,List.forall_mem_cons,List.not_mem_nil,false_implies,implies_true,and_self,map_renL_lift,labsIn_lift,List.all_cons,List.all_nil,Nat.reduceLT,labsInL,AV.labsIn]
  all_goals first | rfl | skip
 simp only [rp,cellsT]
 rcases GC with GC | ⟨e,he,heg,GC⟩
 ·rw [GC] at BN EF ⊢
  rw [stepF_none,if_pos (show ([] : List Tr).isEmpty = true from rfl)] at EF
  rw [lookS_nil] at BN
  have BN' : IntKind.wrap .i64 (a + ((sumP P t x (k + 1) : Nat) : Int)) = IntKind.wrap .i64 (b + 1):=by
   rw [BN]
   simpa using wrap_wrap (b + 1)
  rw [EF,List.append_nil] at OA
  refine AW.seq ?_
  refine AW.rT (by rfl) fun K hK=>?_
  simp -implicitDefEqProofs only [go_sem,↓reduceIte,Nat.reduceAdd,Nat.reduceEqDiff,reduceCtorEq,Int.reduceToNat]
  apply hK;clear hK K
  refine AW.cT rfl ?_
  refine AW.exit ?_
  simp only [andThen,inBlk,↓reduceIte]
  refine AW.rE (by rfl) fun K hK=>?_
  simp -implicitDefEqProofs only [go_sem,↓reduceIte,Nat.reduceAdd,Nat.reduceEqDiff,reduceCtorEq,w1]
  apply hK;clear hK K
  refine nextK _ _ _ OA BN' ?_
  simp only [rp,cellsT]
  refine Ghost.sub ?_ ?_ <;> simp -implicitDefEqProofs only [go_sem,↓reduceIte,Nat.reduceEqDiff,reduceCtorEq,List.forall_mem_cons,List.not_mem_nil,false_implies,implies_true,and_self,labsIn_lift,List.all_cons,List.all_nil,Nat.reduceLT,labsInL,AV.labsIn]
  done
 obtain ⟨r1,r2,r3⟩:=rightE_in hre e he
 obtain ⟨ei,hei⟩:=List.getElem?_of_mem he
 have ⟨le1,le2⟩:=lensE_at la3 hei
 rw [GC] at BN EF LYN LYY ⊢
 have KS:=kind_same (s:=s) (c:=headK e.2) r1 fun y hy=>(r3 y hy).1
 have SF : stepF P s e.2 = if kindOK s e.2 = false then [] else if s.op = 4 ∧ ((lastL s e.2).map (run1F P s)).any (fun y=>y.ents.isEmpty) = true then [] else (lastL s e.2).map (run1F P s):=rfl
 generalize kindOK s e.2 = ko at *
 generalize stepF P s e.2 = sf at *
 generalize lookS P s e.2 = lks at *
 have z0 : ((e.2.length : Int) == 0) = false:=by
  rw [beq_eq_false_iff_ne]
  omega
 obtain ⟨x0,hx0⟩ : ∃ y,e.2[0]? = some y:=⟨_,List.getElem?_eq_getElem (by omega)⟩
 have k0:=(r3 x0 (List.mem_of_getElem? hx0)).1
 have ⟨hy1,hy2,hy3⟩:=at_map' encTr hx0
 have hz0 : ((0 : Int) ≤ 0) = True:=by simp
 have hz : ((0 : Int) < (e.2.length : Int)) = True:=eq_true (by omega)
 generalize headK e.2 = c at *
 cases ko with
 | false =>
  have S0 : sf = []:=by rw [SF,if_pos rfl]
  have L0:=LYN rfl
  rw [S0,if_pos (show ([] : List Tr).isEmpty = true from rfl)] at EF
  rw [EF,List.append_nil] at OA
  have BN' : IntKind.wrap .i64 (a + ((sumP P t x (k + 1) : Nat) : Int)) = IntKind.wrap .i64 (b + 1):=by
   rw [BN,L0]
   simpa using wrap_wrap (b + 1)
  refine AW.seq ?_
  by_cases o2 : s.op = 2
  ·rw [if_pos o2] at KS
   have e2:=eqb o2
   have ck : (x0.kind != 1) = true:=by
    rw [k0,bne_iff_ne]
    exact of_decide_eq_false KS.symm
   refine AW.rT (by rfl) fun K hK=>?_
   simp -implicitDefEqProofs only [go_sem,↓reduceIte,Nat.reduceAdd,Nat.reduceEqDiff,reduceCtorEq,Int.reduceToNat,z0,e2,hy3,hz0,hz,ck,encTr_eq x0,List.length_map]
   apply hK;clear hK K
   refine AW.cT rfl ?_
   refine AW.exit ?_
   simp only [andThen,inBlk,↓reduceIte]
   refine AW.rE (by rfl) fun K hK=>?_
   simp -implicitDefEqProofs only [go_sem,↓reduceIte,Nat.reduceAdd,Nat.reduceEqDiff,reduceCtorEq,w1]
   apply hK;clear hK K
   refine nextK _ _ _ OA BN' ?_
   simp only [rp,cellsT]
   refine Ghost.sub ?_ ?_ <;> simp -implicitDefEqProofs only [go_sem,↓reduceIte,Nat.reduceEqDiff,reduceCtorEq,List.forall_mem_cons,List.not_mem_nil,false_implies,implies_true,and_self,labsIn_lift,List.all_cons,List.all_nil,Nat.reduceLT,labsInL,AV.labsIn]
   done
  ·rw [if_neg o2] at KS
   have o34 : s.op = 3 ∨ s.op = 4:=by
    by_cases q : s.op = 3 ∨ s.op = 4
    ·exact q
    ·rw [if_neg q] at KS
     cases KS
   rw [if_pos o34] at KS
   have e2:=beqf o2
   have g2 : (s.op > 2) = True:=eq_true (by omega)
   have ck : (x0.kind != 3) = true:=by
    rw [k0,bne_iff_ne]
    exact of_decide_eq_false KS.symm
   refine AW.rT (by rfl) fun K hK=>?_
   simp -implicitDefEqProofs only [go_sem,↓reduceIte,Nat.reduceAdd,Nat.reduceEqDiff,reduceCtorEq,Int.reduceToNat,z0,e2,g2,hy3,hz0,hz,ck,encTr_eq x0,List.length_map]
   apply hK;clear hK K
   refine AW.cT rfl ?_
   refine AW.exit ?_
   simp only [andThen,inBlk,↓reduceIte]
   refine AW.rE (by rfl) fun K hK=>?_
   simp -implicitDefEqProofs only [go_sem,↓reduceIte,Nat.reduceAdd,Nat.reduceEqDiff,reduceCtorEq,w1]
   apply hK;clear hK K
   refine nextK _ _ _ OA BN' ?_
   simp only [rp,cellsT]
   refine Ghost.sub ?_ ?_ <;> simp -implicitDefEqProofs only [go_sem,↓reduceIte,Nat.reduceEqDiff,reduceCtorEq,List.forall_mem_cons,List.not_mem_nil,false_implies,implies_true,and_self,labsIn_lift,List.all_cons,List.all_nil,Nat.reduceLT,labsInL,AV.labsIn]
   done
 | true =>
 have L1:=LYY rfl
 have kc1 : s.op = 2 → c = 1:=fun q=>by
  rw [if_pos q] at KS
  exact of_decide_eq_true KS.symm
 have kc3 : s.op = 3 ∨ s.op = 4 → c = 3:=fun q=>by
  rw [if_neg (by omega),if_pos q] at KS
  exact of_decide_eq_true KS.symm
 have S1 : sf = if s.op = 4 ∧ ((lastL s e.2).map (run1F P s)).any (fun y=>y.ents.isEmpty) = true then [] else (lastL s e.2).map (run1F P s):=by rw [SF,if_neg (by simp)]
 refine AW.cut (fun _ : Unit=>rp P t i k es (IntKind.wrap .i64 (b + 1)) [(9,.ptr 5 0 0),(10,.p (.slice (e.2.map encTr)))] [(5,.row 3 [[.p (.int .i64 s.op),.p (.int .i64 s.tag),.p (.int .i64 s.sub)]])] 6) (fun _=>True) ?_ fun _ _=>?_
 ·by_cases o1 : s.op = 1
  ·have e2:=beqf (show s.op ≠ 2 by omega)
   have g2 : (s.op > 2) = False:=eq_false (by omega)
   refine AW.rT (by rfl) fun K hK=>?_
   simp -implicitDefEqProofs only [go_sem,↓reduceIte,Nat.reduceAdd,Nat.reduceEqDiff,reduceCtorEq,z0,e2,g2,List.length_map]
   apply hK;clear hK K
   refine AW.cF rfl ?_
   refine AW.skip ?_
   simp only [andThen]
   refine ⟨(),trivial,?_⟩
   simp only [rp,cellsT]
   refine Ghost.sub ?_ ?_ <;> simp -implicitDefEqProofs only [go_sem,↓reduceIte,Nat.reduceEqDiff,reduceCtorEq,List.forall_mem_cons,List.not_mem_nil,false_implies,implies_true,and_self,labsIn_lift,List.all_cons,List.all_nil,Nat.reduceLT,labsInL,AV.labsIn]
   done
  by_cases o2 : s.op = 2
  ·have e2:=eqb o2
   have g2 : (s.op > 2) = False:=eq_false (by omega)
   have ck : (x0.kind != 1) = false:=by
    rw [k0,kc1 o2]
    rfl
   refine AW.rT (by rfl) fun K hK=>?_
   simp -implicitDefEqProofs only [go_sem,↓reduceIte,Nat.reduceAdd,Nat.reduceEqDiff,reduceCtorEq,Int.reduceToNat,z0,e2,g2,hy3,hz0,hz,ck,encTr_eq x0,List.length_map]
   apply hK;clear hK K
   refine AW.cF rfl ?_
   refine AW.skip ?_
   simp only [andThen]
   refine ⟨(),trivial,?_⟩
   simp only [rp,cellsT]
   refine Ghost.sub ?_ ?_ <;> simp -implicitDefEqProofs only [go_sem,↓reduceIte,Nat.reduceEqDiff,reduceCtorEq,List.forall_mem_cons,List.not_mem_nil,false_implies,implies_true,and_self,labsIn_lift,List.all_cons,List.all_nil,Nat.reduceLT,labsInL,AV.labsIn]
   done
  ·have e2:=beqf o2
   have g2 : (s.op > 2) = True:=eq_true (by omega)
   have ck : (x0.kind != 3) = false:=by
    rw [k0,kc3 (by omega)]
    rfl
   refine AW.rT (by rfl) fun K hK=>?_
   simp -implicitDefEqProofs only [go_sem,↓reduceIte,Nat.reduceAdd,Nat.reduceEqDiff,reduceCtorEq,Int.reduceToNat,z0,e2,g2,hy3,hz0,hz,ck,encTr_eq x0,List.length_map]
   apply hK;clear hK K
   refine AW.cF rfl ?_
   refine AW.skip ?_
   simp only [andThen]
   refine ⟨(),trivial,?_⟩
   simp only [rp,cellsT]
   refine Ghost.sub ?_ ?_ <;> simp -implicitDefEqProofs only [go_sem,↓reduceIte,Nat.reduceEqDiff,reduceCtorEq,List.forall_mem_cons,List.not_mem_nil,false_implies,implies_true,and_self,labsIn_lift,List.all_cons,List.all_nil,Nat.reduceLT,labsInL,AV.labsIn]
   done
 obtain ⟨sl1,sl2,sl3⟩:=lastL_len s e.2
 refine AW.cut (fun _ : Unit=>rp P t i k es (IntKind.wrap .i64 (b + 1)) [(9,.ptr 5 0 0),(10,.p (.slice ((lastL s e.2).map encTr)))] [(5,.row 3 [[.p (.int .i64 s.op),.p (.int .i64 s.tag),.p (.int .i64 s.sub)]])] 6) (fun _=>True) ?_ fun _ _=>?_
 ·simp only [rp,cellsT]
  by_cases o4 : s.op = 4
  ·have b4:=eqb o4
   have el : lastL s e.2 = e.2.drop (e.2.length - 1):=by unfold lastL; rw [if_pos o4]
   have ws : IntKind.wrap .i64 ((e.2.length : Int) - 1) = ((e.2.length - 1 : Nat) : Int):=by rw [w64] <;> omega
   rw [el]
   refine AW.rT (by rfl) fun K hK=>?_
   simp -implicitDefEqProofs only [go_sem,↓reduceIte,Nat.reduceAdd,Nat.reduceEqDiff,reduceCtorEq,b4]
   apply hK;clear hK K
   refine AW.cT rfl ?_
   refine AW.rE (by rfl) fun K hK=>?_
   simp -implicitDefEqProofs only [go_sem,↓reduceIte,Nat.reduceAdd,Nat.reduceEqDiff,reduceCtorEq,ws,List.length_map]
   refine ⟨fun y hy=>by
    obtain ⟨x,_,rfl⟩:=List.mem_map.1 hy
    rw [encTr_eq]
    rfl,by simp,⟨by omega,by omega,by omega⟩,?_⟩
   apply hK;clear hK K
   simp only [andThen]
   refine ⟨(),trivial,?_⟩
   have tk : List.take e.2.length (e.2.map encTr) = e.2.map encTr:=List.take_of_length_le (by simp)
   refine Ghost.sub ?_ ?_ <;> simp -implicitDefEqProofs only [go_sem,↓reduceIte,Nat.reduceEqDiff,reduceCtorEq,List.map_drop,tk,List.forall_mem_cons,List.not_mem_nil,false_implies,implies_true,and_self,labsIn_lift,List.all_cons,List.all_nil,Nat.reduceLT,labsInL,AV.labsIn]
   done
  ·have b4:=beqf o4
   have el : lastL s e.2 = e.2:=by unfold lastL; rw [if_neg o4]
   rw [el]
   refine AW.rT (by rfl) fun K hK=>?_
   simp -implicitDefEqProofs only [go_sem,↓reduceIte,Nat.reduceAdd,Nat.reduceEqDiff,reduceCtorEq,b4]
   apply hK;clear hK K
   refine AW.cF rfl ?_
   refine AW.skip ?_
   simp only [andThen]
   refine ⟨(),trivial,?_⟩
   refine Ghost.sub ?_ ?_ <;> simp -implicitDefEqProofs only [go_sem,↓reduceIte,Nat.reduceEqDiff,reduceCtorEq,List.forall_mem_cons,List.not_mem_nil,false_implies,implies_true,and_self,labsIn_lift,List.all_cons,List.all_nil,Nat.reduceLT,labsInL,AV.labsIn]
   done
 have qx : ∀ y ∈ lastL s e.2,lensT y = true ∧ rightT y = true ∧ y.kind = c ∧ PartRK P y:=fun y hy=>by
  have hy':=lastL_mem hy
  obtain ⟨yj,hyj⟩:=List.getElem?_of_mem hy'
  have l1:=lensTs_at le2 hyj
  exact ⟨l1,(r3 y hy').2,(r3 y hy').1,ih _ (size_ent hei hyj) y rfl l1 (r3 y hy').2⟩
 generalize lastL s e.2 = q at *
 have q1:=sl2 r1
 simp only [rp,cellsT]
 refine AW.rT (by rfl) fun K hK=>?_
 simp -implicitDefEqProofs only [go_sem,↓reduceIte,Nat.reduceAdd,Nat.reduceEqDiff,Nat.reduceLeDiff,reduceCtorEq]
 apply hK;clear hK K
 refine AW.seq ?_
 refine AW.rT (by rfl) fun K hK=>?_
 simp -implicitDefEqProofs only [go_sem,Nat.reduceAdd]
 apply hK;clear hK K
 refine AW.block ?_
 refine AW.loop (fun j : Nat=>rp P t i k es (IntKind.wrap .i64 (IntKind.wrap .i64 (b + 1) + ((((q.take j).map (lk1 P s)).sum : Nat) : Int))) [(9,.ptr 5 0 0),(10,.p (.slice (q.map encTr))),(11,.ptr 6 0 0),(12,.p (.int .i64 (j : Int)))] [(5,.row 3 [[.p (.int .i64 s.op),.p (.int .i64 s.tag),.p (.int .i64 s.sub)]]),(6,.row 2 [[.p (.int .i64 s.tag),.own 7]]),(7,.row 5 (liftE (((q.map (run1F P s)).take j).map encTr)))] 8) (fun j=>j ≤ q.length) (fun j=>q.length - j) 0 ?_ (by simp) fun j hj=>?_
 ·refine Ghost.trans (Ghost.nilH (l:=9) (i:=0) (j:=1) (sz':=5) rfl rfl rfl) ?_
  rw [show IntKind.wrap .i64 (IntKind.wrap .i64 (b + 1) + ((((q.take 0).map (lk1 P s)).sum : Nat) : Int)) = IntKind.wrap .i64 (b + 1) by simpa using wrap_wrap (b + 1)]
  simp only [rp,cellsT]
  refine Ghost.ent (fun l=>if l = 6 then 9 else if l = 7 then 12 else l) ?_ ?_ ?_ <;> simp -implicitDefEqProofs only [go_sem,↓reduceIte,Nat.reduceEqDiff,reduceCtorEq,List.take_zero,List.map_nil,liftE_nil,List.set_cons_zero,List.set_cons_succ,List.forall_mem_cons,List.not_mem_nil,false_implies,implies_true,and_self,map_renL_lift,labsIn_lift,List.all_cons,List.all_nil,Nat.reduceLT,labsInL,AV.labsIn]
  all_goals first | rfl | skip
 refine AW.seq ?_
 by_cases hjl : j < q.length
 ·obtain ⟨y,hyj⟩ : ∃ y,q[j]? = some y:=⟨_,List.getElem?_eq_getElem hjl⟩
  obtain ⟨y1,y2,y3,y4⟩:=qx y (List.mem_of_getElem? hyj)
  have ⟨hv1,hv2,hv3⟩:=at_map' encTr hyj
  have hc2 : ((j : Int) < (q.length : Int)) = True:=eq_true (by omega)
  have wj : IntKind.wrap .i64 ((j : Int) + 1) = ((j + 1 : Nat) : Int):=by rw [w64] <;> omega
  have BJ : IntKind.wrap .i64 (IntKind.wrap .i64 (b + 1) + ((((q.take (j + 1)).map (lk1 P s)).sum : Nat) : Int)) = IntKind.wrap .i64 (IntKind.wrap .i64 (IntKind.wrap .i64 (b + 1) + ((((q.take j).map (lk1 P s)).sum : Nat) : Int)) + ((lk1 P s y : Nat) : Int)):=by
   rw [wrap_nat,List.take_add_one,hyj]
   simp
  have wbj : IntKind.wrap .i64 (IntKind.wrap .i64 (IntKind.wrap .i64 (b + 1) + ((((q.take j).map (lk1 P s)).sum : Nat) : Int))) = IntKind.wrap .i64 (IntKind.wrap .i64 (b + 1) + ((((q.take j).map (lk1 P s)).sum : Nat) : Int)):=wrap_wrap _
  have e7 : liftE (((q.map (run1F P s)).take j).map encTr) ++ [cellsT (run1F P s y)] = liftE (((q.map (run1F P s)).take (j + 1)).map encTr):=by
   rw [List.take_add_one,map_at hyj]
   simp [liftE,encTr_eq,cellsT]
  have rlen : (liftE (((q.map (run1F P s)).take j).map encTr)).length ≤ j:=by rw [liftE_length,List.length_map,List.length_take]; omega
  have nextJ : ∀ (s' : St) (bb : Int) (Z : List (List AV)),IntKind.wrap .i64 (IntKind.wrap .i64 (b + 1) + ((((q.take (j + 1)).map (lk1 P s)).sum : Nat) : Int)) = bb → Z = liftE (((q.map (run1F P s)).take (j + 1)).map encTr) →
    Ghost ⟨122,[0],val⟩ s' (rp P t i k es bb [(9,.ptr 5 0 0),(10,.p (.slice (q.map encTr))),(11,.ptr 6 0 0),(12,.p (.int .i64 ((j + 1 : Nat) : Int)))] [(5,.row 3 [[.p (.int .i64 s.op),.p (.int .i64 s.tag),.p (.int .i64 s.sub)]]),(6,.row 2 [[.p (.int .i64 s.tag),.own 7]]),(7,.row 5 Z)] 8) →
    ∃ m : Nat,m ≤ q.length ∧ q.length - m < q.length - j ∧ Ghost ⟨122,[0],val⟩ s' (rp P t i k es (IntKind.wrap .i64 (IntKind.wrap .i64 (b + 1) + ((((q.take m).map (lk1 P s)).sum : Nat) : Int))) [(9,.ptr 5 0 0),(10,.p (.slice (q.map encTr))),(11,.ptr 6 0 0),(12,.p (.int .i64 (m : Int)))] [(5,.row 3 [[.p (.int .i64 s.op),.p (.int .i64 s.tag),.p (.int .i64 s.sub)]]),(6,.row 2 [[.p (.int .i64 s.tag),.own 7]]),(7,.row 5 (liftE (((q.map (run1F P s)).take m).map encTr)))] 8) :=
   fun s' bb Z h1 h2 g=>⟨j + 1,by omega,by omega,by rw [h1,← h2]; exact g⟩
  generalize hbj : IntKind.wrap .i64 (IntKind.wrap .i64 (b + 1) + ((((q.take j).map (lk1 P s)).sum : Nat) : Int)) = bj at BJ wbj
  have ON:=ref16_one P s y p1 p2 p3 y2 (fun o2=>by rw [y3,kc1 o2]) y4 bj wbj
  have LN:=LFn.ofD (f:=53) (i:=0) (off:=0) (sz:=2) (es:=[[.slice (P.map encPt),.int .i64 bj]]) (es':=[[.slice (P.map encPt),.int .i64 (IntKind.wrap .i64 (bj + ((lk1 P s y : Nat) : Int)))]]) (rest:=[.agg (encSt s),.agg (encTr y)]) ON
  generalize lk1 P s y = n1 at *
  generalize run1F P s y = z at *
  rw [encTr_eq z,encTr_eq y] at LN
  simp only [List.map_cons,List.map_nil,encSt] at LN
  generalize hQs : ((q.map (run1F P s)).take j).map encTr = Qs at *
  simp only [cellsT] at e7
  simp only [rp,cellsT]
  refine AW.rT (by rfl) fun K hK=>?_
  simp -implicitDefEqProofs only [go_sem,↓reduceIte,Nat.reduceAdd,Nat.reduceEqDiff,reduceCtorEq,hc2,List.length_map]
  apply hK;clear hK K
  refine AW.cT rfl ?_
  refine AW.skip ?_
  simp only [andThen]
  refine AW.seq ?_
  refine AW.block ?_
  refine AW.dE mixed (by rfl) (by decide +kernel) fun K hK=>?_
  simp -implicitDefEqProofs only [go_sem,↓reduceIte,Nat.reduceAdd,Nat.reduceEqDiff,Nat.reduceLeDiff,reduceCtorEq,hv1,hv3,hc2,encTr_eq y,List.length_map]
  refine ⟨.lend [some 0,none,none] [.ptr 0 0 2 [[.slice (P.map encPt),.int .i64 bj]],.v (.agg [.int .i64 s.op,.int .i64 s.tag,.int .i64 s.sub]),.v (.agg [.int .i64 y.kind,.int .i64 y.n,.str y.s,.slice (y.ents.map encEn),.slice (y.rest.map encRaw)])] [some (.row 2 [[.slice (P.map encPt),.int .i64 (IntKind.wrap .i64 (bj + ((n1 : Nat) : Int)))]]),none,none] (.agg [.int .i64 z.kind,.int .i64 z.n,.str z.s,.slice (z.ents.map encEn),.slice (z.rest.map encRaw)]),⟨LN,rfl,?_⟩,?_⟩
  ·simp -implicitDefEqProofs only [go_sem,↓reduceIte,Nat.reduceEqDiff,liftE_cons,liftE_nil,List.map_cons,List.map_nil,and_self]
  simp -implicitDefEqProofs only [go_sem,↓reduceIte,Nat.reduceAdd,Nat.reduceMul,Nat.reduceEqDiff,Nat.reduceLeDiff,reduceCtorEq,liftE_cons,liftE_nil,List.map_cons,List.map_nil]
  refine ⟨⟨by simp,by simp [oneAll,AV.one,PV.one],by simp⟩,by omega,by decide +kernel,?_⟩
  try simp -implicitDefEqProofs only [go_sem,↓reduceIte,Nat.reduceAdd,Nat.reduceMul,Nat.reduceEqDiff,Nat.reduceLeDiff,reduceCtorEq,Int.reduceToNat]
  apply hK;clear hK K
  simp only [andThen,inBlk]
  refine AW.rE (by rfl) fun K hK=>?_
  simp -implicitDefEqProofs only [go_sem,↓reduceIte,Nat.reduceAdd,Nat.reduceEqDiff,reduceCtorEq,wj]
  apply hK;clear hK K
  refine nextJ _ _ _ BJ e7 ?_
  simp only [rp,cellsT]
  refine Ghost.ent (fun l=>if l = 7 then 22 else l) ?_ ?_ ?_ <;> simp -implicitDefEqProofs only [go_sem,↓reduceIte,Nat.reduceEqDiff,reduceCtorEq,List.forall_mem_cons,List.not_mem_nil,false_implies,implies_true,and_self,map_renL_lift,labsIn_lift,List.all_append,List.all_cons,List.all_nil,List.map_append,Nat.reduceLT,labsInL,AV.labsIn]
  all_goals first | rfl | skip
 have hj' : j = q.length:=by omega
 subst hj'
 have hc2 : ((q.length : Int) < (q.length : Int)) = False:=eq_false (by omega)
 rw [List.take_length,List.take_of_length_le (by simp),← L1,← BN]
 have pl : 1 ≤ (q.map (run1F P s)).length:=by simpa using q1
 have pl1 : s.op = 4 → (q.map (run1F P s)).length ≤ 1:=fun o4=>by simpa using sl3 o4
 generalize q.map (run1F P s) = ps at *
 generalize hb' : IntKind.wrap .i64 (a + ((sumP P t x (k + 1) : Nat) : Int)) = b' at *
 simp only [rp,cellsT]
 refine AW.rT (by rfl) fun K hK=>?_
 simp -implicitDefEqProofs only [go_sem,↓reduceIte,Nat.reduceAdd,Nat.reduceEqDiff,reduceCtorEq,hc2,List.length_map]
 apply hK;clear hK K
 refine AW.cF rfl ?_
 refine AW.exit ?_
 simp only [andThen,inBlk,↓reduceIte]
 refine AW.ghost (s':=rp P t i k es b' [(9,.ptr 5 0 0),(11,.ptr 6 0 0)] [(5,.row 3 [[.p (.int .i64 s.op),.p (.int .i64 s.tag),.p (.int .i64 s.sub)]]),(6,.row 2 [[.p (.int .i64 s.tag),.p (.slice (ps.map encTr))]])] 7) (Ghost.trans (Ghost.freeze (lb:=7) (ps:=ps.map encTr) rfl (unlift_liftE _)) ?_) ?_
 ·simp only [rp,cellsT]
  refine Ghost.sub ?_ ?_ <;> simp -implicitDefEqProofs only [go_sem,↓reduceIte,Nat.reduceEqDiff,reduceCtorEq,thaw,thaw1,Option.map_some,List.map_cons,List.map_nil,thaw_lift,List.forall_mem_cons,List.not_mem_nil,false_implies,implies_true,and_self,labsIn_lift,List.all_cons,List.all_nil,Nat.reduceLT,labsInL,AV.labsIn]
  done
 obtain ⟨z,hz'⟩ : ∃ z,ps[0]? = some z:=⟨_,List.getElem?_eq_getElem (by omega)⟩
 have ⟨hw1,hw2,hw3⟩:=at_map' encTr hz'
 have hzl : ((0 : Int) < (ps.length : Int)) = True:=eq_true (by omega)
 have keep : (¬ s.op = 4 ∨ z.ents.isEmpty = false) → entF P t.ents s = [(s.tag,ps)]:=fun hk=>by
  have e : sf = ps:=by
   rw [S1,if_neg]
   rintro ⟨o4,ha⟩
   rcases hk with hk | hk
   ·exact hk o4
   ·have e1 : ps = [z]:=by
     have:=pl1 o4
     match hq : ps,pl,this,hz' with
     | [u],_,_,hz' =>
      injection hz' with hz'
      rw [hz']
    rw [e1] at ha
    simp only [List.any_cons,List.any_nil,Bool.or_false] at ha
    rw [hk] at ha
    cases ha
  rw [EF,e,if_neg]
  cases hq : ps with
  | nil=>rw [hq] at pl; simp at pl
  | cons u l=>simp
 have e8 : liftE (es.map encEn) ++ [[AV.p (.int .i64 s.tag),.p (.slice (ps.map encTr))]] = liftE ((es ++ [(s.tag,ps)]).map encEn):=by
  simp [liftE,encEn]
 have zl : ((z.ents.length : Int) > 0) = (z.ents.isEmpty = false):=by
  cases z.ents with
  | nil=>simp
  | cons u l=>simp
 simp only [rp,cellsT]
 by_cases o4 : s.op = 4
 ·have n4 : (s.op != 4) = false:=by simp [o4]
  cases hem : z.ents.isEmpty with
  | true =>
   have g1 : ((z.ents.length : Int) > 0) = False:=by rw [zl,hem]; simp
   have S0 : sf = []:=by
    rw [S1,if_pos]
    refine ⟨o4,?_⟩
    rw [List.any_eq_true]
    exact ⟨z,List.mem_of_getElem? hz',hem⟩
   rw [S0,if_pos (show ([] : List Tr).isEmpty = true from rfl)] at EF
   rw [EF,List.append_nil] at OA
   refine AW.rT (by rfl) fun K hK=>?_
   simp -implicitDefEqProofs only [go_sem,↓reduceIte,Nat.reduceAdd,Nat.reduceEqDiff,reduceCtorEq,Int.reduceToNat,n4,hw3,hz0,hzl,encTr_eq z,List.length_map,g1]
   apply hK;clear hK K
   refine AW.cF rfl ?_
   refine AW.skip ?_
   simp only [andThen,inBlk]
   refine AW.rE (by rfl) fun K hK=>?_
   simp -implicitDefEqProofs only [go_sem,↓reduceIte,Nat.reduceAdd,Nat.reduceEqDiff,reduceCtorEq,w1]
   apply hK;clear hK K
   refine nextK _ _ _ OA rfl ?_
   simp only [rp,cellsT]
   refine Ghost.sub ?_ ?_ <;> simp -implicitDefEqProofs only [go_sem,↓reduceIte,Nat.reduceEqDiff,reduceCtorEq,List.forall_mem_cons,List.not_mem_nil,false_implies,implies_true,and_self,labsIn_lift,List.all_cons,List.all_nil,Nat.reduceLT,labsInL,AV.labsIn]
   done
  | false =>
   have g1 : ((z.ents.length : Int) > 0) = True:=by rw [zl,hem]; simp
   rw [keep (.inr hem)] at OA
   refine AW.rT (by rfl) fun K hK=>?_
   simp -implicitDefEqProofs only [go_sem,↓reduceIte,Nat.reduceAdd,Nat.reduceEqDiff,reduceCtorEq,Int.reduceToNat,n4,hw3,hz0,hzl,encTr_eq z,List.length_map,g1]
   apply hK;clear hK K
   refine AW.cT rfl ?_
   refine AW.rE (by rfl) fun K hK=>?_
   simp -implicitDefEqProofs only [go_sem,↓reduceIte,Nat.reduceAdd,Nat.reduceMul,Nat.reduceEqDiff,Nat.reduceLeDiff,reduceCtorEq]
   refine ⟨⟨by simp,by simp [oneAll,AV.one,PV.one],by simp⟩,by simp [liftE_length]; omega,?_⟩
   try simp -implicitDefEqProofs only [go_sem,↓reduceIte,Nat.reduceAdd,Nat.reduceMul,Nat.reduceEqDiff,Nat.reduceLeDiff,reduceCtorEq,Int.reduceToNat]
   apply hK;clear hK K
   simp only [andThen,inBlk]
   refine AW.rE (by rfl) fun K hK=>?_
   simp -implicitDefEqProofs only [go_sem,↓reduceIte,Nat.reduceAdd,Nat.reduceEqDiff,reduceCtorEq,w1]
   apply hK;clear hK K
   refine nextK _ _ _ OA rfl ?_
   simp only [rp,cellsT]
   rw [← e8]
   refine Ghost.ent (fun l=>if l = 4 then 23 else l) ?_ ?_ ?_ <;> simp -implicitDefEqProofs only [go_sem,↓reduceIte,Nat.reduceEqDiff,reduceCtorEq,List.forall_mem_cons,List.not_mem_nil,false_implies,implies_true,and_self,map_renL_lift,labsIn_lift,List.all_append,List.all_cons,List.all_nil,List.map_append,Nat.reduceLT,labsInL,AV.labsIn]
   all_goals first | rfl | skip
 ·have n4 : (s.op != 4) = true:=by simpa using o4
  rw [keep (.inl o4)] at OA
  refine AW.rT (by rfl) fun K hK=>?_
  simp -implicitDefEqProofs only [go_sem,↓reduceIte,Nat.reduceAdd,Nat.reduceEqDiff,reduceCtorEq,n4]
  apply hK;clear hK K
  refine AW.cT rfl ?_
  refine AW.rE (by rfl) fun K hK=>?_
  simp -implicitDefEqProofs only [go_sem,↓reduceIte,Nat.reduceAdd,Nat.reduceMul,Nat.reduceEqDiff,Nat.reduceLeDiff,reduceCtorEq]
  refine ⟨⟨by simp,by simp [oneAll,AV.one,PV.one],by simp⟩,by simp [liftE_length]; omega,?_⟩
  try simp -implicitDefEqProofs only [go_sem,↓reduceIte,Nat.reduceAdd,Nat.reduceMul,Nat.reduceEqDiff,Nat.reduceLeDiff,reduceCtorEq,Int.reduceToNat]
  apply hK;clear hK K
  simp only [andThen,inBlk]
  refine AW.rE (by rfl) fun K hK=>?_
  simp -implicitDefEqProofs only [go_sem,↓reduceIte,Nat.reduceAdd,Nat.reduceEqDiff,reduceCtorEq,w1]
  apply hK;clear hK K
  refine nextK _ _ _ OA rfl ?_
  simp only [rp,cellsT]
  rw [← e8]
  refine Ghost.ent (fun l=>if l = 4 then 23 else l) ?_ ?_ ?_ <;> simp -implicitDefEqProofs only [go_sem,↓reduceIte,Nat.reduceEqDiff,reduceCtorEq,List.forall_mem_cons,List.not_mem_nil,false_implies,implies_true,and_self,map_renL_lift,labsIn_lift,List.all_append,List.all_cons,List.all_nil,List.map_append,Nat.reduceLT,labsInL,AV.labsIn]
  all_goals first | rfl | skip
end Go.Aw.T
namespace Go.Aw
open Go.Proofs Go.RowKit
def stepB (s : Stp) (n : Int) : Bool:=(decide (s.op = 1 ∨ s.op = 2) && (s.sub == 0)) || (decide (s.op = 3 ∨ s.op = 4) && decide (0 ≤ s.sub ∧ s.sub < n))
theorem adapt_step (s : Stp) (n : Int) : PFn Tryz.prog 63 [.agg (encSt s),.int .i64 n] (.bool (stepB s n)):=by
 refine PFn.of Tryz.func63 rfl (by decide) Tryz.ntmps63 Tryz.results63 (Nat.le_of_ble_eq_true rfl) ?_
 simp only [argsT,encSt]
 refine AW.rT (by rfl) fun K hK=>?_
 simp -implicitDefEqProofs only [go_sem,Nat.reduceAdd]
 apply hK;clear hK K
 refine AW.seq ?_
 refine AW.rT (by rfl) fun K hK=>?_
 simp -implicitDefEqProofs only [go_sem,↓reduceIte,Nat.reduceAdd,Nat.reduceEqDiff]
 apply hK;clear hK K
 refine AW.block ?_
 refine AW.seq ?_
 by_cases h1 : s.op = 1
 ·have q1 : (s.op == 1) = true:=by simp [h1]
  have e : stepB s n = (s.sub == 0):=by unfold stepB; simp [h1]
  refine AW.rT (by rfl) fun K hK=>?_
  simp -implicitDefEqProofs only [go_sem,↓reduceIte,Nat.reduceAdd,q1]
  apply hK;clear hK K
  refine AW.cT rfl ?_
  refine AW.skip ?_
  simp only [andThen]
  refine AW.cT rfl ?_
  refine AW.rT (by rfl) fun K hK=>?_
  simp -implicitDefEqProofs only [go_sem,↓reduceIte,Nat.reduceAdd,Nat.reduceEqDiff]
  apply hK;clear hK K
  refine AW.ret ?_
  simp -implicitDefEqProofs only [go_sem,e]
 have q1 : (s.op == 1) = false:=beq_eq_false_iff_ne.2 h1
 by_cases h2 : s.op = 2
 ·have q2 : (s.op == 2) = true:=by simp [h2]
  have e : stepB s n = (s.sub == 0):=by unfold stepB; simp [h2]
  refine AW.rT (by rfl) fun K hK=>?_
  simp -implicitDefEqProofs only [go_sem,↓reduceIte,Nat.reduceAdd,q1]
  apply hK;clear hK K
  refine AW.cF rfl ?_
  refine AW.rE (by rfl) fun K hK=>?_
  simp -implicitDefEqProofs only [go_sem,↓reduceIte,Nat.reduceAdd,Nat.reduceEqDiff,q2]
  apply hK;clear hK K
  simp only [andThen]
  refine AW.cT rfl ?_
  refine AW.rT (by rfl) fun K hK=>?_
  simp -implicitDefEqProofs only [go_sem,↓reduceIte,Nat.reduceAdd,Nat.reduceEqDiff]
  apply hK;clear hK K
  refine AW.ret ?_
  simp -implicitDefEqProofs only [go_sem,e]
 have q2 : (s.op == 2) = false:=beq_eq_false_iff_ne.2 h2
 refine AW.rT (by rfl) fun K hK=>?_
 simp -implicitDefEqProofs only [go_sem,↓reduceIte,Nat.reduceAdd,q1]
 apply hK;clear hK K
 refine AW.cF rfl ?_
 refine AW.rE (by rfl) fun K hK=>?_
 simp -implicitDefEqProofs only [go_sem,↓reduceIte,Nat.reduceAdd,Nat.reduceEqDiff,q2]
 apply hK;clear hK K
 simp only [andThen]
 refine AW.cF rfl ?_
 refine AW.seq ?_
 have g1 : ((0 : Int) ≤ s.sub) = (0 ≤ s.sub):=rfl
 have e34 : (s.op = 3 ∨ s.op = 4) → stepB s n = decide (0 ≤ s.sub ∧ s.sub < n):=fun h=>by
  unfold stepB
  rw [show decide (s.op = 1 ∨ s.op = 2) = false from decide_eq_false (by omega),show decide (s.op = 3 ∨ s.op = 4) = true from decide_eq_true h]
  rfl
 by_cases h3 : s.op = 3
 ·have q3 : (s.op == 3) = true:=by simp [h3]
  have e:=e34 (.inl h3)
  refine AW.rT (by rfl) fun K hK=>?_
  simp -implicitDefEqProofs only [go_sem,↓reduceIte,Nat.reduceAdd,Nat.reduceEqDiff,q3]
  apply hK;clear hK K
  refine AW.cT rfl ?_
  refine AW.skip ?_
  simp only [andThen]
  refine AW.cT rfl ?_
  by_cases hs : 0 ≤ s.sub
  ·by_cases hlt : s.sub < n
   ·have e' : stepB s n = true:=by rw [e]; exact decide_eq_true ⟨hs,hlt⟩
    refine AW.rT (by rfl) fun K hK=>?_
    simp -implicitDefEqProofs only [go_sem,↓reduceIte,Nat.reduceAdd,Nat.reduceEqDiff,hs,hlt]
    apply hK;clear hK K
    refine AW.ret ?_
    simp -implicitDefEqProofs only [go_sem,e']
   ·have e' : stepB s n = false:=by rw [e]; exact decide_eq_false (by omega)
    refine AW.rT (by rfl) fun K hK=>?_
    simp -implicitDefEqProofs only [go_sem,↓reduceIte,Nat.reduceAdd,Nat.reduceEqDiff,hs,hlt]
    apply hK;clear hK K
    refine AW.ret ?_
    simp -implicitDefEqProofs only [go_sem,e']
  ·have e' : stepB s n = false:=by rw [e]; exact decide_eq_false (by omega)
   refine AW.rT (by rfl) fun K hK=>?_
   simp -implicitDefEqProofs only [go_sem,↓reduceIte,Nat.reduceAdd,Nat.reduceEqDiff,hs]
   apply hK;clear hK K
   refine AW.ret ?_
   simp -implicitDefEqProofs only [go_sem,e']
 have q3 : (s.op == 3) = false:=beq_eq_false_iff_ne.2 h3
 by_cases h4 : s.op = 4
 ·have q4 : (s.op == 4) = true:=by simp [h4]
  have e:=e34 (.inr h4)
  refine AW.rT (by rfl) fun K hK=>?_
  simp -implicitDefEqProofs only [go_sem,↓reduceIte,Nat.reduceAdd,Nat.reduceEqDiff,q3]
  apply hK;clear hK K
  refine AW.cF rfl ?_
  refine AW.rE (by rfl) fun K hK=>?_
  simp -implicitDefEqProofs only [go_sem,↓reduceIte,Nat.reduceAdd,Nat.reduceEqDiff,q4]
  apply hK;clear hK K
  simp only [andThen]
  refine AW.cT rfl ?_
  by_cases hs : 0 ≤ s.sub
  ·by_cases hlt : s.sub < n
   ·have e' : stepB s n = true:=by rw [e]; exact decide_eq_true ⟨hs,hlt⟩
    refine AW.rT (by rfl) fun K hK=>?_
    simp -implicitDefEqProofs only [go_sem,↓reduceIte,Nat.reduceAdd,Nat.reduceEqDiff,hs,hlt]
    apply hK;clear hK K
    refine AW.ret ?_
    simp -implicitDefEqProofs only [go_sem,e']
   ·have e' : stepB s n = false:=by rw [e]; exact decide_eq_false (by omega)
    refine AW.rT (by rfl) fun K hK=>?_
    simp -implicitDefEqProofs only [go_sem,↓reduceIte,Nat.reduceAdd,Nat.reduceEqDiff,hs,hlt]
    apply hK;clear hK K
    refine AW.ret ?_
    simp -implicitDefEqProofs only [go_sem,e']
  ·have e' : stepB s n = false:=by rw [e]; exact decide_eq_false (by omega)
   refine AW.rT (by rfl) fun K hK=>?_
   simp -implicitDefEqProofs only [go_sem,↓reduceIte,Nat.reduceAdd,Nat.reduceEqDiff,hs]
   apply hK;clear hK K
   refine AW.ret ?_
   simp -implicitDefEqProofs only [go_sem,e']
 have q4 : (s.op == 4) = false:=beq_eq_false_iff_ne.2 h4
 have e : stepB s n = false:=by
  unfold stepB
  rw [show decide (s.op = 1 ∨ s.op = 2) = false from decide_eq_false (by omega),show decide (s.op = 3 ∨ s.op = 4) = false from decide_eq_false (by omega)]
  rfl
 refine AW.rT (by rfl) fun K hK=>?_
 simp -implicitDefEqProofs only [go_sem,↓reduceIte,Nat.reduceAdd,Nat.reduceEqDiff,q3]
 apply hK;clear hK K
 refine AW.cF rfl ?_
 refine AW.rE (by rfl) fun K hK=>?_
 simp -implicitDefEqProofs only [go_sem,↓reduceIte,Nat.reduceAdd,Nat.reduceEqDiff,q4]
 apply hK;clear hK K
 simp only [andThen]
 refine AW.cF rfl ?_
 refine AW.skip ?_
 simp only [andThen,inBlk]
 refine AW.rT (by rfl) fun K hK=>?_
 simp -implicitDefEqProofs only [go_sem,Nat.reduceAdd]
 apply hK;clear hK K
 refine AW.ret ?_
 simp -implicitDefEqProofs only [go_sem,e]
def adS (p : List (List Stp)) (l : List (Nat × AV)) : St:=⟨ofL ((1,.ptr 0 0 0) :: (19,.p (.slice (p.map encPt))) :: (20,.p (.int .i64 (p.length : Int))) :: l),ofH [(0,.row 1 [[.p (.slice (p.map encPt))]])],1⟩
theorem prog_no {p : List (List Stp)} {x : List Stp} (hx : x ∈ p) (h : partB p.length 0 x = false) : progB p = false:=by
 unfold progB
 rw [List.all_eq_false.2 ⟨x,hx,by rw [h]; exact Bool.false_ne_true⟩,Bool.and_false]
theorem adapt_Check (p : List (List Stp)) : PFn Tryz.prog 46 [.agg [.slice (p.map encPt)]] (.bool (progB p)):=by
 refine PFn.of Tryz.func46 rfl (by decide) Tryz.ntmps46 Tryz.results46 (Nat.le_of_ble_eq_true rfl) ?_
 simp only [argsT]
 refine AW.rT (by rfl) fun K hK=>?_
 simp -implicitDefEqProofs only [go_sem,Nat.reduceAdd]
 apply hK;clear hK K
 refine AW.seq ?_
 by_cases hz : p.length < 1
 ·have z1 : ((p.length : Int) < 1) = True:=eq_true (by omega)
  have e : progB p = false:=by unfold progB; rw [decide_eq_false (by omega)]; rfl
  refine AW.rT (by rfl) fun K hK=>?_
  simp -implicitDefEqProofs only [go_sem,↓reduceIte,Nat.reduceAdd,Nat.reduceEqDiff,z1,List.length_map]
  apply hK;clear hK K
  refine AW.cT rfl ?_
  refine AW.rT (by rfl) fun K hK=>?_
  simp -implicitDefEqProofs only [go_sem,Nat.reduceAdd]
  apply hK;clear hK K
  refine AW.ret ?_
  simp -implicitDefEqProofs only [go_sem,e]
 have z1 : ((p.length : Int) < 1) = False:=eq_false (by omega)
 by_cases hb : p.length > 100
 ·have b1 : ((p.length : Int) > 100) = True:=eq_true (by omega)
  have e : progB p = false:=by unfold progB; rw [decide_eq_false (by omega)]; rfl
  refine AW.rT (by rfl) fun K hK=>?_
  simp -implicitDefEqProofs only [go_sem,↓reduceIte,Nat.reduceAdd,Nat.reduceEqDiff,z1,b1,List.length_map]
  apply hK;clear hK K
  refine AW.cT rfl ?_
  refine AW.rT (by rfl) fun K hK=>?_
  simp -implicitDefEqProofs only [go_sem,Nat.reduceAdd]
  apply hK;clear hK K
  refine AW.ret ?_
  simp -implicitDefEqProofs only [go_sem,e]
 have b1 : ((p.length : Int) > 100) = False:=eq_false (by omega)
 refine AW.rT (by rfl) fun K hK=>?_
 simp -implicitDefEqProofs only [go_sem,↓reduceIte,Nat.reduceAdd,Nat.reduceEqDiff,z1,b1,List.length_map]
 apply hK;clear hK K
 refine AW.cF rfl ?_
 refine AW.skip ?_
 simp only [andThen]
 refine AW.cut (fun _ : Unit=>⟨ofL [],ofH [],0⟩) (fun _=>p.all (partB p.length 0) = true) ?_ fun _ qa=>?_
 rotate_left
 ·have e : progB p = true:=by unfold progB; rw [qa,decide_eq_true (by omega)]; rfl
  refine AW.rT (by rfl) fun K hK=>?_
  simp -implicitDefEqProofs only [go_sem]
  apply hK;clear hK K
  refine AW.ret ?_
  simp -implicitDefEqProofs only [go_sem,e]
 refine AW.rT (by rfl) fun K hK=>?_
 simp -implicitDefEqProofs only [go_sem,↓reduceIte,Nat.reduceAdd,Nat.reduceEqDiff,List.length_map]
 apply hK;clear hK K
 refine AW.block ?_
 refine AW.loop (fun i : Nat=>adS p [(21,.p (.int .i64 (i : Int)))]) (fun i=>i ≤ p.length ∧ (p.take i).all (partB p.length 0) = true) (fun i=>p.length - i) 0 ?_ ⟨by omega,by simp⟩ fun i hi=>?_
 ·simp only [adS]
  refine Ghost.sub ?_ ?_ <;> simp -implicitDefEqProofs only [go_sem,↓reduceIte,Nat.reduceEqDiff,List.forall_mem_cons,List.not_mem_nil,false_implies,implies_true,and_self,List.all_cons,List.all_nil,Nat.reduceLT,labsInL,AV.labsIn]
  all_goals first | rfl | decide | skip
 obtain ⟨i1,i2⟩:=hi
 simp only [adS]
 by_cases hil : i < p.length
 case neg =>
  have c1 : ((i : Int) < (p.length : Int)) = False:=eq_false (by omega)
  rw [List.take_of_length_le (by omega)] at i2
  refine AW.rT (by rfl) fun K hK=>?_
  simp -implicitDefEqProofs only [go_sem,↓reduceIte,Nat.reduceAdd,Nat.reduceEqDiff,c1]
  apply hK;clear hK K
  refine AW.seq ?_
  refine AW.cF rfl ?_
  refine AW.exit ?_
  simp only [andThen,inBlk,↓reduceIte]
  refine ⟨(),i2,?_⟩
  show Ghost _ _ ⟨ofL [],ofH [],0⟩
  refine Ghost.sub ?_ ?_ <;> simp -implicitDefEqProofs only [go_sem,List.not_mem_nil,false_implies,implies_true]
 have c1 : ((i : Int) < (p.length : Int)) = True:=eq_true (by omega)
 obtain ⟨x,hx⟩ : ∃ x,p[i]? = some x:=⟨_,List.getElem?_eq_getElem hil⟩
 have hxm:=List.mem_of_getElem? hx
 have ⟨hm1,hm2,hm3⟩:=at_map' encPt hx
 have hm2' : (i : Int) < (p.length : Int):=by omega
 have w1 : IntKind.wrap .i64 ((i : Int) + 1) = ((i + 1 : Nat) : Int):=by rw [w64] <;> omega
 refine AW.rT (by rfl) fun K hK=>?_
 simp -implicitDefEqProofs only [go_sem,↓reduceIte,Nat.reduceAdd,Nat.reduceEqDiff,c1]
 apply hK;clear hK K
 refine AW.seq ?_
 refine AW.cT rfl ?_
 refine AW.skip ?_
 simp only [andThen]
 refine AW.seq ?_
 refine AW.block ?_
 refine AW.rT (by rfl) fun K hK=>?_
 simp -implicitDefEqProofs only [go_sem,↓reduceIte,Nat.reduceAdd,Nat.reduceEqDiff,hm1,hm2',hm3,encPt,List.length_map]
 apply hK;clear hK K
 refine AW.rT (by rfl) fun K hK=>?_
 simp -implicitDefEqProofs only [go_sem,Nat.reduceAdd]
 apply hK;clear hK K
 refine AW.rT (by rfl) fun K hK=>?_
 simp -implicitDefEqProofs only [go_sem,↓reduceIte,Nat.reduceAdd,Nat.reduceEqDiff,List.length_map]
 apply hK;clear hK K
 refine AW.block ?_
 refine AW.loop (fun j : Nat=>adS p [(21,.p (.int .i64 (i : Int))),(25,.p (.slice (x.map encSt))),(26,.p (.int .i64 (x.length : Int))),(27,.p (.int .i64 (j : Int))),(5,.p (.int .i64 (if j = 0 then 0 else (x[j - 1]?.map Stp.tag).getD 0)))]) (fun j=>j ≤ x.length ∧ (j : Int) ≤ (if j = 0 then 0 else (x[j - 1]?.map Stp.tag).getD 0) ∧ (if j = 0 then 0 else (x[j - 1]?.map Stp.tag).getD 0) ≤ 500 ∧ partB p.length 0 x = partB p.length (if j = 0 then 0 else (x[j - 1]?.map Stp.tag).getD 0) (x.drop j)) (fun j=>x.length - j) 0 ?_ ⟨by omega,by simp,by simp,by simp⟩ fun j hj=>?_
 ·simp only [adS]
  refine Ghost.sub ?_ ?_ <;> simp -implicitDefEqProofs only [go_sem,↓reduceIte,Nat.reduceEqDiff,List.forall_mem_cons,List.not_mem_nil,false_implies,implies_true,and_self,List.all_cons,List.all_nil,Nat.reduceLT,labsInL,AV.labsIn]
  all_goals first | rfl | decide | skip
 obtain ⟨j1,j2,j3,j4⟩:=hj
 simp only [adS]
 generalize hla : (if j = 0 then (0 : Int) else (x[j - 1]?.map Stp.tag).getD 0) = la at *
 by_cases hjl : j < x.length
 case neg =>
  have c2 : ((j : Int) < (x.length : Int)) = False:=eq_false (by omega)
  rw [List.drop_of_length_le (by omega)] at j4
  refine AW.rT (by rfl) fun K hK=>?_
  simp -implicitDefEqProofs only [go_sem,↓reduceIte,Nat.reduceAdd,Nat.reduceEqDiff,c2]
  apply hK;clear hK K
  refine AW.seq ?_
  refine AW.cF rfl ?_
  refine AW.exit ?_
  simp only [andThen,inBlk,↓reduceIte]
  refine AW.rE (by rfl) fun K hK=>?_
  simp -implicitDefEqProofs only [go_sem,↓reduceIte,Nat.reduceAdd,Nat.reduceEqDiff,w1]
  apply hK;clear hK K
  refine ⟨i + 1,⟨by omega,all_next hx i2 j4⟩,by omega,?_⟩
  refine Ghost.sub ?_ ?_ <;> simp -implicitDefEqProofs only [go_sem,↓reduceIte,Nat.reduceEqDiff,List.forall_mem_cons,List.not_mem_nil,false_implies,implies_true,and_self,List.all_cons,List.all_nil,Nat.reduceLT,labsInL,AV.labsIn]
 have c2 : ((j : Int) < (x.length : Int)) = True:=eq_true (by omega)
 obtain ⟨s,hs⟩ : ∃ s,x[j]? = some s:=⟨_,List.getElem?_eq_getElem hjl⟩
 have ⟨hs1,hs2,hs3⟩:=at_map' encSt hs
 have hs2' : (j : Int) < (x.length : Int):=by omega
 have w2 : IntKind.wrap .i64 ((j : Int) + 1) = ((j + 1 : Nat) : Int):=by rw [w64] <;> omega
 have dj : x.drop j = s :: x.drop (j + 1):=by
  rw [List.drop_eq_getElem_cons hjl]
  rw [List.getElem?_eq_getElem hjl,Option.some.injEq] at hs
  rw [hs]
 rw [dj] at j4
 have jp : partB p.length la (s :: x.drop (j + 1)) = (stOK p.length la s && partB p.length s.tag (x.drop (j + 1))):=rfl
 rw [jp] at j4
 have so : stOK p.length la s = (decide (la < s.tag ∧ s.tag ≤ 500) && stepB s (p.length : Int)):=rfl
 have ST:=adapt_step s (p.length : Int)
 simp only [encSt] at ST
 refine AW.rT (by rfl) fun K hK=>?_
 simp -implicitDefEqProofs only [go_sem,↓reduceIte,Nat.reduceAdd,Nat.reduceEqDiff,c2]
 apply hK;clear hK K
 refine AW.seq ?_
 refine AW.cT rfl ?_
 refine AW.skip ?_
 simp only [andThen]
 refine AW.seq ?_
 refine AW.block ?_
 refine AW.rT (by rfl) fun K hK=>?_
 simp -implicitDefEqProofs only [go_sem,↓reduceIte,Nat.reduceAdd,Nat.reduceEqDiff,Nat.reduceLeDiff,hs1,hs2',hs3,encSt,List.length_map]
 apply hK;clear hK K
 refine AW.seq ?_
 by_cases t1 : s.tag ≤ la
 ·have f1 : (s.tag ≤ la) = True:=eq_true t1
  have e : progB p = false:=prog_no hxm (by rw [j4,so,decide_eq_false (by omega)]; rfl)
  refine AW.rT (by rfl) fun K hK=>?_
  simp -implicitDefEqProofs only [go_sem,↓reduceIte,Nat.reduceAdd,Nat.reduceEqDiff,f1]
  apply hK;clear hK K
  refine AW.cT rfl ?_
  refine AW.rT (by rfl) fun K hK=>?_
  simp -implicitDefEqProofs only [go_sem,Nat.reduceAdd]
  apply hK;clear hK K
  refine AW.ret ?_
  simp -implicitDefEqProofs only [go_sem,e]
 have f1 : (s.tag ≤ la) = False:=eq_false t1
 by_cases t2 : s.tag > 500
 ·have f2 : (s.tag > 500) = True:=eq_true t2
  have e : progB p = false:=prog_no hxm (by rw [j4,so,decide_eq_false (by omega)]; rfl)
  refine AW.rT (by rfl) fun K hK=>?_
  simp -implicitDefEqProofs only [go_sem,↓reduceIte,Nat.reduceAdd,Nat.reduceEqDiff,f1,f2]
  apply hK;clear hK K
  refine AW.cT rfl ?_
  refine AW.rT (by rfl) fun K hK=>?_
  simp -implicitDefEqProofs only [go_sem,Nat.reduceAdd]
  apply hK;clear hK K
  refine AW.ret ?_
  simp -implicitDefEqProofs only [go_sem,e]
 have f2 : (s.tag > 500) = False:=eq_false t2
 cases hb : stepB s (p.length : Int) with
 | false =>
  rw [hb] at ST
  have e : progB p = false:=prog_no hxm (by rw [j4,so,hb,Bool.and_false]; rfl)
  refine AW.rT (by rfl) fun K hK=>?_
  simp -implicitDefEqProofs only [go_sem,↓reduceIte,Nat.reduceAdd,Nat.reduceEqDiff,Nat.reduceLeDiff,reduceCtorEq,f1,f2,List.length_map]
  refine ⟨.pure _,ST,?_⟩
  try simp -implicitDefEqProofs only [go_sem,↓reduceIte,Nat.reduceAdd,Nat.reduceEqDiff]
  apply hK;clear hK K
  refine AW.cT rfl ?_
  refine AW.rT (by rfl) fun K hK=>?_
  simp -implicitDefEqProofs only [go_sem,Nat.reduceAdd]
  apply hK;clear hK K
  refine AW.ret ?_
  simp -implicitDefEqProofs only [go_sem,e]
 | true =>
 rw [hb] at ST
 refine AW.rT (by rfl) fun K hK=>?_
 simp -implicitDefEqProofs only [go_sem,↓reduceIte,Nat.reduceAdd,Nat.reduceEqDiff,Nat.reduceLeDiff,reduceCtorEq,f1,f2,List.length_map]
 refine ⟨.pure _,ST,?_⟩
 try simp -implicitDefEqProofs only [go_sem,↓reduceIte,Nat.reduceAdd,Nat.reduceEqDiff]
 apply hK;clear hK K
 refine AW.cF rfl ?_
 refine AW.skip ?_
 simp only [andThen]
 refine AW.rE (by rfl) fun K hK=>?_
 simp -implicitDefEqProofs only [go_sem,↓reduceIte,Nat.reduceAdd,Nat.reduceEqDiff]
 apply hK;clear hK K
 refine AW.rE (by rfl) fun K hK=>?_
 simp -implicitDefEqProofs only [go_sem,↓reduceIte,Nat.reduceAdd,Nat.reduceEqDiff,w2]
 apply hK;clear hK K
 have en : (if j + 1 = 0 then (0 : Int) else (x[j + 1 - 1]?.map Stp.tag).getD 0) = s.tag:=by
  rw [if_neg (by omega),Nat.add_sub_cancel,hs]
  rfl
 refine ⟨j + 1,⟨by omega,by rw [en]; omega,by rw [en]; omega,by rw [en,j4,so,hb,decide_eq_true (by omega)]; rfl⟩,by omega,?_⟩
 rw [en]
 refine Ghost.sub ?_ ?_ <;> simp -implicitDefEqProofs only [go_sem,↓reduceIte,Nat.reduceEqDiff,reduceCtorEq,List.forall_mem_cons,List.not_mem_nil,false_implies,implies_true,and_self,List.all_cons,List.all_nil,Nat.reduceLT,labsInL,AV.labsIn]
end Go.Aw
namespace Go.Aw.T
open Go.Proofs Go.RowKit
theorem interp_start (P : List (List Stp)) (t : Tr) (hlt : lensT t = true) : PFn Tryz.prog 30 [.agg [.slice (P.map encPt)],.agg (encTr t)] (.tuple [.agg (encTr (runP P t).1),.int .i64 (IntKind.wrap .i64 ((lookP P t : Nat) : Int)),.int .i64 (runP P t).2]):=by
 have C1:=adapt_Check P
 have C2:=value_Of t hlt
 have zz : encTr zeroTr = [.int .i64 0,.int .i64 0,.str [],.slice [],.slice []]:=by rw [encTr_eq]; rfl
 have bad : progB P = false ∨ t.kind ≠ 3 ∨ okT t = false → runP P t = (zeroTr,1) ∧ lookP P t = 0:=fun h=>by
  unfold runP lookP
  rw [if_pos h,if_pos h]
  exact ⟨rfl,rfl⟩
 have w0 : IntKind.wrap .i64 ((0 : Nat) : Int) = 0:=by decide
 rw [encTr_eq t] at C2
 refine PFn.of Tryz.func30 rfl (by decide) Tryz.ntmps30 Tryz.results30 (Nat.le_of_ble_eq_true rfl) ?_
 simp only [argsT]
 refine AW.rT (by rfl) fun K hK=>?_
 simp -implicitDefEqProofs only [go_sem,↓reduceIte,Nat.reduceAdd,Nat.reduceEqDiff,encTr_eq t]
 apply hK;clear hK K
 refine AW.seq ?_
 cases hp : progB P with
 | false =>
  rw [hp] at C1
  obtain ⟨b1,b2⟩:=bad (.inl hp)
  rw [b1,b2]
  refine AW.rT (by rfl) fun K hK=>?_
  simp -implicitDefEqProofs only [go_sem,↓reduceIte,Nat.reduceAdd,Nat.reduceEqDiff,Nat.reduceLeDiff,reduceCtorEq]
  refine ⟨.pure _,C1,?_⟩
  try simp -implicitDefEqProofs only [go_sem,↓reduceIte,Nat.reduceAdd,Nat.reduceEqDiff]
  apply hK;clear hK K
  refine AW.cT rfl ?_
  refine AW.rT (by rfl) fun K hK=>?_
  simp -implicitDefEqProofs only [go_sem,↓reduceIte,Nat.reduceAdd,Nat.reduceEqDiff,Nat.reduceLeDiff]
  apply hK;clear hK K
  refine AW.ret ?_
  simp -implicitDefEqProofs only [go_sem,↓reduceIte,Nat.reduceAdd,Nat.reduceEqDiff,Nat.reduceLeDiff,zz,w0]
  done
 | true =>
 rw [hp] at C1
 by_cases h3 : t.kind = 3
 case neg =>
  have e3 : (t.kind != 3) = true:=by simpa using h3
  obtain ⟨b1,b2⟩:=bad (.inr (.inl h3))
  rw [b1,b2]
  refine AW.rT (by rfl) fun K hK=>?_
  simp -implicitDefEqProofs only [go_sem,↓reduceIte,Nat.reduceAdd,Nat.reduceEqDiff,Nat.reduceLeDiff,reduceCtorEq]
  refine ⟨.pure _,C1,?_⟩
  try simp -implicitDefEqProofs only [go_sem,↓reduceIte,Nat.reduceAdd,Nat.reduceEqDiff,e3]
  apply hK;clear hK K
  refine AW.cT rfl ?_
  refine AW.rT (by rfl) fun K hK=>?_
  simp -implicitDefEqProofs only [go_sem,↓reduceIte,Nat.reduceAdd,Nat.reduceEqDiff,Nat.reduceLeDiff]
  apply hK;clear hK K
  refine AW.ret ?_
  simp -implicitDefEqProofs only [go_sem,↓reduceIte,Nat.reduceAdd,Nat.reduceEqDiff,Nat.reduceLeDiff,zz,w0]
  done
 have e3 : (t.kind != 3) = false:=by simp [h3]
 refine AW.rT (by rfl) fun K hK=>?_
 simp -implicitDefEqProofs only [go_sem,↓reduceIte,Nat.reduceAdd,Nat.reduceEqDiff,Nat.reduceLeDiff,reduceCtorEq]
 refine ⟨.pure _,C1,?_⟩
 try simp -implicitDefEqProofs only [go_sem,↓reduceIte,Nat.reduceAdd,Nat.reduceEqDiff,e3]
 apply hK;clear hK K
 refine AW.cF rfl ?_
 refine AW.skip ?_
 simp only [andThen]
 cases ho : okT t with
 | false =>
  rw [ho] at C2
  obtain ⟨b1,b2⟩:=bad (.inr (.inr ho))
  rw [b1,b2]
  have o1 : (ofV t).one = true:=by unfold ofV; rw [ho]; rfl
  refine AW.rT (by rfl) fun K hK=>?_
  simp -implicitDefEqProofs only [go_sem,↓reduceIte,Nat.reduceAdd,Nat.reduceEqDiff,Nat.reduceLeDiff]
  refine ⟨.pure _,C2,?_⟩
  try simp -implicitDefEqProofs only [go_sem,↓reduceIte,Nat.reduceAdd,Nat.reduceEqDiff,Nat.reduceLeDiff]
  try refine ⟨o1,?_⟩
  apply hK;clear hK K
  refine AW.seq ?_
  refine AW.rT (by rfl) fun K hK=>?_
  simp -implicitDefEqProofs only [go_sem,Nat.reduceAdd]
  apply hK;clear hK K
  refine AW.cT rfl ?_
  refine AW.rT (by rfl) fun K hK=>?_
  simp -implicitDefEqProofs only [go_sem,↓reduceIte,Nat.reduceAdd,Nat.reduceEqDiff,Nat.reduceLeDiff]
  apply hK;clear hK K
  refine AW.ret ?_
  simp -implicitDefEqProofs only [go_sem,↓reduceIte,Nat.reduceAdd,Nat.reduceEqDiff,Nat.reduceLeDiff,zz,w0]
  done
 | true =>
 rw [ho] at C2
 have hV : ofV t = encIn (.node (ndV t)):=by
  unfold ofV
  rw [if_pos ho,encV_eq,if_neg (by omega),if_neg (by omega)]
  rfl
 rw [hV] at C2
 have o1 : (encIn (.node (ndV t))).one = true:=rfl
 have C3:=value_MustNode (ndV t)
 have hi : 0 < P.length:=by
  unfold progB at hp
  rw [Bool.and_eq_true,decide_eq_true_eq] at hp
  omega
 have C4:=interp_part P hp t hlt (ok_right ho) 0 0 hi (by decide)
 have RP : runP P t = (runF P t 0,0):=by unfold runP; rw [if_neg (by rw [hp,ho]; simp [h3])]
 have LP : lookP P t = lookF P t 0:=by unfold lookP; rw [if_neg (by rw [hp,ho]; simp [h3])]
 rw [RP,LP]
 rw [show ((0 : Nat) : Int) = 0 from rfl,Int.zero_add] at C4
 generalize runF P t 0 = z at C4
 generalize IntKind.wrap .i64 ((lookF P t 0 : Nat) : Int) = n at C4
 rw [encTr_eq z] at C4 ⊢
 simp only [encIn] at C2 C3 o1
 refine AW.rT (by rfl) fun K hK=>?_
 simp -implicitDefEqProofs only [go_sem,↓reduceIte,Nat.reduceAdd,Nat.reduceEqDiff,Nat.reduceLeDiff]
 refine ⟨.pure _,C2,?_⟩
 try simp -implicitDefEqProofs only [go_sem,↓reduceIte,Nat.reduceAdd,Nat.reduceEqDiff,Nat.reduceLeDiff]
 try refine ⟨o1,?_⟩
 apply hK;clear hK K
 refine AW.seq ?_
 refine AW.rT (by rfl) fun K hK=>?_
 simp -implicitDefEqProofs only [go_sem,Nat.reduceAdd]
 apply hK;clear hK K
 refine AW.cF rfl ?_
 refine AW.skip ?_
 simp only [andThen]
 refine AW.rT (by rfl) fun K hK=>?_
 simp -implicitDefEqProofs only [go_sem,↓reduceIte,Nat.reduceAdd,Nat.reduceEqDiff,Nat.reduceLeDiff,reduceCtorEq]
 apply hK;clear hK K
 refine AW.rR (SeqR.ev 3 (by rfl) (by decide) ?_)
 simp -implicitDefEqProofs only [go_sem,↓reduceIte,Nat.reduceAdd,Nat.reduceEqDiff,Nat.reduceLeDiff]
 refine ⟨.pure _,C3,?_⟩
 try simp -implicitDefEqProofs only [go_sem,Nat.reduceAdd]
 refine SeqR.call (fun k=>25) rfl rfl C4 ⟨?_,rfl,?_,rfl,rfl,rfl,rfl,rfl,rfl⟩ ?_
 ·simp -implicitDefEqProofs only [go_sem,↓reduceIte,Nat.reduceEqDiff,argD]
  done
 ·simp only [memR]
  simp -implicitDefEqProofs only [go_sem,List.forall_mem_cons,List.not_mem_nil,false_implies,implies_true]
  first | done | decide | exact ⟨rfl,by decide⟩
 simp only [memR,AV.ren]
 refine SeqR.ev 2 (by rfl) (by decide) ?_
 simp -implicitDefEqProofs only [go_sem,↓reduceIte,Nat.reduceAdd,Nat.reduceEqDiff,Nat.reduceLeDiff,lift2,goneU,newU,List.map_cons,List.map_nil,putH,Nat.reduceLT]
 refine SeqR.last rfl ?_
 refine AW.dT mixed (by rfl) (by decide +kernel) fun K hK=>?_
 simp -implicitDefEqProofs only [go_sem,↓reduceIte,Nat.reduceAdd,Nat.reduceEqDiff,Nat.reduceLeDiff]
 refine ⟨by decide +kernel,?_⟩
 apply hK;clear hK K
 refine AW.ret ?_
 simp -implicitDefEqProofs only [go_sem,↓reduceIte,Nat.reduceAdd,Nat.reduceEqDiff,Nat.reduceLeDiff]
 done
theorem interp_Run (P : List (List Stp)) (t : Tr) (hlt : lensT t = true) : PFn Tryz.prog 12 [.agg [.slice (P.map encPt)],.agg (encTr t)] (.tuple [.agg (encTr (runP P t).1),.int .i64 (runP P t).2]):=by
 have C1:=interp_start P t hlt
 generalize (runP P t).1 = z at *
 generalize (runP P t).2 = e at *
 rw [encTr_eq z,encTr_eq t] at C1
 refine PFn.of Tryz.func12 rfl (by decide) Tryz.ntmps12 Tryz.results12 (Nat.le_of_ble_eq_true rfl) ?_
 simp only [argsT]
 refine AW.rT (by rfl) fun K hK=>?_
 simp -implicitDefEqProofs only [go_sem,↓reduceIte,Nat.reduceAdd,Nat.reduceEqDiff,encTr_eq t]
 apply hK;clear hK K
 refine AW.rT (by rfl) fun K hK=>?_
 simp -implicitDefEqProofs only [go_sem,↓reduceIte,Nat.reduceAdd,Nat.reduceEqDiff,Nat.reduceLeDiff,reduceCtorEq]
 refine ⟨.pure _,C1,?_⟩
 try simp -implicitDefEqProofs only [go_sem,↓reduceIte,Nat.reduceAdd,Nat.reduceEqDiff,Nat.reduceLeDiff]
 apply hK;clear hK K
 refine AW.rT (by rfl) fun K hK=>?_
 simp -implicitDefEqProofs only [go_sem,↓reduceIte,Nat.reduceAdd,Nat.reduceEqDiff,Nat.reduceLeDiff]
 apply hK;clear hK K
 refine AW.ret ?_
 simp -implicitDefEqProofs only [go_sem,↓reduceIte,Nat.reduceAdd,Nat.reduceEqDiff,Nat.reduceLeDiff,encTr_eq z]
 done
end Go.Aw.T
namespace Go.Aw
open Go.Proofs Go.RowKit
end Go.Aw
namespace Go.Aw
open Go.Proofs Go.RowKit
def opK (f g : Fd) : Int:=if f.ty.kind = 7 ∧ g.ty.kind = 7 then (if f.label = 1 then 4 else 3) else if f.ty.kind = g.ty.kind ∨ f.ty.kind = 1 ∧ g.ty.kind = 2 then 1 else if f.ty.kind = 2 ∧ g.ty.kind = 1 then 2 else 0
def opS (f g : Fd) (m : List (Nat × AV)) : St:=⟨ofL ((2,.ptr 0 0 0) :: (3,.ptr 1 0 0) :: (5,.p (.int .i64 f.ty.kind)) :: (6,.p (.int .i64 g.ty.kind)) :: m),ofH [(0,.row 5 [[.p (.str f.name),.p (.int .i64 f.tag),.p (.int .i64 f.label),.p (.int .i64 f.ty.kind),.p (.str f.ty.name)]]),(1,.row 5 [[.p (.str g.name),.p (.int .i64 g.tag),.p (.int .i64 g.label),.p (.int .i64 g.ty.kind),.p (.str g.ty.name)]])],2⟩
theorem ref15_op (f g : Fd) : PFn Tryz.prog 27 [.agg (encFd f),.agg (encFd g)] (.int .i64 (opK f g)):=by
 refine PFn.of Tryz.func27 rfl (by decide) Tryz.ntmps27 Tryz.results27 (Nat.le_of_ble_eq_true rfl) ?_
 simp only [argsT,encFd]
 refine AW.rT (by rfl) fun K hK=>?_
 simp -implicitDefEqProofs only [go_sem,↓reduceIte,Nat.reduceAdd,Nat.reduceEqDiff]
 apply hK;clear hK K
 refine AW.dT mixed (by rfl) (by decide +kernel) fun K hK=>?_
 simp -implicitDefEqProofs only [go_sem,↓reduceIte,Nat.reduceAdd,Nat.reduceEqDiff,reduceCtorEq]
 refine ⟨heapOK_nil rfl,?_⟩
 apply hK;clear hK K
 refine AW.seq ?_
 refine AW.block ?_
 by_cases c1 : f.ty.kind = 7 ∧ g.ty.kind = 7
 ·have q1 : (f.ty.kind == 7) = true:=by simp [c1.1]
  have q2 : (g.ty.kind == 7) = true:=by simp [c1.2]
  by_cases c2 : f.label = 1
  ·have q3 : (f.label == 1) = true:=by simp [c2]
   have e : opK f g = 4:=by unfold opK; rw [if_pos c1,if_pos c2]
   refine AW.rT (by rfl) fun K hK=>?_
   simp -implicitDefEqProofs only [go_sem,↓reduceIte,Nat.reduceAdd,Nat.reduceEqDiff,reduceCtorEq,q1,q2,q3]
   apply hK;clear hK K
   refine AW.cT rfl ?_
   refine AW.rT (by rfl) fun K hK=>?_
   simp -implicitDefEqProofs only [go_sem,Nat.reduceAdd]
   apply hK;clear hK K
   refine AW.ret ?_
   simp -implicitDefEqProofs only [go_sem,e]
  ·have q3 : (f.label == 1) = false:=beq_eq_false_iff_ne.2 c2
   have e : opK f g = 3:=by unfold opK; rw [if_pos c1,if_neg c2]
   refine AW.rT (by rfl) fun K hK=>?_
   simp -implicitDefEqProofs only [go_sem,↓reduceIte,Nat.reduceAdd,Nat.reduceEqDiff,reduceCtorEq,q1,q2,q3]
   apply hK;clear hK K
   refine AW.cF rfl ?_
   refine AW.rT (by rfl) fun K hK=>?_
   simp -implicitDefEqProofs only [go_sem,↓reduceIte,Nat.reduceAdd,Nat.reduceEqDiff,q1,q2]
   apply hK;clear hK K
   refine AW.cT rfl ?_
   refine AW.rT (by rfl) fun K hK=>?_
   simp -implicitDefEqProofs only [go_sem,Nat.reduceAdd]
   apply hK;clear hK K
   refine AW.ret ?_
   simp -implicitDefEqProofs only [go_sem,e]
 refine AW.cut (fun _ : Unit=>opS f g [(13,.p (.bool false))]) (fun _=>True) ?_ fun _ _=>?_
 ·cases x1 : (f.ty.kind == 7) with
  | false =>
   refine AW.rE (by rfl) fun K hK=>?_
   simp -implicitDefEqProofs only [go_sem,↓reduceIte,Nat.reduceAdd,Nat.reduceEqDiff,x1]
   apply hK;clear hK K
   refine ⟨(),trivial,?_⟩
   show Ghost _ _ (opS _ _ _)
   simp only [opS]
   refine Ghost.sub ?_ ?_ <;> simp -implicitDefEqProofs only [go_sem,↓reduceIte,Nat.reduceEqDiff,reduceCtorEq,List.forall_mem_cons,List.not_mem_nil,false_implies,implies_true,and_self,List.all_cons,List.all_nil,Nat.reduceLT,labsInL,AV.labsIn]
   all_goals first | rfl | decide | skip
  | true =>
   have x2 : (g.ty.kind == 7) = false:=beq_eq_false_iff_ne.2 fun h=>c1 ⟨beq_iff_eq.1 x1,h⟩
   refine AW.rE (by rfl) fun K hK=>?_
   simp -implicitDefEqProofs only [go_sem,↓reduceIte,Nat.reduceAdd,Nat.reduceEqDiff,x1,x2]
   apply hK;clear hK K
   refine ⟨(),trivial,?_⟩
   show Ghost _ _ (opS _ _ _)
   simp only [opS]
   refine Ghost.sub ?_ ?_ <;> simp -implicitDefEqProofs only [go_sem,↓reduceIte,Nat.reduceEqDiff,reduceCtorEq,List.forall_mem_cons,List.not_mem_nil,false_implies,implies_true,and_self,List.all_cons,List.all_nil,Nat.reduceLT,labsInL,AV.labsIn]
   all_goals first | rfl | decide | skip
 simp only [opS]
 refine AW.cF rfl ?_
 refine AW.cut (fun _ : Unit=>opS f g [(25,.p (.bool false))]) (fun _=>True) ?_ fun _ _=>?_
 ·cases x1 : (f.ty.kind == 7) with
  | false =>
   refine AW.rE (by rfl) fun K hK=>?_
   simp -implicitDefEqProofs only [go_sem,↓reduceIte,Nat.reduceAdd,Nat.reduceEqDiff,x1]
   apply hK;clear hK K
   refine ⟨(),trivial,?_⟩
   show Ghost _ _ (opS _ _ _)
   simp only [opS]
   refine Ghost.sub ?_ ?_ <;> simp -implicitDefEqProofs only [go_sem,↓reduceIte,Nat.reduceEqDiff,List.forall_mem_cons,List.not_mem_nil,false_implies,implies_true,and_self,List.all_cons,List.all_nil,Nat.reduceLT,labsInL,AV.labsIn]
   all_goals first | rfl | decide | skip
  | true =>
   have x2 : (g.ty.kind == 7) = false:=beq_eq_false_iff_ne.2 fun h=>c1 ⟨beq_iff_eq.1 x1,h⟩
   refine AW.rE (by rfl) fun K hK=>?_
   simp -implicitDefEqProofs only [go_sem,↓reduceIte,Nat.reduceAdd,Nat.reduceEqDiff,x1,x2]
   apply hK;clear hK K
   refine ⟨(),trivial,?_⟩
   show Ghost _ _ (opS _ _ _)
   simp only [opS]
   refine Ghost.sub ?_ ?_ <;> simp -implicitDefEqProofs only [go_sem,↓reduceIte,Nat.reduceEqDiff,List.forall_mem_cons,List.not_mem_nil,false_implies,implies_true,and_self,List.all_cons,List.all_nil,Nat.reduceLT,labsInL,AV.labsIn]
   all_goals first | rfl | decide | skip
 simp only [opS]
 refine AW.cF rfl ?_
 by_cases c3 : f.ty.kind = g.ty.kind
 ·have q1 : (f.ty.kind == g.ty.kind) = true:=by simp [c3]
  have e : opK f g = 1:=by unfold opK; rw [if_neg c1,if_pos (.inl c3)]
  refine AW.rT (by rfl) fun K hK=>?_
  simp -implicitDefEqProofs only [go_sem,↓reduceIte,Nat.reduceAdd,Nat.reduceEqDiff,q1]
  apply hK;clear hK K
  refine AW.cT rfl ?_
  refine AW.rT (by rfl) fun K hK=>?_
  simp -implicitDefEqProofs only [go_sem,Nat.reduceAdd]
  apply hK;clear hK K
  refine AW.ret ?_
  simp -implicitDefEqProofs only [go_sem,e]
 have q0 : (f.ty.kind == g.ty.kind) = false:=beq_eq_false_iff_ne.2 c3
 by_cases c4 : f.ty.kind = 1
 ·have q1 : (f.ty.kind == 1) = true:=by simp [c4]
  by_cases c5 : g.ty.kind = 2
  ·have q2 : (g.ty.kind == 2) = true:=by simp [c5]
   have e : opK f g = 1:=by unfold opK; rw [if_neg c1,if_pos (.inr ⟨c4,c5⟩)]
   refine AW.rT (by rfl) fun K hK=>?_
   simp -implicitDefEqProofs only [go_sem,↓reduceIte,Nat.reduceAdd,Nat.reduceEqDiff,q0,q1,q2]
   apply hK;clear hK K
   refine AW.cT rfl ?_
   refine AW.rT (by rfl) fun K hK=>?_
   simp -implicitDefEqProofs only [go_sem,Nat.reduceAdd]
   apply hK;clear hK K
   refine AW.ret ?_
   simp -implicitDefEqProofs only [go_sem,e]
  ·have q2 : (g.ty.kind == 2) = false:=beq_eq_false_iff_ne.2 c5
   have q3 : (f.ty.kind == 2) = false:=beq_eq_false_iff_ne.2 (by omega)
   have e : opK f g = 0:=by unfold opK; rw [if_neg c1,if_neg (by omega),if_neg (by omega)]
   refine AW.rT (by rfl) fun K hK=>?_
   simp -implicitDefEqProofs only [go_sem,↓reduceIte,Nat.reduceAdd,Nat.reduceEqDiff,q0,q1,q2]
   apply hK;clear hK K
   refine AW.cF rfl ?_
   refine AW.rT (by rfl) fun K hK=>?_
   simp -implicitDefEqProofs only [go_sem,↓reduceIte,Nat.reduceAdd,Nat.reduceEqDiff,q3]
   apply hK;clear hK K
   refine AW.cF rfl ?_
   refine AW.skip ?_
   simp only [andThen,inBlk]
   refine AW.rT (by rfl) fun K hK=>?_
   simp -implicitDefEqProofs only [go_sem,Nat.reduceAdd]
   apply hK;clear hK K
   refine AW.ret ?_
   simp -implicitDefEqProofs only [go_sem,e]
 have q1 : (f.ty.kind == 1) = false:=beq_eq_false_iff_ne.2 c4
 refine AW.rT (by rfl) fun K hK=>?_
 simp -implicitDefEqProofs only [go_sem,↓reduceIte,Nat.reduceAdd,Nat.reduceEqDiff,q0,q1]
 apply hK;clear hK K
 refine AW.cF rfl ?_
 by_cases c6 : f.ty.kind = 2
 ·have q2 : (f.ty.kind == 2) = true:=by simp [c6]
  by_cases c7 : g.ty.kind = 1
  ·have q3 : (g.ty.kind == 1) = true:=by simp [c7]
   have e : opK f g = 2:=by unfold opK; rw [if_neg c1,if_neg (by omega),if_pos ⟨c6,c7⟩]
   refine AW.rT (by rfl) fun K hK=>?_
   simp -implicitDefEqProofs only [go_sem,↓reduceIte,Nat.reduceAdd,Nat.reduceEqDiff,q2,q3]
   apply hK;clear hK K
   refine AW.cT rfl ?_
   refine AW.rT (by rfl) fun K hK=>?_
   simp -implicitDefEqProofs only [go_sem,Nat.reduceAdd]
   apply hK;clear hK K
   refine AW.ret ?_
   simp -implicitDefEqProofs only [go_sem,e]
  ·have q3 : (g.ty.kind == 1) = false:=beq_eq_false_iff_ne.2 c7
   have e : opK f g = 0:=by unfold opK; rw [if_neg c1,if_neg (by omega),if_neg (by omega)]
   refine AW.rT (by rfl) fun K hK=>?_
   simp -implicitDefEqProofs only [go_sem,↓reduceIte,Nat.reduceAdd,Nat.reduceEqDiff,q2,q3]
   apply hK;clear hK K
   refine AW.cF rfl ?_
   refine AW.skip ?_
   simp only [andThen,inBlk]
   refine AW.rT (by rfl) fun K hK=>?_
   simp -implicitDefEqProofs only [go_sem,Nat.reduceAdd]
   apply hK;clear hK K
   refine AW.ret ?_
   simp -implicitDefEqProofs only [go_sem,e]
 have q2 : (f.ty.kind == 2) = false:=beq_eq_false_iff_ne.2 c6
 have e : opK f g = 0:=by unfold opK; rw [if_neg c1,if_neg (by omega),if_neg (by omega)]
 refine AW.rT (by rfl) fun K hK=>?_
 simp -implicitDefEqProofs only [go_sem,↓reduceIte,Nat.reduceAdd,Nat.reduceEqDiff,q2]
 apply hK;clear hK K
 refine AW.cF rfl ?_
 refine AW.skip ?_
 simp only [andThen,inBlk]
 refine AW.rT (by rfl) fun K hK=>?_
 simp -implicitDefEqProofs only [go_sem,Nat.reduceAdd]
 apply hK;clear hK K
 refine AW.ret ?_
 simp -implicitDefEqProofs only [go_sem,e]
def plS (l : List Pr) (p : Pr) (i : Nat) : St:=⟨ofL [(0,.p (.slice (l.map encPr))),(3,.ptr 0 0 0),(5,.p (.int .i64 (i : Int)))],ofH [(0,.row 2 [[.p (.str p.o),.p (.str p.n)]])],1⟩
theorem ref15_place (l : List Pr) (p : Pr) (hl : l.length ≤ 1000000) : PFn Tryz.prog 28 [.slice (l.map encPr),.agg (encPr p)] (.int .i64 (placeP l p : Int)):=by
 refine PFn.of Tryz.func28 rfl (by decide) Tryz.ntmps28 Tryz.results28 (Nat.le_of_ble_eq_true rfl) ?_
 simp only [argsT,encPr]
 refine AW.rT (by rfl) fun K hK=>?_
 simp -implicitDefEqProofs only [go_sem,↓reduceIte,Nat.reduceAdd]
 apply hK;clear hK K
 refine AW.seq ?_
 refine AW.rT (by rfl) fun K hK=>?_
 simp -implicitDefEqProofs only [go_sem,Nat.reduceAdd]
 apply hK;clear hK K
 refine AW.block ?_
 refine AW.loop (plS l p) (fun i=>i ≤ l.length ∧ p ∉ l.take i) (fun i=>l.length - i) 0 ?_ (by simp) fun i hi=>?_
 ·simp only [plS]
  refine Ghost.sub ?_ ?_ <;> simp -implicitDefEqProofs only [go_sem,↓reduceIte,Nat.reduceEqDiff,reduceCtorEq,List.forall_mem_cons,List.not_mem_nil,false_implies,implies_true,and_self,List.all_cons,List.all_nil,Nat.reduceLT,labsInL,AV.labsIn]
  all_goals first | rfl | decide | skip
 obtain ⟨i1,i2⟩:=hi
 simp only [plS]
 refine AW.seq ?_
 by_cases hil : i < l.length
 case neg =>
  have hc1 : ((i : Int) < (l.length : Int)) = False:=eq_false (by omega)
  rw [List.take_of_length_le (by omega)] at i2
  have e:=place_no i2
  refine AW.rT (by rfl) fun K hK=>?_
  simp -implicitDefEqProofs only [go_sem,↓reduceIte,Nat.reduceAdd,Nat.reduceEqDiff,reduceCtorEq,hc1,List.length_map]
  apply hK;clear hK K
  refine AW.cF rfl ?_
  refine AW.exit ?_
  simp only [andThen,inBlk,↓reduceIte]
  refine AW.rT (by rfl) fun K hK=>?_
  simp -implicitDefEqProofs only [go_sem,↓reduceIte,Nat.reduceAdd,reduceCtorEq,List.length_map]
  apply hK;clear hK K
  refine AW.ret ?_
  simp -implicitDefEqProofs only [go_sem,e]
 obtain ⟨x,hx⟩ : ∃ x,l[i]? = some x:=⟨_,List.getElem?_eq_getElem hil⟩
 have ⟨hx1,hx2,hx3⟩:=at_map' encPr hx
 have hx2' : (i : Int) < (l.length : Int):=by omega
 have hc1 : ((i : Int) < (l.length : Int)) = True:=eq_true (by omega)
 have w1 : IntKind.wrap .i64 ((i : Int) + 1) = ((i + 1 : Nat) : Int):=by rw [w64] <;> omega
 have E:=eqP_pr8 x p
 simp only [encPr] at E
 refine AW.rT (by rfl) fun K hK=>?_
 simp -implicitDefEqProofs only [go_sem,↓reduceIte,Nat.reduceAdd,Nat.reduceEqDiff,reduceCtorEq,hc1,List.length_map]
 apply hK;clear hK K
 refine AW.cT rfl ?_
 refine AW.skip ?_
 simp only [andThen]
 refine AW.seq ?_
 refine AW.block ?_
 by_cases hxp : x = p
 ·rw [decide_eq_true hxp] at E
  have e : placeP l p = i:=by
   unfold placeP
   subst hxp
   obtain ⟨h1,h2⟩:=List.getElem?_eq_some_iff.1 hx
   rw [List.findIdx_eq h1]
   refine ⟨by simp [h2],fun j hj=>?_⟩
   rw [beq_eq_false_iff_ne]
   intro h3
   refine i2 (List.mem_iff_getElem?.2 ⟨j,?_⟩)
   rw [List.getElem?_take,if_pos hj,List.getElem?_eq_getElem (by omega),h3]
  refine AW.dT mixed (by rfl) (by decide +kernel) fun K hK=>?_
  simp -implicitDefEqProofs only [go_sem,↓reduceIte,Nat.reduceAdd,Nat.reduceEqDiff,Nat.reduceLeDiff,reduceCtorEq,hx1,hx2',hx3,List.length_map,encPr]
  refine ⟨_,E,?_⟩
  try simp -implicitDefEqProofs only [go_sem,Nat.reduceAdd]
  refine ⟨heapOK_nil rfl,?_⟩
  apply hK;clear hK K
  refine AW.cT rfl ?_
  refine AW.rT (by rfl) fun K hK=>?_
  simp -implicitDefEqProofs only [go_sem,↓reduceIte,Nat.reduceAdd,Nat.reduceEqDiff,reduceCtorEq]
  apply hK;clear hK K
  refine AW.ret ?_
  simp -implicitDefEqProofs only [go_sem,e]
 ·rw [decide_eq_false hxp] at E
  refine AW.dT mixed (by rfl) (by decide +kernel) fun K hK=>?_
  simp -implicitDefEqProofs only [go_sem,↓reduceIte,Nat.reduceAdd,Nat.reduceEqDiff,Nat.reduceLeDiff,reduceCtorEq,hx1,hx2',hx3,List.length_map,encPr]
  refine ⟨_,E,?_⟩
  try simp -implicitDefEqProofs only [go_sem,Nat.reduceAdd]
  refine ⟨heapOK_nil rfl,?_⟩
  apply hK;clear hK K
  refine AW.cF rfl ?_
  refine AW.skip ?_
  simp only [andThen,inBlk]
  refine AW.rE (by rfl) fun K hK=>?_
  simp -implicitDefEqProofs only [go_sem,↓reduceIte,Nat.reduceAdd,Nat.reduceEqDiff,reduceCtorEq,w1]
  apply hK;clear hK K
  refine ⟨i + 1,⟨by omega,?_⟩,by omega,?_⟩
  ·rw [List.take_add_one,hx]
   simp only [Option.toList_some,List.mem_append,List.mem_singleton,not_or]
   exact ⟨i2,fun h=>hxp h.symm⟩
  ·refine Ghost.sub ?_ ?_ <;> simp -implicitDefEqProofs only [go_sem,↓reduceIte,Nat.reduceEqDiff,reduceCtorEq,List.forall_mem_cons,List.not_mem_nil,false_implies,implies_true,and_self,List.all_cons,List.all_nil,Nat.reduceLT,labsInL,AV.labsIn]
end Go.Aw
namespace Go.Aw
open Go.Proofs Go.RowKit
def rcS (p : List (List Stp)) (m : List (Nat × AV)) : St:=⟨ofL ((0,.p (.slice (p.map encPt))) :: m),ofH [],0⟩
def rcX (p : List (List Stp)) (s : Stp) (i k : Nat) (last : Int) (m : List (Nat × AV)) : St:=⟨ofL ((0,.p (.slice (p.map encPt))) :: (3,.p (.int .i64 (i : Int))) :: (4,.p (.int .i64 last)) :: (5,.p (.int .i64 (k : Int))) :: (6,.ptr 0 0 0) :: (7,.p (.bool (decide (s.op = 3 ∨ s.op = 4)))) :: m),ofH [(0,.row 3 [[.p (.int .i64 s.op),.p (.int .i64 s.tag),.p (.int .i64 s.sub)]])],1⟩
theorem ref15_Check (p : List (List Stp)) (hs : ∀ x ∈ p,x.length ≤ 1000000000000000) : PFn Tryz.prog 32 [.slice (p.map encPt)] (.bool (progB p)):=by
 refine PFn.of Tryz.func32 rfl (by decide) Tryz.ntmps32 Tryz.results32 (Nat.le_of_ble_eq_true rfl) ?_
 simp only [argsT]
 refine AW.rT (by rfl) fun K hK=>?_
 simp -implicitDefEqProofs only [go_sem]
 apply hK;clear hK K
 refine AW.seq ?_
 by_cases hz : p.length < 1
 ·have z1 : ((p.length : Int) < 1) = True:=eq_true (by omega)
  have e : progB p = false:=by unfold progB; rw [decide_eq_false (by omega)]; rfl
  refine AW.rT (by rfl) fun K hK=>?_
  simp -implicitDefEqProofs only [go_sem,↓reduceIte,Nat.reduceAdd,Nat.reduceEqDiff,reduceCtorEq,z1,List.length_map]
  apply hK;clear hK K
  refine AW.cT rfl ?_
  refine AW.rT (by rfl) fun K hK=>?_
  simp -implicitDefEqProofs only [go_sem,Nat.reduceAdd]
  apply hK;clear hK K
  refine AW.ret ?_
  simp -implicitDefEqProofs only [go_sem,e]
 have z1 : ((p.length : Int) < 1) = False:=eq_false (by omega)
 by_cases hb : p.length > 100
 ·have b1 : ((p.length : Int) > 100) = True:=eq_true (by omega)
  have e : progB p = false:=by unfold progB; rw [decide_eq_false (by omega)]; rfl
  refine AW.rT (by rfl) fun K hK=>?_
  simp -implicitDefEqProofs only [go_sem,↓reduceIte,Nat.reduceAdd,Nat.reduceEqDiff,reduceCtorEq,z1,b1,List.length_map]
  apply hK;clear hK K
  refine AW.cT rfl ?_
  refine AW.rT (by rfl) fun K hK=>?_
  simp -implicitDefEqProofs only [go_sem,Nat.reduceAdd]
  apply hK;clear hK K
  refine AW.ret ?_
  simp -implicitDefEqProofs only [go_sem,e]
 have b1 : ((p.length : Int) > 100) = False:=eq_false (by omega)
 refine AW.rT (by rfl) fun K hK=>?_
 simp -implicitDefEqProofs only [go_sem,↓reduceIte,Nat.reduceAdd,Nat.reduceEqDiff,reduceCtorEq,z1,b1,List.length_map]
 apply hK;clear hK K
 refine AW.cF rfl ?_
 refine AW.skip ?_
 simp only [andThen]
 refine AW.seq ?_
 refine AW.rT (by rfl) fun K hK=>?_
 simp -implicitDefEqProofs only [go_sem,Nat.reduceAdd]
 apply hK;clear hK K
 refine AW.block ?_
 refine AW.loop (fun i : Nat=>rcS p [(3,.p (.int .i64 (i : Int)))]) (fun i=>i ≤ p.length ∧ (p.take i).all (partB p.length 0) = true) (fun i=>p.length - i) 0 ?_ ⟨by omega,by simp⟩ fun i hi=>?_
 ·simp only [rcS]
  refine Ghost.sub ?_ ?_ <;> simp -implicitDefEqProofs only [go_sem,↓reduceIte,reduceCtorEq,List.forall_mem_cons,List.not_mem_nil,false_implies,implies_true,and_self,AV.labsIn]
  all_goals first | rfl | decide | skip
 obtain ⟨i1,i2⟩:=hi
 simp only [rcS]
 refine AW.seq ?_
 by_cases hil : i < p.length
 case neg =>
  have c1 : ((i : Int) < (p.length : Int)) = False:=eq_false (by omega)
  rw [List.take_of_length_le (by omega)] at i2
  have e : progB p = true:=by unfold progB; rw [i2,decide_eq_true (by omega)]; rfl
  refine AW.rT (by rfl) fun K hK=>?_
  simp -implicitDefEqProofs only [go_sem,↓reduceIte,Nat.reduceAdd,Nat.reduceEqDiff,reduceCtorEq,c1,List.length_map]
  apply hK;clear hK K
  refine AW.cF rfl ?_
  refine AW.exit ?_
  simp only [andThen,inBlk,↓reduceIte]
  refine AW.rT (by rfl) fun K hK=>?_
  simp -implicitDefEqProofs only [go_sem,Nat.reduceAdd]
  apply hK;clear hK K
  refine AW.ret ?_
  simp -implicitDefEqProofs only [go_sem,e]
 obtain ⟨x,hx⟩ : ∃ x,p[i]? = some x:=⟨_,List.getElem?_eq_getElem hil⟩
 have ⟨hx1,hx2,hx3⟩:=at_map' encPt hx
 have hx2' : (i : Int) < (p.length : Int):=by omega
 have c1 : ((i : Int) < (p.length : Int)) = True:=eq_true (by omega)
 have w1 : IntKind.wrap .i64 ((i : Int) + 1) = ((i + 1 : Nat) : Int):=by rw [w64] <;> omega
 have hxl:=hs x (List.mem_of_getElem? hx)
 have bad : partB p.length 0 x = false → progB p = false:=fun h=>prog_no (List.mem_of_getElem? hx) h
 refine AW.rT (by rfl) fun K hK=>?_
 simp -implicitDefEqProofs only [go_sem,↓reduceIte,Nat.reduceAdd,Nat.reduceEqDiff,reduceCtorEq,c1,List.length_map]
 apply hK;clear hK K
 refine AW.cT rfl ?_
 refine AW.skip ?_
 simp only [andThen]
 refine AW.cut (fun _ : Unit=>rcS p [(3,.p (.int .i64 (i : Int)))]) (fun _=>partB p.length 0 x = true) ?_ fun _ hpx=>?_
 rotate_left
 ·simp only [rcS]
  refine AW.rE (by rfl) fun K hK=>?_
  simp -implicitDefEqProofs only [go_sem,↓reduceIte,Nat.reduceAdd,reduceCtorEq,w1]
  apply hK;clear hK K
  refine ⟨i + 1,⟨by omega,all_next hx i2 hpx⟩,by omega,?_⟩
  refine Ghost.sub ?_ ?_ <;> simp -implicitDefEqProofs only [go_sem,↓reduceIte,reduceCtorEq,List.forall_mem_cons,List.not_mem_nil,false_implies,implies_true,and_self,AV.labsIn]
 refine AW.block ?_
 refine AW.rT (by rfl) fun K hK=>?_
 simp -implicitDefEqProofs only [go_sem,Nat.reduceAdd]
 apply hK;clear hK K
 refine AW.rT (by rfl) fun K hK=>?_
 simp -implicitDefEqProofs only [go_sem,Nat.reduceAdd]
 apply hK;clear hK K
 refine AW.block ?_
 refine AW.loop (fun k : Nat × Int=>rcS p [(3,.p (.int .i64 (i : Int))),(4,.p (.int .i64 k.2)),(5,.p (.int .i64 (k.1 : Int)))]) (fun k=>k.1 ≤ x.length ∧ partB p.length k.2 (x.drop k.1) = partB p.length 0 x) (fun k=>x.length - k.1) (0,0) ?_ ⟨Nat.zero_le _,rfl⟩ fun k hk=>?_
 ·simp only [rcS]
  refine Ghost.sub ?_ ?_ <;> simp -implicitDefEqProofs only [go_sem,↓reduceIte,Nat.reduceEqDiff,reduceCtorEq,List.forall_mem_cons,List.not_mem_nil,false_implies,implies_true,and_self,AV.labsIn]
  all_goals first | rfl | decide | skip
 obtain ⟨k,last⟩:=k
 obtain ⟨k1,k2⟩:=hk
 simp only at k1 k2
 simp only [rcS]
 refine AW.seq ?_
 by_cases hkl : k < x.length
 case neg =>
  have c2 : ((k : Int) < (x.length : Int)) = False:=eq_false (by omega)
  rw [List.drop_of_length_le (by omega),partB] at k2
  refine AW.rT (by rfl) fun K hK=>?_
  simp -implicitDefEqProofs only [go_sem,↓reduceIte,Nat.reduceAdd,Nat.reduceEqDiff,reduceCtorEq,c2,hx1,hx2',hx3,List.length_map,encPt]
  apply hK;clear hK K
  refine AW.cF rfl ?_
  refine AW.exit ?_
  simp only [andThen,inBlk,↓reduceIte]
  refine ⟨(),k2.symm,?_⟩
  show Ghost _ _ (rcS p [(3,.p (.int .i64 (i : Int)))])
  simp only [rcS]
  refine Ghost.sub ?_ ?_ <;> simp -implicitDefEqProofs only [go_sem,↓reduceIte,Nat.reduceEqDiff,reduceCtorEq,List.forall_mem_cons,List.not_mem_nil,false_implies,implies_true,and_self,AV.labsIn]
  all_goals first | rfl | decide | skip
 obtain ⟨s,hs1⟩ : ∃ s,x[k]? = some s:=⟨_,List.getElem?_eq_getElem hkl⟩
 have ⟨s1,s2,s3⟩:=at_map' encSt hs1
 have s2' : (k : Int) < (x.length : Int):=by omega
 have c2 : ((k : Int) < (x.length : Int)) = True:=eq_true (by omega)
 have w2 : IntKind.wrap .i64 ((k : Int) + 1) = ((k + 1 : Nat) : Int):=by rw [w64] <;> omega
 have ed : x.drop k = s :: x.drop (k + 1):=by
  obtain ⟨h1,h2⟩:=List.getElem?_eq_some_iff.1 hs1
  rw [List.drop_eq_getElem_cons h1,h2]
 rw [ed,partB] at k2
 have bad' : stOK p.length last s = false → progB p = false:=fun h=>bad (by rw [← k2,h]; rfl)
 have stE : stOK p.length last s = (decide (last < s.tag ∧ s.tag ≤ 500) && ((decide (s.op = 1 ∨ s.op = 2) && (s.sub == 0)) || (decide (s.op = 3 ∨ s.op = 4) && decide (0 ≤ s.sub ∧ s.sub < p.length)))):=rfl
 refine AW.rT (by rfl) fun K hK=>?_
 simp -implicitDefEqProofs only [go_sem,↓reduceIte,Nat.reduceAdd,Nat.reduceEqDiff,reduceCtorEq,c2,hx1,hx2',hx3,List.length_map,encPt]
 apply hK;clear hK K
 refine AW.cT rfl ?_
 refine AW.skip ?_
 simp only [andThen]
 refine AW.seq ?_
 refine AW.block ?_
 refine AW.rT (by rfl) fun K hK=>?_
 simp -implicitDefEqProofs only [go_sem,↓reduceIte,Nat.reduceAdd,Nat.reduceEqDiff,Nat.reduceLeDiff,reduceCtorEq,hx1,hx2',hx3,s1,s2',s3,List.length_map,encPt,encSt]
 apply hK;clear hK K
 refine AW.cut (fun _ : Unit=>rcX p s i k last []) (fun _=>True) ?_ fun _ _=>?_
 ·by_cases o3 : s.op = 3
  ·have q1 : (s.op == 3) = true:=by simp [o3]
   have q2 : decide (s.op = 3 ∨ s.op = 4) = true:=decide_eq_true (.inl o3)
   refine AW.rE (by rfl) fun K hK=>?_
   simp -implicitDefEqProofs only [go_sem,↓reduceIte,Nat.reduceAdd,Nat.reduceEqDiff,q1]
   apply hK;clear hK K
   refine ⟨(),trivial,?_⟩
   show Ghost _ _ (rcX _ _ _ _ _ _)
   simp only [rcX,q2]
   refine Ghost.ent (fun l=>14) ?_ ?_ ?_ <;> simp -implicitDefEqProofs only [go_sem,↓reduceIte,Nat.reduceEqDiff,reduceCtorEq,List.forall_mem_cons,List.not_mem_nil,false_implies,implies_true,and_self,List.all_cons,List.all_nil,Nat.reduceLT,labsInL,AV.labsIn]
   all_goals first | rfl | decide | skip
  ·have q1 : (s.op == 3) = false:=beq_eq_false_iff_ne.2 o3
   by_cases o4 : s.op = 4
   ·have q2 : decide (s.op = 3 ∨ s.op = 4) = true:=decide_eq_true (.inr o4)
    have q3 : (s.op == 4) = true:=by simp [o4]
    refine AW.rE (by rfl) fun K hK=>?_
    simp -implicitDefEqProofs only [go_sem,↓reduceIte,Nat.reduceAdd,Nat.reduceEqDiff,q1,q3]
    apply hK;clear hK K
    refine ⟨(),trivial,?_⟩
    show Ghost _ _ (rcX _ _ _ _ _ _)
    simp only [rcX,q2]
    refine Ghost.ent (fun l=>14) ?_ ?_ ?_ <;> simp -implicitDefEqProofs only [go_sem,↓reduceIte,Nat.reduceEqDiff,reduceCtorEq,List.forall_mem_cons,List.not_mem_nil,false_implies,implies_true,and_self,List.all_cons,List.all_nil,Nat.reduceLT,labsInL,AV.labsIn]
    all_goals first | rfl | decide | skip
   ·have q2 : decide (s.op = 3 ∨ s.op = 4) = false:=decide_eq_false (by omega)
    have q3 : (s.op == 4) = false:=beq_eq_false_iff_ne.2 o4
    refine AW.rE (by rfl) fun K hK=>?_
    simp -implicitDefEqProofs only [go_sem,↓reduceIte,Nat.reduceAdd,Nat.reduceEqDiff,q1,q3]
    apply hK;clear hK K
    refine ⟨(),trivial,?_⟩
    show Ghost _ _ (rcX _ _ _ _ _ _)
    simp only [rcX,q2]
    refine Ghost.ent (fun l=>14) ?_ ?_ ?_ <;> simp -implicitDefEqProofs only [go_sem,↓reduceIte,Nat.reduceEqDiff,reduceCtorEq,List.forall_mem_cons,List.not_mem_nil,false_implies,implies_true,and_self,List.all_cons,List.all_nil,Nat.reduceLT,labsInL,AV.labsIn]
    all_goals first | rfl | decide | skip
 simp only [rcX]
 refine AW.seq ?_
 by_cases a1 : s.tag ≤ last
 ·have f1 : (s.tag ≤ last) = True:=eq_true a1
  have e:=bad' (by rw [stE,decide_eq_false (by omega)]; rfl)
  refine AW.rT (by rfl) fun K hK=>?_
  simp -implicitDefEqProofs only [go_sem,↓reduceIte,Nat.reduceAdd,Nat.reduceEqDiff,reduceCtorEq,f1]
  apply hK;clear hK K
  refine AW.cT rfl ?_
  refine AW.rT (by rfl) fun K hK=>?_
  simp -implicitDefEqProofs only [go_sem,Nat.reduceAdd]
  apply hK;clear hK K
  refine AW.ret ?_
  simp -implicitDefEqProofs only [go_sem,e]
 have f1 : (s.tag ≤ last) = False:=eq_false a1
 by_cases a2 : s.tag > 500
 ·have f2 : (s.tag > 500) = True:=eq_true a2
  have e:=bad' (by rw [stE,decide_eq_false (by omega)]; rfl)
  refine AW.rT (by rfl) fun K hK=>?_
  simp -implicitDefEqProofs only [go_sem,↓reduceIte,Nat.reduceAdd,Nat.reduceEqDiff,reduceCtorEq,f1,f2]
  apply hK;clear hK K
  refine AW.cT rfl ?_
  refine AW.rT (by rfl) fun K hK=>?_
  simp -implicitDefEqProofs only [go_sem,Nat.reduceAdd]
  apply hK;clear hK K
  refine AW.ret ?_
  simp -implicitDefEqProofs only [go_sem,e]
 have f2 : (s.tag > 500) = False:=eq_false a2
 by_cases a3 : s.op < 1
 ·have f3 : (s.op < 1) = True:=eq_true a3
  have e:=bad' (by rw [stE,decide_eq_false (show ¬ (s.op = 1 ∨ s.op = 2) by omega),decide_eq_false (show ¬ (s.op = 3 ∨ s.op = 4) by omega),Bool.and_comm]; rfl)
  refine AW.rT (by rfl) fun K hK=>?_
  simp -implicitDefEqProofs only [go_sem,↓reduceIte,Nat.reduceAdd,Nat.reduceEqDiff,reduceCtorEq,f1,f2,f3]
  apply hK;clear hK K
  refine AW.cT rfl ?_
  refine AW.rT (by rfl) fun K hK=>?_
  simp -implicitDefEqProofs only [go_sem,Nat.reduceAdd]
  apply hK;clear hK K
  refine AW.ret ?_
  simp -implicitDefEqProofs only [go_sem,e]
 have f3 : (s.op < 1) = False:=eq_false a3
 by_cases a4 : s.op > 4
 ·have f4 : (s.op > 4) = True:=eq_true a4
  have e:=bad' (by rw [stE,decide_eq_false (show ¬ (s.op = 1 ∨ s.op = 2) by omega),decide_eq_false (show ¬ (s.op = 3 ∨ s.op = 4) by omega),Bool.and_comm]; rfl)
  refine AW.rT (by rfl) fun K hK=>?_
  simp -implicitDefEqProofs only [go_sem,↓reduceIte,Nat.reduceAdd,Nat.reduceEqDiff,reduceCtorEq,f1,f2,f3,f4]
  apply hK;clear hK K
  refine AW.cT rfl ?_
  refine AW.rT (by rfl) fun K hK=>?_
  simp -implicitDefEqProofs only [go_sem,Nat.reduceAdd]
  apply hK;clear hK K
  refine AW.ret ?_
  simp -implicitDefEqProofs only [go_sem,e]
 have f4 : (s.op > 4) = False:=eq_false a4
 by_cases a5 : s.sub < 0
 ·have f5 : (s.sub < 0) = True:=eq_true a5
  have e:=bad' (by
   have z : (s.sub == 0) = false:=beq_eq_false_iff_ne.2 (by omega)
   rw [stE,z,decide_eq_false (show ¬ (0 ≤ s.sub ∧ s.sub < p.length) by omega),Bool.and_false,Bool.and_false,Bool.or_false,Bool.and_false])
  refine AW.rT (by rfl) fun K hK=>?_
  simp -implicitDefEqProofs only [go_sem,↓reduceIte,Nat.reduceAdd,Nat.reduceEqDiff,reduceCtorEq,f1,f2,f3,f4,f5]
  apply hK;clear hK K
  refine AW.cT rfl ?_
  refine AW.rT (by rfl) fun K hK=>?_
  simp -implicitDefEqProofs only [go_sem,Nat.reduceAdd]
  apply hK;clear hK K
  refine AW.ret ?_
  simp -implicitDefEqProofs only [go_sem,e]
 have f5 : (s.sub < 0) = False:=eq_false a5
 by_cases a6 : s.sub ≥ (p.length : Int)
 ·have f6 : (s.sub ≥ (p.length : Int)) = True:=eq_true a6
  have e:=bad' (by
   have z : (s.sub == 0) = false:=beq_eq_false_iff_ne.2 (by omega)
   rw [stE,z,decide_eq_false (show ¬ (0 ≤ s.sub ∧ s.sub < p.length) by omega),Bool.and_false,Bool.and_false,Bool.or_false,Bool.and_false])
  refine AW.rT (by rfl) fun K hK=>?_
  simp -implicitDefEqProofs only [go_sem,↓reduceIte,Nat.reduceAdd,Nat.reduceEqDiff,reduceCtorEq,f1,f2,f3,f4,f5,f6,List.length_map]
  apply hK;clear hK K
  refine AW.cT rfl ?_
  refine AW.rT (by rfl) fun K hK=>?_
  simp -implicitDefEqProofs only [go_sem,Nat.reduceAdd]
  apply hK;clear hK K
  refine AW.ret ?_
  simp -implicitDefEqProofs only [go_sem,e]
 have f6 : (s.sub ≥ (p.length : Int)) = False:=eq_false a6
 have good : stOK p.length last s = true → partB p.length s.tag (x.drop (k + 1)) = partB p.length 0 x:=fun h=>by rw [← k2,h]; rfl
 have d1 : decide (last < s.tag ∧ s.tag ≤ 500) = true:=decide_eq_true (by omega)
 have d2 : decide (0 ≤ s.sub ∧ s.sub < (p.length : Int)) = true:=decide_eq_true (by omega)
 by_cases o34 : s.op = 3 ∨ s.op = 4
 ·have q2 : decide (s.op = 3 ∨ s.op = 4) = true:=decide_eq_true o34
  have ok:=good (by rw [stE,d1,d2,q2]; simp)
  refine AW.rT (by rfl) fun K hK=>?_
  simp -implicitDefEqProofs only [go_sem,↓reduceIte,Nat.reduceAdd,Nat.reduceEqDiff,reduceCtorEq,f1,f2,f3,f4,f5,f6,q2,List.length_map]
  apply hK;clear hK K
  refine AW.cF rfl ?_
  refine AW.skip ?_
  simp only [andThen]
  refine AW.rE (by rfl) fun K hK=>?_
  simp -implicitDefEqProofs only [go_sem,↓reduceIte,Nat.reduceAdd,Nat.reduceEqDiff,reduceCtorEq]
  apply hK;clear hK K
  simp only [andThen,inBlk]
  refine AW.rE (by rfl) fun K hK=>?_
  simp -implicitDefEqProofs only [go_sem,↓reduceIte,Nat.reduceAdd,Nat.reduceEqDiff,reduceCtorEq,w2]
  apply hK;clear hK K
  refine ⟨(k + 1,s.tag),⟨by simp only; omega,ok⟩,by simp only; omega,?_⟩
  simp only []
  refine Ghost.sub ?_ ?_ <;> simp -implicitDefEqProofs only [go_sem,↓reduceIte,Nat.reduceEqDiff,reduceCtorEq,List.forall_mem_cons,List.not_mem_nil,false_implies,implies_true,and_self,AV.labsIn]
  all_goals first | rfl | decide | skip
 have q2 : decide (s.op = 3 ∨ s.op = 4) = false:=decide_eq_false o34
 by_cases a7 : s.sub = 0
 ·have q3 : (s.sub != 0) = false:=by simp [a7]
  have q4 : (s.sub == 0) = true:=by simp [a7]
  have ok:=good (by rw [stE,d1,d2,q2,q4,decide_eq_true (show s.op = 1 ∨ s.op = 2 by omega)]; rfl)
  refine AW.rT (by rfl) fun K hK=>?_
  simp -implicitDefEqProofs only [go_sem,↓reduceIte,Nat.reduceAdd,Nat.reduceEqDiff,reduceCtorEq,f1,f2,f3,f4,f5,f6,q2,q3,List.length_map]
  apply hK;clear hK K
  refine AW.cF rfl ?_
  refine AW.skip ?_
  simp only [andThen]
  refine AW.rE (by rfl) fun K hK=>?_
  simp -implicitDefEqProofs only [go_sem,↓reduceIte,Nat.reduceAdd,Nat.reduceEqDiff,reduceCtorEq]
  apply hK;clear hK K
  simp only [andThen,inBlk]
  refine AW.rE (by rfl) fun K hK=>?_
  simp -implicitDefEqProofs only [go_sem,↓reduceIte,Nat.reduceAdd,Nat.reduceEqDiff,reduceCtorEq,w2]
  apply hK;clear hK K
  refine ⟨(k + 1,s.tag),⟨by simp only; omega,ok⟩,by simp only; omega,?_⟩
  simp only []
  refine Ghost.sub ?_ ?_ <;> simp -implicitDefEqProofs only [go_sem,↓reduceIte,Nat.reduceEqDiff,reduceCtorEq,List.forall_mem_cons,List.not_mem_nil,false_implies,implies_true,and_self,AV.labsIn]
  all_goals first | rfl | decide | skip
 ·have q3 : (s.sub != 0) = true:=by simp [a7]
  have q4 : (s.sub == 0) = false:=beq_eq_false_iff_ne.2 a7
  have e:=bad' (by rw [stE,q2,q4,Bool.and_false,Bool.false_and,Bool.or_false,Bool.and_false])
  refine AW.rT (by rfl) fun K hK=>?_
  simp -implicitDefEqProofs only [go_sem,↓reduceIte,Nat.reduceAdd,Nat.reduceEqDiff,reduceCtorEq,f1,f2,f3,f4,f5,f6,q2,q3,List.length_map]
  apply hK;clear hK K
  refine AW.cT rfl ?_
  refine AW.rT (by rfl) fun K hK=>?_
  simp -implicitDefEqProofs only [go_sem,Nat.reduceAdd]
  apply hK;clear hK K
  refine AW.ret ?_
  simp -implicitDefEqProofs only [go_sem,e]
end Go.Aw
namespace Go.Aw.T
open Go.Proofs Go.RowKit
theorem ref16_Run (P : List (List Stp)) (t : Tr) (hlt : lensT t = true) (hs : ∀ x ∈ P,x.length ≤ 1000000000000000) : PFn Tryz.prog 14 [.slice (P.map encPt),.agg (encTr t)] (.tuple [.agg (encTr (runP P t).1),.int .i64 (IntKind.wrap .i64 ((lookP P t : Nat) : Int)),.int .i64 (runP P t).2]):=by
 have C1:=ref15_Check P hs
 have C2:=ref_Check t hlt
 have zz : encTr zeroTr = [.int .i64 0,.int .i64 0,.str [],.slice [],.slice []]:=by rw [encTr_eq]; rfl
 have bad : progB P = false ∨ t.kind ≠ 3 ∨ okT t = false → runP P t = (zeroTr,1) ∧ lookP P t = 0:=fun h=>by
  unfold runP lookP
  rw [if_pos h,if_pos h]
  exact ⟨rfl,rfl⟩
 have w0 : IntKind.wrap .i64 ((0 : Nat) : Int) = 0:=by decide
 rw [encTr_eq t] at C2
 refine PFn.of Tryz.func14 rfl (by decide) Tryz.ntmps14 Tryz.results14 (Nat.le_of_ble_eq_true rfl) ?_
 simp only [argsT]
 refine AW.rT (by rfl) fun K hK=>?_
 simp -implicitDefEqProofs only [go_sem,↓reduceIte,Nat.reduceAdd,encTr_eq t]
 apply hK;clear hK K
 refine AW.seq ?_
 cases hp : progB P with
 | false =>
  rw [hp] at C1
  obtain ⟨b1,b2⟩:=bad (.inl hp)
  rw [b1,b2]
  refine AW.rT (by rfl) fun K hK=>?_
  simp -implicitDefEqProofs only [go_sem,↓reduceIte,Nat.reduceAdd,reduceCtorEq]
  refine ⟨.pure _,C1,?_⟩
  try simp -implicitDefEqProofs only [go_sem,↓reduceIte,Nat.reduceAdd,Nat.reduceEqDiff]
  apply hK;clear hK K
  refine AW.cT rfl ?_
  refine AW.rT (by rfl) fun K hK=>?_
  simp -implicitDefEqProofs only [go_sem,↓reduceIte,Nat.reduceAdd,Nat.reduceEqDiff,Nat.reduceLeDiff]
  apply hK;clear hK K
  refine AW.ret ?_
  simp -implicitDefEqProofs only [go_sem,↓reduceIte,Nat.reduceAdd,Nat.reduceEqDiff,Nat.reduceLeDiff,zz,w0]
  done
 | true =>
 rw [hp] at C1
 by_cases h3 : t.kind = 3
 case neg =>
  have e3 : (t.kind != 3) = true:=by simpa using h3
  obtain ⟨b1,b2⟩:=bad (.inr (.inl h3))
  rw [b1,b2]
  refine AW.rT (by rfl) fun K hK=>?_
  simp -implicitDefEqProofs only [go_sem,↓reduceIte,Nat.reduceAdd,reduceCtorEq]
  refine ⟨.pure _,C1,?_⟩
  try simp -implicitDefEqProofs only [go_sem,↓reduceIte,Nat.reduceAdd,Nat.reduceEqDiff,reduceCtorEq,e3]
  apply hK;clear hK K
  refine AW.cT rfl ?_
  refine AW.rT (by rfl) fun K hK=>?_
  simp -implicitDefEqProofs only [go_sem,↓reduceIte,Nat.reduceAdd,Nat.reduceEqDiff,Nat.reduceLeDiff]
  apply hK;clear hK K
  refine AW.ret ?_
  simp -implicitDefEqProofs only [go_sem,↓reduceIte,Nat.reduceAdd,Nat.reduceEqDiff,Nat.reduceLeDiff,zz,w0]
  done
 have e3 : (t.kind != 3) = false:=by simp [h3]
 cases ho : okT t with
 | false =>
  rw [ho] at C2
  obtain ⟨b1,b2⟩:=bad (.inr (.inr ho))
  rw [b1,b2]
  refine AW.rT (by rfl) fun K hK=>?_
  simp -implicitDefEqProofs only [go_sem,↓reduceIte,Nat.reduceAdd,reduceCtorEq]
  refine ⟨.pure _,C1,?_⟩
  try simp -implicitDefEqProofs only [go_sem,↓reduceIte,Nat.reduceAdd,Nat.reduceEqDiff,Nat.reduceLeDiff,reduceCtorEq,e3]
  refine ⟨.pure _,C2,?_⟩
  try simp -implicitDefEqProofs only [go_sem,↓reduceIte,Nat.reduceAdd,Nat.reduceEqDiff]
  apply hK;clear hK K
  refine AW.cT rfl ?_
  refine AW.rT (by rfl) fun K hK=>?_
  simp -implicitDefEqProofs only [go_sem,↓reduceIte,Nat.reduceAdd,Nat.reduceEqDiff,Nat.reduceLeDiff]
  apply hK;clear hK K
  refine AW.ret ?_
  simp -implicitDefEqProofs only [go_sem,↓reduceIte,Nat.reduceAdd,Nat.reduceEqDiff,Nat.reduceLeDiff,zz,w0]
  done
 | true =>
 rw [ho] at C2
 have hi : 0 < P.length:=by
  unfold progB at hp
  rw [Bool.and_eq_true,decide_eq_true_eq] at hp
  omega
 have C4:=ref16_part P hp t hlt (ok_right ho) 0 0 hi (by decide)
 have RP : runP P t = (runF P t 0,0):=by unfold runP; rw [if_neg (by rw [hp,ho]; simp [h3])]
 have LP : lookP P t = lookF P t 0:=by unfold lookP; rw [if_neg (by rw [hp,ho]; simp [h3])]
 rw [RP,LP]
 rw [show ((0 : Nat) : Int) = 0 from rfl,Int.zero_add] at C4
 generalize runF P t 0 = z at C4
 generalize IntKind.wrap .i64 ((lookF P t 0 : Nat) : Int) = n at C4
 rw [encTr_eq z,encTr_eq t] at C4
 rw [encTr_eq z]
 refine AW.rT (by rfl) fun K hK=>?_
 simp -implicitDefEqProofs only [go_sem,↓reduceIte,Nat.reduceAdd,reduceCtorEq]
 refine ⟨.pure _,C1,?_⟩
 try simp -implicitDefEqProofs only [go_sem,↓reduceIte,Nat.reduceAdd,Nat.reduceEqDiff,Nat.reduceLeDiff,reduceCtorEq,e3]
 refine ⟨.pure _,C2,?_⟩
 try simp -implicitDefEqProofs only [go_sem,↓reduceIte,Nat.reduceAdd,Nat.reduceEqDiff]
 apply hK;clear hK K
 refine AW.cF rfl ?_
 refine AW.skip ?_
 simp only [andThen]
 refine AW.rT (by rfl) fun K hK=>?_
 simp -implicitDefEqProofs only [go_sem,↓reduceIte,Nat.reduceAdd,Nat.reduceLeDiff,reduceCtorEq]
 apply hK;clear hK K
 refine AW.rR (SeqR.ev 2 (by rfl) (by decide) ?_)
 simp -implicitDefEqProofs only [go_sem,↓reduceIte,Nat.reduceAdd,Nat.reduceEqDiff,Nat.reduceLeDiff,reduceCtorEq]
 refine SeqR.call (fun k=>19) rfl rfl C4 ⟨?_,rfl,?_,rfl,rfl,rfl,rfl,rfl,rfl⟩ ?_
 ·simp -implicitDefEqProofs only [go_sem,↓reduceIte,Nat.reduceEqDiff,argD]
  done
 ·simp only [memR]
  simp -implicitDefEqProofs only [go_sem,List.forall_mem_cons,List.not_mem_nil,false_implies,implies_true]
  first | done | decide | exact ⟨rfl,by decide⟩
 simp only [memR,AV.ren]
 refine SeqR.ev 2 (by rfl) (by decide) ?_
 simp -implicitDefEqProofs only [go_sem,↓reduceIte,Nat.reduceAdd,Nat.reduceEqDiff,Nat.reduceLeDiff,lift2,goneU,newU,List.map_cons,List.map_nil,putH,Nat.reduceLT]
 refine SeqR.last rfl ?_
 refine AW.dT mixed (by rfl) (by decide +kernel) fun K hK=>?_
 simp -implicitDefEqProofs only [go_sem,↓reduceIte,Nat.reduceAdd,Nat.reduceEqDiff,Nat.reduceLeDiff]
 refine ⟨by decide +kernel,?_⟩
 apply hK;clear hK K
 refine AW.ret ?_
 simp -implicitDefEqProofs only [go_sem,↓reduceIte,Nat.reduceAdd,Nat.reduceEqDiff,Nat.reduceLeDiff]
 done
end Go.Aw.T
namespace Go.Aw.T
open Go.Proofs Go.RowKit
def awT : Tr:=.mk 3 0 [] [(1,[.mk 1 1099511627776 [] [] []])] []
theorem aw_0 : runP [[]] awT = (.mk 3 0 [] [] [],0):=by rfl
theorem aw_1 : runP [[⟨2,1,0⟩]] awT = (.mk 3 0 [] [(1,[.mk 1 2147483647 [] [] []])] [],0):=by rfl
theorem aw_l : lensT awT = true:=by rfl
def a16 (L : List (Nat × AV)) (H : List (Nat × Blk)) (n : Nat) : St:=⟨ofL ((1,.ptr 0 0 0) :: L),ofH ((0,.row 5 [cellsT awT]) :: H),n⟩
def aE : List (List PV):=[[.int .i64 1,.slice [[.int .i64 1,.int .i64 1099511627776,.str [],.slice [],.slice []]]]]
theorem law16_awake : PFn Tryz.prog 7 [] (.bool true):=by
 have C0:=interp_Run [[]] awT aw_l
 have C1:=interp_Run [[⟨2,1,0⟩]] awT aw_l
 rw [aw_0] at C0
 rw [aw_1] at C1
 refine PFn.of Tryz.func7 rfl (by decide) Tryz.ntmps7 Tryz.results7 (Nat.le_of_ble_eq_true rfl) ?_
 simp only [argsT]
 refine AW.rT (by rfl) fun K hK=>?_
 simp -implicitDefEqProofs only [go_sem]
 apply hK;clear hK K
 refine AW.rT (by rfl) fun K hK=>?_
 simp -implicitDefEqProofs only [go_sem,↓reduceIte,Nat.reduceAdd,Nat.reduceMul,Nat.reduceEqDiff,Nat.reduceLeDiff]
 apply hK;clear hK K
 refine AW.ghost (s':=⟨ofL [(1,.ptr 6 0 0)],ofH [(4,.row 2 [[.p (.int .i64 1),.p (.slice [[.int .i64 1,.int .i64 1099511627776,.str [],.slice [],.slice []]])]]),(6,.row 5 [[.p (.int .i64 3),.p (.int .i64 0),.p (.str []),.own 4,.ex []]])],7⟩) (Ghost.trans (Ghost.exH (l:=2) (i:=0) (j:=3) rfl rfl rfl) (Ghost.trans (Ghost.exH (l:=2) (i:=0) (j:=4) rfl rfl rfl) (Ghost.trans (Ghost.freeze (lb:=2) (ps:=[[.int .i64 1,.int .i64 1099511627776,.str [],.slice [],.slice []]]) rfl (by rfl)) ?_))) ?_
 ·refine Ghost.sub ?_ ?_ <;> simp -implicitDefEqProofs only [go_sem,↓reduceIte,Nat.reduceEqDiff,thaw,thaw1,Option.map_some,List.map_cons,List.map_nil,List.set_cons_zero,List.set_cons_succ,List.forall_mem_cons,List.not_mem_nil,false_implies,implies_true,and_self,List.all_cons,List.all_nil,Nat.reduceLT,labsInL,AV.labsIn]
  all_goals first | rfl | skip
 refine AW.ghost (s':=⟨ofL [(1,.ptr 6 0 0)],ofH [(6,.row 5 [[.p (.int .i64 3),.p (.int .i64 0),.p (.str []),.p (.slice aE),.ex []]])],7⟩) (Ghost.trans (Ghost.freeze (lb:=4) (ps:=aE) rfl (by rfl)) ?_) ?_
 ·refine Ghost.sub ?_ ?_ <;> simp -implicitDefEqProofs only [go_sem,↓reduceIte,Nat.reduceEqDiff,thaw,thaw1,Option.map_some,List.map_cons,List.map_nil,List.forall_mem_cons,List.not_mem_nil,false_implies,implies_true,and_self,List.all_cons,List.all_nil,Nat.reduceLT,labsInL,AV.labsIn]
  all_goals first | rfl | skip
 refine AW.ghost (s':=a16 [] [] 1) (Ghost.trans (Ghost.exH (l:=6) (i:=0) (j:=4) rfl rfl rfl) ?_) ?_
 ·simp only [a16,cellsT,awT,Tr.kind,Tr.n,Tr.s,Tr.ents,Tr.rest,List.map_cons,List.map_nil,encEn,encTr_eq]
  refine Ghost.ent (fun l=>if l = 0 then 6 else l) ?_ ?_ ?_ <;> simp -implicitDefEqProofs only [go_sem,↓reduceIte,List.set_cons_zero,List.set_cons_succ,List.forall_mem_cons,List.not_mem_nil,false_implies,implies_true,and_self,List.all_cons,List.all_nil,Nat.reduceLT,labsInL,AV.labsIn]
  all_goals first | rfl | skip
 have ea : encTr awT = [.int .i64 3,.int .i64 0,.str [],.slice (awT.ents.map encEn),.slice (awT.rest.map encRaw)]:=encTr_eq awT
 rw [ea] at C0 C1
 simp only [a16,cellsT,show awT.kind = 3 from rfl,show awT.n = 0 from rfl,show awT.s = [] from rfl]
 generalize awT.ents.map encEn = Es at *
 generalize awT.rest.map encRaw = Rs at *
 rw [encTr_eq] at C0 C1
 simp only [List.map_cons,List.map_nil,encPt,encSt,encEn,encTr_eq,Tr.kind,Tr.n,Tr.s,Tr.ents,Tr.rest] at C0 C1
 refine AW.rR (SeqR.ev 3 (by rfl) (by decide) ?_)
 simp -implicitDefEqProofs only [go_sem,↓reduceIte,Nat.reduceAdd,Nat.reduceMul,Nat.reduceLeDiff]
 refine SeqR.ghost (s':=⟨ofL [(1,.ptr 0 0 0),(14,.agg [.own 2])],ofH [(0,.row 5 [[.p (.int .i64 3),.p (.int .i64 0),.p (.str []),.p (.slice Es),.p (.slice Rs)]]),(2,.row 1 [[.p (.slice [])]])],3⟩) (Ghost.trans (Ghost.freeze (lb:=1) (ps:=[]) rfl (by rfl)) ?_) ?_
 ·refine Ghost.sub ?_ ?_ <;> simp -implicitDefEqProofs only [go_sem,↓reduceIte,Nat.reduceEqDiff,reduceCtorEq,thaw,thaw1,Option.map_some,List.map_cons,List.map_nil,List.forall_mem_cons,List.not_mem_nil,false_implies,implies_true,and_self,List.all_cons,List.all_nil,Nat.reduceLT,labsInL,AV.labsIn]
  all_goals first | rfl | skip
 refine SeqR.ghost (s':=⟨ofL [(1,.ptr 0 0 0),(14,.p (.agg [.slice [[.slice []]]]))],ofH [(0,.row 5 [[.p (.int .i64 3),.p (.int .i64 0),.p (.str []),.p (.slice Es),.p (.slice Rs)]])],1⟩) (Ghost.trans (Ghost.freeze (lb:=2) (ps:=[[.slice []]]) rfl (by rfl)) ?_) ?_
 ·refine Ghost.sub ?_ ?_ <;> simp -implicitDefEqProofs only [go_sem,↓reduceIte,Nat.reduceEqDiff,reduceCtorEq,thaw,thaw1,Option.map_some,List.map_cons,List.map_nil,mkAgg,allP,List.forall_mem_cons,List.not_mem_nil,false_implies,implies_true,and_self,List.all_cons,List.all_nil,Nat.reduceLT,labsInL,AV.labsIn]
  all_goals first | rfl | skip
 refine SeqR.ev 8 (by rfl) (by decide) ?_
 simp -implicitDefEqProofs only [go_sem,↓reduceIte,Nat.reduceAdd,Nat.reduceEqDiff,Nat.reduceLeDiff]
 refine ⟨.pure _,C0,?_⟩
 try simp -implicitDefEqProofs only [go_sem,↓reduceIte,Nat.reduceAdd,Nat.reduceEqDiff,Nat.reduceLeDiff]
 refine SeqR.last rfl ?_
 refine AW.ghost (s':=⟨ofL [(1,.ptr 0 0 0),(2,.ptr 1 0 0),(3,.p (.int .i64 0))],ofH [(0,.row 5 [[.p (.int .i64 3),.p (.int .i64 0),.p (.str []),.p (.slice Es),.p (.slice Rs)]]),(1,.row 5 [[.p (.int .i64 3),.p (.int .i64 0),.p (.str []),.p (.slice []),.p (.slice [])]])],2⟩) ?_ ?_
 ·show Ghost _ _ _
  refine Ghost.ent (fun l=>if l = 1 then 6 else l) ?_ ?_ ?_ <;> simp -implicitDefEqProofs only [go_sem,↓reduceIte,Nat.reduceEqDiff,reduceCtorEq,List.forall_mem_cons,List.not_mem_nil,false_implies,implies_true,and_self,List.all_cons,List.all_nil,Nat.reduceLT,labsInL,AV.labsIn]
  all_goals first | rfl | skip
 refine AW.rR (SeqR.ev 4 (by rfl) (by decide) ?_)
 simp -implicitDefEqProofs only [go_sem,↓reduceIte,Nat.reduceAdd,Nat.reduceMul,Nat.reduceLeDiff]
 refine SeqR.ghost (s':=⟨ofL [(1,.ptr 0 0 0),(2,.ptr 1 0 0),(3,.p (.int .i64 0)),(23,.agg [.own 4])],ofH [(0,.row 5 [[.p (.int .i64 3),.p (.int .i64 0),.p (.str []),.p (.slice Es),.p (.slice Rs)]]),(1,.row 5 [[.p (.int .i64 3),.p (.int .i64 0),.p (.str []),.p (.slice []),.p (.slice [])]]),(4,.row 1 [[.p (.slice [[.int .i64 2,.int .i64 1,.int .i64 0]])]])],5⟩) (Ghost.trans (Ghost.freeze (lb:=3) (ps:=[[.int .i64 2,.int .i64 1,.int .i64 0]]) rfl (by rfl)) ?_) ?_
 ·refine Ghost.sub ?_ ?_ <;> simp -implicitDefEqProofs only [go_sem,↓reduceIte,Nat.reduceEqDiff,reduceCtorEq,thaw,thaw1,Option.map_some,List.map_cons,List.map_nil,List.forall_mem_cons,List.not_mem_nil,false_implies,implies_true,and_self,List.all_cons,List.all_nil,Nat.reduceLT,labsInL,AV.labsIn]
  all_goals first | rfl | skip
 refine SeqR.ghost (s':=⟨ofL [(1,.ptr 0 0 0),(2,.ptr 1 0 0),(3,.p (.int .i64 0)),(23,.p (.agg [.slice [[.slice [[.int .i64 2,.int .i64 1,.int .i64 0]]]]]))],ofH [(0,.row 5 [[.p (.int .i64 3),.p (.int .i64 0),.p (.str []),.p (.slice Es),.p (.slice Rs)]]),(1,.row 5 [[.p (.int .i64 3),.p (.int .i64 0),.p (.str []),.p (.slice []),.p (.slice [])]])],2⟩) (Ghost.trans (Ghost.freeze (lb:=4) (ps:=[[.slice [[.int .i64 2,.int .i64 1,.int .i64 0]]]]) rfl (by rfl)) ?_) ?_
 ·refine Ghost.sub ?_ ?_ <;> simp -implicitDefEqProofs only [go_sem,↓reduceIte,Nat.reduceEqDiff,reduceCtorEq,thaw,thaw1,Option.map_some,List.map_cons,List.map_nil,mkAgg,allP,List.forall_mem_cons,List.not_mem_nil,false_implies,implies_true,and_self,List.all_cons,List.all_nil,Nat.reduceLT,labsInL,AV.labsIn]
  all_goals first | rfl | skip
 refine SeqR.ev 8 (by rfl) (by decide) ?_
 simp -implicitDefEqProofs only [go_sem,↓reduceIte,Nat.reduceAdd,Nat.reduceEqDiff,Nat.reduceLeDiff]
 refine ⟨.pure _,C1,?_⟩
 try simp -implicitDefEqProofs only [go_sem,↓reduceIte,Nat.reduceAdd,Nat.reduceEqDiff,Nat.reduceLeDiff]
 refine SeqR.last rfl ?_
 have e0 : ((0 : Int) == 0) = true:=rfl
 have e1 : (((0 : Nat) : Int) == 0) = true:=rfl
 have e2 : (((1 : Nat) : Int) == 1) = true:=rfl
 have e3 : ((2147483647 : Int) == 2147483647) = true:=rfl
 have e4 : (0 : Int) < ((1 : Nat) : Int):=by decide
 refine AW.rT (by rfl) fun K hK=>?_
 simp -implicitDefEqProofs only [go_sem,↓reduceIte,Nat.reduceAdd,Nat.reduceEqDiff,Int.reduceToNat,e0,e1,e2,e3,e4,Int.le_refl,List.getD_cons_zero,List.getElem?_cons_zero,List.length_cons,List.length_nil]
 apply hK;clear hK K
 refine AW.ret ?_
 simp -implicitDefEqProofs only [go_sem]
 done
end Go.Aw.T
namespace Go.Aw
open Go.Proofs Go.RowKit
theorem eq129 (x y : Pr) (w : World) : (Op.equalIn 10000 87 (.agg #[.string ⟨⟨x.o⟩⟩,.string ⟨⟨x.n⟩⟩]) (.agg #[.string ⟨⟨y.o⟩⟩,.string ⟨⟨y.n⟩⟩])).run Tryz.prog w = .ok (decide (x = y)) w:=by
 have u3:=Tryz.underlying3
 have u9:=Tryz.underlying9
 have a3:=Tryz.isAgg3
 have a9:=Tryz.isAgg9
 have z3:=Tryz.sizeOf3
 have z9:=Tryz.sizeOf9
 have hS : Tryz.prog.underlying 87 = some (.struct (Tryz.prog.fieldsOf 87)):=by kernel_rfl
 have hp : Tryz.prog.stoodInHeld 87 = false:=by kernel_rfl
 rw [show (10000 : Nat) = 9999 + 1 from rfl,run_equalIn_agg w 9999 87 _ _ hS hp]
 simp only [Program.fieldsOf,Tryz.underlying87]
 go_simp
 obtain ⟨a0,a1⟩:=x
 obtain ⟨b0,b1⟩:=y
 simp only [Pr.mk.injEq]
 by_cases h0 : a0 = b0 <;> by_cases h1 : a1 = b1 <;> simp [h0,h1]
theorem keyQ (a b : List UInt8) : KeyT Tryz.prog 87 (.agg [.str a,.str b]):=by
 refine key_pair Tryz.underlying87 (fun a b e w=>?_) (fun a b c d w=>?_) a b
 ·have u9:=Tryz.underlying9
  have u129:=Tryz.underlying87
  have a9:=Tryz.isAgg9
  have z9:=Tryz.sizeOf9
  have ck : ∀ (x : List UInt8) w,(Instr.checkKey e 9999 9 (.string ⟨⟨x⟩⟩)).run Tryz.prog w = .ok () w:=fun x w=>by
   rw [show (9999 : Nat) = 9998 + 1 from rfl]
   unfold Instr.checkKey
   go_simp
  rw [show (10000 : Nat) = 9999 + 1 from rfl]
  unfold Instr.checkKey
  go_simp
 ·have h:=eq129 ⟨a,b⟩ ⟨c,d⟩ w
  simp only at h
  have e : decide ((⟨a,b⟩ : Pr) = ⟨c,d⟩) = (a == c && b == d):=by
   rw [Bool.eq_iff_iff]; simp
  rw [e] at h
  exact h
def mQ (l : List Pr) : List (PV × AV):=l.zipIdx.map fun x=>(.agg [.str x.1.o,.str x.1.n],.p (.int .i64 (x.2 : Int)))
theorem key_pr (p : Pr) (a : Pr × Nat) : keyEq (.agg [.str p.o,.str p.n]) (.agg [.str a.1.o,.str a.1.n]) = some (p == a.1):=by
 simp only [keyEq]
 congr 1
 rw [Bool.eq_iff_iff]
 obtain ⟨a,k⟩:=a
 cases p; cases a
 simp
theorem mQ_no {l : List Pr} {p : Pr} (h : p ∉ l) : MapAt (mQ l) (.agg [.str p.o,.str p.n]) none :=
 mapAt_none (q:=fun a : Pr × Nat=>p == a.1) (key_pr p) (List.any_eq_false.2 fun x hx e=>by
  obtain ⟨a,k⟩:=x
  have:=List.mem_zipIdx hx
  refine h ?_
  rw [beq_iff_eq.1 e]
  rw [this.2.2]
  exact List.getElem_mem _)
theorem mQ_yes {l : List Pr} {p : Pr} (h : p ∈ l) : MapAt (mQ l) (.agg [.str p.o,.str p.n]) (some (placeP l p,.p (.int .i64 (placeP l p : Int)))):=by
 obtain ⟨h1,h2⟩:=place_yes h
 refine mapAt_some (l:=l.zipIdx) (f:=fun x=>(.agg [.str x.1.o,.str x.1.n],.p (.int .i64 (x.2 : Int)))) (q:=fun a : Pr × Nat=>p == a.1) (key_pr p) (i:=placeP l p) (a:=(p,placeP l p)) ?_ (by simp) fun j b hj hb=>?_
 ·rw [List.getElem?_zipIdx,h2]
  simp
 ·rw [List.getElem?_zipIdx,Option.map_eq_some_iff] at hb
  obtain ⟨y,hy,rfl⟩:=hb
  have:=List.not_of_lt_findIdx (p:=fun x=>x == p) (xs:=l) (i:=j) hj
  have jl : j < l.length:=(List.getElem?_eq_some_iff.1 hy).1
  rw [List.getElem?_eq_getElem jl,Option.some.injEq] at hy
  rw [hy] at this
  simp only [beq_eq_false_iff_ne]
  intro e
  rw [← e] at this
  simp at this
theorem mQ_add (l : List Pr) (p : Pr) : mQ l ++ [(.agg [.str p.o,.str p.n],.p (.int .i64 (l.length : Int)))] = mQ (l ++ [p]):=by
 unfold mQ
 rw [List.zipIdx_append,List.map_append]
 simp
theorem mQ_ren (l : List Pr) (ρ : Nat → Nat) : (mQ l).map (fun e=>(e.1,AV.ren ρ e.2)) = mQ l:=by
 simp [mQ,AV.ren]
theorem mQ_labs (l : List Pr) (n : Nat) : (mQ l).all (fun e=>AV.labsIn n e.2) = true:=by
 simp [mQ,AV.labsIn]
attribute [go_sem] mQ_ren mQ_labs
def rowA (S U : Sc) (a b : Nat) : List AV:=[.p (.str S.name),.p (.slice (S.msgs.map encMs)),.p (.slice (S.enums.map encEn)),.p (.slice (S.meths.map encMt)),.p (.str U.name),.p (.slice (U.msgs.map encMs)),.p (.slice (U.enums.map encEn)),.p (.slice (U.meths.map encMt)),.own a,.map b]
def memA (S U : Sc) (l : List Pr) (r a b : Nat) : List (Nat × Blk):=[(r,.row 10 [rowA S U a b]),(a,.row 2 (liftE (l.map encPr))),(b,.map (mQ l))]
theorem partEnd {S U : Sc} {l0 l : List Pr} {b : Int} {rs : Array ResultVar} {args : List AV} {s : St} (ha : args[0]? = some (.ptr 0 0 0)) (hs : s.T 0 = some (.ptr 0 0 0)) (h0 : s.H 0 = some (.row 10 [rowA S U 1 2])) (h1 : s.H 1 = some (.row 2 (liftE (l.map encPr)))) (h2 : s.H 2 = some (.map (mQ l))) (hr : resD Tryz.prog s rs.toList [.p (.int .i64 b)]) :
  EndD Tryz.prog rs args (memA S U l0 0 1 2) 3 [0] (.p (.int .i64 b)) (memA S U l 0 3 4) 2 [0] .ret s:=by
 refine ⟨fun k=>if k = 0 then 0 else k - 2,[.p (.int .i64 b)],hr,rfl,rfl,?_,?_,?_⟩
 ·simp only [memA,rowA] at h0 ⊢
  simp -implicitDefEqProofs only [go_sem,↓reduceIte,Nat.reduceAdd,reduceCtorEq,List.forall_mem_cons,List.not_mem_nil,false_implies,implies_true,Nat.reduceSub,h0,h1,h2]
  first | done | decide
 ·simp [memA]
 ·intro k hk'
  simp at hk'
  subst hk'
  exact ⟨by decide,.inl ⟨0,0,0,10,_,_,by simp,ha,hs,rfl,rfl,rfl,by decide⟩⟩
def adZ9 (S U : Sc) (l : List Pr) (m : List (Nat × AV)) : St:=⟨ofL ((0,.ptr 0 0 0) :: m),ofH (memA S U l 0 1 2),3⟩
theorem adapt_part (S U : Sc) (l : List Pr) (p : Pr) (hl : l.length ≤ 1000000) : DFn Tryz.prog 23 [.ptr 0 0 0,.p (.agg (encPr p))] (memA S U l 0 1 2) 3 [0] (.p (.int .i64 (placeP l p : Int))) (memA S U (addP l p) 0 3 4) 2:=by
 refine DFn.of [0] Tryz.func23 rfl (by decide) Tryz.ntmps23 Tryz.results23 (Nat.le_of_ble_eq_true rfl) (by simp) fun val=>?_
 simp only [avT,memA,rowA,encPr]
 refine AW.rT (by rfl) fun K hK=>?_
 simp -implicitDefEqProofs only [go_sem,↓reduceIte,Nat.reduceAdd]
 apply hK;clear hK K
 by_cases hk : p ∈ l
 ·have hm:=mQ_yes hk
  refine AW.dT mixed (by rfl) (by decide +kernel) fun K hK=>?_
  simp -implicitDefEqProofs only [go_sem,↓reduceIte,Nat.reduceAdd,Nat.reduceEqDiff,Nat.reduceLeDiff,reduceCtorEq]
  refine ⟨keyQ p.o p.n,_,hm,_,rfl,?_⟩
  try simp -implicitDefEqProofs only [go_sem]
  refine ⟨heapOK_nil rfl,?_⟩
  apply hK;clear hK K
  have e : addP l p = l:=by unfold addP; rw [if_pos (List.contains_iff_mem.2 hk)]
  refine AW.seq ?_
  refine AW.rT (by rfl) fun K hK=>?_
  simp -implicitDefEqProofs only [go_sem,Nat.reduceAdd]
  apply hK;clear hK K
  refine AW.cF rfl ?_
  refine AW.skip ?_
  simp only [andThen]
  refine AW.rT (by rfl) fun K hK=>?_
  simp -implicitDefEqProofs only [go_sem,↓reduceIte,Nat.reduceAdd,Nat.reduceEqDiff]
  apply hK;clear hK K
  rw [e]
  refine AW.ret (partEnd rfl ?_ ?_ ?_ ?_ ⟨?_,trivial⟩) <;> simp -implicitDefEqProofs only [go_sem,↓reduceIte,Nat.reduceEqDiff,reduceCtorEq,rowA]
 ·have hm:=mQ_no hk
  refine AW.dT mixed (by rfl) (by decide +kernel) fun K hK=>?_
  simp -implicitDefEqProofs only [go_sem,↓reduceIte,Nat.reduceAdd,Nat.reduceEqDiff,Nat.reduceLeDiff,reduceCtorEq]
  refine ⟨keyQ p.o p.n,_,hm,_,rfl,?_⟩
  try simp -implicitDefEqProofs only [go_sem]
  refine ⟨heapOK_nil rfl,?_⟩
  apply hK;clear hK K
  have e : addP l p = l ++ [p]:=by unfold addP; rw [if_neg fun h=>hk (List.contains_iff_mem.1 h)]
  have eP : placeP l p = l.length:=place_no hk
  refine AW.seq ?_
  refine AW.rT (by rfl) fun K hK=>?_
  simp -implicitDefEqProofs only [go_sem,Nat.reduceAdd]
  apply hK;clear hK K
  refine AW.cT rfl ?_
  refine AW.rT (by rfl) fun K hK=>?_
  simp -implicitDefEqProofs only [go_sem,↓reduceIte,Nat.reduceAdd,Nat.reduceEqDiff,reduceCtorEq,liftE_length,List.length_map]
  apply hK;clear hK K
  refine AW.dT mixed (by rfl) (by decide +kernel) fun K hK=>?_
  simp -implicitDefEqProofs only [go_sem,↓reduceIte,Nat.reduceAdd,Nat.reduceEqDiff,Nat.reduceLeDiff,reduceCtorEq]
  refine ⟨keyQ p.o p.n,_,hm,?_⟩
  try simp -implicitDefEqProofs only [go_sem]
  refine ⟨by decide +kernel,?_⟩
  apply hK;clear hK K
  refine AW.dE mixed (by rfl) (by decide +kernel) fun K hK=>?_
  simp -implicitDefEqProofs only [go_sem,↓reduceIte,Nat.reduceAdd,Nat.reduceMul,Nat.reduceEqDiff,Nat.reduceLeDiff,reduceCtorEq]
  refine ⟨⟨by simp,by simp [oneAll,AV.one,PV.one],by simp⟩,by simp [liftE_length]; omega,?_⟩
  try simp -implicitDefEqProofs only [go_sem,↓reduceIte,Nat.reduceAdd,Nat.reduceMul,Nat.reduceEqDiff,Nat.reduceLeDiff,reduceCtorEq,Int.reduceToNat]
  refine ⟨by decide +kernel,?_⟩
  apply hK;clear hK K
  rw [mQ_add]
  simp only [andThen]
  refine AW.ghost (s':=adZ9 S U (l ++ [p]) [(5,.p (.int .i64 (l.length : Int)))]) ?_ ?_
  ·simp only [adZ9,memA,rowA]
   refine Ghost.ent (fun l=>if l = 1 then 38 else l) ?_ ?_ ?_ <;> simp -implicitDefEqProofs only [go_sem,↓reduceIte,Nat.reduceEqDiff,reduceCtorEq,encPr,List.map_append,liftE_append,List.map_cons,List.map_nil,liftE_cons,liftE_nil,List.forall_mem_cons,List.not_mem_nil,false_implies,implies_true,and_self,map_renL_lift,labsIn_lift,List.all_append,List.all_cons,List.all_nil,List.map_append,Nat.reduceLT,labsInL,AV.labsIn]
   all_goals first | rfl | decide | skip
  rw [e,eP]
  simp only [adZ9,memA,rowA]
  refine AW.rT (by rfl) fun K hK=>?_
  simp -implicitDefEqProofs only [go_sem,↓reduceIte,Nat.reduceAdd,reduceCtorEq]
  apply hK;clear hK K
  refine AW.ret (partEnd rfl ?_ ?_ ?_ ?_ ⟨?_,trivial⟩) <;> simp -implicitDefEqProofs only [go_sem,↓reduceIte,reduceCtorEq,rowA]
end Go.Aw
namespace Go.Aw
open Go.Proofs Go.RowKit
def stepA (mo mn : Ms) (t : Int) (l : List Pr) : Stp × Bool:=((stepO mo mn t l).getD ⟨0,0,0⟩,(stepO mo mn t l).isSome)
theorem stepEnd {S U : Sc} {l0 l : List Pr} {b : Stp × Bool} {rs : Array ResultVar} {args : List AV} {s : St} (ha : args[0]? = some (.ptr 0 0 0)) (hs : s.T 0 = some (.ptr 0 0 0)) (h0 : s.H 0 = some (.row 10 [rowA S U 1 2])) (h1 : s.H 1 = some (.row 2 (liftE (l.map encPr)))) (h2 : s.H 2 = some (.map (mQ l))) (hr : resD Tryz.prog s rs.toList [.p (.agg (encSt b.1)),.p (.bool b.2)]) :
  EndD Tryz.prog rs args (memA S U l0 0 1 2) 3 [0] (.tuple [.p (.agg (encSt b.1)),.p (.bool b.2)]) (memA S U l 0 3 4) 2 [0] .ret s:=by
 refine ⟨fun k=>if k = 0 then 0 else k - 2,[.p (.agg (encSt b.1)),.p (.bool b.2)],hr,rfl,rfl,?_,?_,?_⟩
 ·simp only [memA,rowA] at h0 ⊢
  simp -implicitDefEqProofs only [go_sem,↓reduceIte,Nat.reduceAdd,reduceCtorEq,List.forall_mem_cons,List.not_mem_nil,false_implies,implies_true,Nat.reduceSub,h0,h1,h2]
  first | done | decide
 ·simp [memA]
 ·intro k hk'
  simp at hk'
  subst hk'
  exact ⟨by decide,.inl ⟨0,0,0,10,_,_,by simp,ha,hs,rfl,rfl,rfl,by decide⟩⟩
def adR (S U : Sc) (l : List Pr) (o n : Fd) (s : Stp) (m : List (Nat × AV)) : St:=⟨ofL ((0,.ptr 0 0 0) :: (8,.ptr 3 0 0) :: (10,.ptr 4 0 0) :: (12,.ptr 5 0 0) :: (14,.ptr 6 0 0) :: m),ofH (memA S U l 0 1 2 ++ [(3,.row 3 [[.p (.int .i64 0),.p (.int .i64 0),.p (.int .i64 0)]]),(4,.row 5 [[.p (.str o.name),.p (.int .i64 o.tag),.p (.int .i64 o.label),.p (.int .i64 o.ty.kind),.p (.str o.ty.name)]]),(5,.row 5 [[.p (.str n.name),.p (.int .i64 n.tag),.p (.int .i64 n.label),.p (.int .i64 n.ty.kind),.p (.str n.ty.name)]]),(6,.row 3 [[.p (.int .i64 s.op),.p (.int .i64 s.tag),.p (.int .i64 s.sub)]])]),7⟩
theorem mQ_by {p : Nat → Bool} (l : List Pr) : (Blk.map (mQ l)).labsBy p = true:=by
 simp [Blk.labsBy,mQ,AV.labsBy]
theorem adapt_tag (S U : Sc) (mo mn : Ms) (t : Int) (l : List Pr) (hl : l.length ≤ 1000000) (ho : mo.fields.length ≤ 1000000) (hn : mn.fields.length ≤ 1000000) :
  DFn Tryz.prog 24 [.ptr 0 0 0,.p (.agg (encMs mo)),.p (.agg (encMs mn)),.p (.int .i64 t)] (memA S U l 0 1 2) 3 [0] (.tuple [.p (.agg (encSt (stepA mo mn t l).1)),.p (.bool (stepA mo mn t l).2)]) (memA S U (stepLs mo mn t l) 0 3 4) 2:=by
 refine DFn.of [0] Tryz.func24 rfl (by decide) Tryz.ntmps24 Tryz.results24 (Nat.le_of_ble_eq_true rfl) (by simp) fun val=>?_
 have F1:=check_Field mo t ho
 have F2:=check_Field mn t hn
 have e1 : firstP (fun x=>x.tag == t) zFd mo.fields = fOf mo t:=rfl
 have e2 : firstP (fun x=>x.tag == t) zFd mn.fields = fOf mn t:=rfl
 rw [e1] at F1
 rw [e2] at F2
 simp only [encMs,encFd] at F1 F2
 simp only [avT,encMs]
 refine AW.rT (by rfl) fun K hK=>?_
 simp -implicitDefEqProofs only [go_sem,↓reduceIte,Nat.reduceAdd,Nat.reduceEqDiff,reduceCtorEq,memA,rowA]
 apply hK;clear hK K
 refine AW.rT (by rfl) fun K hK=>?_
 simp -implicitDefEqProofs only [go_sem,↓reduceIte,Nat.reduceAdd,Nat.reduceEqDiff,Nat.reduceLeDiff,reduceCtorEq]
 refine ⟨.pure _,F1,?_⟩
 try simp -implicitDefEqProofs only [go_sem,↓reduceIte,Nat.reduceAdd,Nat.reduceEqDiff,Nat.reduceLeDiff]
 apply hK;clear hK K
 refine AW.rT (by rfl) fun K hK=>?_
 simp -implicitDefEqProofs only [go_sem,↓reduceIte,Nat.reduceAdd,Nat.reduceEqDiff,Nat.reduceLeDiff,reduceCtorEq]
 refine ⟨.pure _,F2,?_⟩
 try simp -implicitDefEqProofs only [go_sem,↓reduceIte,Nat.reduceAdd,Nat.reduceEqDiff,Nat.reduceLeDiff]
 apply hK;clear hK K
 refine AW.rT (by rfl) fun K hK=>?_
 simp -implicitDefEqProofs only [go_sem,↓reduceIte,Nat.reduceAdd,Nat.reduceEqDiff,Nat.reduceLeDiff,reduceCtorEq]
 apply hK;clear hK K
 refine AW.seq ?_
 refine AW.dT mixed (by rfl) (by decide +kernel) fun K hK=>?_
 simp -implicitDefEqProofs only [go_sem,↓reduceIte,Nat.reduceAdd,Nat.reduceEqDiff]
 refine ⟨heapOK_nil rfl,?_⟩
 apply hK;clear hK K
 refine AW.ghost (s':=adR S U l (fOf mo t).1 (fOf mn t).1 ⟨1,t,0⟩ [(11,.p (.bool (fOf mo t).2)),(13,.p (.bool (fOf mn t).2)),(15,.p (.int .i64 (fOf mo t).1.ty.kind)),(16,.p (.int .i64 (fOf mn t).1.ty.kind))]) ?_ ?_
 ·simp only [adR,memA,rowA,List.cons_append,List.nil_append]
  refine Ghost.ent (fun l=>if l = 3 then 5 else if l = 4 then 13 else if l = 5 then 22 else if l = 6 then 27 else l) ?_ ?_ ?_ <;> simp -implicitDefEqProofs only [go_sem,↓reduceIte,Nat.reduceEqDiff,reduceCtorEq,List.forall_mem_cons,List.not_mem_nil,false_implies,implies_true,and_self,map_renL_lift,labsIn_lift,List.all_cons,List.all_nil,Nat.reduceLT,labsInL,AV.labsIn]
  all_goals first | rfl | decide | skip
 refine AW.block ?_
 have no : ¬ ((fOf mo t).2 = true ∧ (fOf mn t).2 = true ∧ (fOf mo t).1.label = (fOf mn t).1.label) → stepA mo mn t l = (⟨0,0,0⟩,false) ∧ stepLs mo mn t l = l:=fun h=>by
  have e : stepO mo mn t l = none:=by unfold stepO; rw [if_neg h]
  have i : intoB mo mn t = false:=by
   rw [Bool.eq_false_iff]
   intro q
   have:=intoB_spec q
   exact h ⟨this.1,this.2.1,this.2.2.1⟩
  unfold stepA stepLs
  rw [e,i]
  exact ⟨rfl,rfl⟩
 simp only [adR,memA,rowA,List.cons_append,List.nil_append]
 cases hf : (fOf mo t).2 with
 | false =>
  obtain ⟨n1,n2⟩:=no (by rw [hf]; simp)
  refine AW.rT (by rfl) fun K hK=>?_
  simp -implicitDefEqProofs only [go_sem,↓reduceIte,Nat.reduceAdd,Nat.reduceEqDiff,reduceCtorEq]
  apply hK;clear hK K
  refine AW.cT rfl ?_
  refine AW.rT (by rfl) fun K hK=>?_
  simp -implicitDefEqProofs only [go_sem,↓reduceIte,Nat.reduceAdd,Nat.reduceEqDiff,Nat.reduceLeDiff,reduceCtorEq]
  apply hK;clear hK K
  rw [n1,n2]
  refine AW.ret (stepEnd rfl ?_ ?_ ?_ ?_ ⟨?_,?_,trivial⟩) <;> simp -implicitDefEqProofs only [go_sem,↓reduceIte,Nat.reduceAdd,Nat.reduceEqDiff,Nat.reduceLeDiff,reduceCtorEq,rowA,encSt]
 | true =>
 cases hg : (fOf mn t).2 with
 | false =>
  obtain ⟨n1,n2⟩:=no (by rw [hg]; simp)
  refine AW.rT (by rfl) fun K hK=>?_
  simp -implicitDefEqProofs only [go_sem,↓reduceIte,Nat.reduceAdd,Nat.reduceEqDiff,reduceCtorEq]
  apply hK;clear hK K
  refine AW.cT rfl ?_
  refine AW.rT (by rfl) fun K hK=>?_
  simp -implicitDefEqProofs only [go_sem,↓reduceIte,Nat.reduceAdd,Nat.reduceEqDiff,Nat.reduceLeDiff,reduceCtorEq]
  apply hK;clear hK K
  rw [n1,n2]
  refine AW.ret (stepEnd rfl ?_ ?_ ?_ ?_ ⟨?_,?_,trivial⟩) <;> simp -implicitDefEqProofs only [go_sem,↓reduceIte,Nat.reduceAdd,Nat.reduceEqDiff,Nat.reduceLeDiff,reduceCtorEq,rowA,encSt]
 | true =>
 by_cases hlb : (fOf mo t).1.label = (fOf mn t).1.label
 case neg =>
  obtain ⟨n1,n2⟩:=no (fun h=>hlb h.2.2)
  have f1 : ((fOf mo t).1.label != (fOf mn t).1.label) = true:=by simp [hlb]
  refine AW.rT (by rfl) fun K hK=>?_
  simp -implicitDefEqProofs only [go_sem,↓reduceIte,Nat.reduceAdd,Nat.reduceEqDiff,reduceCtorEq,f1]
  apply hK;clear hK K
  refine AW.cT rfl ?_
  refine AW.rT (by rfl) fun K hK=>?_
  simp -implicitDefEqProofs only [go_sem,↓reduceIte,Nat.reduceAdd,Nat.reduceEqDiff,Nat.reduceLeDiff,reduceCtorEq]
  apply hK;clear hK K
  rw [n1,n2]
  refine AW.ret (stepEnd rfl ?_ ?_ ?_ ?_ ⟨?_,?_,trivial⟩) <;> simp -implicitDefEqProofs only [go_sem,↓reduceIte,Nat.reduceAdd,Nat.reduceEqDiff,Nat.reduceLeDiff,reduceCtorEq,rowA,encSt]
 have f1 : ((fOf mo t).1.label != (fOf mn t).1.label) = false:=by simp [hlb]
 have cc : (fOf mo t).2 = true ∧ (fOf mn t).2 = true ∧ (fOf mo t).1.label = (fOf mn t).1.label:=⟨hf,hg,hlb⟩
 refine AW.rT (by rfl) fun K hK=>?_
 simp -implicitDefEqProofs only [go_sem,↓reduceIte,Nat.reduceAdd,Nat.reduceEqDiff,reduceCtorEq,f1]
 apply hK;clear hK K
 refine AW.cF rfl ?_
 by_cases k7 : (fOf mo t).1.ty.kind = 7 ∧ (fOf mn t).1.ty.kind = 7
 ·have q1 : ((fOf mo t).1.ty.kind == 7) = true:=by simp [k7.1]
  have q2 : ((fOf mn t).1.ty.kind == 7) = true:=by simp [k7.2]
  have eO : stepO mo mn t l = some ⟨if (fOf mo t).1.label = 1 then 4 else 3,t,placeP l (pairO mo mn t)⟩:=by unfold stepO; rw [if_pos cc,if_pos k7]
  have eI : stepLs mo mn t l = addP l (pairO mo mn t):=by
   unfold stepLs intoB
   rw [if_pos (by simp [hf,hg,hlb,k7.1,k7.2])]
  have eA : stepA mo mn t l = (⟨if (fOf mo t).1.label = 1 then 4 else 3,t,placeP l (pairO mo mn t)⟩,true):=by unfold stepA; rw [eO]; rfl
  have AP:=adapt_part S U l (pairO mo mn t) hl
  rw [eA,eI]
  generalize addP l (pairO mo mn t) = l' at *
  generalize placeP l (pairO mo mn t) = pl at *
  simp only [pairO,encPr] at AP
  refine AW.rT (by rfl) fun K hK=>?_
  simp -implicitDefEqProofs only [go_sem,↓reduceIte,Nat.reduceAdd,Nat.reduceEqDiff,reduceCtorEq,q1,q2]
  apply hK;clear hK K
  refine AW.cT rfl ?_
  refine AW.rR (SeqR.ev 8 (by rfl) (by decide) ?_)
  simp -implicitDefEqProofs only [go_sem,↓reduceIte,Nat.reduceAdd,Nat.reduceEqDiff,Nat.reduceLeDiff,reduceCtorEq]
  refine SeqR.call (fun k=>k) rfl rfl AP ⟨?_,rfl,?_,rfl,rfl,rfl,rfl,rfl,?_⟩ ?_
  ·simp -implicitDefEqProofs only [go_sem,↓reduceIte,Nat.reduceEqDiff,argD]
  ·simp only [memA,rowA]
   simp -implicitDefEqProofs only [go_sem,↓reduceIte,reduceCtorEq,List.forall_mem_cons,List.not_mem_nil,false_implies,implies_true]
   first | done | decide
  ·simp only [memA,rowA,List.all_cons,List.all_nil,labsBy_lift,mQ_by]
   rfl
  refine SeqR.ghost (s':=adR S U l' (fOf mo t).1 (fOf mn t).1 ⟨1,t,0⟩ [(67,.p (.int .i64 (pl : Int)))]) ?_ ?_
  ·simp only [adR,memA,rowA,List.cons_append,List.nil_append]
   refine Ghost.ent (fun k=>if k = 1 then 36 else if k = 2 then 37 else k) ?_ ?_ ?_ <;> simp -implicitDefEqProofs only [go_sem,↓reduceIte,Nat.reduceAdd,Nat.reduceEqDiff,reduceCtorEq,lift2,goneU,newU,Nat.reduceSub,List.forall_mem_cons,List.not_mem_nil,false_implies,implies_true,and_self,map_renL_lift,labsIn_lift,List.all_cons,List.all_nil,Nat.reduceLT,labsInL,AV.labsIn]
   all_goals first | rfl | decide | skip
  simp only [adR,memA,rowA,List.cons_append,List.nil_append]
  refine SeqR.ev 4 (by rfl) (by decide) ?_
  simp -implicitDefEqProofs only [go_sem,↓reduceIte,Nat.reduceAdd,Nat.reduceEqDiff,Nat.reduceLeDiff,reduceCtorEq]
  refine SeqR.last rfl ?_
  by_cases lb1 : (fOf mo t).1.label = 1
  ·have b1 : ((fOf mo t).1.label == 1) = true:=by simp [lb1]
   rw [if_pos lb1]
   refine AW.rT (by rfl) fun K hK=>?_
   simp -implicitDefEqProofs only [go_sem,↓reduceIte,Nat.reduceAdd,Nat.reduceEqDiff,reduceCtorEq,b1]
   apply hK;clear hK K
   refine AW.cT rfl ?_
   refine AW.rE (by rfl) fun K hK=>?_
   simp -implicitDefEqProofs only [go_sem,↓reduceIte,Nat.reduceAdd,Nat.reduceEqDiff,Nat.reduceLeDiff,reduceCtorEq]
   apply hK;clear hK K
   simp only [andThen,inBlk]
   refine AW.rT (by rfl) fun K hK=>?_
   simp -implicitDefEqProofs only [go_sem,↓reduceIte,Nat.reduceAdd,Nat.reduceEqDiff,Nat.reduceLeDiff,reduceCtorEq]
   apply hK;clear hK K
   refine AW.ret (stepEnd (b:=(⟨4,t,pl⟩,true)) rfl ?_ ?_ ?_ ?_ ⟨?_,?_,trivial⟩) <;> simp -implicitDefEqProofs only [go_sem,↓reduceIte,Nat.reduceAdd,Nat.reduceEqDiff,Nat.reduceLeDiff,reduceCtorEq,rowA,encSt]
  ·have b1 : ((fOf mo t).1.label == 1) = false:=beq_eq_false_iff_ne.2 lb1
   rw [if_neg lb1]
   refine AW.rT (by rfl) fun K hK=>?_
   simp -implicitDefEqProofs only [go_sem,↓reduceIte,Nat.reduceAdd,Nat.reduceEqDiff,reduceCtorEq,b1]
   apply hK;clear hK K
   refine AW.cF rfl ?_
   refine AW.skip ?_
   simp only [andThen,inBlk]
   refine AW.rT (by rfl) fun K hK=>?_
   simp -implicitDefEqProofs only [go_sem,↓reduceIte,Nat.reduceAdd,Nat.reduceEqDiff,Nat.reduceLeDiff,reduceCtorEq]
   apply hK;clear hK K
   refine AW.ret (stepEnd (b:=(⟨3,t,pl⟩,true)) rfl ?_ ?_ ?_ ?_ ⟨?_,?_,trivial⟩) <;> simp -implicitDefEqProofs only [go_sem,↓reduceIte,Nat.reduceAdd,Nat.reduceEqDiff,Nat.reduceLeDiff,reduceCtorEq,rowA,encSt]
 have eI : stepLs mo mn t l = l:=by
  unfold stepLs
  rw [if_neg]
  intro h
  exact k7 ⟨(intoB_spec h).2.2.2.1,(intoB_spec h).2.2.2.2⟩
 rw [eI]
 refine AW.cut (fun _ : Unit=>adR S U l (fOf mo t).1 (fOf mn t).1 ⟨1,t,0⟩ [(15,.p (.int .i64 (fOf mo t).1.ty.kind)),(16,.p (.int .i64 (fOf mn t).1.ty.kind)),(52,.p (.bool false))]) (fun _=>True) ?_ fun _ _=>?_
 ·cases x1 : ((fOf mo t).1.ty.kind == 7) with
  | false =>
   refine AW.rE (by rfl) fun K hK=>?_
   simp -implicitDefEqProofs only [go_sem,↓reduceIte,Nat.reduceAdd,Nat.reduceEqDiff,reduceCtorEq,x1]
   apply hK;clear hK K
   refine ⟨(),trivial,?_⟩
   show Ghost _ _ (adR _ _ _ _ _ _ _)
   simp only [adR,memA,rowA,List.cons_append,List.nil_append]
   refine Ghost.sub ?_ ?_ <;> simp -implicitDefEqProofs only [go_sem,↓reduceIte,Nat.reduceEqDiff,reduceCtorEq,List.forall_mem_cons,List.not_mem_nil,false_implies,implies_true,and_self,labsIn_lift,List.all_cons,List.all_nil,Nat.reduceLT,labsInL,AV.labsIn]
   all_goals first | rfl | decide | skip
  | true =>
   have x2 : ((fOf mn t).1.ty.kind == 7) = false:=by
    rw [beq_eq_false_iff_ne]
    exact fun h=>k7 ⟨beq_iff_eq.1 x1,h⟩
   refine AW.rE (by rfl) fun K hK=>?_
   simp -implicitDefEqProofs only [go_sem,↓reduceIte,Nat.reduceAdd,Nat.reduceEqDiff,reduceCtorEq,x1,x2]
   apply hK;clear hK K
   refine ⟨(),trivial,?_⟩
   show Ghost _ _ (adR _ _ _ _ _ _ _)
   simp only [adR,memA,rowA,List.cons_append,List.nil_append]
   refine Ghost.sub ?_ ?_ <;> simp -implicitDefEqProofs only [go_sem,↓reduceIte,Nat.reduceEqDiff,reduceCtorEq,List.forall_mem_cons,List.not_mem_nil,false_implies,implies_true,and_self,labsIn_lift,List.all_cons,List.all_nil,Nat.reduceLT,labsInL,AV.labsIn]
   all_goals first | rfl | decide | skip
 simp only [adR,memA,rowA,List.cons_append,List.nil_append]
 refine AW.cF rfl ?_
 by_cases k2 : (fOf mo t).1.ty.kind = 2 ∧ (fOf mn t).1.ty.kind = 1
 ·have q1 : ((fOf mo t).1.ty.kind == 2) = true:=by simp [k2.1]
  have q2 : ((fOf mn t).1.ty.kind == 1) = true:=by simp [k2.2]
  have eA : stepA mo mn t l = (⟨2,t,0⟩,true):=by unfold stepA stepO; rw [if_pos cc,if_neg k7,if_pos k2]; rfl
  rw [eA]
  refine AW.rT (by rfl) fun K hK=>?_
  simp -implicitDefEqProofs only [go_sem,↓reduceIte,Nat.reduceAdd,Nat.reduceEqDiff,reduceCtorEq,q1,q2]
  apply hK;clear hK K
  refine AW.cT rfl ?_
  refine AW.rE (by rfl) fun K hK=>?_
  simp -implicitDefEqProofs only [go_sem,↓reduceIte,Nat.reduceAdd,Nat.reduceEqDiff,Nat.reduceLeDiff,reduceCtorEq]
  apply hK;clear hK K
  simp only [andThen,inBlk]
  refine AW.rT (by rfl) fun K hK=>?_
  simp -implicitDefEqProofs only [go_sem,↓reduceIte,Nat.reduceAdd,Nat.reduceEqDiff,Nat.reduceLeDiff,reduceCtorEq]
  apply hK;clear hK K
  refine AW.ret (stepEnd (b:=(⟨2,t,0⟩,true)) rfl ?_ ?_ ?_ ?_ ⟨?_,?_,trivial⟩) <;> simp -implicitDefEqProofs only [go_sem,↓reduceIte,Nat.reduceAdd,Nat.reduceEqDiff,Nat.reduceLeDiff,reduceCtorEq,rowA,encSt]
 refine AW.cut (fun _ : Unit=>adR S U l (fOf mo t).1 (fOf mn t).1 ⟨1,t,0⟩ [(15,.p (.int .i64 (fOf mo t).1.ty.kind)),(16,.p (.int .i64 (fOf mn t).1.ty.kind)),(74,.p (.bool false))]) (fun _=>True) ?_ fun _ _=>?_
 ·cases x1 : ((fOf mo t).1.ty.kind == 2) with
  | false =>
   refine AW.rE (by rfl) fun K hK=>?_
   simp -implicitDefEqProofs only [go_sem,↓reduceIte,Nat.reduceAdd,Nat.reduceEqDiff,reduceCtorEq,x1]
   apply hK;clear hK K
   refine ⟨(),trivial,?_⟩
   show Ghost _ _ (adR _ _ _ _ _ _ _)
   simp only [adR,memA,rowA,List.cons_append,List.nil_append]
   refine Ghost.sub ?_ ?_ <;> simp -implicitDefEqProofs only [go_sem,↓reduceIte,Nat.reduceEqDiff,reduceCtorEq,List.forall_mem_cons,List.not_mem_nil,false_implies,implies_true,and_self,labsIn_lift,List.all_cons,List.all_nil,Nat.reduceLT,labsInL,AV.labsIn]
   all_goals first | rfl | decide | skip
  | true =>
   have x2 : ((fOf mn t).1.ty.kind == 1) = false:=by
    rw [beq_eq_false_iff_ne]
    exact fun h=>k2 ⟨beq_iff_eq.1 x1,h⟩
   refine AW.rE (by rfl) fun K hK=>?_
   simp -implicitDefEqProofs only [go_sem,↓reduceIte,Nat.reduceAdd,Nat.reduceEqDiff,reduceCtorEq,x1,x2]
   apply hK;clear hK K
   refine ⟨(),trivial,?_⟩
   show Ghost _ _ (adR _ _ _ _ _ _ _)
   simp only [adR,memA,rowA,List.cons_append,List.nil_append]
   refine Ghost.sub ?_ ?_ <;> simp -implicitDefEqProofs only [go_sem,↓reduceIte,Nat.reduceEqDiff,reduceCtorEq,List.forall_mem_cons,List.not_mem_nil,false_implies,implies_true,and_self,labsIn_lift,List.all_cons,List.all_nil,Nat.reduceLT,labsInL,AV.labsIn]
   all_goals first | rfl | decide | skip
 simp only [adR,memA,rowA,List.cons_append,List.nil_append]
 refine AW.cF rfl ?_
 by_cases k1 : (fOf mo t).1.ty.kind = (fOf mn t).1.ty.kind ∨ (fOf mo t).1.ty.kind = 1 ∧ (fOf mn t).1.ty.kind = 2
 ·have eA : stepA mo mn t l = (⟨1,t,0⟩,true):=by unfold stepA stepO; rw [if_pos cc,if_neg k7,if_neg k2,if_pos k1]; rfl
  rw [eA]
  refine AW.cut (fun _ : Unit=>adR S U l (fOf mo t).1 (fOf mn t).1 ⟨1,t,0⟩ [(15,.p (.int .i64 (fOf mo t).1.ty.kind)),(16,.p (.int .i64 (fOf mn t).1.ty.kind)),(82,.p (.bool false))]) (fun _=>True) ?_ fun _ _=>?_
  ·by_cases x0 : (fOf mo t).1.ty.kind = (fOf mn t).1.ty.kind
   ·have x1 : ((fOf mo t).1.ty.kind != (fOf mn t).1.ty.kind) = false:=by simp [x0]
    refine AW.rE (by rfl) fun K hK=>?_
    simp -implicitDefEqProofs only [go_sem,↓reduceIte,Nat.reduceAdd,Nat.reduceEqDiff,reduceCtorEq,x1]
    apply hK;clear hK K
    refine ⟨(),trivial,?_⟩
    show Ghost _ _ (adR _ _ _ _ _ _ _)
    simp only [adR,memA,rowA,List.cons_append,List.nil_append]
    refine Ghost.sub ?_ ?_ <;> simp -implicitDefEqProofs only [go_sem,↓reduceIte,Nat.reduceEqDiff,reduceCtorEq,List.forall_mem_cons,List.not_mem_nil,false_implies,implies_true,and_self,labsIn_lift,List.all_cons,List.all_nil,Nat.reduceLT,labsInL,AV.labsIn]
    all_goals first | rfl | decide | skip
   ·have x1 : ((fOf mo t).1.ty.kind != (fOf mn t).1.ty.kind) = true:=by simp [x0]
    have x4 : (fOf mo t).1.ty.kind = 1 ∧ (fOf mn t).1.ty.kind = 2:=by rcases k1 with h | h; exact absurd h x0; exact h
    have x2 : ((fOf mo t).1.ty.kind != 1) = false:=by simp [x4.1]
    have x3 : ((fOf mn t).1.ty.kind != 2) = false:=by simp [x4.2]
    refine AW.rE (by rfl) fun K hK=>?_
    simp -implicitDefEqProofs only [go_sem,↓reduceIte,Nat.reduceAdd,Nat.reduceEqDiff,reduceCtorEq,x1,x2,x3]
    apply hK;clear hK K
    refine ⟨(),trivial,?_⟩
    show Ghost _ _ (adR _ _ _ _ _ _ _)
    simp only [adR,memA,rowA,List.cons_append,List.nil_append]
    refine Ghost.sub ?_ ?_ <;> simp -implicitDefEqProofs only [go_sem,↓reduceIte,Nat.reduceEqDiff,reduceCtorEq,List.forall_mem_cons,List.not_mem_nil,false_implies,implies_true,and_self,labsIn_lift,List.all_cons,List.all_nil,Nat.reduceLT,labsInL,AV.labsIn]
    all_goals first | rfl | decide | skip
  simp only [adR,memA,rowA,List.cons_append,List.nil_append]
  refine AW.cF rfl ?_
  refine AW.skip ?_
  simp only [andThen,inBlk]
  refine AW.rT (by rfl) fun K hK=>?_
  simp -implicitDefEqProofs only [go_sem,↓reduceIte,Nat.reduceAdd,Nat.reduceEqDiff,Nat.reduceLeDiff,reduceCtorEq]
  apply hK;clear hK K
  refine AW.ret (stepEnd (b:=(⟨1,t,0⟩,true)) rfl ?_ ?_ ?_ ?_ ⟨?_,?_,trivial⟩) <;> simp -implicitDefEqProofs only [go_sem,↓reduceIte,Nat.reduceAdd,Nat.reduceEqDiff,Nat.reduceLeDiff,reduceCtorEq,rowA,encSt]
 have eA : stepA mo mn t l = (⟨0,0,0⟩,false):=by unfold stepA stepO; rw [if_pos cc,if_neg k7,if_neg k2,if_neg k1]; rfl
 rw [eA]
 refine AW.cut (fun _ : Unit=>adR S U l (fOf mo t).1 (fOf mn t).1 ⟨1,t,0⟩ [(15,.p (.int .i64 (fOf mo t).1.ty.kind)),(16,.p (.int .i64 (fOf mn t).1.ty.kind)),(82,.p (.bool true))]) (fun _=>True) ?_ fun _ _=>?_
 ·have x1 : ((fOf mo t).1.ty.kind != (fOf mn t).1.ty.kind) = true:=by simp; exact fun h=>k1 (.inl h)
  cases x2 : ((fOf mo t).1.ty.kind != 1) with
  | true =>
   refine AW.rE (by rfl) fun K hK=>?_
   simp -implicitDefEqProofs only [go_sem,↓reduceIte,Nat.reduceAdd,Nat.reduceEqDiff,reduceCtorEq,x1,x2]
   apply hK;clear hK K
   refine ⟨(),trivial,?_⟩
   show Ghost _ _ (adR _ _ _ _ _ _ _)
   simp only [adR,memA,rowA,List.cons_append,List.nil_append]
   refine Ghost.sub ?_ ?_ <;> simp -implicitDefEqProofs only [go_sem,↓reduceIte,Nat.reduceEqDiff,reduceCtorEq,List.forall_mem_cons,List.not_mem_nil,false_implies,implies_true,and_self,labsIn_lift,List.all_cons,List.all_nil,Nat.reduceLT,labsInL,AV.labsIn]
   all_goals first | rfl | decide | skip
  | false =>
   have x3 : ((fOf mn t).1.ty.kind != 2) = true:=by
    rw [bne_iff_ne]
    exact fun h=>k1 (.inr ⟨by simpa using x2,h⟩)
   refine AW.rE (by rfl) fun K hK=>?_
   simp -implicitDefEqProofs only [go_sem,↓reduceIte,Nat.reduceAdd,Nat.reduceEqDiff,reduceCtorEq,x1,x2,x3]
   apply hK;clear hK K
   refine ⟨(),trivial,?_⟩
   show Ghost _ _ (adR _ _ _ _ _ _ _)
   simp only [adR,memA,rowA,List.cons_append,List.nil_append]
   refine Ghost.sub ?_ ?_ <;> simp -implicitDefEqProofs only [go_sem,↓reduceIte,Nat.reduceEqDiff,reduceCtorEq,List.forall_mem_cons,List.not_mem_nil,false_implies,implies_true,and_self,labsIn_lift,List.all_cons,List.all_nil,Nat.reduceLT,labsInL,AV.labsIn]
   all_goals first | rfl | decide | skip
 simp only [adR,memA,rowA,List.cons_append,List.nil_append]
 refine AW.cT rfl ?_
 refine AW.rT (by rfl) fun K hK=>?_
 simp -implicitDefEqProofs only [go_sem,↓reduceIte,Nat.reduceAdd,Nat.reduceEqDiff,Nat.reduceLeDiff,reduceCtorEq]
 apply hK;clear hK K
 refine AW.ret (stepEnd (b:=(⟨0,0,0⟩,false)) rfl ?_ ?_ ?_ ?_ ⟨?_,?_,trivial⟩) <;> simp -implicitDefEqProofs only [go_sem,↓reduceIte,Nat.reduceAdd,Nat.reduceEqDiff,Nat.reduceLeDiff,reduceCtorEq,rowA,encSt]
end Go.Aw
namespace Go.Aw
open Go.Proofs Go.RowKit
end Go.Aw
namespace Go.Aw
open Go.Proofs Go.RowKit
end Go.Aw
