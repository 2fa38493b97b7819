/- Function values that keep something; elements of arrays in memory; calls that look at deep memory. -/
import Derived.Test.YtmeplhcfjihafaaAwD3
namespace Go.Aw
open Go.RowKit
variable {P : Program}
theorem callD_snd {nt : Fm} {s : St} {K : St → Prop} {o : Oper} {k : Eff → Prop} (hd : dstOK nt o = true) (h : ∀ σ I w0 X I0 a w, In σ w I s.T s.H w0 X I0 a s.nx → Snd P o a w σ I s.H w0 X I0 s.nx k)
    (hk : ∀ e, k e → K ⟨putT s.T o.dst e.val, putH s.H e.upd, s.nx + 1⟩) : CallD P nt o s K := by
  intro w0 X I0 a w next Q tx ⟨σ, I, hn, mm⟩ hnext
  have IN : In σ w I s.T s.H w0 X I0 a s.nx := ⟨mm.heap, mm.tmps, hn _ (Nat.le_refl _), tx⟩
  refine h σ I w0 X I0 a w IN next Q fun e v w' σ' I' he out => ?_
  refine hnext _ _ w' ⟨σ', I', fun l hl => ?_, mm.put hd out.heap out.ext out.imm out.same out.val⟩ (hk e he)
  simp only at hl
  rw [out.lab l (by omega)]
  exact hn l (by omega)
/-- A function value that keeps what cs stands for. -/
theorem SeqR.mkFn {nt : Fm} {s : St} {ops : Array Oper} {i : Nat} {K : St → Prop} {d : Tmp} {f : FuncId} {xs : Array Operand} {ty : TypeId} {ps : String} {af : Array Edge} (cs : List AV)
    (ho : ops[i]? = some ⟨some d, .makeFunc (.func f) #[] xs, ty, ps, af, none⟩) (hd : dstOK nt ⟨some d, .makeFunc (.func f) #[] xs, ty, ps, af, none⟩ = true) (hx : xs.toList.map (Go.Aw.ev s.T) = cs.map some)
    (hk : SeqR P nt ops (i + 1) ⟨upd s.T d (some (.fn f cs)), s.H, s.nx + 1⟩ K) : SeqR P nt ops i s K := by
  refine SeqR.op ho rfl (callD_snd (k := fun e => e = ⟨some (.fn f cs), []⟩) hd (fun σ I w0 X I0 a w h => Snd.val h (v := .func (.func f) #[] (xs.map a.eval)) ?_ (.fn f ?_ fun j u p h1 h2 => ?_) rfl) fun e he => by subst he; exact hk)
  · simp [execOp, Instr.makeFunc]
  · have := congrArg List.length hx
    simpa using this
  · rw [Array.getElem?_map, Option.map_eq_some_iff] at h1
    obtain ⟨x, hx1, rfl⟩ := h1
    have e1 : (xs.toList.map (Go.Aw.ev s.T))[j]? = some (Go.Aw.ev s.T x) := by rw [List.getElem?_map, Array.getElem?_toList, hx1]; rfl
    rw [hx, List.getElem?_map, h2] at e1
    injection e1 with e1
    exact h.ev e1.symm
/-- A function value that keeps something is called: what it keeps comes behind the arguments. -/
theorem SeqR.callC {nt : Fm} {s : St} {ops : Array Oper} {i : Nat} {K : St → Prop} {d : Tmp} {c : Operand} {f : FuncId} {xs : Array Operand} {ts : Array TypeId} {ty : TypeId} {ps : String} {af : Array Edge} {l cs : List PV} {r : PV}
    (ho : ops[i]? = some ⟨some d, .call { callee := .value c, args := xs, argTypes := ts }, ty, ps, af, none⟩) (hd : dstOK nt ⟨some d, .call { callee := .value c, args := xs, argTypes := ts }, ty, ps, af, none⟩ = true)
    (hc : Go.Aw.ev s.T c = some (.fn f (cs.map AV.p))) (hx : xs.toList.map (Go.Aw.ev s.T) = l.map fun p => some (.p p)) (D : PFn P f (l ++ cs) r)
    (hk : SeqR P nt ops (i + 1) ⟨upd s.T d (some (.p r)), s.H, s.nx + 1⟩ K) : SeqR P nt ops i s K := by
  refine SeqR.op ho rfl (callD_snd (k := fun e => e = ⟨some (.p r), []⟩) hd (fun σ I w0 X I0 a w h => ?_) fun e he => by subst he; exact hk)
  intro next Q hn
  have hcv := h.ev hc
  generalize hce : a.eval c = cv at hcv
  cases hcv with
  | fn _ hs hr =>
  rename_i vs
  obtain ⟨hen, hp⟩ := D
  have hxl : xs.size = l.length := by have := congrArg List.length hx; simpa using this
  have hvl : vs.size = cs.length := by rw [hs, List.length_map]
  have hrun : (execOp a.eval ⟨some d, .call { callee := .value c, args := xs, argTypes := ts }, ty, ps, af, none⟩).run P w = .ok (.enter f (xs.map a.eval ++ vs)) w := by
    simp only [execOp, resolve, hce, Deferred.ofValue, Sem.run_bind, Sem.run_pure, Result.andThen_ok, invoke, Array.empty_append, run_enter hen]
  have hargs := hp w I (xs.map a.eval ++ vs) (by simp [hxl, hvl]) (fun j u p h1 h2 => by
    rw [Array.getElem?_append] at h1
    rw [List.getElem?_append] at h2
    rw [Array.size_map, hxl] at h1
    by_cases hj : j < l.length
    · rw [if_pos hj] at h1 h2
      rw [Array.getElem?_map, Option.map_eq_some_iff] at h1
      obtain ⟨x, hx1, rfl⟩ := h1
      have e1 : (xs.toList.map (Go.Aw.ev s.T))[j]? = some (Go.Aw.ev s.T x) := by rw [List.getElem?_map, Array.getElem?_toList, hx1]; rfl
      rw [hx, List.getElem?_map, h2] at e1
      injection e1 with e1
      have hev := h.ev e1.symm
      generalize a.eval x = v at hev
      cases hev with
      | p h => exact h
    · rw [if_neg hj] at h1 h2
      have := hr (j - l.length) u (.p p) h1 (by rw [List.getElem?_map, h2]; rfl)
      cases this with
      | p h => exact h) (fun g hg => (h.heap.imm g hg).1) h.tabs
  unfold Oper.wp
  rw [hrun, Oper.upon_enter]
  refine hargs.mono fun e w' he => ?_
  obtain ⟨v, rfl, hfr, hrep⟩ := he
  obtain ⟨c1, c2⟩ := h.heap.called hfr
  exact hn _ v w' σ _ rfl ⟨c1, fun _ _ h => h, fun _ _ => rfl, fun _ h => .inl h, fun b hb => c2 b hb, fun x hx => by injection hx with hx; subst hx; exact .p hrep⟩
/-- An element's place in an array that a pointer points at. -/
theorem SeqR.elem {nt : Fm} {s : St} {ops : Array Oper} {i : Nat} {K : St → Prop} {d : Tmp} {t te : TypeId} {m : Nat} {x j : Operand} {ty : TypeId} {ps : String} {af : Array Edge} {l off n sz : Nat} {k : IntKind}
    (ho : ops[i]? = some ⟨some d, .indexAddr t x j, ty, ps, af, none⟩) (hd : dstOK nt ⟨some d, .indexAddr t x j, ty, ps, af, none⟩ = true) (hu : P.underlying t = some (.array m te)) (hz : tsize P te = some sz)
    (hx : Go.Aw.ev s.T x = some (.ptr l 0 off)) (hj : Go.Aw.ev s.T j = some (.p (.int k (n : Int)))) (hn : n < m)
    (hk : SeqR P nt ops (i + 1) ⟨upd s.T d (some (.ptr l 0 (off + n * sz))), s.H, s.nx + 1⟩ K) : SeqR P nt ops i s K := by
  refine SeqR.op ho rfl (callD_snd (k := fun e => e = ⟨some (.ptr l 0 (off + n * sz)), []⟩) hd (fun σ I w0 X I0 a w h => ?_) fun e he => by subst he; exact hk)
  have hxv := h.ev hx
  have hjv := h.ev hj
  generalize hxe : a.eval x = xv at hxv
  generalize hje : a.eval j = jv at hjv
  cases hjv with
  | p hjv =>
  cases hjv with
  | int =>
  cases hxv with
  | ptr hs =>
  rename_i g n' c sz'
  refine Snd.val h (v := .pointer (some ⟨g, 0 * sz' + (off + n * sz), none⟩)) ?_ (.ptr hs) rfl
  simp only [execOp, Instr.indexAt, hxe, hje, asIntOf, Instr.sureAddr, Sem.run_bind, Sem.run_pure, Result.andThen_ok, run_underlying' hu]
  rw [if_pos ⟨by omega, by omega⟩]
  simp only [Sem.run_bind, run_sizeOf' hz, Result.andThen_ok, Sem.run_pure, add_none, Int.toNat_natCast]
  rw [Nat.add_assoc]
end Go.Aw
