/- Operations that are guarded, one by one; calls that look at deep memory. -/
import Derived.Test.YtmeplhcfjihafaaAwDD
namespace Go.Aw
open Go.RowKit
variable {P : Program}
theorem SeqR.opG {nt : Fm} {ops : Array Oper} {i : Nat} {s : St} {K : St → Prop} {o : Oper} (ho : ops[i]? = some o) (hgd : guardIs ops.toList o s.T = some true) (h : CallD P nt o s fun s' => SeqR P nt ops (i + 1) s' K) : SeqR P nt ops i s K := by
  intro w0 X I0 a w Q tx m hQ
  have hi : i < ops.size := (Array.getElem?_eq_some_iff.1 ho).1
  rw [show ops.size - i = (ops.size - (i + 1)) + 1 by omega, List.range'_succ]
  simp only [wpOps, ho]
  have : Region.wanted o (yielded ops a.tmps) = true := by
    obtain ⟨σ, I, hn, mm⟩ := m
    unfold guardIs at hgd
    cases hg : o.guard with
    | none => simp [Region.wanted, hg]
    | some jw =>
      obtain ⟨j, want⟩ := jw
      rw [hg] at hgd
      simp only at hgd
      split at hgd
      · rename_i b' hb'
        injection hgd with hb
        obtain ⟨d, hd1, hd2⟩ := Option.bind_eq_some_iff.1 hb'
        rw [Array.getElem?_toList] at hd1
        obtain ⟨u, hu, hru⟩ := mm.tmps d _ hd2
        have hy : yielded ops a.tmps j = some b' := by
          cases hru with
          | p h => cases h; simp [yielded, hd1, hu]
        simp only [Region.wanted, hg, hy]
        cases b' <;> cases want <;> simp_all
      · cases hgd
  rw [if_pos this]
  exact .inl (h w0 X I0 a w _ Q tx m fun s' a' w' m' k => k w0 X I0 a' w' Q tx m' hQ)
/-- A call that only looks: at what the state is told as in s0; its result holds no address. -/
theorem SeqR.look {nt : Fm} {s s0 : St} {ops : Array Oper} {i : Nat} {K : St → Prop} {d : Tmp} {f : FuncId} {xs : Array Operand} {ts : Array TypeId} {ty : TypeId} {ps : String} {af : Array Edge} {gd : Option (Nat × Bool)} {l : List PV} {r : PV} (g : Ghost nt s s0)
    (ho : ops[i]? = some ⟨some d, .call { callee := .value (.func f), args := xs, argTypes := ts }, ty, ps, af, gd⟩) (hgd : guardIs ops.toList ⟨some d, .call { callee := .value (.func f), args := xs, argTypes := ts }, ty, ps, af, gd⟩ s.T = some true)
    (hd : dstOK nt ⟨some d, .call { callee := .value (.func f), args := xs, argTypes := ts }, ty, ps, af, gd⟩ = true) (hx : xs.toList.map (Go.Aw.ev s0.T) = l.map fun p => some (.p p)) (D : PFn P f l r) (hf : flatP r = true)
    (hk : SeqR P nt ops (i + 1) ⟨upd s.T d (some (.p r)), s.H, s.nx + 1⟩ K) : SeqR P nt ops i s K := by
  refine SeqR.opG ho hgd ?_
  intro w0 X I0 a w next Q tx M hnext
  obtain ⟨σ0, J, hn0, mm0⟩ := g w0 X I0 a w M
  obtain ⟨σ, I, hn, mm⟩ := M
  obtain ⟨hen, hp⟩ := D
  have IN : In σ0 w J s0.T s0.H w0 X I0 a s0.nx := ⟨mm0.heap, mm0.tmps, hn0 _ (Nat.le_refl _), tx⟩
  have hrun : (execOp a.eval ⟨some d, .call { callee := .value (.func f), args := xs, argTypes := ts }, ty, ps, af, gd⟩).run P w = .ok (.enter f (xs.map a.eval)) w := by
    simp only [execOp, resolve, Act.eval, Deferred.ofValue, Sem.run_bind, Sem.run_pure, Result.andThen_ok, invoke, Array.append_empty, Array.empty_append]
    exact run_enter hen _ _
  have hxl : xs.size = l.length := by have := congrArg List.length hx; simpa using this
  have hargs := hp w J (xs.map a.eval) (by simp [hxl]) (fun j u p h1 h2 => by
    rw [Array.getElem?_map, Option.map_eq_some_iff] at h1
    obtain ⟨x, hx1, rfl⟩ := h1
    have e1 : (xs.toList.map (Go.Aw.ev s0.T))[j]? = some (Go.Aw.ev s0.T x) := by rw [List.getElem?_map, Array.getElem?_toList, hx1]; rfl
    rw [hx, List.getElem?_map, h2] at e1
    injection e1 with e1
    have hev := IN.ev e1.symm
    generalize a.eval x = v at hev
    cases hev with
    | p h => exact h) (fun g hg => (mm0.heap.imm g hg).1) IN.tabs
  unfold Oper.wp
  rw [hrun, Oper.upon_enter]
  refine hargs.mono fun e w' he => ?_
  obtain ⟨v, rfl, hfr, hrep⟩ := he
  obtain ⟨c1, c2⟩ := mm.heap.called hfr
  refine hnext ⟨upd s.T d (some (.p r)), s.H, s.nx + 1⟩ _ w' ⟨σ, _, fun l' hl' => hn l' (by simp only at hl'; omega), mm.put hd c1 (fun _ _ h => h) (fun _ h => .inl h) (fun b hb => c2 b hb) fun x hx => ?_⟩ hk
  injection hx with hx
  subst hx
  exact .p (rep_flat hf hrep)
theorem AW.drawDeepN {nt : Fm} {ops : Array Oper} {ex : Nat} (n : Nat) {id : Nat} {y : Code} {s : St} {Q : Exit → St → Prop} {d : Tmp} {f : FuncId} {xs : Array Operand} {ts : Array TypeId} {ty : TypeId} {ps : String} {af : Array Edge} (l : List PV) {rr : AV} {h' : List (Nat × Blk)}
    (hops : ops[n]? = some ⟨some d, .call { callee := .value (.func f), args := xs, argTypes := ts }, ty, ps, af, none⟩)
    (hm : P.follows .mixedOrders = true) (hd : ops.toList.all (dstOK nt) = true) (hs : staticOK ops.toList = true)
    (DF : DFn P f (l.map AV.p) [] 0 [] rr h' ex) (hdis : distinct (h'.map (·.1)) = true) (hres : rr.labsBy (fun l => ([] : List Nat).contains l || decide (0 ≤ l)) = true) (hmem : h'.all (fun x => (([] : List Nat).contains x.1 || decide (0 ≤ x.1)) && x.2.labsBy (fun l => ([] : List Nat).contains l || decide (0 ≤ l))) = true)
    (h : ∀ K : St → Prop, (∀ s', AW P nt y s' Q → K s') → drawO P ops.toList s.nx (ops.toList.take n) s.T s.H [] fun T1 H1 n1 fs1 => xs.toList.map (Go.Aw.ev T1) = l.map (fun p => some (.p p)) ∧
      drawO P ops.toList (n1 + 1) (ops.toList.drop (n + 1)) (upd T1 d (some (rr.ren (lift2 (fun k => k) 0 (s.nx + ops.size))))) (putH H1 (newU (lift2 (fun k => k) 0 (s.nx + ops.size)) h')) (([], (newU (lift2 (fun k => k) 0 (s.nx + ops.size)) h').map (·.1)) :: fs1) fun T H n fs => heapA ops.toList fs.reverse = true ∧ K ⟨T, H, n + ex⟩) :
    AW P nt (.seq (.region id ops true) y) s Q := by
  obtain ⟨h1, h2⟩ := Array.getElem?_eq_some_iff.1 hops
  have e : ops.toList = ops.toList.take n ++ ⟨some d, .call { callee := .value (.func f), args := xs, argTypes := ts }, ty, ps, af, none⟩ :: ops.toList.drop (n + 1) := by
    have : n < ops.toList.length := by simpa using h1
    conv => lhs; rw [← List.take_append_drop n ops.toList, List.drop_eq_getElem_cons this]
    rw [Array.getElem_toList, h2]
  exact AW.drawDeep e rfl hm hd hs DF hdis hres hmem h
end Go.Aw
