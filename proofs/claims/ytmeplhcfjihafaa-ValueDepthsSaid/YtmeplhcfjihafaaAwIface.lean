/- Values behind an interface: put there, asked for again; pointers looked at. -/
import Derived.Test.YtmeplhcfjihafaaAwCopy
import Derived.Laws.Build
namespace Go.Aw
open Go.RowKit

def conc (P : Program) (t : TypeId) : Bool := P.concrete t
def tz1 (P : Program) (t : TypeId) : Option Value := (P.info? t).bind (·.zero)

section
variable {P : Program} {o : Oper} {a : Act} {w : World} {σ : Lab} {I : Nat → Prop} {T : Nat → Option AV} {H : Nat → Option Blk} {w0 : World} {X I0 : Nat → Prop} {lab : Nat} {k : Eff → Prop}

def makeIfaceW (P : Program) (t : TypeId) (x : Option AV) (k : Eff → Prop) : Prop :=
  match x with
  | some (.p p) => conc P t = true ∧ k ⟨some (.p (.iface t p)), []⟩
  | some v => conc P t = true ∧ k ⟨some (.iface t v), []⟩
  | none => False
theorem snd_makeIface (h : In σ w I T H w0 X I0 a lab) {t : TypeId} {x : Operand} (ho : o.op = .makeInterface t x) (hk : makeIfaceW P t (ev T x) k) : Snd P o a w σ I H w0 X I0 lab k := by
  have run : P.concrete t = true → (execOp a.eval o).run P w = .ok (.value (.iface t (a.eval x))) w := fun hc => by
    simp only [execOp, ho, Sem.run_bind, run_makeInterface w t (a.eval x) hc, Result.andThen_ok, Sem.run_pure]
  unfold makeIfaceW at hk
  split at hk
  · rename_i p hp
    obtain ⟨hc, hk⟩ := hk
    have hx := h.ev hp
    generalize hxv : a.eval x = xv at hx
    cases hx with
    | p hx => exact Snd.val h (run hc) (.p (by rw [hxv]; exact .iface t hx)) hk
  · rename_i v hv hp
    obtain ⟨hc, hk⟩ := hk
    exact Snd.val h (run hc) (.iface t (h.ev hp)) hk
  · exact hk.elim

def nilCheckW (x : Option AV) (k : Eff → Prop) : Prop :=
  match x with
  | some (.p (.box cs off)) => k ⟨some (.p (.box cs off)), []⟩
  | some (.ptr l i off) => k ⟨some (.ptr l i off), []⟩
  | _ => False
theorem snd_nilCheck (h : In σ w I T H w0 X I0 a lab) {x : Operand} (ho : o.op = .nilCheck x) (hk : nilCheckW (ev T x) k) : Snd P o a w σ I H w0 X I0 lab k := by
  have run : ∀ ad, a.eval x = .pointer (some ad) → (execOp a.eval o).run P w = .ok (.value (.pointer (some ad))) w := fun ad he => by
    simp only [execOp, ho, he, Sem.run_pure]
  unfold nilCheckW at hk
  split at hk
  · rename_i cs off hp
    have hx := h.ev hp
    generalize hxv : a.eval x = xv at hx
    have hx' := hx
    cases hx with
    | p hx =>
    cases hx with
    | box => exact Snd.val h (run _ hxv) hx' hk
  · rename_i l i off hp
    have hx := h.ev hp
    generalize hxv : a.eval x = xv at hx
    have hx' := hx
    cases hx with
    | ptr => exact Snd.val h (run _ hxv) hx' hk
  · exact hk.elim

def failsW (P : Program) (as : TypeId) (ok : Bool) (k : Eff → Prop) : Prop :=
  match tz1 P as with
  | some z => ok = true ∧ k ⟨some (.tuple [constAV z, .p (.bool false)]), []⟩
  | none => False
def assertW (P : Program) (as : TypeId) (ok : Bool) (x : Option AV) (k : Eff → Prop) : Prop :=
  match x with
  | some (.p (.iface t p)) => conc P as = true ∧ if t = as then k ⟨some (if ok then .p (.tuple [p, .bool true]) else .p p), []⟩ else failsW P as ok k
  | some (.p (.cst .nilIface)) => conc P as = true ∧ failsW P as ok k
  | _ => False
theorem conc_und {t : TypeId} (h : conc P t = true) : ∃ u, P.underlying t = some u ∧ ∀ m, u ≠ .interface m := by
  unfold conc Program.concrete at h
  cases hu : P.underlying t with
  | none => rw [hu] at h; simp at h
  | some u =>
    refine ⟨u, rfl, fun m hm => ?_⟩
    subst hm
    rw [hu] at h
    simp at h
theorem run_zero1 {t : TypeId} {z : Value} (h : tz1 P t = some z) (w : World) : (zeroValue t).run P w = .ok z w := by
  unfold tz1 at h
  obtain ⟨i, hi, hz⟩ := Option.bind_eq_some_iff.1 h
  simp [zeroValue, typeInfo, hi, hz]
theorem snd_assert (h : In σ w I T H w0 X I0 a lab) {x : Operand} {xT as : TypeId} {ok : Bool} (ho : o.op = .typeAssert x xT as ok) (hk : assertW P as ok (ev T x) k) : Snd P o a w σ I H w0 X I0 lab k := by
  have fails : ∀ v, a.eval x = v → conc P as = true → (v = .nilIface ∨ ∃ t u, v = .iface t u ∧ t ≠ as) → failsW P as ok k → Snd P o a w σ I H w0 X I0 lab k := by
    clear hk
    intro v hv hc hs hk
    obtain ⟨u, hu, hne⟩ := conc_und hc
    unfold failsW at hk
    split at hk
    · rename_i z hz
      obtain ⟨rfl, hk⟩ := hk
      refine Snd.val h (v := .tuple #[z, .bool false]) ?_ (.tuple rfl fun j u' p h1 h2 => ?_) hk
      · have hz' := run_zero1 hz w
        rcases hs with rfl | ⟨t, u', rfl, hne'⟩
        · cases u <;> first
            | exact absurd rfl (hne _)
            | simp [execOp, ho, hv, Instr.typeAssert, run_underlying' hu, hz']
        · cases u <;> first
            | exact absurd rfl (hne _)
            | simp [execOp, ho, hv, Instr.typeAssert, run_underlying' hu, hz', hne']
      · match j, h1, h2 with
        | 0, h1, h2 =>
          simp at h1 h2; subst h1; subst h2
          exact repA_const σ w I z
        | 1, h1, h2 =>
          simp at h1 h2; subst h1; subst h2
          exact .p (.bool false)
        | n + 2, h1, _ => simp at h1
    · exact hk.elim
  unfold assertW at hk
  split at hk
  · rename_i t p hp
    obtain ⟨hc, hk⟩ := hk
    obtain ⟨u, hu, hne⟩ := conc_und hc
    have hx := h.ev hp
    generalize hxv : a.eval x = xv at hx
    cases hx with
    | p hx =>
    cases hx with
    | iface _ hx =>
    rename_i v
    split at hk
    · rename_i e
      subst e
      refine Snd.val h (v := if ok then .tuple #[v, .bool true] else v) ?_ ?_ hk
      · cases u <;> first
          | exact absurd rfl (hne _)
          | (cases ok <;> simp [execOp, ho, hxv, Instr.typeAssert, run_underlying' hu])
      · cases ok with
        | true =>
          refine .p (.tuple rfl fun j u' q h1 h2 => ?_)
          match j, h1, h2 with
          | 0, h1, h2 => simp at h1 h2; subst h1; subst h2; exact hx
          | 1, h1, h2 => simp at h1 h2; subst h1; subst h2; exact .bool true
          | n + 2, h1, _ => simp at h1
        | false => exact .p hx
    · rename_i e
      exact fails _ hxv hc (.inr ⟨t, v, rfl, e⟩) hk
  · rename_i hp
    obtain ⟨hc, hk⟩ := hk
    have hx := h.ev hp
    generalize hxv : a.eval x = xv at hx
    cases hx with
    | p hx =>
    cases hx with
    | cst => exact fails _ hxv hc (.inl rfl) hk
  · exact hk.elim
end
end Go.Aw
