/- Regions whose order Go leaves open: what the operations come to in the text's order they come to in every order, if those that may change places touch nothing in common. -/
import Derived.Test.YtmeplhcfjihafaaAwCall
import Derived.Orders
namespace Go.Aw
open Go.RowKit

/-! ### An operation gives one effect -/
def One (F : (Eff → Prop) → Prop) : Prop := ∀ k, F k → ∃ e, k e ∧ ∀ k' : Eff → Prop, k' e → F k'
theorem One.pure (x : Eff) : One (fun k => k x) := fun _ h => ⟨x, h, fun _ h => h⟩
theorem One.false : One (fun _ => False) := fun _ h => h.elim
theorem One.and {c : Prop} {F : (Eff → Prop) → Prop} (h : One F) : One (fun k => c ∧ F k) := fun k ⟨hc, hk⟩ => let ⟨e, h1, h2⟩ := h k hk; ⟨e, h1, fun k' h' => ⟨hc, h2 k' h'⟩⟩
theorem One.ite {c : Prop} [Decidable c] {F G : (Eff → Prop) → Prop} (h : One F) (h' : One G) : One (fun k => if c then F k else G k) := by
  intro k hk
  by_cases hc : c
  · simp only [if_pos hc] at hk ⊢; exact h k hk
  · simp only [if_neg hc] at hk ⊢; exact h' k hk
theorem One.ex {α : Type} {F : α → (Eff → Prop) → Prop} (h : ∀ x, One (F x)) : One (fun k => ∃ x, F x k) := fun k ⟨x, hx⟩ => let ⟨e, h1, h2⟩ := h x k hx; ⟨e, h1, fun k' h' => ⟨x, h2 k' h'⟩⟩

section
variable (P : Program) (lab : Nat) (T : Nat → Option AV) (H : Nat → Option Blk)
theorem one_move (x : Option AV) : One (moveW x) := by
  unfold moveW
  split
  · exact .pure _
  · exact .false
theorem one_loadA (t off : Nat) (e : List AV) : One (loadA P t off e) := by
  unfold loadA
  split
  · split
    · exact .and (.pure _)
    · exact .false
  · split
    · exact .pure _
    · exact .false
  · exact .false
theorem one_loadP (t off : Nat) (e : List PV) : One (loadP P t off e) := by
  unfold loadP
  split
  · split
    · exact .and (.pure _)
    · exact .false
  · split
    · exact .pure _
    · exact .false
  · exact .false
theorem one_new (cs : List AV) : One (newW lab cs) := .and (.pure _)
theorem one_sliceP (es : List (List PV)) (n : Nat) (lo hi mx : Option (Option AV)) : One (sliceP es n lo hi mx) := by
  unfold sliceP
  repeat' split
  all_goals first
    | exact .false
    | exact .and (.pure _)
    | exact .and (.and (.pure _))
theorem one_fails (as : TypeId) (ok : Bool) : One (failsW P as ok) := by
  unfold failsW
  split
  · exact .and (.pure _)
  · exact .false
theorem one_op (op : Op) : One (opW P lab op T H) := by
  unfold opW
  split
  case h_23 c =>
    unfold callW
    split
    · unfold pcallW
      split
      · split
        · exact .ex fun r => .and (.pure _)
        · exact .ex fun r => .and (.pure _)
      · exact .false
    · split
      · unfold lenW
        repeat' split
        all_goals first | exact .false | exact .pure _
      · unfold appendW
        repeat' split
        all_goals first | exact .false | exact .and (.and (.pure _)) | exact .and .false
      · unfold copyW
        repeat' split
        all_goals first | exact .false | exact .and (.pure _)
      · unfold minmaxW
        split
        · exact .pure _
        · exact .false
      · unfold minmaxW
        split
        · exact .pure _
        · exact .false
      · exact .false
    · exact .false
  · exact one_move _
  · exact one_move _
  · unfold pickW
    split
    · exact .ite (one_move _) (one_move _)
    · exact .false
  · unfold allocW
    split
    · exact one_new _ _
    · exact .false
  · unfold boxW
    split
    · exact one_new _ _
    · exact .false
  · unfold buildW
    repeat' split
    all_goals first | exact .false | exact .pure _
  · unfold buildSliceW
    repeat' split
    all_goals first | exact .false | exact .and (.pure _)
  · unfold loadW
    repeat' split
    all_goals first | exact .false | exact one_loadA _ _ _ _ | exact one_loadP _ _ _ _
  · unfold storeW
    repeat' split
    all_goals first | exact .false | exact .and (.and (.and (.pure _)))
  · unfold binOW nilW binW eqW
    repeat' split
    all_goals first | exact .false | exact .pure _ | exact .ex fun r => .and (.pure _)
  · unfold unW
    repeat' split
    all_goals first | exact .false | exact .pure _
  · unfold convertW
    repeat' split
    all_goals first | exact .false | exact .pure _
  · unfold makeSliceW
    repeat' split
    all_goals first | exact .false | exact .and (.pure _)
  · unfold sliceW sliceStr
    repeat' split
    all_goals first | exact .false | exact .and (.pure _) | exact .and (.and (one_sliceP _ _ _ _ _)) | exact .and (.and (.and (.pure _))) | exact .and (.and (.and (.and (.pure _))))
  · unfold fieldAddrW
    repeat' split
    all_goals first | exact .false | exact .pure _
  · unfold fieldW
    repeat' split
    all_goals first | exact .false | exact one_loadA _ _ _ _ | exact one_loadP _ _ _ _
  · unfold indexAddrW indexAddrP
    repeat' split
    all_goals first | exact .false | exact .and (.and (.pure _))
  · unfold indexW
    repeat' split
    all_goals first | exact .false | exact .and (.pure _) | exact .and (one_loadA _ _ _ _) | exact .and (one_loadP _ _ _ _)
  · unfold extractW
    repeat' split
    all_goals first | exact .false | exact .pure _
  · unfold makeIfaceW
    repeat' split
    all_goals first | exact .false | exact .and (.pure _)
  · unfold nilCheckW
    repeat' split
    all_goals first | exact .false | exact .pure _
  · unfold assertW
    repeat' split
    all_goals first | exact .false | exact .and (.pure _) | exact .and (one_fails _ _ _) | exact .and (.ite (.pure _) (one_fails _ _ _))
  · exact .false
end

/-! ### What an operation looks at -/
def labs : Option AV → List Nat
  | some (.own l) | some (.cut l _ _) | some (.ptr l _ _) | some (.map l) | some (.it l) => [l]
  | _ => []
def readsA (T : Nat → Option AV) (op : Op) : List Nat := op.operands.toList.flatMap fun x => labs (ev T x)

section
variable {P : Program} {lab : Nat} {T T' : Nat → Option AV} {H H' : Nat → Option Blk} {k : Eff → Prop}
theorem loc_load {t : TypeId} {x : Option AV} (h : ∀ l ∈ labs x, H' l = H l) : loadW P t x H' k = loadW P t x H k := by
  unfold loadW
  split
  · rw [h _ (by simp [labs])]
  · rfl
  · rfl
theorem loc_store {t : TypeId} {x y : Option AV} (h : ∀ l ∈ labs x, H' l = H l) : storeW P t x y H' k = storeW P t x y H k := by
  unfold storeW
  split
  · rw [h _ (by simp [labs])]
  · rfl
theorem loc_indexAddr {t : TypeId} {x y : Option AV} (h : ∀ l ∈ labs x, H' l = H l) : indexAddrW P t x y H' k = indexAddrW P t x y H k := by
  unfold indexAddrW
  split
  · split
    · split
      · rw [h _ (by simp [labs])]
      · rfl
      · rfl
      · rfl
    · rfl
  · rfl
theorem loc_len {t : TypeId} {x : Option AV} (h : ∀ l ∈ labs x, H' l = H l) : lenW P t x H' k = lenW P t x H k := by
  unfold lenW
  split
  · rfl
  · split
    · rfl
    · rfl
    · rw [h _ (by simp [labs])]
    · rfl
    · rfl
  · rfl
theorem loc_slice {t : TypeId} {x : Option AV} {lo hi mx : Option (Option AV)} (h : ∀ l ∈ labs x, H' l = H l) : sliceW P t x lo hi mx H' k = sliceW P t x lo hi mx H k := by
  unfold sliceW
  split
  · rfl
  · split
    · rfl
    · rfl
    · rw [h _ (by simp [labs])]
    · rfl
    · rfl
  · rfl
theorem loc_elems {x : AV} (h : ∀ l ∈ labs (some x), H' l = H l) : elems H' x = elems H x := by
  unfold elems
  split
  · rfl
  · rfl
  · rw [h _ (by simp [labs])]
  · rfl
theorem loc_news {tx : TypeId} {x : AV} (h : ∀ l ∈ labs (some x), H' l = H l) : news P H' tx x = news P H tx x := by
  unfold news
  rw [loc_elems h]
theorem loc_cut {x : AV} (h : ∀ l ∈ labs (some x), H' l = H l) : cutElems H' x = cutElems H x := by
  unfold cutElems
  split
  · rw [h _ (by simp [labs])]
  · exact loc_elems h
theorem loc_dst {x : AV} (h : ∀ l ∈ labs (some x), H' l = H l) : dstPart H' x = dstPart H x := by
  unfold dstPart
  split
  · rw [h _ (by simp [labs])]
  · rw [h _ (by simp [labs])]
  · rfl
theorem loc_append {t tx : TypeId} {x y : Option AV} (h : ∀ l ∈ labs x, H' l = H l) (h' : ∀ l ∈ labs y, H' l = H l) : appendW P lab t tx x y H' k = appendW P lab t tx x y H k := by
  have e : y.bind (news P H' tx) = y.bind (news P H tx) := by
    cases y with
    | none => rfl
    | some y => exact loc_news h'
  unfold appendW
  rw [e]
  split
  · split
    · congr 1
      split
      · rfl
      · rw [h _ (by simp [labs])]
      · rfl
    · rfl
  · rfl
theorem loc_copy {t : TypeId} {x y : Option AV} (h : ∀ l ∈ labs x, H' l = H l) (h' : ∀ l ∈ labs y, H' l = H l) : copyW P t x y H' k = copyW P t x y H k := by
  have e : y.bind (cutElems H') = y.bind (cutElems H) := by
    cases y with
    | none => rfl
    | some y => exact loc_cut h'
  have e' : x.bind (dstPart H') = x.bind (dstPart H) := by
    cases x with
    | none => rfl
    | some y => exact loc_dst h
  unfold copyW
  rw [e, e']
theorem loc_convert {s d : TypeId} {x : Option AV} (h : ∀ l ∈ labs x, H' l = H l) : convertW P s d x H' k = convertW P s d x H k := by
  unfold convertW
  split
  · split
    · rw [loc_elems h]
    · rfl
  · rfl
  · rfl
  · rfl
  · rfl
theorem loc_parts : ∀ (ps : List (Nat × Operand)), (∀ x ∈ ps.map (·.2), ev T' x = ev T x) → partsA T' ps = partsA T ps := by
  intro ps
  induction ps with
  | nil => intro _; rfl
  | cons p ps ih =>
    intro h
    simp only [partsA]
    rw [h _ (by simp), ih (fun x hx => h x (by simp at hx ⊢; exact .inr hx))]
theorem loc_frz {x : AV} (h : ∀ l ∈ labs (some x), H' l = H l) : frzA H' x = frzA H x := by
  unfold frzA
  split
  · rw [h _ (by simp [labs])]
  · rw [h _ (by simp [labs])]
  · rfl
theorem loc_pureArgs : ∀ (ps : List Operand) (H H' : Nat → Option Blk), (∀ x ∈ ps, ev T' x = ev T x) → (∀ x ∈ ps, ∀ l ∈ labs (ev T x), H' l = H l) → pureArgs T' H' ps = pureArgs T H ps := by
  intro ps
  induction ps with
  | nil => intro H H' _ _; rfl
  | cons p ps ih =>
    intro H H' h hl
    simp only [pureArgs]
    rw [h _ (by simp)]
    cases hv : ev T p with
    | none => rfl
    | some v =>
      have h1 := ih H H' (fun x hx => h x (by simp [hx])) (fun x hx => hl x (by simp [hx]))
      simp only
      rw [h1, loc_frz (H := H) (H' := H') (by rw [← hv]; exact hl p (by simp))]
      split
      · rfl
      · split
        · rename_i y lb _
          rw [ih (upd H lb none) (upd H' lb none) (fun x hx => h x (by simp [hx])) (fun x hx l hl' => by
            by_cases q : l = lb
            · subst q; rw [upd_same, upd_same]
            · rw [upd_ne _ _ q, upd_ne _ _ q]; exact hl x (by simp [hx]) l hl')]
        · rfl

theorem loc_lend : ∀ (xs : List Operand) (as : List LA) (ls : List (Option Nat)), (∀ x ∈ xs, ev T' x = ev T x) → (∀ x ∈ xs, ∀ l ∈ labs (ev T x), H' l = H l) → lendP T' H' xs as ls = lendP T H xs as ls := by
  intro xs
  induction xs with
  | nil =>
    intro as ls _ _
    cases as with
    | nil => cases ls <;> rfl
    | cons a as => cases a <;> rfl
  | cons x xs ih =>
    intro as ls h hl
    have hx := h x (by simp)
    have hlx := hl x (by simp)
    cases as with
    | nil => rfl
    | cons a as =>
      cases ls with
      | nil => cases a <;> rfl
      | cons q ls =>
        have i := ih as ls (fun y hy => h y (by simp [hy])) (fun y hy => hl y (by simp [hy]))
        cases a with
        | v p =>
          cases q with
          | some l => rfl
          | none => simp only [lendP]; rw [hx, i]
        | ptr a b c d =>
          cases q with
          | none => rfl
          | some l =>
            simp only [lendP]
            rw [hx, i]
            refine propext (and_congr_right fun he => ?_)
            rw [hlx l (by rw [he]; simp [labs])]
        | map d =>
          cases q with
          | none => rfl
          | some l =>
            simp only [lendP]
            rw [hx, i]
            refine propext (and_congr_right fun he => ?_)
            rw [hlx l (by rw [he]; simp [labs])]
theorem loc_pcall {f : Operand} {xs : List Operand} (hf : ev T' f = ev T f) (hx : ∀ x ∈ xs, ev T' x = ev T x) (hl : ∀ x ∈ xs, ∀ l ∈ labs (ev T x), H' l = H l) : pcallW P lab (ev T' f) T' H' xs k = pcallW P lab (ev T f) T H xs k := by
  unfold pcallW
  rw [hf, loc_pureArgs xs H H' hx hl]
  have e : ∀ g ps r, WFn P g ps T' H' xs r = WFn P g ps T H xs r := fun g ps r => by
    cases r with
    | pure r => rfl
    | own sz es => rfl
    | lend ls as bs r => simp only [WFn]; rw [loc_lend xs as ls hx hl]
  simp only [e]
theorem loc_op {op : Op} (hT : ∀ x ∈ op.operands.toList, ev T' x = ev T x) (hH : ∀ l ∈ readsA T op, H' l = H l) : opW P lab op T' H' k = opW P lab op T H k := by
  have hl : ∀ x ∈ op.operands.toList, ∀ l ∈ labs (ev T x), H' l = H l := fun x hx l hl => hH l (List.mem_flatMap.2 ⟨x, hx, hl⟩)
  cases op with
  | move x => simp only [opW]; rw [hT x (by simp [Op.operands])]
  | assign x => simp only [opW]; rw [hT x (by simp [Op.operands])]
  | pick c x y => simp only [opW]; rw [hT c (by simp [Op.operands]), hT x (by simp [Op.operands]), hT y (by simp [Op.operands])]
  | alloc t => rfl
  | box t x => simp only [opW]; rw [hT x (by simp [Op.operands])]
  | build t ps => simp only [opW]; rw [loc_parts _ (fun x hx => hT x (by simpa [Op.operands] using hx))]
  | buildSlice t n ps => simp only [opW]; rw [loc_parts _ (fun x hx => hT x (by simpa [Op.operands] using hx))]
  | load t x => simp only [opW]; rw [hT x (by simp [Op.operands]), loc_load (hl x (by simp [Op.operands]))]
  | store t x y => simp only [opW]; rw [hT x (by simp [Op.operands]), hT y (by simp [Op.operands]), loc_store (hl x (by simp [Op.operands]))]
  | binOp op t x y t' => simp only [opW, binOW]; rw [hT x (by simp [Op.operands]), hT y (by simp [Op.operands])]
  | unOp op t x => simp only [opW]; rw [hT x (by simp [Op.operands])]
  | convert s d x => simp only [opW]; rw [hT x (by simp [Op.operands]), loc_convert (hl x (by simp [Op.operands]))]
  | makeSlice t l c => simp only [opW]; rw [hT l (by simp [Op.operands]), hT c (by simp [Op.operands])]
  | slice t x lo hi mx =>
    simp only [opW]
    have e : ∀ z : Option Operand, (∀ y, z = some y → y ∈ (Op.slice t x lo hi mx).operands.toList) → z.map (ev T') = z.map (ev T) := by
      intro z hz
      cases z with
      | none => rfl
      | some y => simp only [Option.map_some]; rw [hT y (hz y rfl)]
    rw [hT x (by simp [Op.operands]), e lo (fun y hy => by subst hy; simp [Op.operands]), e hi (fun y hy => by subst hy; simp [Op.operands]), e mx (fun y hy => by subst hy; simp [Op.operands]), loc_slice (hl x (by simp [Op.operands]))]
  | fieldAddr t x f => simp only [opW]; rw [hT x (by simp [Op.operands])]
  | field t x f => simp only [opW]; rw [hT x (by simp [Op.operands])]
  | indexAddr t x i => simp only [opW]; rw [hT x (by simp [Op.operands]), hT i (by simp [Op.operands]), loc_indexAddr (hl x (by simp [Op.operands]))]
  | index t x i => simp only [opW]; rw [hT x (by simp [Op.operands]), hT i (by simp [Op.operands])]
  | extract x i => simp only [opW]; rw [hT x (by simp [Op.operands])]
  | makeInterface t x => simp only [opW]; rw [hT x (by simp [Op.operands])]
  | nilCheck x => simp only [opW]; rw [hT x (by simp [Op.operands])]
  | typeAssert x t as ok => simp only [opW]; rw [hT x (by simp [Op.operands])]
  | call c =>
    obtain ⟨cl, cargs, ctys⟩ := c
    simp only [opW, callW]
    cases cl with
    | value f =>
      simp only
      have hm : ∀ x, x ∈ cargs.toList → x ∈ (Op.call ⟨.value f, cargs, ctys⟩).operands.toList := fun x hx => by simp [Op.operands, Call.operands]; exact .inr (by simpa using hx)
      rw [loc_pcall (hT f (by simp [Op.operands, Call.operands])) (fun x hx => hT x (hm x hx)) (fun x hx => hl x (hm x hx))]
    | invoke r m => rfl
    | builtin b =>
      have hm : ∀ x, x ∈ cargs.toList → x ∈ (Op.call ⟨.builtin b, cargs, ctys⟩).operands.toList := fun x hx => by simp [Op.operands, Call.operands]; simpa using hx
      simp only
      split
      · rename_i x t hx ht
        rw [hT x (hm x (by rw [hx]; simp)), loc_len (hl x (hm x (by rw [hx]; simp)))]
      · rename_i x y t tx hx ht
        rw [hT x (hm x (by rw [hx]; simp)), hT y (hm y (by rw [hx]; simp)), loc_append (hl x (hm x (by rw [hx]; simp))) (hl y (hm y (by rw [hx]; simp)))]
      · rename_i x y t tx hx ht
        rw [hT x (hm x (by rw [hx]; simp)), hT y (hm y (by rw [hx]; simp)), loc_copy (hl x (hm x (by rw [hx]; simp))) (hl y (hm y (by rw [hx]; simp)))]
      · rename_i x y hx
        rw [hT x (hm x (by rw [hx]; simp)), hT y (hm y (by rw [hx]; simp))]
      · rename_i x y hx
        rw [hT x (hm x (by rw [hx]; simp)), hT y (hm y (by rw [hx]; simp))]
      · rfl
  | _ => rfl
end
end Go.Aw
