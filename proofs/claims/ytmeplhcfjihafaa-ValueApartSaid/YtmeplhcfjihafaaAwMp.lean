/- Maps of the call's own; ranges over texts. -/
import Derived.Test.YtmeplhcfjihafaaAwM1
import Derived.MapKept
namespace Go.Aw
open Go.RowKit
theorem tabOK.up {w : World} {I I1 : Nat → Prop} (h : tabOK w I) (hi : ∀ g, I g → I1 g) : tabOK w I1 := tab_keep h hi fun _ _ => rfl
theorem In.tabs {σ : Lab} {w : World} {I : Nat → Prop} {T : Nat → Option AV} {H : Nat → Option Blk} {w0 : World} {X I0 : Nat → Prop} {a : Act} {lab : Nat} (h : In σ w I T H w0 X I0 a lab) : tabOK w I :=
  tab_keep h.tab.tab h.heap.sub fun g hg => h.heap.fr.block g (h.tab.lt g hg) fun hx => h.tab.off g hx hg
def keyEq : PV → PV → Option Bool
  | .int k a, .int k' b => if k = k' then some (a == b) else none
  | .str a, .str b => some (a == b)
  | .agg [.str a, .str b], .agg [.str c, .str d] => some (a == c && b == d)
  | _, _ => none
/-- What stands under a key: its place, and the value. -/
def MapAt (es : List (PV × AV)) (p : PV) : Option (Nat × AV) → Prop
  | none => ∀ e ∈ es, keyEq p e.1 = some false
  | some (i, v) => ∃ e, es[i]? = some e ∧ e.2 = v ∧ keyEq p e.1 = some true ∧ ∀ (j : Nat) e', j < i → es[j]? = some e' → keyEq p e'.1 = some false
/-- Keys of this type are looked up by what they are. -/
def KeyT (P : Program) (t : TypeId) (p : PV) : Prop :=
  ∀ (w w' : World) (I : Nat → Prop) (u : Value), rep w I u p →
    (∀ (w2 : World), rep w2 (fun _ => False) u p) ∧ (∀ b, (Instr.checkKey b 10000 t u).run P w' = .ok () w') ∧
    ∀ (ms : List MapEntry) (ks : List PV), ms.length = ks.length → (∀ (i : Nat) m q, ms[i]? = some m → ks[i]? = some q → rep w (fun _ => False) m.key q) →
      ((∀ q ∈ ks, keyEq p q = some false) → (Instr.findKey t u ms).run P w' = .ok none w') ∧
      (∀ (i : Nat) m q, ms[i]? = some m → ks[i]? = some q → keyEq p q = some true → (∀ (j : Nat) q', j < i → ks[j]? = some q' → keyEq p q' = some false) → (Instr.findKey t u ms).run P w' = .ok (some (i, m.val)) w' ∧ (Instr.keyThatStays m.key u).run P w' = .ok u w')
theorem findNow_none {kd : TypeDesc} {k : Value} : ∀ (ms : List MapEntry) (i : Nat), (∀ m ∈ ms, Instr.sameNow kd k m.key = some false) → Instr.findNow kd k ms i = some none
  | [], _, _ => rfl
  | m :: ms, i, h => by
    rw [Instr.findNow, h m List.mem_cons_self]
    exact findNow_none ms (i + 1) fun m' hm => h m' (List.mem_cons_of_mem _ hm)
theorem findNow_some {kd : TypeDesc} {k : Value} : ∀ (ms : List MapEntry) (i n : Nat) (m : MapEntry), ms[n]? = some m → Instr.sameNow kd k m.key = some true → (∀ (j : Nat) m', j < n → ms[j]? = some m' → Instr.sameNow kd k m'.key = some false) → Instr.findNow kd k ms i = some (some (i + n, m.val))
  | [], _, _, _, h, _, _ => by simp at h
  | x :: ms, i, 0, m, h, h1, _ => by
    simp at h
    subst h
    rw [Instr.findNow, h1]
    rfl
  | x :: ms, i, n + 1, m, h, h1, h2 => by
    rw [Instr.findNow, h2 0 x (by omega) rfl]
    have := findNow_some ms (i + 1) n m (by simpa using h) h1 fun j m' hj hm => h2 (j + 1) m' (by omega) (by simpa using hm)
    rw [this, show i + 1 + n = i + (n + 1) by omega]
section
variable {P : Program}
theorem bytes_same (a b : List UInt8) : ((⟨⟨a⟩⟩ : ByteArray) == ⟨⟨b⟩⟩) = (a == b) := by
  rw [Bool.eq_iff_iff, MapKept.bytes_beq, beq_iff_eq]
  constructor
  · intro q
    injection q with q
    injection q
  · rintro rfl; rfl
/-- Of keys that are told apart at once. -/
theorem keyT_now {t : TypeId} {d : TypeDesc} {p : PV} (hd : P.underlying t = some d) (one : ∀ (w : World) (I : Nat → Prop) (u : Value), rep w I u p → (∀ w2 : World, rep w2 (fun _ => False) u p) ∧ (∀ b w', (Instr.checkKey b 10000 t u).run P w' = .ok () w') ∧
    ∀ (w1 : World) (x : Value) (q : PV) (b : Bool), rep w1 (fun _ => False) x q → keyEq p q = some b → Instr.sameNow d u x = some b ∧ (b = true → Instr.sameBits 10000 x u = true)) : KeyT P t p := by
  intro w w' I u hu
  obtain ⟨h1, h2, h3⟩ := one w I u hu
  refine ⟨h1, fun b => h2 b w', fun ms ks hl hk => ⟨fun hq => ?_, fun i m q hm hq hqe hbe => ?_⟩⟩
  · have : Instr.findNow d u ms 0 = some none := findNow_none ms 0 fun m hm => by
      obtain ⟨i, hi⟩ := List.getElem?_of_mem hm
      have hlt := (List.getElem?_eq_some_iff.1 hi).1
      have hki := List.getElem?_eq_getElem (l := ks) (i := i) (by omega)
      exact (h3 w m.key _ false (hk i m _ hi hki) (hq _ (List.getElem_mem _))).1
    exact MapKept.run_findKey hd this
  · obtain ⟨s1, s2⟩ := h3 w m.key q true (hk i m q hm hq) hqe
    have : Instr.findNow d u ms 0 = some (some (0 + i, m.val)) := findNow_some ms 0 i m hm s1 fun j m' hj hm' => by
      have hlt := (List.getElem?_eq_some_iff.1 hm').1
      have hki := List.getElem?_eq_getElem (l := ks) (i := j) (by omega)
      exact (h3 w m'.key _ false (hk j m' _ hm' hki) (hbe j _ hj hki)).1
    rw [Nat.zero_add] at this
    exact ⟨MapKept.run_findKey hd this, by simp [Instr.keyThatStays, s2 rfl]⟩
theorem key_str {t : TypeId} (hd : P.underlying t = some .string) (s : List UInt8) : KeyT P t (.str s) := by
  refine keyT_now hd fun w I u hu => ?_
  cases hu with
  | str =>
  refine ⟨fun w2 => .str s, fun b w' => MapKept.run_checkKey hd (by simp [MapKept.IsKey]) b 9999, fun w1 x q b hx hq => ?_⟩
  cases hx <;> simp only [keyEq, reduceCtorEq] at hq
  injection hq with hq
  subst hq
  rename_i l
  refine ⟨by simp only [Instr.sameNow, bytes_same], fun h => ?_⟩
  have : s = l := by simpa using h
  subst this
  simp [Instr.sameBits, bytes_same]
theorem key_int {t : TypeId} {k0 : IntKind} (hd : P.underlying t = some (.int k0)) (n : Int) : KeyT P t (.int k0 n) := by
  refine keyT_now hd fun w I u hu => ?_
  cases hu with
  | int =>
  refine ⟨fun w2 => .int _ n, fun b w' => MapKept.run_checkKey hd (by simp [MapKept.IsKey]) b 9999, fun w1 x q b hx hq => ?_⟩
  cases hx <;> simp only [keyEq, reduceCtorEq] at hq
  rename_i k m
  split at hq
  · rename_i hk
    subst hk
    injection hq with hq
    subst hq
    refine ⟨by simp [Instr.sameNow], fun h => ?_⟩
    have : n = m := by simpa using h
    subst this
    simp [Instr.sameBits]
  · cases hq
theorem rep_pair {w : World} {I : Nat → Prop} {u : Value} {a b : List UInt8} (h : rep w I u (.agg [.str a, .str b])) : u = .agg #[.string ⟨⟨a⟩⟩, .string ⟨⟨b⟩⟩] := by
  cases h with
  | agg hs hr =>
    rename_i vs
    have h0 : 0 < vs.size := by rw [hs]; simp
    have h1 : 1 < vs.size := by rw [hs]; simp
    have r0 := hr 0 vs[0] (.str a) (Array.getElem?_eq_getElem h0) rfl
    have r1 := hr 1 vs[1] (.str b) (Array.getElem?_eq_getElem h1) rfl
    have e0 : vs[0] = .string ⟨⟨a⟩⟩ := by generalize vs[0] = x at r0; cases r0; rfl
    have e1 : vs[1] = .string ⟨⟨b⟩⟩ := by generalize vs[1] = x at r1; cases r1; rfl
    congr 1
    apply Array.ext
    · simpa using hs
    · intro i q1 q2
      match i, q1 with
      | 0, _ => simpa using e0
      | 1, _ => simpa using e1
      | n + 2, q => rw [hs] at q; simp at q; omega
theorem findAsk_none {t : TypeId} {k : Value} {w' : World} : ∀ (ms : List MapEntry) (i : Nat), (∀ m ∈ ms, (Op.equal t k m.key).run P w' = .ok false w') → (Instr.findAsking t k ms i).run P w' = .ok none w'
  | [], _, _ => by simp [Instr.findAsking]
  | m :: ms, i, h => by
    have := findAsk_none ms (i + 1) fun m' hm => h m' (List.mem_cons_of_mem _ hm)
    simp [Instr.findAsking, h m List.mem_cons_self, Result.andThen, this]
theorem findAsk_some {t : TypeId} {k : Value} {w' : World} : ∀ (ms : List MapEntry) (i n : Nat) (m : MapEntry), ms[n]? = some m → (Op.equal t k m.key).run P w' = .ok true w' → (∀ (j : Nat) m', j < n → ms[j]? = some m' → (Op.equal t k m'.key).run P w' = .ok false w') → (Instr.findAsking t k ms i).run P w' = .ok (some (i + n, m.val)) w'
  | [], _, _, _, h, _, _ => by simp at h
  | x :: ms, i, 0, m, h, h1, _ => by
    simp at h
    subst h
    simp [Instr.findAsking, h1, Result.andThen]
  | x :: ms, i, n + 1, m, h, h1, h2 => by
    have := findAsk_some ms (i + 1) n m (by simpa using h) h1 fun j m' hj hm => h2 (j + 1) m' (by omega) (by simpa using hm)
    simp [Instr.findAsking, h2 0 x (by omega) rfl, Result.andThen, this]
    omega
theorem key_pair {t : TypeId} {fs : Array Field} (hd : P.underlying t = some (.struct fs)) (hc : ∀ (a b : List UInt8) e w, (Instr.checkKey e 10000 t (.agg #[.string ⟨⟨a⟩⟩, .string ⟨⟨b⟩⟩])).run P w = .ok () w)
    (he : ∀ (a b c d : List UInt8) w, (Op.equal t (.agg #[.string ⟨⟨a⟩⟩, .string ⟨⟨b⟩⟩]) (.agg #[.string ⟨⟨c⟩⟩, .string ⟨⟨d⟩⟩])).run P w = .ok (a == c && b == d) w) (a b : List UInt8) : KeyT P t (.agg [.str a, .str b]) := by
  intro w w' I u hu
  have hu' := rep_pair hu
  subst hu'
  have mk : ∀ (a b : List UInt8) (w2 : World), rep w2 (fun _ => False) (.agg #[.string ⟨⟨a⟩⟩, .string ⟨⟨b⟩⟩]) (.agg [.str a, .str b]) := fun a b w2 => .agg rfl fun j u p h1 h2 => by
    match j, h1, h2 with
    | 0, h1, h2 => simp at h1 h2; subst h1; subst h2; exact .str a
    | 1, h1, h2 => simp at h1 h2; subst h1; subst h2; exact .str b
    | n + 2, h1, _ => simp at h1
  have ask : ∀ (ms : List MapEntry), (Instr.findKey t (.agg #[.string ⟨⟨a⟩⟩, .string ⟨⟨b⟩⟩]) ms).run P w' = (Instr.findAsking t (.agg #[.string ⟨⟨a⟩⟩, .string ⟨⟨b⟩⟩]) ms).run P w' := fun ms => by
    cases ms with
    | nil => simp [Instr.findKey, run_underlying hd, Result.andThen, Instr.findNow, Instr.findAsking]
    | cons m ms => simp [Instr.findKey, run_underlying hd, Result.andThen, Instr.findNow, Instr.sameNow]
  have eq : ∀ (x : Value) (q : PV) (c : Bool), rep w (fun _ => False) x q → keyEq (.agg [.str a, .str b]) q = some c → (Op.equal t (.agg #[.string ⟨⟨a⟩⟩, .string ⟨⟨b⟩⟩]) x).run P w' = .ok c w' ∧ (c = true → x = .agg #[.string ⟨⟨a⟩⟩, .string ⟨⟨b⟩⟩]) := by
    intro x q c hx hq
    obtain ⟨c', d', rfl⟩ : ∃ c' d', q = .agg [.str c', .str d'] := by
      unfold keyEq at hq
      split at hq
      · rename_i h; cases h
      · rename_i h; cases h
      · exact ⟨_, _, rfl⟩
      · cases hq
    simp only [keyEq] at hq
    have := rep_pair hx
    subst this
    injection hq with hq
    subst hq
    refine ⟨he _ _ _ _ _, fun h => ?_⟩
    rw [Bool.and_eq_true] at h
    have q1 : a = c' := by simpa using h.1
    have q2 : b = d' := by simpa using h.2
    rw [q1, q2]
  refine ⟨mk a b, fun e => hc a b e w', fun ms ks hl hk => ⟨fun hq => ?_, fun i m q hm hq hqe hbe => ?_⟩⟩
  · rw [ask]
    refine findAsk_none ms 0 fun m hm => ?_
    obtain ⟨i, hi⟩ := List.getElem?_of_mem hm
    have hlt := (List.getElem?_eq_some_iff.1 hi).1
    have hki := List.getElem?_eq_getElem (l := ks) (i := i) (by omega)
    exact (eq m.key _ false (hk i m _ hi hki) (hq _ (List.getElem_mem _))).1
  · obtain ⟨s1, s2⟩ := eq m.key q true (hk i m q hm hq) hqe
    rw [ask]
    have := findAsk_some (P := P) (w' := w') ms 0 i m hm s1 fun j m' hj hm' => by
      have hlt := (List.getElem?_eq_some_iff.1 hm').1
      have hki := List.getElem?_eq_getElem (l := ks) (i := j) (by omega)
      exact (eq m'.key _ false (hk j m' _ hm' hki) (hbe j _ hj hki)).1
    rw [Nat.zero_add] at this
    refine ⟨this, ?_⟩
    rw [s2 rfl]
    simp [Instr.keyThatStays, Instr.sameBits, bytes_same]
end
def makeMapW (lab : Nat) (k : Eff → Prop) : Prop := k ⟨some (.map lab), [(lab, some (.map []))]⟩
def lkV (ok : Bool) (z : Value) : Option (Nat × AV) → Option PV
  | some (_, .p x) => some (if ok = true then .tuple [x, .bool true] else x)
  | none => match constAV z with | .p x => some (if ok = true then .tuple [x, .bool false] else x) | _ => none
  | _ => none
section
variable {P : Program} {o : Oper} {a : Act} {w : World} {σ : Lab} {I : Nat → Prop} {T : Nat → Option AV} {H : Nat → Option Blk} {w0 : World} {X I0 : Nat → Prop} {lab : Nat} {k : Eff → Prop}
theorem snd_makeMap (h : In σ w I T H w0 X I0 a lab) {t : TypeId} (ho : o.op = .makeMap t none) (hk : makeMapW lab k) : Snd P o a w σ I H w0 X I0 lab k := by
  have ext : ∀ l s, σ l = some s → upd σ lab (some (.obj w.heap.size)) l = some s := fun l s hl => by
    rw [upd_ne _ _ (by rintro rfl; rw [h.lab] at hl; cases hl)]
    exact hl
  have old : ∀ b, I b → (w.alloc (.map #[] 0)).heap[b]? = w.heap[b]? := fun b hb => by
    have := (h.heap.imm b hb).1
    show (w.heap.push _)[b]? = _
    rw [Array.getElem?_push, if_neg (by omega)]
  have hget : (w.alloc (.map #[] 0)).heap[w.heap.size]? = some (.map #[] 0) := by
    show (w.heap.push _)[w.heap.size]? = _
    simp
  refine Snd.of (w' := w.alloc (.map #[] 0)) (v := .map (some w.heap.size)) ?_ ⟨h.heap.alloc (w' := w.alloc (.map #[] 0)) rfl rfl rfl rfl h.lab rfl (.map (k := 0) (ms := #[]) (upd_same _ _ _) hget rfl (fun i m e q => by simp at q)), ext, fun l hl => upd_ne _ _ hl, fun _ h => h, old, fun x hx => by injection hx with hx; subst hx; exact .map (upd_same _ _ _)⟩ hk
  simp [execOp, ho, Instr.makeMap]
def lookupW (P : Program) (t : TypeId) (ok : Bool) (x i : Option AV) (H : Nat → Option Blk) (k : Eff → Prop) : Prop :=
  match x with
  | some (.map l) => match i, P.underlying t, H l with
    | some (.p p), some (.map kt et), some (.map es) => match tz1 P et with
      | some z => KeyT P kt p ∧ ∃ r, MapAt es p r ∧ ∃ v, lkV ok z r = some v ∧ k ⟨some (.p v), []⟩
      | none => False
    | _, _, _ => False
  | _ => False
theorem repA_p {v : Value} {x : PV} (h : repA σ w I v (.p x)) : rep w I v x := by
  cases h with
  | p h => exact h
theorem map_block {l : Nat} {es : List (PV × AV)} {v : Value} (hb : repB σ w I l (.map es)) (hv : repA σ w I v (.map l)) : ∃ g ms c, v = .map (some g) ∧ σ l = some (.obj g) ∧ w.heap[g]? = some (.map ms c) ∧ ms.size = es.length ∧
    ∀ (i : Nat) m e, ms[i]? = some m → es[i]? = some e → rep w (fun _ => False) m.key e.1 ∧ repA σ w I m.val e.2 := by
  cases hb with
  | map h' hg hn hr =>
    cases hv with
    | map hs =>
      rw [hs] at h'
      injection h' with h'
      injection h' with h'
      subst h'
      exact ⟨_, _, _, rfl, hs, hg, hn, hr⟩
theorem key_found {kt : TypeId} {p : PV} {u : Value} (hk : KeyT P kt p) (hu : rep w I u p) {ms : Array MapEntry} {es : List (PV × AV)} (hn : ms.size = es.length) (hr : ∀ (i : Nat) m e, ms[i]? = some m → es[i]? = some e → rep w (fun _ => False) m.key e.1 ∧ repA σ w I m.val e.2) :
    (∀ b, (Instr.checkKey b 10000 kt u).run P w = .ok () w) ∧ (MapAt es p none → (Instr.findKey kt u ms.toList).run P w = .ok none w) ∧
    (∀ i v, MapAt es p (some (i, v)) → ∃ m e, ms[i]? = some m ∧ es[i]? = some e ∧ e.2 = v ∧ keyEq p e.1 = some true ∧ (Instr.findKey kt u ms.toList).run P w = .ok (some (i, m.val)) w ∧ (Instr.keyThatStays m.key u).run P w = .ok u w) := by
  obtain ⟨_, h2, h3⟩ := hk w w I u hu
  have hks : ∀ (i : Nat) m q, ms.toList[i]? = some m → (es.map (·.1))[i]? = some q → rep w (fun _ => False) m.key q := fun i m q q1 q2 => by
    rw [List.getElem?_map, Option.map_eq_some_iff] at q2
    obtain ⟨e, he, rfl⟩ := q2
    exact (hr i m e (by simpa using q1) he).1
  obtain ⟨f1, f2⟩ := h3 ms.toList (es.map (·.1)) (by simp [hn]) hks
  refine ⟨h2, fun h => f1 fun q hq => ?_, fun i v ⟨e, he, hv, heq, hbe⟩ => ?_⟩
  · obtain ⟨e, he, rfl⟩ := List.mem_map.1 hq
    exact h e he
  · have hi : i < ms.size := by rw [hn]; exact (List.getElem?_eq_some_iff.1 he).1
    obtain ⟨g1, g2⟩ := f2 i ms[i] e.1 (by simp [hi]) (by rw [List.getElem?_map, he]; rfl) heq fun j q' hj hq' => by
      rw [List.getElem?_map, Option.map_eq_some_iff] at hq'
      obtain ⟨e', he', rfl⟩ := hq'
      exact hbe j e' hj he'
    exact ⟨ms[i], e, Array.getElem?_eq_getElem hi, he, hv, heq, g1, g2⟩
theorem snd_lookup (h : In σ w I T H w0 X I0 a lab) {t : TypeId} {x i : Operand} {ok : Bool} (ho : o.op = .lookup t x i ok) (hk : lookupW P t ok (ev T x) (ev T i) H k) : Snd P o a w σ I H w0 X I0 lab k := by
  unfold lookupW at hk
  split at hk
  · rename_i l hx
    split at hk
    · rename_i p kt et es hi hu hH
      split at hk
      · rename_i z hz
        obtain ⟨hkey, r, hr, v, hv, hk⟩ := hk
        have hxv := h.ev hx
        have hiv := h.ev hi
        generalize hxe : a.eval x = xv at hxv
        generalize hie : a.eval i = iv at hiv
        cases hiv with
        | p hiv =>
        obtain ⟨g, ms, c, rfl, hs, hg, hn, hrr⟩ := map_block (h.heap.rows l _ hH) hxv
        obtain ⟨k1, k2, k3⟩ := key_found hkey hiv hn hrr
        have run0 : ∀ q, (Instr.findKey kt iv ms.toList).run P w = .ok q w → (execOp a.eval o).run P w = match q with
            | some (_, y) => .ok (.value (if ok = true then .tuple #[y, .bool true] else y)) w
            | none => .ok (.value (if ok = true then .tuple #[z, .bool false] else z)) w := fun q hq => by
          simp only [execOp, ho, hxe, hie, Instr.lookup, Sem.run_bind, run_underlying' hu, Result.andThen_ok, MapKept.run_getObj_map hg, Sem.run_pure, k1, hq]
          cases q with
          | none => simp [run_zero1 hz w, Result.andThen]
          | some y => simp [Result.andThen]
        cases r with
        | none =>
          have := run0 none (k2 hr)
          refine Snd.val h this ?_ hk
          simp only [lkV] at hv
          split at hv
          · rename_i y hy
            have hz' := repA_const σ w I z
            rw [hy] at hz'
            cases hz' with
            | p hz' =>
            injection hv with hv
            subst hv
            cases ok with
            | true =>
              refine .p (.tuple rfl fun j u' q h1 h2 => ?_)
              match j, h1, h2 with
              | 0, h1, h2 => simp at h1 h2; subst h1; subst h2; exact hz'
              | 1, h1, h2 => simp at h1 h2; subst h1; subst h2; exact .bool false
              | n + 2, h1, _ => simp at h1
            | false => exact .p hz'
          · cases hv
        | some r =>
          obtain ⟨i', v'⟩ := r
          obtain ⟨m, e, hm, he, rfl, heq, hf, _⟩ := k3 i' v' hr
          have := run0 _ hf
          refine Snd.val h this ?_ hk
          have hmv := (hrr i' m e hm he).2
          generalize e.2 = y at hmv hv
          cases y <;> simp only [lkV, reduceCtorEq] at hv
          injection hv with hv
          subst hv
          replace hmv := repA_p hmv
          cases ok with
          | true =>
            refine .p (.tuple rfl fun j u' q h1 h2 => ?_)
            match j, h1, h2 with
            | 0, h1, h2 => simp at h1 h2; subst h1; subst h2; exact hmv
            | 1, h1, h2 => simp at h1 h2; subst h1; subst h2; exact .bool true
            | n + 2, h1, _ => simp at h1
          | false => exact .p hmv
      · exact hk.elim
    · exact hk.elim
  · exact hk.elim
def mapUpdateW (P : Program) (t : TypeId) (x i v : Option AV) (H : Nat → Option Blk) (k : Eff → Prop) : Prop :=
  match x with
  | some (.map l) => match i, v, P.underlying t, H l with
    | some (.p p), some y, some (.map kt _), some (.map es) => KeyT P kt p ∧ ∃ r, MapAt es p r ∧ k ⟨none, [(l, some (.map (match r with | some (j, _) => es.set j (p, y) | none => es ++ [(p, y)])))]⟩
    | _, _, _, _ => False
  | _ => False
theorem setIf_other (w : World) (g : Nat) (o : Obj) (b : Nat) (h : b ≠ g) : (w.heap.setIfInBounds g o)[b]? = w.heap[b]? := by
  simp [Ne.symm h]
theorem snd_mapUpdate (h : In σ w I T H w0 X I0 a lab) {t : TypeId} {x i v : Operand} (ho : o.op = .mapUpdate t x i v) (hk : mapUpdateW P t (ev T x) (ev T i) (ev T v) H k) : Snd P o a w σ I H w0 X I0 lab k := by
  unfold mapUpdateW at hk
  split at hk
  · rename_i l hx
    split at hk
    · rename_i p y kt et es hi hy hu hH
      obtain ⟨hkey, r, hr, hk⟩ := hk
      have hxv := h.ev hx
      have hiv := h.ev hi
      have hyv := h.ev hy
      generalize hxe : a.eval x = xv at hxv
      generalize hie : a.eval i = iv at hiv
      generalize hye : a.eval v = yv at hyv
      cases hiv with
      | p hiv =>
      obtain ⟨g, ms, c, rfl, hs, hg, hn, hrr⟩ := map_block (h.heap.rows l _ hH) hxv
      obtain ⟨k1, k2, k3⟩ := key_found hkey hiv hn hrr
      obtain ⟨kr, _, _⟩ := hkey w w I iv hiv
      obtain ⟨hni, _⟩ := h.heap.mine l g _ (by rw [hH]; simp) hs rfl
      have hlt : g < w.heap.size := (Array.getElem?_eq_some_iff.1 hg).1
      have fin : ∀ (ms' : Array MapEntry) (c' : Nat) (es' : List (PV × AV)), (execOp a.eval o).run P w = .ok .skip { w with heap := w.heap.setIfInBounds g (.map ms' c') } → ms'.size = es'.length →
          (∀ (i : Nat) m e, ms'[i]? = some m → es'[i]? = some e → rep w (fun _ => False) m.key e.1 ∧ repA σ w I m.val e.2) → k ⟨none, [(l, some (.map es'))]⟩ → Snd P o a w σ I H w0 X I0 lab k := by
        intro ms' c' es' hrun hn' hr' hk'
        have hsame : ∀ b, I b → ({ w with heap := w.heap.setIfInBounds g (.map ms' c') } : World).heap[b]? = w.heap[b]? := fun b hb => setIf_other w g _ b (fun e => hni (e ▸ hb))
        refine Snd.skip hrun ⟨?_, fun _ _ h => h, fun _ _ => rfl, fun _ h => h, hsame, fun x hx => by cases hx⟩ hk'
        have hat : ({ w with heap := w.heap.setIfInBounds g (.map ms' c') } : World).heap[g]? = some (.map ms' c') := by
          show (w.heap.setIfInBounds g _)[g]? = _
          simp [hlt]
        refine h.heap.write (w' := { w with heap := w.heap.setIfInBounds g (.map ms' c') }) (s := .obj g) (g := g) (by rw [hH]; simp) hs rfl (fun b hb => setIf_other w g _ b hb) (by simp) rfl rfl rfl
          (.map hs hat hn' fun i m e q1 q2 => ⟨((hr' i m e q1 q2).1).mono (fun _ h => h) (fun b hb => hb.elim), ((hr' i m e q1 q2).2).mono (fun _ _ h => h) (fun _ h => h) hsame⟩)
      cases r with
      | none =>
        refine fin (ms.push { key := iv, val := yv, born := c }) (c + 1) (es ++ [(p, y)]) ?_ (by simp [hn]) (fun i m e q1 q2 => ?_) hk
        · have := k2 hr
          simp only [execOp, ho, hxe, hie, hye, Instr.mapUpdate, Sem.run_bind, run_underlying' hu, Result.andThen_ok, MapKept.run_getObj_map hg, Sem.run_pure, k1, this, MapKept.run_setObj_map _ hg]
        · rcases Nat.lt_or_ge i ms.size with hi' | hi'
          · rw [Array.getElem?_push, if_neg (by omega)] at q1
            rw [List.getElem?_append_left (by omega)] at q2
            exact hrr i m e q1 q2
          · rw [List.getElem?_append_right (by omega)] at q2
            have hi2 : i - es.length = 0 := by
              have := (List.getElem?_eq_some_iff.1 q2).1
              simp at this; omega
            rw [hi2] at q2
            rw [Array.getElem?_push, if_pos (by omega)] at q1
            simp at q1 q2
            subst q1 q2
            exact ⟨kr w, hyv⟩
      | some r =>
        obtain ⟨j, v'⟩ := r
        obtain ⟨m0, e0, hm0, he0, rfl, heq, hf, hst⟩ := k3 j v' hr
        refine fin (ms.modify j fun e => { e with key := iv, val := yv }) c (es.set j (p, y)) ?_ (by simp [hn]) (fun i m e q1 q2 => ?_) hk
        · simp only [execOp, ho, hxe, hie, hye, Instr.mapUpdate, Sem.run_bind, run_underlying' hu, Result.andThen_ok, MapKept.run_getObj_map hg, Sem.run_pure, k1, hf, hm0, Option.map_some, Option.getD_some, hst, MapKept.run_setObj_map _ hg]
        · rw [Array.getElem?_modify] at q1
          by_cases hij : i = j
          · subst hij
            rw [if_pos rfl, hm0, Option.map_some] at q1
            rw [List.getElem?_set_self (by rw [← hn]; exact (Array.getElem?_eq_some_iff.1 hm0).1)] at q2
            simp at q1 q2
            subst q1 q2
            exact ⟨kr w, hyv⟩
          · rw [if_neg (fun h => hij h.symm)] at q1
            rw [List.getElem?_set_ne (fun h => hij h.symm)] at q2
            exact hrr i m e q1 q2
    · exact hk.elim
  · exact hk.elim
def rangeW (P : Program) (lab : Nat) (t : TypeId) (x : Option AV) (k : Eff → Prop) : Prop :=
  match P.underlying t, x with
  | some .string, some (.p (.str s)) => k ⟨some (.it lab), [(lab, some (.iter s 0))]⟩
  | _, _ => False
theorem snd_range (h : In σ w I T H w0 X I0 a lab) {t : TypeId} {x : Operand} (ho : o.op = .range t x) (hk : rangeW P lab t (ev T x) k) : Snd P o a w σ I H w0 X I0 lab k := by
  unfold rangeW at hk
  split at hk
  · rename_i s hu hx
    have hxv := h.ev hx
    generalize hxe : a.eval x = xv at hxv
    cases hxv with
    | p hxv =>
    cases hxv with
    | str =>
    have ext : ∀ l s, σ l = some s → upd σ lab (some (.obj w.heap.size)) l = some s := fun l s hl => by
      rw [upd_ne _ _ (by rintro rfl; rw [h.lab] at hl; cases hl)]
      exact hl
    have old : ∀ b, I b → (w.alloc (.stringIter ⟨⟨s⟩⟩ 0)).heap[b]? = w.heap[b]? := fun b hb => by
      have := (h.heap.imm b hb).1
      show (w.heap.push _)[b]? = _
      rw [Array.getElem?_push, if_neg (by omega)]
    have hget : (w.alloc (.stringIter ⟨⟨s⟩⟩ 0)).heap[w.heap.size]? = some (.stringIter ⟨⟨s⟩⟩ 0) := by
      show (w.heap.push _)[w.heap.size]? = _
      simp
    refine Snd.of (w' := w.alloc (.stringIter ⟨⟨s⟩⟩ 0)) (v := .pointer (some ⟨w.heap.size, 0, none⟩)) ?_ ⟨h.heap.alloc (w' := w.alloc (.stringIter ⟨⟨s⟩⟩ 0)) rfl rfl rfl rfl h.lab rfl (.iter (upd_same _ _ _) hget), ext, fun l hl => upd_ne _ _ hl, fun _ h => h, old, fun x hx => by injection hx with hx; subst hx; exact .it (upd_same _ _ _)⟩ hk
    simp [execOp, ho, hxe, Instr.range, run_underlying' hu, Result.andThen]
  · exact hk.elim
/-- The rune that stands at a place, and its width. -/
def runeAt (s : List UInt8) (p : Nat) : Nat × Nat := Utf8.decode ⟨⟨s⟩⟩ p
def nextW (x : Option AV) (H : Nat → Option Blk) (k : Eff → Prop) : Prop :=
  match x with
  | some (.it l) => match H l with
    | some (.iter s p) => if p < s.length then k ⟨some (.p (.tuple [.bool true, .int .i64 (p : Int), .int .i32 ((runeAt s p).1 : Int)])), [(l, some (.iter s (p + (runeAt s p).2)))]⟩ else k ⟨some (.p (.tuple [.bool false])), [(l, some (.iter s p))]⟩
    | _ => False
  | _ => False
theorem snd_next (h : In σ w I T H w0 X I0 a lab) {x : Operand} (ho : o.op = .next x true) (hk : nextW (ev T x) H k) : Snd P o a w σ I H w0 X I0 lab k := by
  unfold nextW at hk
  split at hk
  · rename_i l hx
    split at hk
    · rename_i s p hH
      have hxv := h.ev hx
      generalize hxe : a.eval x = xv at hxv
      have hb := h.heap.rows l _ hH
      cases hb with
      | iter h' hg =>
      cases hxv with
      | it hs =>
      rw [hs] at h'
      injection h' with h'
      injection h' with h'
      subst h'
      rename_i g
      obtain ⟨hni, _⟩ := h.heap.mine l g _ (by rw [hH]; simp) hs rfl
      have hlt : g < w.heap.size := (Array.getElem?_eq_some_iff.1 hg).1
      have hsz : (⟨⟨s⟩⟩ : ByteArray).size = s.length := rfl
      have hget : (getObj g).run P w = .ok (.stringIter ⟨⟨s⟩⟩ p) w := by simp [getObj, Sem.run, hg]
      split at hk
      · rename_i hp
        have hset : ∀ o, (setObj g o).run P w = .ok () { w with heap := w.heap.setIfInBounds g o } := fun o => by simp [setObj, Sem.run, hg]
        have hsame : ∀ b, I b → ({ w with heap := w.heap.setIfInBounds g (.stringIter ⟨⟨s⟩⟩ (p + (runeAt s p).2)) } : World).heap[b]? = w.heap[b]? := fun b hb => setIf_other w g _ b (fun e => hni (e ▸ hb))
        refine Snd.of (v := .tuple #[.bool true, .int .i64 (p : Int), .int .i32 ((runeAt s p).1 : Int)]) (w' := { w with heap := w.heap.setIfInBounds g (.stringIter ⟨⟨s⟩⟩ (p + (runeAt s p).2)) }) ?_ ⟨?_, fun _ _ h => h, fun _ _ => rfl, fun _ h => h, hsame, fun x hx => by
          injection hx with hx
          subst hx
          refine .p (.tuple rfl fun j u' q h1 h2 => ?_)
          match j, h1, h2 with
          | 0, h1, h2 => simp at h1 h2; subst h1; subst h2; exact .bool true
          | 1, h1, h2 => simp at h1 h2; subst h1; subst h2; exact .int _ _
          | 2, h1, h2 => simp at h1 h2; subst h1; subst h2; exact .int _ _
          | n + 3, h1, _ => simp at h1⟩ hk
        · simp only [execOp, ho, hxe, Instr.next, Sem.run_bind, hget, Result.andThen_ok]
          rw [hsz, if_pos hp]
          simp only [Sem.run_bind, hset, Result.andThen_ok, Sem.run_pure, runeAt, goInt]
        · have hat : ({ w with heap := w.heap.setIfInBounds g (.stringIter ⟨⟨s⟩⟩ (p + (runeAt s p).2)) } : World).heap[g]? = some (.stringIter ⟨⟨s⟩⟩ (p + (runeAt s p).2)) := by
            show (w.heap.setIfInBounds g _)[g]? = _
            simp [hlt]
          exact h.heap.write (w' := { w with heap := w.heap.setIfInBounds g (.stringIter ⟨⟨s⟩⟩ (p + (runeAt s p).2)) }) (s := .obj g) (g := g) (by rw [hH]; simp) hs rfl (fun b hb => setIf_other w g _ b hb) (by simp) rfl rfl rfl (.iter hs hat)
      · rename_i hp
        refine Snd.of (v := .tuple #[.bool false]) (w' := w) ?_ ⟨?_, fun _ _ h => h, fun _ _ => rfl, fun _ h => h, fun _ _ => rfl, fun x hx => by
          injection hx with hx
          subst hx
          refine .p (.tuple rfl fun j u' q h1 h2 => ?_)
          match j, h1, h2 with
          | 0, h1, h2 => simp at h1 h2; subst h1; subst h2; exact .bool false
          | n + 1, h1, _ => simp at h1⟩ hk
        · simp only [execOp, ho, hxe, Instr.next, Sem.run_bind, hget, Result.andThen_ok]
          rw [hsz, if_neg hp]
          simp [Result.andThen]
        · exact h.heap.write (s := .obj g) (g := g) (by rw [hH]; simp) hs rfl (fun b hb => rfl) rfl rfl rfl rfl (.iter hs hg)
    · exact hk.elim
  · exact hk.elim
end
end Go.Aw
