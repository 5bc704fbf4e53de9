/-
  Words for memory: what a slice reads as; what a call leaves; how one call's report is carried on to an earlier world.
-/
import Derived.WalkKit
import Derived.WalkSpells
import Derived.Lib.Hide
import Derived.Laws.IdiomStrings
import Derived.Laws.BytesArg
import Derived.Deep.Draws
import Derived.Deep.Quiet
namespace Go.Proofs.Ytnphoodoheccoaa
open Go.RowKit
set_option linter.unusedVariables false

/-- A call's report on memory, carried on to an earlier world. -/
theorem acc {P : Program} {f : FuncId} {args : Array Value} {w w0 : World} {B : Nat} {R : Ending → World → Prop}
    (h : Calls P f args w fun e w' => R e w' ∧ Below w.heap.size w w') (hb : Below B w0 w) (hB : B ≤ w0.heap.size) :
    Calls P f args w fun e w' => R e w' ∧ Below B w0 w' :=
  h.mono fun _ _ ⟨h1, h2⟩ => ⟨h1, hb.trans (h2.mono (Nat.le_trans hB hb.size))⟩
/-- The same, and the step itself is kept. -/
theorem acc2 {P : Program} {f : FuncId} {args : Array Value} {w w0 : World} {B : Nat} {R : Ending → World → Prop}
    (h : Calls P f args w fun e w' => R e w' ∧ Below w.heap.size w w') (hb : Below B w0 w) (hB : B ≤ w0.heap.size) :
    Calls P f args w fun e w' => R e w' ∧ Below w.heap.size w w' ∧ Below B w0 w' :=
  h.mono fun _ _ ⟨h1, h2⟩ => ⟨h1, h2, hb.trans (h2.mono (Nat.le_trans hB hb.size))⟩
/-- A call that leaves the world alone reports so. -/
theorem calm {P : Program} {f : FuncId} {args : Array Value} {w : World} {R : Ending → Prop}
    (h : Calls P f args w fun e w' => R e ∧ w = w') : Calls P f args w fun e w' => R e ∧ Below w.heap.size w w' :=
  h.mono fun _ _ ⟨h1, h2⟩ => ⟨h1, h2 ▸ Below.refl _ _⟩

/-- One element's cells: 'enc x', k of them. The slice value '.slice A n c' reads in w as the list xs. -/
def Rd {α : Type} (enc : α → List Value) (k : Nat) (w : World) (A : Option Addr) (n : Nat) (xs : List α) : Prop :=
  xs.length = n ∧ (0 < n → ∃ b off, A = some ⟨b, off, none⟩ ∧ b < w.heap.size ∧ ∀ j x, xs[j]? = some x → ∀ i v, (enc x)[i]? = some v → w.cell? ⟨b, off + j * k + i, none⟩ = some v)

section
variable {α : Type} {enc : α → List Value} {k : Nat} {w w' : World} {A : Option Addr} {n : Nat} {xs : List α}
theorem Rd.len (h : Rd enc k w A n xs) : xs.length = n := h.1
theorem Rd.none_ (enc : α → List Value) (k : Nat) (w : World) (A : Option Addr) : Rd enc k w A 0 [] := ⟨rfl, fun h => absurd h (by omega)⟩
theorem Rd.below (h : Rd enc k w A n xs) (hb : Below w.heap.size w w') : Rd enc k w' A n xs :=
  ⟨h.1, fun hn => by
    obtain ⟨b, off, e, hlt, hc⟩ := h.2 hn
    exact ⟨b, off, e, Nat.lt_of_lt_of_le hlt hb.size, fun j x hx i v hv => (hb.cell (p := ⟨b, off + j * k + i, none⟩) hlt).trans (hc j x hx i v hv)⟩⟩
theorem Rd.below' {B : Nat} {w0 : World} (h : Rd enc k w0 A n xs) (hb : Below B w0 w) (hB : B = w0.heap.size) : Rd enc k w A n xs := by
  subst hB; exact h.below hb
/-- The place of the slice, and what its cells hold. -/
theorem Rd.at_ (h : Rd enc k w A n xs) (hn : 0 < n) : ∃ b off, A = some ⟨b, off, none⟩ ∧ b < w.heap.size ∧ ∀ j x, xs[j]? = some x → ∀ i v, (enc x)[i]? = some v → w.cell? ⟨b, off + j * k + i, none⟩ = some v := h.2 hn
theorem Rd.get (h : Rd enc k w A n xs) {j : Nat} (hj : j < n) : ∃ x, xs[j]? = some x := ⟨xs[j]'(by rw [h.1]; exact hj), List.getElem?_eq_getElem _⟩
/-- Element j, all at once. -/
theorem Rd.elem (h : Rd enc k w A n xs) {j : Nat} (hj : j < n) : ∃ b off x, A = some ⟨b, off, none⟩ ∧ b < w.heap.size ∧ xs[j]? = some x ∧ ∀ i v, (enc x)[i]? = some v → w.cell? ⟨b, off + j * k + i, none⟩ = some v := by
  obtain ⟨b, off, e, hlt, hc⟩ := h.2 (by omega)
  obtain ⟨x, hx⟩ := h.get hj
  exact ⟨b, off, x, e, hlt, hx, hc j x hx⟩
end

theorem heap_alloc_mark (w : World) (C : Array Value) (t : TypeId) (lo hi : Nat) : (w.drew.alloc (.cells C t (lo, hi))).heap[w.heap.size]? = some (.cells C t (lo, hi)) := heap_alloc_new w.drew _
/-- Cells of one place each. -/
abbrev encS (s : ByteArray) : List Value := [.string s]
abbrev encI (n : Int) : List Value := [.int .i64 n]
abbrev encB (c : UInt8) : List Value := [.int .u8 (c.toNat : Int)]

theorem flat_get {α : Type} {enc : α → List Value} {k : Nat} (hk : ∀ x, (enc x).length = k) : ∀ (xs : List α) (j i : Nat) (x : α) (v : Value), xs[j]? = some x → (enc x)[i]? = some v → (xs.flatMap enc)[j * k + i]? = some v
  | [], j, i, x, v, h, _ => by simp at h
  | y :: r, 0, i, x, v, h, hv => by
    simp at h; subst h
    have hi : i < (enc y).length := (List.getElem?_eq_some_iff.1 hv).1
    rw [List.flatMap_cons, List.getElem?_append_left (by omega)]
    simpa using hv
  | y :: r, j + 1, i, x, v, h, hv => by
    have h' : r[j]? = some x := by simpa using h
    have ih := flat_get hk r j i x v h' hv
    rw [List.flatMap_cons, List.getElem?_append_right (by rw [hk]; rw [Nat.add_mul]; omega), hk]
    rw [show (j + 1) * k + i - k = j * k + i from by rw [Nat.add_mul]; omega]
    exact ih
theorem flat_len {α : Type} {enc : α → List Value} {k : Nat} (hk : ∀ x, (enc x).length = k) (xs : List α) : (xs.flatMap enc).length = xs.length * k := by
  induction xs with
  | nil => simp
  | cons x r ih => rw [List.flatMap_cons, List.length_append, hk, ih, List.length_cons, Nat.add_mul]; omega

theorem flat_set (l : List UInt8) (k : Nat) (c : UInt8) : (l.flatMap encB).set k (.int .u8 (c.toNat : Int)) = (l.set k c).flatMap encB := by
  induction l generalizing k with
  | nil => rfl
  | cons x r ih =>
    cases k with
    | zero => rfl
    | succ k =>
      rw [List.flatMap_cons, List.set_cons_succ, List.flatMap_cons, ← ih k]
      rfl
/-- What the call owns reads as the list. -/
theorem Rd.of_own {α : Type} {enc : α → List Value} {k : Nat} (hk : ∀ x, (enc x).length = k) {w : World} {base : Nat} {e : TypeId} {A : Option Addr} {n c : Nat} {xs : List α}
    (h : w.ownsRow base e k (.slice A n c) n (xs.flatMap enc)) (hl : xs.length = n) : Rd enc k w A n xs := by
  refine ⟨hl, fun hn => ?_⟩
  rcases h.2 with ⟨hv, h0⟩ | ⟨g, cap, cur, hv, hg, hh, hnc, hcm, hcs, ht⟩
  · omega
  · injection hv with hA _ _
    subst hA
    refine ⟨g, 0, rfl, (Array.getElem?_eq_some_iff.1 hh).1, fun j x hx i v hv => ?_⟩
    have h1 := flat_get hk xs j i x v hx hv
    rw [← ht, List.getElem?_take] at h1
    split at h1
    · rw [cell_of_row w g _ cur e (0, 0) hh]
      simpa using h1
    · cases h1
theorem rdS {w : World} {base : Nat} {e : TypeId} {A : Option Addr} {n c : Nat} {xs : List (List UInt8)} (h : w.ownsRow base e 1 (.slice A n c) n (xs.flatMap fun l => [Value.string ⟨l.toArray⟩])) (hl : xs.length = n) :
    Rd (fun l : List UInt8 => [Value.string ⟨l.toArray⟩]) 1 w A n xs := Rd.of_own (enc := fun l : List UInt8 => [Value.string ⟨l.toArray⟩]) (k := 1) (fun _ => rfl) h hl
/-- All cells of one element at once. -/
theorem run_loadElem {P : Program} {α : Type} {enc : α → List Value} {k : Nat} (hk : ∀ x, (enc x).length = k) {w : World} {b o : Nat} {x : α} (h : ∀ i v, (enc x)[i]? = some v → w.cell? ⟨b, o + i, none⟩ = some v) :
    Sem.run P (loadCellsFrom ⟨b, o, none⟩ 0 k #[]) w = .ok (enc x).toArray w :=
  by
    have := run_loadCells_list (P := P) (w := w) ⟨b, o, none⟩ (enc x) (fun i v hv => by rw [Addr.add_lit]; exact h i v hv)
    rw [hk] at this
    exact this
/-- The slice value's form. -/
theorem own_form {w : World} {base : Nat} {e : TypeId} {k n : Nat} {v : Value} {xs : List Value} (h : w.ownsRow base e k v n xs) : ∃ A c, v = .slice A n c := by
  rcases h.2 with ⟨rfl, rfl⟩ | ⟨g, cap, cur, rfl, _⟩
  · exact ⟨none, 0, rfl⟩
  · exact ⟨_, _, rfl⟩
theorem own_mono {w : World} {base base' : Nat} {e : TypeId} {k n : Nat} {v : Value} {xs : List Value} (h : w.ownsRow base e k v n xs) (hb : base' ≤ base) : w.ownsRow base' e k v n xs := by
  refine ⟨h.1, ?_⟩
  rcases h.2 with hn | ⟨g, cap, cur, hv, hg, r⟩
  · exact .inl hn
  · exact .inr ⟨g, cap, cur, hv, by omega, r⟩
/-- What is owned stays owned over a step that leaves what lay there alone. -/
theorem own_below {w w' : World} {base : Nat} {e : TypeId} {k n : Nat} {v : Value} {xs : List Value} (h : w.ownsRow base e k v n xs) (hb : Below w.heap.size w w') : w'.ownsRow base e k v n xs := by
  refine ⟨h.1, ?_⟩
  rcases h.2 with hn | ⟨g, cap, cur, hv, hg, hh, r⟩
  · exact .inl hn
  · exact .inr ⟨g, cap, cur, hv, hg, (hb.block g (Array.getElem?_eq_some_iff.1 hh).1).trans hh, r⟩

/-- A block of the call's own, whose first cells are xs and may be written. -/
def Buf (w : World) (g : Nat) (xs : List Value) : Prop :=
  ∃ cs t lo hi, w.heap[g]? = some (.cells cs t (lo, hi)) ∧ xs.length ≤ cs.size ∧ cs.toList.take xs.length = xs ∧ ∀ j, j < xs.length → ¬ (lo ≤ j ∧ j < hi)
section
variable {w w' : World} {g : Nat} {xs : List Value}
theorem Buf.lt (h : Buf w g xs) : g < w.heap.size := by
  obtain ⟨cs, t, lo, hi, hh, _⟩ := h
  exact (Array.getElem?_eq_some_iff.1 hh).1
theorem Buf.cell (h : Buf w g xs) {j : Nat} {v : Value} (hj : xs[j]? = some v) : w.cell? ⟨g, j, none⟩ = some v := by
  obtain ⟨cs, t, lo, hi, hh, hl, ht, hf⟩ := h
  have hc : w.cell? ⟨g, j, none⟩ = cs[j]? := by simp [World.cell?, hh]
  have hjl : j < xs.length := (List.getElem?_eq_some_iff.1 hj).1
  rw [← ht, List.getElem?_take, if_pos hjl] at hj
  rw [hc]; simpa using hj
theorem Buf.frozen (h : Buf w g xs) {j : Nat} (hj : j < xs.length) : w.frozen? ⟨g, j, none⟩ = false := by
  obtain ⟨cs, t, lo, hi, hh, hl, ht, hf⟩ := h
  have hn := hf j hj
  simp only [World.frozen?, hh]
  simp only [Bool.and_eq_false_iff, decide_eq_false_iff_not]
  omega
theorem Buf.below (h : Buf w g xs) (hb : Below w.heap.size w w') : Buf w' g xs := by
  have hg := h.lt
  obtain ⟨cs, t, lo, hi, hh, r⟩ := h
  exact ⟨cs, t, lo, hi, (hb.block g hg).trans hh, r⟩
theorem Buf.set (h : Buf w g xs) (j : Nat) (v : Value) : Buf (w.setCell ⟨g, j, none⟩ v) g (xs.set j v) := by
  obtain ⟨cs, t, lo, hi, hh, hl, ht, hf⟩ := h
  refine ⟨cs.setIfInBounds j v, t, lo, hi, ?_, by simpa using hl, ?_, by simpa using hf⟩
  · simp [World.setCell, Array.getElem?_modify, hh]
  · rw [Array.toList_setIfInBounds, List.length_set, List.take_set, ht]
theorem Buf.other (h : Buf w g xs) {p : Addr} (hp : g ≠ p.block) (v : Value) : Buf (w.setCell p v) g xs := by
  obtain ⟨cs, t, lo, hi, hh, r⟩ := h
  exact ⟨cs, t, lo, hi, (Below.heap_setCell w p v g hp).trans hh, r⟩
theorem Buf.alloc (h : Buf w g xs) (o : Obj) : Buf (w.alloc o) g xs := by
  have hg := h.lt
  obtain ⟨cs, t, lo, hi, hh, r⟩ := h
  exact ⟨cs, t, lo, hi, (Below.heap_alloc w o g hg).trans hh, r⟩
theorem Buf.drew (h : Buf w g xs) : Buf w.drew g xs := h
theorem Buf.rd {α : Type} {enc : α → List Value} {k : Nat} (hk : ∀ x, (enc x).length = k) {zs : List α} {n : Nat} (h : Buf w g (zs.flatMap enc)) (hn : zs.length = n) : Rd enc k w (some ⟨g, 0, none⟩) n zs :=
  ⟨hn, fun _ => ⟨g, 0, rfl, h.lt, fun j x hx i v hv => by
    rw [Nat.zero_add]; exact h.cell (flat_get hk zs j i x v hx hv)⟩⟩
theorem Buf.of_own {base : Nat} {e : TypeId} {k n c : Nat} (h : w.ownsRow base e k (.slice (some ⟨g, 0, none⟩) n c) n xs) : Buf w g xs := by
  rcases h.2 with ⟨hv, _⟩ | ⟨g', cap, cur, hv, hg, hh, hnc, hcm, hcs, ht⟩
  · cases hv
  · simp only [Value.slice.injEq, Option.some.injEq, Addr.mk.injEq, and_true, true_and] at hv
    obtain ⟨rfl, rfl⟩ := hv
    have hl := h.1
    refine ⟨cur, e, 0, 0, hh, ?_, by rw [hl]; exact ht, fun j _ => by omega⟩
    rw [hl, hcs]; exact Nat.mul_le_mul_right _ hnc
end

/-- '[]byte(s)': a block of the call's own that holds the bytes. -/
theorem wpList_toBytes {P : Program} {w : World} {ops : Array Oper} {rest : List Oper} {o : Oper} {a : Act} {Q : Exit → Act → World → Prop} (hgd : o.guard = none)
    (src dst e : TypeId) (x : Operand) (hop : o.op = Op.convert src dst x) (hs : P.underlying src = some .string) (hd : P.underlying dst = some (.slice e)) (he : P.underlying e = some (.int .u8))
    (s : ByteArray) (hx : a.eval x = .string s)
    (hK : ∀ w' g cap, Buf w' g (s.data.toList.flatMap encB) → Below w.heap.size w w' → w.heap.size ≤ g → s.size ≤ cap → wpList P ops Q rest (a.put o.dst (.slice (some ⟨g, 0, none⟩) s.size cap)) w') :
    wpList P ops Q (o :: rest) a w := by
  refine wpList_plain hgd fun K hK' => ?_
  have hrun := run_bytes_of_string (P := P) w src dst e s hs hd he
  unfold Oper.wp
  simp only [execOp, hop, hx, hrun, Result.andThen, Sem.run_bind, Sem.run_pure, Oper.upon]
  refine hK' _ _ (hK _ w.heap.size _ ?_ (((Below.refl _ w).drew).alloc (Nat.le_refl _) _) (Nat.le_refl _) (grownCap_ge w _ _ _))
  have hlen : (s.data.toList.flatMap encB) = s.data.toList.map (fun b => Value.int .u8 (b.toNat : Int)) := by
    generalize s.data.toList = l
    induction l with
    | nil => rfl
    | cons c r ih => rw [List.flatMap_cons, ih]; rfl
  rw [hlen]
  refine ⟨bytesRow s (grownCap w s.size 0 e), e, _, _, heap_alloc_mark w _ _ _ _, ?_, ?_, ?_⟩
  · rw [List.length_map, Array.length_toList]; unfold bytesRow; rw [Array.size_append, Array.size_map]; omega
  · simp only [bytesRow, Array.toList_append, Array.toList_map, List.length_map]
    rw [List.take_append_of_le_length (by simp)]
    exact List.take_of_length_le (by simp)
  · intro j hj
    have : (bytesRow s (grownCap w s.size 0 e)).size ≥ s.data.toList.length := by simp [bytesRow]
    simp only [List.length_map] at hj
    omega
/-- 'string(b)'. -/
theorem run_ofBytes {P : Program} {w : World} (src dst e : TypeId) (hs : P.underlying src = some (.slice e)) (he : P.underlying e = some (.int .u8)) (hd : P.underlying dst = some .string)
    {A : Option Addr} {n : Nat} {l : List UInt8} (h : Rd encB 1 w A n l) (c : Nat) : (convert src dst (.slice A n c)).run P w = .ok (.string ⟨l.toArray⟩) w := by
  obtain ⟨rfl, h2⟩ := h
  by_cases hn : 0 < l.length
  · obtain ⟨b, off, rfl, hb, hc⟩ := h2 hn
    refine run_convert_bytes_back w src dst e ⟨b, off, none⟩ c l hs he hd (fun j hj => ?_)
    have := hc j l[j] (List.getElem?_eq_getElem hj) 0 _ rfl
    rw [Addr.add_lit]
    simpa using this
  · have : l = [] := List.eq_nil_of_length_eq_zero (by omega)
    subst this
    cases A with
    | none => exact (run_convert_bytes_nil w src e hs he 0 c dst hd).trans rfl
    | some ad => exact run_convert_bytes_back w src dst e ad c [] hs he hd (fun j hj => absurd hj (by simp))

/-- A new block reads as what was laid in it. -/
theorem Rd.new {α : Type} {enc : α → List Value} {k : Nat} (hk : ∀ x, (enc x).length = k) (w : World) (cs : Array Value) (e : TypeId) {n : Nat} (zs : List α) (hz : cs.toList = zs.flatMap enc) (hn : zs.length = n) :
    Rd enc k (w.alloc (.cells cs e)) (some ⟨w.heap.size, 0, none⟩) n zs :=
  ⟨hn, fun _ => ⟨w.heap.size, 0, rfl, by simp, fun j x hx i v hv => by
    rw [World.cell?_alloc_mark, Nat.zero_add, ← Array.getElem?_toList, hz]
    exact flat_get hk zs j i x v hx hv⟩⟩

/-- 'append(out, ys...)', out nil or the call's own, ys any slice that reads as a list. -/
theorem wpList_app {α : Type} {enc : α → List Value} {k : Nat} (hk : ∀ x, (enc x).length = k) (h1c : ∀ x, ∀ u ∈ enc x, u.oneCell' = true) (hk0 : 0 < k)
    {P : Program} {w : World} {ops : Array Oper} {rest : List Oper} {o : Oper} {a : Act} {Q : Exit → Act → World → Prop} (hgd : o.guard = none) (s x : Operand) (t e : TypeId)
    (ho : o.op = .call { callee := .builtin .append, args := #[s, x], argTypes := #[t, t] })
    (z : Value) (bytes : Nat) (ht : P.underlying t = some (.slice e)) (hinfo : (P.info? e).map (fun i => (i.zero, i.size, i.bytes)) = some (some z, k, bytes)) (hzs : z.cells.size = k)
    (base : Nat) (v : Value) (xs : List α) (hs : a.eval s = v) (hown : w.ownsRow base e k v xs.length (xs.flatMap enc))
    (A : Option Addr) (m c : Nat) (ys : List α) (hx : a.eval x = .slice A m c) (hr : Rd enc k w A m ys)
    (hbytes : (xs.length + m) * bytes ≤ 140737488355328) (hb1 : 1 ≤ bytes) (hbase : base ≤ w.heap.size)
    (hK : ∀ v' w', w'.ownsRow base e k v' (xs ++ ys).length ((xs ++ ys).flatMap enc) → Below base w w' → wpList P ops Q rest (a.put o.dst v') w') :
    wpList P ops Q (o :: rest) a w := by
  obtain ⟨i, hi, hz0, hz1, hz2⟩ := info_parts hinfo
  have hlm : ys.length = m := hr.1
  have h63 : xs.length + m ≤ maxLen := by
    have := Nat.le_trans (Nat.le_mul_of_pos_right (xs.length + m) hb1) hbytes
    unfold maxLen; omega
  have hflat : (xs ++ ys).flatMap enc = xs.flatMap enc ++ ys.flatMap enc := List.flatMap_append
  have hownlt : ∀ j, v.ownBlock = some j → base ≤ j := fun j hj => (hown.lt j hj).1
  have hgr : ∀ w', w.grownBy w' v.ownBlock → Below base w w' := fun w' hg => (Below.refl base w).grown hg hbase hownlt
  cases A with
  | some ad =>
    refine wpList_append_own w hgd s x t ho base e i z k bytes ht hi hz0 hz1 hz2 hzs hk0 v xs.length (xs.flatMap enc) hs hown ad m c (ys.flatMap enc) hx ?_ ?_ ?_ h63 hbytes hbase ?_
    · rw [flat_len hk, hlm]
    · intro j u hu
      have hj : j < (ys.flatMap enc).length := (List.getElem?_eq_some_iff.1 hu).1
      rw [flat_len hk, hlm] at hj
      have hm : 0 < m := Nat.pos_of_ne_zero (fun h => by subst h; simp at hj)
      obtain ⟨b, off, he, hb, hc⟩ := hr.2 hm
      injection he with he
      subst he
      have hq : j / k < m := Nat.div_lt_of_lt_mul (by rw [Nat.mul_comm]; exact hj)
      obtain ⟨y, hy⟩ := hr.get hq
      have hlt : j % k < (enc y).length := by rw [hk]; exact Nat.mod_lt _ hk0
      have h1 := flat_get hk ys (j / k) (j % k) y _ hy (List.getElem?_eq_getElem hlt)
      have hjj : j / k * k + j % k = j := by rw [Nat.mul_comm]; exact Nat.div_add_mod j k
      rw [hjj, hu] at h1
      have h2 := hc (j / k) y hy (j % k) _ (List.getElem?_eq_getElem hlt)
      rw [Addr.add_lit, ← hjj, ← Nat.add_assoc, h2, h1]
    · intro u hu
      obtain ⟨y, _, hy⟩ := List.mem_flatMap.1 hu
      exact h1c y u hy
    · intro v' w' hown' hg _
      refine hK v' w' ?_ (hgr w' hg)
      rw [hflat, List.length_append, hlm]
      exact hown'
  | none =>
    have hm : m = 0 := by
      rcases Nat.eq_zero_or_pos m with h | h
      · exact h
      · obtain ⟨b, off, he, _⟩ := hr.2 h
        cases he
    subst hm
    have hy : ys = [] := List.eq_nil_of_length_eq_zero hlm
    subst hy
    refine wpList_plain hgd fun K hK' => ?_
    have hrun : (Builtin.append_ #[t, t] o.type #[v, .slice none 0 c]).run P w = .ok v w := by
      rcases hown.2 with ⟨rfl, _⟩ | ⟨g, cap, cur, rfl, _, _, hnc, _⟩
      · simp [Builtin.append_, run_underlying ht, sizeOf, typeInfo, hi, Builtin.lenOf, Builtin.firstCells]
      · simp [Builtin.append_, run_underlying ht, sizeOf, typeInfo, hi, Builtin.lenOf, Builtin.firstCells, hnc, storeCells]
    unfold Oper.wp
    simp [execOp, ho, resolve, invoke, builtin, hs, hx, hrun, Result.andThen]
    exact hK' _ _ (hK v w (by simpa using hown) (Below.refl _ _))

/-- The call returns a slice of its own that reads as xs, and leaves alone what lay there. -/
def RetOwn {α : Type} (enc : α → List Value) (k : Nat) (e : TypeId) (w : World) (xs : List α) (en : Ending) (w' : World) : Prop :=
  ∃ A c, en = .returned (.slice A xs.length c) ∧ w'.ownsRow w.heap.size e k (.slice A xs.length c) xs.length (xs.flatMap enc) ∧ Below w.heap.size w w'
theorem retOwn_mk {α : Type} {enc : α → List Value} {k : Nat} {e : TypeId} {w w' : World} {xs : List α} {v : Value}
    (h : w'.ownsRow w.heap.size e k v xs.length (xs.flatMap enc)) (hb : Below w.heap.size w w') : RetOwn enc k e w xs (.returned v) w' := by
  have h2 := h.2
  rcases h2 with ⟨rfl, h0⟩ | ⟨g, cap, cur, rfl, _⟩
  · refine ⟨none, 0, by rw [h0], ?_, hb⟩
    rw [h0] at h ⊢
    exact h
  · exact ⟨_, cap, rfl, h, hb⟩
/-! ### a step that may write one block of the call's own -/
theorem gb_trans {a b c : World} {row : Option Nat} (h : a.grownBy b row) (k : b.grownBy c row) : a.grownBy c row :=
  ⟨k.os.trans h.os, k.tape.trans h.tape, k.output.trans h.output, Nat.le_trans h.size k.size, fun i hi hne => (k.block i (Nat.lt_of_lt_of_le hi h.size) hne).trans (h.block i hi hne)⟩
theorem gb_below {a b : World} (row : Option Nat) (h : Below a.heap.size a b) : a.grownBy b row := ⟨h.os, h.tape, h.output, h.size, fun i hi _ => h.block i hi⟩
theorem gb_drewN {a b : World} {row : Option Nat} (h : a.grownBy b row) (n : Nat) : a.grownBy (b.drewN n) row := ⟨h.os, h.tape, h.output, h.size, h.block⟩
theorem gb_to_below {a b : World} {row : Option Nat} {B : Nat} (h : a.grownBy b row) (hB : B ≤ a.heap.size) (hr : ∀ k, row = some k → B ≤ k) : Below B a b := (Below.refl B a).grown h hB hr
theorem below_drewN {B : Nat} {a w : World} (h : Below B a w) (n : Nat) : Below B a (w.drewN n) := ⟨h.os, h.tape, h.output, h.size, h.block⟩
theorem own_drewN {w : World} {base : Nat} {e : TypeId} {k n : Nat} {v : Value} {xs : List Value} (h : w.ownsRow base e k v n xs) (m : Nat) : (w.drewN m).ownsRow base e k v n xs := h
/-- Two slices of the call's own, the younger one written: the elder stays. -/
theorem own_apart {w w' : World} {b1 b2 : Nat} {e1 e2 : TypeId} {k1 k2 n1 n2 : Nat} {v1 v2 : Value} {xs1 xs2 : List Value}
    (h1 : w.ownsRow b1 e1 k1 v1 n1 xs1) (hlt : ∀ j, v1.ownBlock = some j → j < b2) (h2 : w.ownsRow b2 e2 k2 v2 n2 xs2) (hg : w.grownBy w' v2.ownBlock) : w'.ownsRow b1 e1 k1 v1 n1 xs1 := by
  refine h1.kept hg ?_
  cases hv : v1.ownBlock with
  | none => exact .inl rfl
  | some j =>
    refine .inr fun he => ?_
    have := hlt j hv
    have := (h2.lt j he.symm).1
    omega
theorem own_lt {w : World} {base : Nat} {e : TypeId} {k n : Nat} {v : Value} {xs : List Value} (h : w.ownsRow base e k v n xs) {B : Nat} (hB : w.heap.size ≤ B) : ∀ j, v.ownBlock = some j → j < B :=
  fun j hj => Nat.lt_of_lt_of_le (h.lt j hj).2 hB

/-! ### the first place at which a test holds -/
def ixOf {α : Type} (p : α → Bool) (l : List α) : Int := match l.findIdx? p with | some i => (i : Int) | none => -1
theorem ixOf_hit {α : Type} {p : α → Bool} {l : List α} {k : Nat} {x : α} (hx : l[k]? = some x) (hp : p x = true) (hn : ∀ (j : Nat) (y : α), j < k → l[j]? = some y → p y = false) : ixOf p l = k := by
  have h : l.findIdx? p = some k := by
    rw [List.findIdx?_eq_some_iff_getElem]
    obtain ⟨hk, e⟩ := List.getElem?_eq_some_iff.1 hx
    exact ⟨hk, by rw [e]; exact hp, fun j hj => by rw [hn j _ hj (List.getElem?_eq_getElem (by omega))]; simp⟩
  unfold ixOf; rw [h]
theorem ixOf_miss {α : Type} {p : α → Bool} {l : List α} (hn : ∀ (j : Nat) (y : α), l[j]? = some y → p y = false) : ixOf p l = -1 := by
  have h : l.findIdx? p = none := by
    rw [List.findIdx?_eq_none_iff]
    intro x hx
    obtain ⟨j, hj, e⟩ := List.getElem_of_mem hx
    exact hn j x (by rw [List.getElem?_eq_getElem hj, e])
  unfold ixOf; rw [h]
theorem ixOf_any {α : Type} (p : α → Bool) (l : List α) : decide (0 ≤ ixOf p l) = l.any p := by
  unfold ixOf
  cases h : l.findIdx? p with
  | none =>
    rw [List.findIdx?_eq_none_iff] at h
    have : l.any p = false := by rw [List.any_eq_false]; intro x hx; simp [h x hx]
    rw [this]; rfl
  | some i =>
    have : l.any p = true := by
      rw [List.findIdx?_eq_some_iff_getElem] at h
      obtain ⟨hi, hp, _⟩ := h
      rw [List.any_eq_true]
      exact ⟨l[i], List.getElem_mem hi, hp⟩
    rw [this]; simp
/-- What is asked of a test that a library function is handed: it answers p, and makes at most memory of its own. -/
def Pays (P : Program) (g : Nat) (lb : Array Value) {α : Type} (arg : α → Value) (p : α → Bool) (w : World) : Prop :=
  ∀ (W : World) (x : α), Below w.heap.size w W → Calls P g (#[arg x] ++ lb) W fun e w' => e = .returned (.bool (p x)) ∧ Below W.heap.size W w'
/-- The same where the test is asked only of the elements at hand. -/
def PaysAt (P : Program) (g : Nat) (lb : Array Value) {α : Type} (arg : α → Value) (p : α → Bool) (w : World) (xs : List α) : Prop :=
  ∀ (W : World) (x : α), x ∈ xs → Below w.heap.size w W → Calls P g (#[arg x] ++ lb) W fun e w' => e = .returned (.bool (p x)) ∧ Below W.heap.size W w'

theorem made_flat {α : Type} {enc : α → List Value} (y : α) (k n : Nat) (hk0 : 0 < k) (hy : (enc y).length = k) : (madeCells (enc y).toArray (n * k)).toList = (List.replicate n y).flatMap enc := by
  apply List.ext_getElem?
  intro j
  by_cases hj : j < n * k
  · have hq : j / k < n := Nat.div_lt_of_lt_mul (by rw [Nat.mul_comm]; exact hj)
    have hr : j % k < (enc y).length := by rw [hy]; exact Nat.mod_lt _ hk0
    have h1 : (List.replicate n y)[j / k]? = some y := by simp [hq]
    have hlen : ∀ m, ((List.replicate m y).flatMap enc).length = m * k := by
      intro m
      induction m with
      | zero => simp
      | succ m ih => rw [List.replicate_succ, List.flatMap_cons, List.length_append, ih, hy, Nat.add_mul]; omega
    have h2 : ∀ m q, q < m → ((List.replicate m y).flatMap enc)[q * k + j % k]? = (enc y)[j % k]? := by
      intro m
      induction m with
      | zero => intro q hq; omega
      | succ m ih =>
        intro q hq
        rw [List.replicate_succ, List.flatMap_cons]
        cases q with
        | zero => rw [Nat.zero_mul, Nat.zero_add, List.getElem?_append_left hr]
        | succ q =>
          rw [List.getElem?_append_right (by rw [hy, Nat.add_mul]; omega), hy]
          rw [show (q + 1) * k + j % k - k = q * k + j % k from by rw [Nat.add_mul]; omega]
          exact ih q (by omega)
    have h3 := h2 n (j / k) hq
    rw [show j / k * k + j % k = j from by rw [Nat.mul_comm]; exact Nat.div_add_mod j k] at h3
    rw [h3]
    simp [madeCells, hj, hy]
    rw [List.getElem?_eq_getElem (by omega)]; rfl
  · rw [List.getElem?_eq_none, List.getElem?_eq_none]
    · have hlen : ∀ m, ((List.replicate m y).flatMap enc).length = m * k := by
        intro m
        induction m with
        | zero => simp
        | succ m ih => rw [List.replicate_succ, List.flatMap_cons, List.length_append, ih, hy, Nat.add_mul]; omega
      rw [hlen]; omega
    · simp [madeCells]; omega

/-- 'make([]T, n)'. -/
theorem wpList_mk {α : Type} {enc : α → List Value} (y0 : α) {k : Nat} (hk0 : 0 < k) (hy : (enc y0).length = k)
    {P : Program} {w : World} {ops : Array Oper} {rest : List Oper} {o : Oper} {a : Act} {Q : Exit → Act → World → Prop} (hgd : o.guard = none) (l c : Operand) (t e : TypeId) (hop : o.op = Op.makeSlice t l c)
    (z : Value) (bytes : Nat) (ht : P.underlying t = some (.slice e)) (hinfo : (P.info? e).map (fun i => (i.zero, i.size, i.bytes)) = some (some z, k, bytes)) (hz : z.cells = (enc y0).toArray)
    (n : Nat) (hl : a.eval l = .int .i64 n) (hc : a.eval c = .int .i64 n) (hn : n * bytes ≤ 140737488355328) (hn2 : n ≤ 9223372036854775807)
    (hK : ∀ w' g, w'.ownsRow w.heap.size e k (.slice (some ⟨g, 0, none⟩) n n) n ((List.replicate n y0).flatMap enc) → w.heap.size ≤ g → Below w.heap.size w w' → wpList P ops Q rest (a.put o.dst (.slice (some ⟨g, 0, none⟩) n n)) w') :
    wpList P ops Q (o :: rest) a w := by
  obtain ⟨i, hi, hz0, hz1, hz2⟩ := info_parts hinfo
  refine wpList_make_full w hgd l c t hop w.heap.size e i z k ht hi hz0 hz1 .i64 .i64 _ _ n hl hc rfl rfl (by rw [hz2, Nat.mul_comm]; omega) (by unfold maxLen; omega) (Nat.le_refl _) ?_
  intro w' hown hg
  rw [hz, made_flat y0 k n hk0 hy] at hown
  exact hK w' w.heap.size hown (Nat.le_refl _) (gb_to_below hg (Nat.le_refl _) (fun k hk => by cases hk))

theorem ret_b {a b : Bool} (h : a = b) : Ending.returned (.bool a) = .returned (.bool b) := by rw [h]
theorem ret_i {k : IntKind} {a b : Int} (h : a = b) : Ending.returned (.int k a) = .returned (.int k b) := by rw [h]
theorem ret_s {a b : ByteArray} (h : a = b) : Ending.returned (.string a) = .returned (.string b) := by rw [h]
theorem ret_ib {k : IntKind} {a b : Int} {c d : Bool} (h : a = b) (h2 : c = d) : Ending.returned (.tuple #[.int k a, .bool c]) = .returned (.tuple #[.int k b, .bool d]) := by rw [h, h2]
theorem ret_sb {a b : ByteArray} {c d : Bool} (h : a = b) (h2 : c = d) : Ending.returned (.tuple #[.string a, .bool c]) = .returned (.tuple #[.string b, .bool d]) := by rw [h, h2]
theorem ret_si {k : IntKind} {a b : ByteArray} {c d : Int} (h : a = b) (h2 : c = d) : Ending.returned (.tuple #[.string a, .int k c]) = .returned (.tuple #[.string b, .int k d]) := by rw [h, h2]
theorem str_eq {s : ByteArray} {l : List UInt8} (h : s.data.toList = l) : s = ⟨l.toArray⟩ := by
  cases s; subst h; simp
theorem size_len (s : ByteArray) : s.size = s.data.toList.length := by rw [Array.length_toList]; rfl
end Go.Proofs.Ytnphoodoheccoaa
