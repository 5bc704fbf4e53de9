/-
  Words for memory: what a slice reads as; what a call leaves; how one call's report is carried on to an earlier world.
-/
import Derived.WalkKit
import Derived.WalkSpells
import Derived.Lib.Hide
namespace Go.Proofs.Ytplbijibddnfjaa
open Go.RowKit
set_option linter.unusedVariables false

/-- A call's report on memory, carried on to an earlier world. -/
theorem acc {P : Program} {f : FuncId} {args : Array Value} {w w0 : World} {B : Nat} {R : Ending → World → Prop}
    (h : Calls P f args w fun e w' => R e w' ∧ Below w.heap.size w w') (hb : Below B w0 w) (hB : B ≤ w0.heap.size) :
    Calls P f args w fun e w' => R e w' ∧ Below B w0 w' :=
  h.mono fun _ _ ⟨h1, h2⟩ => ⟨h1, hb.trans (h2.mono (Nat.le_trans hB hb.size))⟩
/-- The same, and the step itself is kept. -/
theorem acc2 {P : Program} {f : FuncId} {args : Array Value} {w w0 : World} {B : Nat} {R : Ending → World → Prop}
    (h : Calls P f args w fun e w' => R e w' ∧ Below w.heap.size w w') (hb : Below B w0 w) (hB : B ≤ w0.heap.size) :
    Calls P f args w fun e w' => R e w' ∧ Below w.heap.size w w' ∧ Below B w0 w' :=
  h.mono fun _ _ ⟨h1, h2⟩ => ⟨h1, h2, hb.trans (h2.mono (Nat.le_trans hB hb.size))⟩
/-- A call that leaves the world alone reports so. -/
theorem calm {P : Program} {f : FuncId} {args : Array Value} {w : World} {R : Ending → Prop}
    (h : Calls P f args w fun e w' => R e ∧ w = w') : Calls P f args w fun e w' => R e ∧ Below w.heap.size w w' :=
  h.mono fun _ _ ⟨h1, h2⟩ => ⟨h1, h2 ▸ Below.refl _ _⟩

/-- One element's cells: 'enc x', k of them. The slice value '.slice A n c' reads in w as the list xs. -/
def Rd {α : Type} (enc : α → List Value) (k : Nat) (w : World) (A : Option Addr) (n : Nat) (xs : List α) : Prop :=
  xs.length = n ∧ (0 < n → ∃ b off, A = some ⟨b, off, none⟩ ∧ b < w.heap.size ∧ ∀ j x, xs[j]? = some x → ∀ i v, (enc x)[i]? = some v → w.cell? ⟨b, off + j * k + i, none⟩ = some v)

section
variable {α : Type} {enc : α → List Value} {k : Nat} {w w' : World} {A : Option Addr} {n : Nat} {xs : List α}
theorem Rd.len (h : Rd enc k w A n xs) : xs.length = n := h.1
theorem Rd.none_ (enc : α → List Value) (k : Nat) (w : World) (A : Option Addr) : Rd enc k w A 0 [] := ⟨rfl, fun h => absurd h (by omega)⟩
theorem Rd.below (h : Rd enc k w A n xs) (hb : Below w.heap.size w w') : Rd enc k w' A n xs :=
  ⟨h.1, fun hn => by
    obtain ⟨b, off, e, hlt, hc⟩ := h.2 hn
    exact ⟨b, off, e, Nat.lt_of_lt_of_le hlt hb.size, fun j x hx i v hv => (hb.cell (p := ⟨b, off + j * k + i, none⟩) hlt).trans (hc j x hx i v hv)⟩⟩
theorem Rd.below' {B : Nat} {w0 : World} (h : Rd enc k w0 A n xs) (hb : Below B w0 w) (hB : B = w0.heap.size) : Rd enc k w A n xs := by
  subst hB; exact h.below hb
/-- The place of the slice, and what its cells hold. -/
theorem Rd.at_ (h : Rd enc k w A n xs) (hn : 0 < n) : ∃ b off, A = some ⟨b, off, none⟩ ∧ b < w.heap.size ∧ ∀ j x, xs[j]? = some x → ∀ i v, (enc x)[i]? = some v → w.cell? ⟨b, off + j * k + i, none⟩ = some v := h.2 hn
theorem Rd.get (h : Rd enc k w A n xs) {j : Nat} (hj : j < n) : ∃ x, xs[j]? = some x := ⟨xs[j]'(by rw [h.1]; exact hj), List.getElem?_eq_getElem _⟩
/-- Element j, all at once. -/
theorem Rd.elem (h : Rd enc k w A n xs) {j : Nat} (hj : j < n) : ∃ b off x, A = some ⟨b, off, none⟩ ∧ b < w.heap.size ∧ xs[j]? = some x ∧ ∀ i v, (enc x)[i]? = some v → w.cell? ⟨b, off + j * k + i, none⟩ = some v := by
  obtain ⟨b, off, e, hlt, hc⟩ := h.2 (by omega)
  obtain ⟨x, hx⟩ := h.get hj
  exact ⟨b, off, x, e, hlt, hx, hc j x hx⟩
end

/-- Cells of one place each. -/
abbrev encS (s : ByteArray) : List Value := [.string s]
abbrev encI (n : Int) : List Value := [.int .i64 n]
abbrev encB (c : UInt8) : List Value := [.int .u8 (c.toNat : Int)]

theorem flat_get {α : Type} {enc : α → List Value} {k : Nat} (hk : ∀ x, (enc x).length = k) : ∀ (xs : List α) (j i : Nat) (x : α) (v : Value), xs[j]? = some x → (enc x)[i]? = some v → (xs.flatMap enc)[j * k + i]? = some v
  | [], j, i, x, v, h, _ => by simp at h
  | y :: r, 0, i, x, v, h, hv => by
    simp at h; subst h
    have hi : i < (enc y).length := (List.getElem?_eq_some_iff.1 hv).1
    rw [List.flatMap_cons, List.getElem?_append_left (by omega)]
    simpa using hv
  | y :: r, j + 1, i, x, v, h, hv => by
    have h' : r[j]? = some x := by simpa using h
    have ih := flat_get hk r j i x v h' hv
    rw [List.flatMap_cons, List.getElem?_append_right (by rw [hk]; rw [Nat.add_mul]; omega), hk]
    rw [show (j + 1) * k + i - k = j * k + i from by rw [Nat.add_mul]; omega]
    exact ih
theorem flat_len {α : Type} {enc : α → List Value} {k : Nat} (hk : ∀ x, (enc x).length = k) (xs : List α) : (xs.flatMap enc).length = xs.length * k := by
  induction xs with
  | nil => simp
  | cons x r ih => rw [List.flatMap_cons, List.length_append, hk, ih, List.length_cons, Nat.add_mul]; omega

/-- What the call owns reads as the list. -/
theorem Rd.of_own {α : Type} {enc : α → List Value} {k : Nat} (hk : ∀ x, (enc x).length = k) {w : World} {base : Nat} {e : TypeId} {A : Option Addr} {n c : Nat} {xs : List α}
    (h : w.ownsRow base e k (.slice A n c) n (xs.flatMap enc)) (hl : xs.length = n) : Rd enc k w A n xs := by
  refine ⟨hl, fun hn => ?_⟩
  rcases h.2 with ⟨hv, h0⟩ | ⟨g, cap, cur, hv, hg, hh, hnc, hcm, hcs, ht⟩
  · omega
  · injection hv with hA _ _
    subst hA
    refine ⟨g, 0, rfl, (Array.getElem?_eq_some_iff.1 hh).1, fun j x hx i v hv => ?_⟩
    have h1 := flat_get hk xs j i x v hx hv
    rw [← ht, List.getElem?_take] at h1
    split at h1
    · rw [cell_of_row w g _ cur e (0, 0) hh]
      simpa using h1
    · cases h1
/-- The slice value's form. -/
theorem own_form {w : World} {base : Nat} {e : TypeId} {k n : Nat} {v : Value} {xs : List Value} (h : w.ownsRow base e k v n xs) : ∃ A c, v = .slice A n c := by
  rcases h.2 with ⟨rfl, rfl⟩ | ⟨g, cap, cur, rfl, _⟩
  · exact ⟨none, 0, rfl⟩
  · exact ⟨_, _, rfl⟩
theorem own_mono {w : World} {base base' : Nat} {e : TypeId} {k n : Nat} {v : Value} {xs : List Value} (h : w.ownsRow base e k v n xs) (hb : base' ≤ base) : w.ownsRow base' e k v n xs := by
  refine ⟨h.1, ?_⟩
  rcases h.2 with hn | ⟨g, cap, cur, hv, hg, r⟩
  · exact .inl hn
  · exact .inr ⟨g, cap, cur, hv, by omega, r⟩
/-- What is owned stays owned over a step that leaves what lay there alone. -/
theorem own_below {w w' : World} {base : Nat} {e : TypeId} {k n : Nat} {v : Value} {xs : List Value} (h : w.ownsRow base e k v n xs) (hb : Below w.heap.size w w') : w'.ownsRow base e k v n xs := by
  refine ⟨h.1, ?_⟩
  rcases h.2 with hn | ⟨g, cap, cur, hv, hg, hh, r⟩
  · exact .inl hn
  · exact .inr ⟨g, cap, cur, hv, hg, (hb.block g (Array.getElem?_eq_some_iff.1 hh).1).trans hh, r⟩

theorem ret_b {a b : Bool} (h : a = b) : Ending.returned (.bool a) = .returned (.bool b) := by rw [h]
theorem ret_i {k : IntKind} {a b : Int} (h : a = b) : Ending.returned (.int k a) = .returned (.int k b) := by rw [h]
theorem ret_s {a b : ByteArray} (h : a = b) : Ending.returned (.string a) = .returned (.string b) := by rw [h]
theorem ret_ib {k : IntKind} {a b : Int} {c d : Bool} (h : a = b) (h2 : c = d) : Ending.returned (.tuple #[.int k a, .bool c]) = .returned (.tuple #[.int k b, .bool d]) := by rw [h, h2]
theorem ret_sb {a b : ByteArray} {c d : Bool} (h : a = b) (h2 : c = d) : Ending.returned (.tuple #[.string a, .bool c]) = .returned (.tuple #[.string b, .bool d]) := by rw [h, h2]
theorem ret_si {k : IntKind} {a b : ByteArray} {c d : Int} (h : a = b) (h2 : c = d) : Ending.returned (.tuple #[.string a, .int k c]) = .returned (.tuple #[.string b, .int k d]) := by rw [h, h2]
theorem str_eq {s : ByteArray} {l : List UInt8} (h : s.data.toList = l) : s = ⟨l.toArray⟩ := by
  cases s; subst h; simp
theorem size_len (s : ByteArray) : s.size = s.data.toList.length := by rw [Array.length_toList]; rfl
end Go.Proofs.Ytplbijibddnfjaa
