import Derived.Test.YtnphoodoheccoaaPlain

namespace Go.Proofs.Ytnphoodoheccoaa
theorem allP_succ {α : Type} {p : α → Prop} {xs : List α} {k : Nat} {x : α} (h : ∀ (j : Nat) (y : α), j < k → xs[j]? = some y → p y) (hx : xs[k]? = some x) (hp : p x) :
    ∀ (j : Nat) (y : α), j < k + 1 → xs[j]? = some y → p y := by
  intro j y hj hy
  by_cases hk : j < k
  · exact h j y hk hy
  · have e : j = k := by omega
    subst e
    rw [hx] at hy
    rw [← Option.some.inj hy]; exact hp
/-- One row of cells written anew, cell by cell. -/
def setRow {β : Type} : List β → Nat → List β → List β
  | l, _, [] => l
  | l, p, v :: vs => setRow (l.set p v) (p + 1) vs
theorem setRow_app {β : Type} : ∀ (vs a b : List β) (p : Nat), setRow (a ++ b) (a.length + p) vs = a ++ setRow b p vs
  | [], a, b, p => rfl
  | v :: vs, a, b, p => by
    rw [setRow, setRow, List.set_append_right _ _ (by omega), Nat.add_sub_cancel_left, Nat.add_assoc]
    exact setRow_app vs a (b.set p v) (p + 1)
theorem setRow_head {β : Type} : ∀ (vs a b : List β), a.length = vs.length → setRow (a ++ b) 0 vs = vs ++ b
  | [], [], b, _ => rfl
  | v :: vs, y :: a, b, h => by
    have h1 := setRow_app vs [v] (a ++ b) 0
    rw [setRow_head vs a b (by simpa using h)] at h1
    exact h1
theorem setRow_flat {α β : Type} {enc : α → List β} {k : Nat} (hk : ∀ x, (enc x).length = k) : ∀ (l : List α) (j : Nat) (x : α), j < l.length → setRow (l.flatMap enc) (j * k) (enc x) = (l.set j x).flatMap enc
  | y :: r, 0, x, _ => by
    rw [List.flatMap_cons, Nat.zero_mul, setRow_head _ _ _ (by rw [hk, hk]), List.set_cons_zero, List.flatMap_cons]
  | y :: r, j + 1, x, h => by
    have ih := setRow_flat hk r j x (by simpa using h)
    have h1 := setRow_app (enc x) (enc y) (r.flatMap enc) (j * k)
    rw [hk y, ih] at h1
    rw [List.flatMap_cons, show (j + 1) * k = k + j * k from by rw [Nat.add_mul]; omega, h1, List.set_cons_succ, List.flatMap_cons]
end Go.Proofs.Ytnphoodoheccoaa

namespace Go.Proofs.Ytnphoodoheccoaa
/-- A slice's handle. -/
structure Hd where
  A : Option Addr
  n : Nat
  c : Nat
instance : Inhabited Hd := ⟨⟨none, 0, 0⟩⟩
abbrev Hd.v (h : Hd) : Value := .slice h.A h.n h.c
theorem snoc_set {α : Type} (zs : List α) (z x : α) (n j : Nat) (hl : zs.length = j) (hj : j < n) : (zs ++ List.replicate (n - j) z).set j x = (zs ++ [x]) ++ List.replicate (n - (j + 1)) z := by
  rw [List.set_append_right _ _ (by omega), hl, Nat.sub_self, show n - j = (n - (j + 1)) + 1 from by omega, List.replicate_succ, List.set_cons_zero, List.append_assoc]
  rfl
theorem take_snoc {α : Type} {l : List α} {j : Nat} {x : α} (h : l[j]? = some x) : l.take (j + 1) = l.take j ++ [x] := by
  obtain ⟨h1, h2⟩ := List.getElem?_eq_some_iff.1 h
  rw [List.take_succ_eq_append_getElem h1, h2]
end Go.Proofs.Ytnphoodoheccoaa
namespace Go.Proofs.Ytnphoodoheccoaa
end Go.Proofs.Ytnphoodoheccoaa

namespace Go.Proofs.Ytnphoodoheccoaa
structure Msg where
  uid : Int
  flags : Int
  text : ByteArray
deriving DecidableEq
def zeroMsg : Msg := ⟨0, 0, ByteArray.empty⟩
instance : Inhabited Msg := ⟨zeroMsg⟩
abbrev encMsg (x : Msg) : List Value := [.int .i64 x.uid, .int .i64 x.flags, .string x.text]
abbrev argMsg (x : Msg) : Value := .agg #[.int .i64 x.uid, .int .i64 x.flags, .string x.text]
def Msg.Fit (x : Msg) : Prop := x.text.size ≤ 1048576
def Msg.Big (x : Msg) : Prop := x.text.size ≤ maxLen
theorem flat_set_Msg (l : List Msg) (j : Nat) (x : Msg) (hj : j < l.length) : ((((l.flatMap encMsg).set (j * 3) (.int .i64 x.uid)).set (j * 3 + 1) (.int .i64 x.flags)).set (j * 3 + 2) (.string x.text)) = (l.set j x).flatMap encMsg := setRow_flat (enc := encMsg) (k := 3) (fun _ => rfl) l j x hj
end Go.Proofs.Ytnphoodoheccoaa

namespace Go.Proofs.Ytnphoodoheccoaa
structure Box where
  name : ByteArray
  validity : Int
  next : Int
  msgs : List Msg
instance : Inhabited Box := ⟨⟨ByteArray.empty, 0, 0, []⟩⟩
abbrev encBox (p : Box × Hd) : List Value := [.string p.1.name, .int .i64 p.1.validity, .int .i64 p.1.next, .slice p.2.A p.2.n p.2.c]
def zeroBox : Box × Hd := (⟨ByteArray.empty, 0, 0, []⟩, ⟨none, 0, 0⟩)
theorem flat_set_Box (l : List (Box × Hd)) (j : Nat) (x : Box × Hd) (hj : j < l.length) : (((((l.flatMap encBox).set (j * 4) (.string x.1.name)).set (j * 4 + 1) (.int .i64 x.1.validity)).set (j * 4 + 2) (.int .i64 x.1.next)).set (j * 4 + 3) (.slice x.2.A x.2.n x.2.c)) = (l.set j x).flatMap encBox := setRow_flat (enc := encBox) (k := 4) (fun _ => rfl) l j x hj
def Box.Fit (x : Box) : Prop := x.name.size ≤ 1048576 ∧ x.msgs.length ≤ 1048576 ∧ ∀ y ∈ x.msgs, y.Fit
end Go.Proofs.Ytnphoodoheccoaa
