/-
  Walks: what each function returns, and that it leaves what lay in memory as it was.
-/
import Derived.Test.YtnphoodoheccoaaProg
import Derived.Test.YtnphoodoheccoaaPlain
import Derived.Test.YtnphoodoheccoaaBase2
import Derived.Test.YtnphoodoheccoaaOpen2
import Derived.Test.YtnphoodoheccoaaShelf
import Derived.WalkKit
import Derived.WalkSpells
import Derived.WalkLawsBesides
import Derived.Lib.Hide
import Derived.Deep.LoopGhost
import Derived.Deep.QuietTactic
import Derived.BigQuiet
import Derived.Handy
import Derived.Deep.RegionHeld3
import Derived.StillTailTactics
import Derived.OpenShut
import Derived.ChangeSame
import Derived.Laws.StructEq

import Derived.Test.YtnphoodoheccoaaPlainT

import Derived.Test.YtnphoodoheccoaaW1

import Derived.Test.YtnphoodoheccoaaW2

import Derived.Test.YtnphoodoheccoaaW3

import Derived.Test.YtnphoodoheccoaaW5

import Derived.Test.YtnphoodoheccoaaW6

import Derived.Test.YtnphoodoheccoaaW9

import Derived.Test.YtnphoodoheccoaaW10

import Derived.Test.YtnphoodoheccoaaW11

import Derived.Laws.Cover1

namespace Go.Proofs.Ytnphoodoheccoaa
open Go.ChangeShapes Go.WideShapes Go.ChangeAt Go.RowKit Go.Deep
set_option linter.unusedVariables false
set_option linter.unusedSimpArgs false

def nameLt (a b : ByteArray) : Bool := Op.bytesLess a.toList b.toList
def boxAt (l : List Box) (k : Nat) : Bool :=
  match l[k]? with
  | none => true
  | some b => boxOk b && ((decide (k = 0) || (match l[k - 1]? with | none => true | some p => nameLt p.name b.name)) && decide (boxWith l b.validity = (k : Int)))
def boxesOk (l : List Box) : Bool := (List.range l.length).all (fun k => boxAt l k) && decide (l.length ≤ 4)
theorem boxAt_first {l : List Box} {b : Box} (h : l[0]? = some b) : boxAt l 0 = (boxOk b && decide (boxWith l b.validity = 0)) := by
  unfold boxAt; rw [h]; simp
theorem boxAt_later {l : List Box} {k : Nat} {b p : Box} (hk : ¬ k = 0) (h : l[k]? = some b) (hp : l[k - 1]? = some p) : boxAt l k = (boxOk b && (nameLt p.name b.name && decide (boxWith l b.validity = (k : Int)))) := by
  unfold boxAt; rw [h]; simp only [hp]; simp [hk]
theorem boxesOk_bad {l : List Box} {k : Nat} (hk : k < l.length) (h : boxAt l k = false) : boxesOk l = false := by
  unfold boxesOk; rw [range_all_false hk h, Bool.false_and]
theorem boxesOk_good {l : List Box} (h : ∀ k, k < l.length → boxAt l k = true) : boxesOk l = decide (l.length ≤ 4) := by
  unfold boxesOk; rw [range_all_true h, Bool.true_and]
theorem less_total : ∀ (a b : List UInt8), (Op.bytesLess a b || a == b) = !Op.bytesLess b a
  | [], [] => rfl
  | [], _ :: _ => rfl
  | _ :: _, [] => rfl
  | x :: a, y :: b => by
    have ih := less_total a b
    simp only [Op.bytesLess]
    by_cases h1 : x < y
    · have h2 : ¬ y < x := fun h => absurd (UInt8.lt_trans h1 h) (UInt8.lt_irrefl x)
      have h3 : (y == x) = false := by rw [beq_eq_false_iff_ne]; rintro rfl; exact UInt8.lt_irrefl y h1
      simp [h1, h2, h3]
    · by_cases h2 : y < x
      · have h3 : (x == y) = false := by rw [beq_eq_false_iff_ne]; rintro rfl; exact UInt8.lt_irrefl x h2
        have h4 : (x :: a == y :: b) = false := by rw [beq_eq_false_iff_ne]; intro e; injection e with e; rw [e] at h2; exact UInt8.lt_irrefl y h2
        simp [h1, h2, h3, h4]
      · have e : x = y := by
          rcases UInt8.lt_or_le x y with h | h
          · exact absurd h h1
          · rcases UInt8.lt_or_le y x with h' | h'
            · exact absurd h' h2
            · exact UInt8.le_antisymm h' h
        subst e
        have h5 : (x :: a == x :: b) = (a == b) := by simp
        simp only [h5, UInt8.lt_irrefl, decide_false, Bool.false_or, beq_self_eq_true, Bool.true_and]
        exact ih
theorem nameLe (a b : ByteArray) : (Op.bytesLess a.toList b.toList || a.toList == b.toList) = !nameLt b a := less_total _ _
theorem boxWith_take {l : List Box} {k : Nat} {b : Box} (h : l[k]? = some b) : decide (0 ≤ boxWith (l.take k) b.validity) = !decide (boxWith l b.validity = (k : Int)) := by
  obtain ⟨hk, _⟩ := List.getElem?_eq_some_iff.1 h
  unfold boxWith
  by_cases hex : ∃ j, j < k ∧ ∃ y : Box, l[j]? = some y ∧ decide (y.validity = b.validity) = true
  · have h1 : 0 ≤ ixOf (fun c : Box => decide (c.validity = b.validity)) (l.take k) := by
      have ha := ixOf_any (fun c : Box => decide (c.validity = b.validity)) (l.take k)
      obtain ⟨j, hj, y, hy, hq⟩ := hex
      have : (l.take k).any (fun c : Box => decide (c.validity = b.validity)) = true := by
        rw [List.any_eq_true]
        exact ⟨y, List.mem_of_getElem? (show (l.take k)[j]? = some y by rw [List.getElem?_take, if_pos hj]; exact hy), hq⟩
      rw [this] at ha; exact of_decide_eq_true ha
    have h2 : ixOf (fun c : Box => decide (c.validity = b.validity)) l ≠ (k : Int) := by
      intro e
      obtain ⟨j, hj, y, hy, hq⟩ := hex
      unfold ixOf at e
      cases hf : l.findIdx? (fun c : Box => decide (c.validity = b.validity)) with
      | none => rw [hf] at e; have : (-1 : Int) = (k : Int) := e; omega
      | some i =>
        rw [hf] at e
        have hik : i = k := by have : (i : Int) = (k : Int) := e; omega
        rw [List.findIdx?_eq_some_iff_getElem] at hf
        obtain ⟨hi, _, hn⟩ := hf
        obtain ⟨hj2, e2⟩ := List.getElem?_eq_some_iff.1 hy
        have := hn j (by omega)
        rw [e2] at this
        rw [hq] at this; simp at this
    rw [decide_eq_true h1, decide_eq_false h2]; rfl
  · have hn : ∀ (j : Nat) (y : Box), j < k → l[j]? = some y → decide (y.validity = b.validity) = false := by
      intro j y hj hy
      cases hq : decide (y.validity = b.validity) with
      | false => rfl
      | true => exact absurd ⟨j, hj, y, hy, hq⟩ hex
    have h1 := ixOf_miss (p := fun c : Box => decide (c.validity = b.validity)) (l := l.take k) (fun j y hy => by
      rw [List.getElem?_take] at hy
      split at hy
      · rename_i hj; exact hn j y hj hy
      · cases hy)
    have h2 := ixOf_hit (p := fun c : Box => decide (c.validity = b.validity)) (l := l) h (by simp) hn
    rw [h1, h2]; simp
theorem Rd.take {α : Type} {enc : α → List Value} {k : Nat} {w : World} {A : Option Addr} {n m : Nat} {xs : List α} (h : Rd enc k w A n xs) (hm : m ≤ n) : Rd enc k w A m (xs.take m) :=
  ⟨by rw [List.length_take, h.1]; omega, fun h0 => by
    obtain ⟨b, off, e, hb, hc⟩ := h.2 (by omega)
    exact ⟨b, off, e, hb, fun j x hx => hc j x (by rw [List.getElem?_take] at hx; split at hx; exact hx; cases hx)⟩⟩
theorem map_get {α β : Type} {rs : List (α × β)} {k : Nat} {x : α × β} (h : rs[k]? = some x) : (rs.map Prod.fst)[k]? = some x.1 := by rw [List.getElem?_map, h]; rfl

end Go.Proofs.Ytnphoodoheccoaa
