/-
  Walks: what each function returns, and that it leaves what lay in memory as it was.
-/
import Derived.Test.YtjpkceimokkpgaaGreatDoorProg
import Derived.Test.YtjpkceimokkpgaaGreatDoorPlain
import Derived.Test.YtjpkceimokkpgaaGreatDoorBase2
import Derived.Test.YtjpkceimokkpgaaGreatDoorOpen2
import Derived.Test.YtjpkceimokkpgaaGreatDoorShelf
import Derived.WalkKit
import Derived.WalkSpells
import Derived.WalkLawsBesides
import Derived.Lib.Hide
import Derived.Deep.LoopGhost
import Derived.Deep.QuietTactic
import Derived.BigQuiet
import Derived.Handy
import Derived.Deep.RegionHeld3
import Derived.StillTailTactics
import Derived.OpenShut
import Derived.ChangeSame
import Derived.Laws.StructEq

import Derived.Test.YtjpkceimokkpgaaGreatDoorPlainT

import Derived.Test.YtjpkceimokkpgaaGreatDoorW1

import Derived.Test.YtjpkceimokkpgaaGreatDoorW2

import Derived.Test.YtjpkceimokkpgaaGreatDoorW3

import Derived.Test.YtjpkceimokkpgaaGreatDoorW4

import Derived.Test.YtjpkceimokkpgaaGreatDoorW5

import Derived.Test.YtjpkceimokkpgaaGreatDoorW7

import Derived.Test.YtjpkceimokkpgaaGreatDoorW9

import Derived.Test.YtjpkceimokkpgaaGreatDoorW14

import Derived.Test.YtjpkceimokkpgaaGreatDoorW15

namespace Go.Proofs.YtjpkceimokkpgaaGreatDoor
open Go.ChangeShapes Go.WideShapes Go.ChangeAt Go.RowKit Go.Deep
set_option linter.unusedVariables false
set_option linter.unusedSimpArgs false

set_option maxRecDepth 20000

/-! ### a command that is right, as the program says it and as the reference says it -/
def boxedK (k : Int) : Bool := k == 2 || (k == 11 || (k == 12 || (k == 13 || (k == 14 || k == 10))))
def setsK (k : Int) : Bool := k == 7 || (k == 8 || k == 10)
def flagsK (k : Int) : Bool := k == 8 || k == 11
def zeroIf (u o z : Bool) : Bool := (u && o) || (!u && z)
def noFilter : Filter := ⟨false, []⟩
def emptyB : ByteArray := ⟨#[]⟩
def commandOk (x : Command) : Bool :=
  tagOk x.tag.data.toList && (inR x.kind 1 15 && (zeroIf (boxedK x.kind) (nameOk x.box.data.toList) (decide (x.box = emptyB)) && (zeroIf (x.kind == 14) (nameOk x.dest.data.toList) (decide (x.dest = emptyB)) &&
    (zeroIf (setsK x.kind) (setOk x.set) (decide (x.set.length = 0) && !x.uid) && (zeroIf (x.kind == 8) (inR x.op 1 3) (x.op == 0) && (zeroIf (flagsK x.kind) (inR x.flags 0 31) (x.flags == 0) &&
      (zeroIf (x.kind == 11) (decide (x.text.size ≤ 40)) (decide (x.text = emptyB)) && zeroIf (x.kind == 6) (filterOk x.filter) (sameFilter x.filter noFilter))))))))
def said (x : Command) : Command :=
  { tag := x.tag, kind := x.kind, box := if boxedK x.kind then x.box else emptyB, dest := if x.kind == 14 then x.dest else emptyB, uid := if setsK x.kind then x.uid else false, set := if setsK x.kind then x.set else [],
    op := if x.kind == 8 then x.op else 0, flags := if flagsK x.kind then x.flags else 0, text := if x.kind == 11 then x.text else emptyB, filter := if x.kind == 6 then x.filter else noFilter }
def badArgs (x : Command) : Bool :=
  (boxedK x.kind && !nameOk x.box.data.toList) || ((x.kind == 14 && !nameOk x.dest.data.toList) || ((setsK x.kind && !setOk x.set) || (x.kind == 8 && !inR x.op 1 3)))
def restOk (x : Command) : Bool := inR x.flags 0 31 && (decide (x.text.size ≤ 40) && filterOk x.filter)
theorem sameL_refl {α : Type} {q : α → α → Bool} (h : ∀ x, q x x = true) : ∀ l : List α, sameL q l l = true
  | [] => rfl
  | a :: l => by unfold sameL; rw [h a, sameL_refl h l]; rfl
theorem sameScope_refl (x : Scope) : sameScope x x = true := by unfold sameScope; simp
theorem sameFilter_refl (f : Filter) : sameFilter f f = true := by unfold sameFilter; rw [sameL_refl sameScope_refl]; simp
theorem sameFilter_no (f : Filter) : sameFilter noFilter f = (!f.on && decide (f.scopes.length = 0)) := by
  unfold sameFilter noFilter
  cases f with
  | mk on sc => cases on <;> cases sc <;> simp [sameL]
theorem sameFilter_no' (f : Filter) : sameFilter f noFilter = (!f.on && decide (f.scopes.length = 0)) := by
  unfold sameFilter noFilter
  cases f with
  | mk on sc => cases on <;> cases sc <;> simp [sameL]
theorem filterOk_no {f : Filter} (h : (!f.on && decide (f.scopes.length = 0)) = true) : filterOk f = true := by
  cases f with
  | mk on sc =>
    cases on
    · unfold filterOk; simpa using h
    · simp at h
theorem tl_beq (a b : ByteArray) : (a.toList == b.toList) = decide (a = b) := ba_beq a b
theorem sets_eq (a : List Span) : decide (([] : List Span) = a) = decide (a.length = 0) := by cases a <;> simp
theorem cmd_same (x : Command) : sameCommand (said x) x = ((boxedK x.kind || decide (x.box = emptyB)) && ((x.kind == 14 || decide (x.dest = emptyB)) && ((setsK x.kind || (decide (x.set.length = 0) && !x.uid)) && ((x.kind == 8 || x.op == 0) && ((flagsK x.kind || x.flags == 0) && ((x.kind == 11 || decide (x.text = emptyB)) && (x.kind == 6 || sameFilter x.filter noFilter))))))) := by
  unfold sameCommand said
  simp only [tl_beq]
  have e1 : decide (emptyB = x.box) = decide (x.box = emptyB) := by simp [eq_comm]
  have e2 : decide (emptyB = x.dest) = decide (x.dest = emptyB) := by simp [eq_comm]
  have e3 : decide (emptyB = x.text) = decide (x.text = emptyB) := by simp [eq_comm]
  have e4 : ((0 : Int) == x.op) = (x.op == 0) := by rw [Bool.eq_iff_iff]; simp only [beq_iff_eq]; exact ⟨Eq.symm, Eq.symm⟩
  have e5 : ((0 : Int) == x.flags) = (x.flags == 0) := by rw [Bool.eq_iff_iff]; simp only [beq_iff_eq]; exact ⟨Eq.symm, Eq.symm⟩
  have e6 := sets_eq x.set
  have e7 : (false == x.uid) = !x.uid := by cases x.uid <;> rfl
  have e8 : sameFilter noFilter x.filter = sameFilter x.filter noFilter := by rw [sameFilter_no, sameFilter_no']
  have e9 := sameFilter_refl x.filter
  generalize boxedK x.kind = b1
  generalize (x.kind == 14) = b2
  generalize setsK x.kind = b3
  generalize (x.kind == 8) = b4
  generalize flagsK x.kind = b5
  generalize (x.kind == 11) = b6
  generalize (x.kind == 6) = b7
  have f1 : decide ((if b1 = true then x.box else emptyB) = x.box) = (b1 || decide (x.box = emptyB)) := by cases b1 <;> simp [e1]
  have f2 : decide ((if b2 = true then x.dest else emptyB) = x.dest) = (b2 || decide (x.dest = emptyB)) := by cases b2 <;> simp [e2]
  have f3 : (((if b3 = true then x.uid else false) == x.uid) && decide ((if b3 = true then x.set else []) = x.set)) = (b3 || (decide (x.set.length = 0) && !x.uid)) := by
    cases b3
    · simp only [Bool.false_eq_true, if_false, e6, e7, Bool.false_or, Bool.and_comm]
    · simp
  have f4 : ((if b4 = true then x.op else 0) == x.op) = (b4 || x.op == 0) := by cases b4 <;> simp [e4]
  have f5 : ((if b5 = true then x.flags else 0) == x.flags) = (b5 || x.flags == 0) := by cases b5 <;> simp [e5]
  have f6 : decide ((if b6 = true then x.text else emptyB) = x.text) = (b6 || decide (x.text = emptyB)) := by cases b6 <;> simp [e3]
  have f7 : sameFilter (if b7 = true then x.filter else noFilter) x.filter = (b7 || sameFilter x.filter noFilter) := by cases b7 <;> simp [e8, e9]
  rw [f1, f2, f4, f5, f6, f7, ← Bool.and_assoc (((if b3 = true then x.uid else false) == x.uid)), f3]
  simp
theorem zeroIf_eq {u o z : Bool} : zeroIf u o z = ((u || z) && !(u && !o)) := by cases u <;> cases o <;> cases z <;> rfl
theorem zeroIf_eq' {u o z : Bool} (h : z = true → o = true) : zeroIf u o z = ((u || z) && o) := by
  cases u <;> cases o <;> cases z <;> first | rfl | (exfalso; simp at h)
theorem commandOk_spec (x : Command) : commandOk x = (tagOk x.tag.data.toList && (inR x.kind 1 15 && (sameCommand (said x) x && (!badArgs x && restOk x)))) := by
  rw [cmd_same]
  unfold commandOk badArgs restOk
  have hf : (x.flags == 0) = true → inR x.flags 0 31 = true := fun h => by
    have : x.flags = 0 := by simpa using h
    rw [this]; rfl
  have ht : decide (x.text = emptyB) = true → decide (x.text.size ≤ 40) = true := fun h => by
    have : x.text = emptyB := by simpa using h
    rw [this]; rfl
  have hF : sameFilter x.filter noFilter = true → filterOk x.filter = true := fun h => filterOk_no (by rw [← sameFilter_no']; exact h)
  rw [zeroIf_eq (u := boxedK x.kind), zeroIf_eq (u := x.kind == 14), zeroIf_eq (u := setsK x.kind), zeroIf_eq (u := x.kind == 8), zeroIf_eq' (u := flagsK x.kind) hf, zeroIf_eq' (u := x.kind == 11) ht, zeroIf_eq' (u := x.kind == 6) hF]
  generalize (boxedK x.kind || decide (x.box = emptyB)) = a1
  generalize (x.kind == 14 || decide (x.dest = emptyB)) = a2
  generalize (setsK x.kind || (decide (x.set.length = 0) && !x.uid)) = a3
  generalize (x.kind == 8 || x.op == 0) = a4
  generalize (flagsK x.kind || x.flags == 0) = a5
  generalize (x.kind == 11 || decide (x.text = emptyB)) = a6
  generalize (x.kind == 6 || sameFilter x.filter noFilter) = a7
  generalize (boxedK x.kind && !nameOk x.box.data.toList) = c1
  generalize (x.kind == 14 && !nameOk x.dest.data.toList) = c2
  generalize (setsK x.kind && !setOk x.set) = c3
  generalize (x.kind == 8 && !inR x.op 1 3) = c4
  generalize inR x.flags 0 31 = d1
  generalize decide (x.text.size ≤ 40) = d2
  generalize filterOk x.filter = d3
  rw [Bool.eq_iff_iff]
  simp only [Bool.and_eq_true, Bool.not_eq_true', Bool.or_eq_false_iff]
  constructor
  · rintro ⟨h1, h2, ⟨p1, q1⟩, ⟨p2, q2⟩, ⟨p3, q3⟩, ⟨p4, q4⟩, ⟨p5, q5⟩, ⟨p6, q6⟩, p7, q7⟩
    exact ⟨h1, h2, ⟨p1, p2, p3, p4, p5, p6, p7⟩, ⟨q1, q2, q3, q4⟩, q5, q6, q7⟩
  · rintro ⟨h1, h2, ⟨p1, p2, p3, p4, p5, p6, p7⟩, ⟨q1, q2, q3, q4⟩, q5, q6, q7⟩
    exact ⟨h1, h2, ⟨p1, q1⟩, ⟨p2, q2⟩, ⟨p3, q3⟩, ⟨p4, q4⟩, ⟨p5, q5⟩, ⟨p6, q6⟩, p7, q7⟩
theorem ba_empty_beq (a : ByteArray) : decide (a = ⟨#[]⟩) = (a.toList == []) := by
  rw [← ba_empty]; cases a.toList <;> rfl
theorem kindWord_empty (k : Int) : (⟨(kindWord k).toArray⟩ : ByteArray).toList.isEmpty = !inR k 1 15 := by
  rw [ByteArray.toList_eq]
  show (kindWord k).toArray.toList.isEmpty = _
  rw [List.toList_toArray]
  unfold kindWord
  cases h : inR k 1 15 with
  | false => rfl
  | true =>
    rw [if_pos rfl]
    have h1 : (1 : Int) ≤ k ∧ k ≤ 15 := by simpa [inR] using h
    obtain ⟨n, rfl⟩ := Int.eq_ofNat_of_zero_le (show 0 ≤ k by omega)
    have hall : ∀ n : Fin 16, 1 ≤ n.val → (kindList.getD n.val []).isEmpty = false := by decide
    have := hall ⟨n, by omega⟩ (by show 1 ≤ n; omega)
    simpa using this
theorem noFilter_is (w : World) : FilterIs w noFilter ⟨none, 0, 0, []⟩ := ⟨Rd.none_ _ _ _ _, Nat.zero_le _, fun p hp => (by cases hp), rfl⟩
theorem noFilter_fit : noFilter.Fit := ⟨by decide, fun y hy => (by cases hy)⟩

end Go.Proofs.YtjpkceimokkpgaaGreatDoor
