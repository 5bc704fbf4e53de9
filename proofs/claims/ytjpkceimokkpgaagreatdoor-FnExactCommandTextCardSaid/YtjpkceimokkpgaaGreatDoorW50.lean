/-
  Walks: what each function returns, and that it leaves what lay in memory as it was.
-/
import Derived.Test.YtjpkceimokkpgaaGreatDoorProg
import Derived.Test.YtjpkceimokkpgaaGreatDoorPlain
import Derived.Test.YtjpkceimokkpgaaGreatDoorBase2
import Derived.Test.YtjpkceimokkpgaaGreatDoorOpen2
import Derived.Test.YtjpkceimokkpgaaGreatDoorShelf
import Derived.WalkKit
import Derived.WalkSpells
import Derived.WalkLawsBesides
import Derived.Lib.Hide
import Derived.Deep.LoopGhost
import Derived.Deep.QuietTactic
import Derived.BigQuiet
import Derived.Handy
import Derived.Deep.RegionHeld3
import Derived.StillTailTactics
import Derived.OpenShut
import Derived.ChangeSame
import Derived.Laws.StructEq

import Derived.Test.YtjpkceimokkpgaaGreatDoorPlainT

import Derived.Test.YtjpkceimokkpgaaGreatDoorBase3

import Derived.Test.YtjpkceimokkpgaaGreatDoorW1

import Derived.Test.YtjpkceimokkpgaaGreatDoorW2

import Derived.Test.YtjpkceimokkpgaaGreatDoorW3

import Derived.Test.YtjpkceimokkpgaaGreatDoorW4

import Derived.Test.YtjpkceimokkpgaaGreatDoorW5

import Derived.Test.YtjpkceimokkpgaaGreatDoorW7

import Derived.Test.YtjpkceimokkpgaaGreatDoorW9

import Derived.Test.YtjpkceimokkpgaaGreatDoorW14

import Derived.Test.YtjpkceimokkpgaaGreatDoorW15

import Derived.Test.YtjpkceimokkpgaaGreatDoorW17

import Derived.Test.YtjpkceimokkpgaaGreatDoorW18

import Derived.Test.YtjpkceimokkpgaaGreatDoorW30

import Derived.Test.YtjpkceimokkpgaaGreatDoorW41

import Derived.Test.YtjpkceimokkpgaaGreatDoorW42

namespace Go.Proofs.YtjpkceimokkpgaaGreatDoor
open Go.ChangeShapes Go.WideShapes Go.ChangeAt Go.RowKit Go.Deep
set_option linter.unusedVariables false
set_option linter.unusedSimpArgs false

set_option maxRecDepth 20000

/-! ### tokens of a command -/
def tkB (s : ByteArray) : Token := ⟨1, s⟩
def opt (b : Bool) (l : List Token) : List Token := if b = true then l else []
theorem opt_len (b : Bool) (l : List Token) : (opt b l).length ≤ l.length := by unfold opt; split <;> simp
def cT1 (x : Command) : List Token := [tkB x.tag]
def cT2 (x : Command) : List Token := cT1 x ++ opt x.uid [tkA [117, 105, 100]]
def cT3 (x : Command) : List Token := cT2 x ++ [tkA (kindWord x.kind)]
def cT4 (x : Command) : List Token := cT3 x ++ opt (decide (0 < x.set.length)) [tkA (setText x.set)]
def cT5 (x : Command) : List Token := cT4 x ++ opt (decide (0 < x.op)) [tkA (opText x.op)]
def cT6 (x : Command) : List Token := cT5 x ++ opt (!decide (x.box = emptyB)) [tkB x.box]
def cT7 (x : Command) : List Token := cT6 x ++ opt (!decide (x.dest = emptyB)) [tkB x.dest]
def cT8 (x : Command) : List Token := cT7 x ++ opt (flagsK x.kind) (groupT (selTo x.flags flagList 5))
def cT9 (x : Command) : List Token := cT8 x ++ opt (x.kind == 11) [⟨2, x.text⟩]
def cT10 (x : Command) : List Token := cT9 x ++ opt (x.kind == 6) (filterT x.filter)
def commandT (x : Command) : List Token := opt (commandOk x) (cT10 x)
theorem cT_len (x : Command) : (cT1 x).length ≤ 1 ∧ (cT2 x).length ≤ 2 ∧ (cT3 x).length ≤ 3 ∧ (cT4 x).length ≤ 4 ∧ (cT5 x).length ≤ 5 ∧ (cT6 x).length ≤ 6 ∧ (cT7 x).length ≤ 7 ∧ (cT8 x).length ≤ 14 ∧ (cT9 x).length ≤ 15 ∧ (cT10 x).length ≤ 76 := by
  have e1 : (cT1 x).length ≤ 1 := by simp [cT1]
  have o2 := opt_len x.uid [tkA [117, 105, 100]]
  have o4 := opt_len (decide (0 < x.set.length)) [tkA (setText x.set)]
  have o5 := opt_len (decide (0 < x.op)) [tkA (opText x.op)]
  have o6 := opt_len (!decide (x.box = emptyB)) [tkB x.box]
  have o7 := opt_len (!decide (x.dest = emptyB)) [tkB x.dest]
  have o8 := opt_len (flagsK x.kind) (groupT (selTo x.flags flagList 5))
  have o9 := opt_len (x.kind == 11) [(⟨2, x.text⟩ : Token)]
  have o10 := opt_len (x.kind == 6) (filterT x.filter)
  have s8 := selTo_len x.flags flagList 5
  have s10 := filterT_len x.filter
  rw [groupT_len] at o8
  simp only [List.length_singleton] at o2 o4 o5 o6 o7 o9
  have e2 : (cT2 x).length ≤ 2 := by unfold cT2; rw [List.length_append]; omega
  have e3 : (cT3 x).length ≤ 3 := by unfold cT3; rw [List.length_append, List.length_singleton]; omega
  have e4 : (cT4 x).length ≤ 4 := by unfold cT4; rw [List.length_append]; omega
  have e5 : (cT5 x).length ≤ 5 := by unfold cT5; rw [List.length_append]; omega
  have e6 : (cT6 x).length ≤ 6 := by unfold cT6; rw [List.length_append]; omega
  have e7 : (cT7 x).length ≤ 7 := by unfold cT7; rw [List.length_append]; omega
  have e8 : (cT8 x).length ≤ 14 := by unfold cT8; rw [List.length_append]; omega
  have e9 : (cT9 x).length ≤ 15 := by unfold cT9; rw [List.length_append]; omega
  have e10 : (cT10 x).length ≤ 76 := by unfold cT10; rw [List.length_append]; omega
  exact ⟨e1, e2, e3, e4, e5, e6, e7, e8, e9, e10⟩
theorem commandT_len (x : Command) : (commandT x).length ≤ 76 := Nat.le_trans (opt_len _ _) (cT_len x).2.2.2.2.2.2.2.2.2
theorem commandT_no {x : Command} (h : commandOk x = false) : commandT x = [] := by unfold commandT opt; rw [h]; rfl
theorem commandT_ok {x : Command} (h : commandOk x = true) : commandT x = cT10 x := by unfold commandT opt; rw [h]; rfl
theorem opt_yes {b : Bool} {l : List Token} (h : b = true) : opt b l = l := by unfold opt; rw [h]; rfl
theorem opt_no {b : Bool} {l : List Token} (h : b = false) : opt b l = [] := by unfold opt; rw [h]; rfl
/-- The operation of a command that is right: none, or one of three. -/
theorem commandOk_op {x : Command} (h : commandOk x = true) : x.op = 0 ∨ inR x.op 1 3 = true := by
  unfold commandOk at h
  simp only [Bool.and_eq_true] at h
  have h1 := h.2.2.2.2.2.1
  unfold zeroIf at h1
  cases hk : (x.kind == 8)
  · rw [hk] at h1; left; simpa using h1
  · rw [hk] at h1; right; simpa using h1
theorem commandOk_flags {x : Command} (h : commandOk x = true) : x.flags = 0 ∨ inR x.flags 0 31 = true := by
  unfold commandOk at h
  simp only [Bool.and_eq_true] at h
  have h1 := h.2.2.2.2.2.2.1
  unfold zeroIf at h1
  cases hk : flagsK x.kind
  · rw [hk] at h1; left; simpa using h1
  · rw [hk] at h1; right; simpa using h1
theorem flags_parts : ∀ n : Nat, n < 32 → 0 < n → parts 32 (flagsText (n : Int)) = selTo (n : Int) flagList 5 := by decide +kernel
theorem flags_none : selTo 0 flagList 5 = [] := by decide +kernel

end Go.Proofs.YtjpkceimokkpgaaGreatDoor
