/-
  Walks: what each function returns, and that it leaves what lay in memory as it was.
-/
import Derived.Test.YtnphoodoheccoaaProg
import Derived.Test.YtnphoodoheccoaaPlain
import Derived.Test.YtnphoodoheccoaaBase2
import Derived.Test.YtnphoodoheccoaaOpen2
import Derived.Test.YtnphoodoheccoaaShelf
import Derived.WalkKit
import Derived.WalkSpells
import Derived.WalkLawsBesides
import Derived.Lib.Hide
import Derived.Deep.LoopGhost
import Derived.Deep.QuietTactic
import Derived.BigQuiet
import Derived.Handy
import Derived.Deep.RegionHeld3
import Derived.StillTailTactics
import Derived.OpenShut
import Derived.ChangeSame
import Derived.Laws.StructEq

import Derived.Test.YtnphoodoheccoaaPlainT

import Derived.Test.YtnphoodoheccoaaW1

import Derived.Test.YtnphoodoheccoaaW2

import Derived.Test.YtnphoodoheccoaaW3

import Derived.Test.YtnphoodoheccoaaW5

namespace Go.Proofs.Ytnphoodoheccoaa
open Go.ChangeShapes Go.WideShapes Go.ChangeAt Go.RowKit Go.Deep
set_option linter.unusedVariables false
set_option linter.unusedSimpArgs false

set_option maxHeartbeats 800000 in
set_option maxRecDepth 20000 in
theorem slices_Equal_Msg (A1 A2 : Option Addr) (n1 n2 c1 c2 : Nat) (xs ys : List Msg) (w : World) (hn1 : n1 ≤ 4611686018427387904) (hn2 : n2 ≤ 4611686018427387904) (h1 : Rd encMsg 3 w A1 n1 xs) (h2 : Rd encMsg 3 w A2 n2 ys) :
    Calls Try.prog 64 #[.slice A1 n1 c1, .slice A2 n2 c2] w fun e w' => e = .returned (.bool (decide (xs = ys))) ∧ Below w.heap.size w w' := by
  have H1 := Lib.hid h1
  have H2 := Lib.hid h2
  have L1 := Lib.hid h1.1
  have L2 := Lib.hid h2.1
  clear h1 h2
  by_cases hn : n1 = n2
  · subst hn
    go_enter Try.func64, Try.ntmps64
    go_wp2_with fail
    go_loopw [13] (fun i wr => ∃ k : Nat, k ≤ n1 ∧ i = .int .i64 k ∧ Below w.heap.size w wr ∧ Hid (∀ j, j < k → xs[j]? = ys[j]?)) (fun i _ => n1 - (intOf i).toNat)
    case atStart => exact ⟨0, Nat.zero_le _, rfl, Below.refl _ _, fun j hj => absurd hj (by omega)⟩
    case round =>
      obtain ⟨k, hk, rfl, hW, ha⟩ := hrel
      by_cases hlt : k < n1
      · obtain ⟨b1, o1, x, rfl, _, hx, hc1⟩ := (H1.out.below hW).elem hlt
        obtain ⟨b2, o2, y, rfl, _, hy, hc2⟩ := (H2.out.below hW).elem hlt
        have g10 : wr.cell? ⟨b1, o1 + k * 3, none⟩ = some (.int .i64 x.uid) := by simpa using hc1 0 _ rfl
        have g11 : wr.cell? ⟨b1, o1 + k * 3 + 1, none⟩ = some (.int .i64 x.flags) := hc1 1 _ rfl
        have g12 : wr.cell? ⟨b1, o1 + k * 3 + 2, none⟩ = some (.string x.text) := hc1 2 _ rfl
        have g20 : wr.cell? ⟨b2, o2 + k * 3, none⟩ = some (.int .i64 y.uid) := by simpa using hc2 0 _ rfl
        have g21 : wr.cell? ⟨b2, o2 + k * 3 + 1, none⟩ = some (.int .i64 y.flags) := hc2 1 _ rfl
        have g22 : wr.cell? ⟨b2, o2 + k * 3 + 2, none⟩ = some (.string y.text) := hc2 2 _ rfl
        have HX := Lib.hid hx
        have HY := Lib.hid hy
        have HW := Lib.hid hW
        clear hc1 hc2 hx hy hW H1 H2
        have hmsg : ∀ (e1 : x.uid = y.uid) (e2 : x.flags = y.flags) (e3 : x.text.toList = y.text.toList), x = y := by
          intro e1 e2 e3
          obtain ⟨a, b, c⟩ := x
          obtain ⟨a', b', c'⟩ := y
          simp only [] at e1 e2 e3
          rw [ByteArray.toList_eq, ByteArray.toList_eq] at e3
          have : c = c' := by cases c; cases c'; simp at e3; subst e3; rfl
          rw [e1, e2, this]
        have hno : ¬ x = y → decide (xs = ys) = false := fun hxy => decide_eq_false (fun e => hxy (by
          have h1 := HX.out
          rw [e, HY.out] at h1
          exact (Option.some.inj h1).symm))
        have HM := Lib.hid hmsg
        have HN := Lib.hid hno
        clear hmsg hno
        by_cases e1 : x.uid = y.uid <;> by_cases e2 : x.flags = y.flags <;> by_cases e3 : x.text.toList = y.text.toList
        · have hs := Lib.hid (show ∀ j, j < k + 1 → xs[j]? = ys[j]? from fun j hj => by
            by_cases h : j < k
            · exact ha.out j h
            · rw [show j = k from by omega, HX.out, HY.out, HM.out e1 e2 e3])
          clear ha
          go_wp2
          go_quiet (fail)
          go_wp2
          go_roundw
          case rel => exact ⟨k + 1, by omega, by go_num, below_drewN HW.out _, hs.out⟩
          case measure => simp [intOf]; omega
        all_goals
          have hfin := Lib.hid (HN.out (fun e => by subst e; simp at e1 e2 e3))
          clear ha
          go_wp2
          go_quiet (fail)
          go_wp2
          go_ret
          exact ⟨ret_b hfin.out.symm, below_drewN HW.out _⟩
      · have hke : k = n1 := by omega
        have hfin := Lib.hid (show decide (xs = ys) = true from decide_eq_true (List.ext_getElem? (fun j => by
          by_cases hj : j < n1
          · exact ha.out j (by omega)
          · rw [List.getElem?_eq_none (by rw [L1.out]; omega), List.getElem?_eq_none (by rw [L2.out]; omega)])))
        clear ha hke
        go_wp2
        go_ret
        exact ⟨ret_b hfin.out.symm, hW⟩
  · have hb : ((n1 : Int) == (n2 : Int)) = false := by rw [beq_eq_false_iff_ne]; omega
    have hfin := Lib.hid (show decide (xs = ys) = false from decide_eq_false (fun e => hn (by rw [← L1.out, ← L2.out, e])))
    go_enter Try.func64, Try.ntmps64
    go_wp2
    go_ret
    exact ⟨ret_b hfin.out.symm, Below.refl _ _⟩
theorem msg_eq {x y : Msg} (e1 : x.uid = y.uid) (e2 : x.flags = y.flags) (e3 : x.text.toList = y.text.toList) : x = y := by
  obtain ⟨a, b, c⟩ := x
  obtain ⟨a', b', c'⟩ := y
  simp only [] at e1 e2 e3
  rw [ByteArray.toList_eq, ByteArray.toList_eq] at e3
  have : c = c' := by cases c; cases c'; simp at e3; subst e3; rfl
  rw [e1, e2, this]
def sameBox (x y : Box) : Bool := decide (x.name = y.name) && (decide (x.validity = y.validity) && (decide (x.next = y.next) && decide (x.msgs = y.msgs)))
theorem tl_eq {a b : ByteArray} : a.toList = b.toList ↔ a = b := by
  constructor
  · intro h
    rw [ByteArray.toList_eq, ByteArray.toList_eq] at h
    cases a; cases b; simp at h; subst h; rfl
  · rintro rfl; rfl
set_option maxHeartbeats 1600000 in
set_option maxRecDepth 20000 in
theorem impl_SameBox (x y : Box) (h1 h2 : Hd) (w : World) (i1 : BoxIs w x h1) (i2 : BoxIs w y h2) (f1 : x.msgs.length ≤ 1048576) (f2 : y.msgs.length ≤ 1048576) :
    Calls Try.prog 44 #[.agg #[.string x.name, .int .i64 x.validity, .int .i64 x.next, .slice h1.A h1.n h1.c], .agg #[.string y.name, .int .i64 y.validity, .int .i64 y.next, .slice h2.A h2.n h2.c]] w fun e w' => e = .returned (.bool (sameBox x y)) ∧ Below w.heap.size w w' := by
  obtain ⟨A1, n1, c1⟩ := h1
  obtain ⟨A2, n2, c2⟩ := h2
  have hr1 := i1.2.1
  have hr2 := i2.2.1
  simp only [] at hr1 hr2
  have hn1 : n1 ≤ 1048576 := by rw [← hr1.1]; exact f1
  have hn2 : n2 ≤ 1048576 := by rw [← hr2.1]; exact f2
  have H1 := Lib.hid hr1
  have H2 := Lib.hid hr2
  clear i1 i2 hr1 hr2 f1 f2
  by_cases e1 : x.name.toList = y.name.toList <;> by_cases e2 : x.validity = y.validity <;> by_cases e3 : x.next = y.next
  · have hs : sameBox x y = decide (x.msgs = y.msgs) := by unfold sameBox; rw [decide_eq_true (tl_eq.1 e1), decide_eq_true e2, decide_eq_true e3]; rfl
    have HS := Lib.hid hs
    clear hs
    go_enter Try.func44, Try.ntmps44
    go_wp2_with fail
    refine (slices_Equal_Msg _ _ _ _ _ _ x.msgs y.msgs _ (by omega) (by omega) (H1.out.below (by go_grown)) (H2.out.below (by go_grown))).mono ?_
    rintro e w1 ⟨rfl, hb1⟩
    have HW := Lib.hid (Below.trans (by go_grown : Below w.heap.size w _) (hb1.mono (by simp; omega)))
    clear hb1
    go_wp2
    go_ret
    exact ⟨ret_b HS.out.symm, HW.out⟩
  all_goals
    have HS := Lib.hid (show sameBox x y = false by
      unfold sameBox
      first
        | rw [decide_eq_false (fun h => e1 (tl_eq.2 h)), Bool.false_and]
        | rw [decide_eq_false e2, Bool.false_and, Bool.and_false]
        | rw [decide_eq_false e3, Bool.false_and, Bool.and_false, Bool.and_false])
    go_enter Try.func44, Try.ntmps44
    go_wp2
    go_ret
    exact ⟨ret_b HS.out.symm, by go_grown⟩

end Go.Proofs.Ytnphoodoheccoaa
