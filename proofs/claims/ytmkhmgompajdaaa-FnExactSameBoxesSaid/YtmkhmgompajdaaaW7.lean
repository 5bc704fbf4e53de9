/-
  Walks: what each function returns, and that it leaves what lay in memory as it was.
-/
import Derived.Test.YtmkhmgompajdaaaProg
import Derived.Test.YtmkhmgompajdaaaPlain
import Derived.Test.YtmkhmgompajdaaaBase2
import Derived.Test.YtmkhmgompajdaaaOpen2
import Derived.Test.YtmkhmgompajdaaaShelf
import Derived.WalkKit
import Derived.WalkSpells
import Derived.WalkLawsBesides
import Derived.Lib.Hide
import Derived.Deep.LoopGhost
import Derived.Deep.QuietTactic
import Derived.BigQuiet
import Derived.Handy
import Derived.Deep.RegionHeld3
import Derived.StillTailTactics
import Derived.OpenShut
import Derived.ChangeSame
import Derived.Laws.StructEq

import Derived.Test.YtmkhmgompajdaaaPlainT

import Derived.Test.YtmkhmgompajdaaaW1

import Derived.Test.YtmkhmgompajdaaaW2

import Derived.Test.YtmkhmgompajdaaaW3

import Derived.Test.YtmkhmgompajdaaaW5

namespace Go.Proofs.Ytmkhmgompajdaaa
open Go.ChangeShapes Go.WideShapes Go.ChangeAt Go.RowKit Go.Deep
set_option linter.unusedVariables false
set_option linter.unusedSimpArgs false

set_option maxHeartbeats 800000 in
set_option maxRecDepth 20000 in
theorem slices_Equal_Msg (A1 A2 : Option Addr) (n1 n2 c1 c2 : Nat) (xs ys : List Msg) (w : World) (hn1 : n1 ≤ 4611686018427387904) (hn2 : n2 ≤ 4611686018427387904) (h1 : Rd encMsg 3 w A1 n1 xs) (h2 : Rd encMsg 3 w A2 n2 ys) :
    Calls Try.prog 74 #[.slice A1 n1 c1, .slice A2 n2 c2] w fun e w' => e = .returned (.bool (decide (xs = ys))) ∧ Below w.heap.size w w' := by
  have H1 := Lib.hid h1
  have H2 := Lib.hid h2
  have L1 := Lib.hid h1.1
  have L2 := Lib.hid h2.1
  clear h1 h2
  by_cases hn : n1 = n2
  · subst hn
    go_enter Try.func74, Try.ntmps74
    go_wp2_with fail
    go_loopw [13] (fun i wr => ∃ k : Nat, k ≤ n1 ∧ i = .int .i64 k ∧ Below w.heap.size w wr ∧ Hid (∀ j, j < k → xs[j]? = ys[j]?)) (fun i _ => n1 - (intOf i).toNat)
    case atStart => exact ⟨0, Nat.zero_le _, rfl, Below.refl _ _, fun j hj => absurd hj (by omega)⟩
    case round =>
      obtain ⟨k, hk, rfl, hW, ha⟩ := hrel
      by_cases hlt : k < n1
      · obtain ⟨b1, o1, x, rfl, _, hx, hc1⟩ := (H1.out.below hW).elem hlt
        obtain ⟨b2, o2, y, rfl, _, hy, hc2⟩ := (H2.out.below hW).elem hlt
        have g10 : wr.cell? ⟨b1, o1 + k * 3, none⟩ = some (.int .i64 x.uid) := by simpa using hc1 0 _ rfl
        have g11 : wr.cell? ⟨b1, o1 + k * 3 + 1, none⟩ = some (.int .i64 x.flags) := hc1 1 _ rfl
        have g12 : wr.cell? ⟨b1, o1 + k * 3 + 2, none⟩ = some (.string x.text) := hc1 2 _ rfl
        have g20 : wr.cell? ⟨b2, o2 + k * 3, none⟩ = some (.int .i64 y.uid) := by simpa using hc2 0 _ rfl
        have g21 : wr.cell? ⟨b2, o2 + k * 3 + 1, none⟩ = some (.int .i64 y.flags) := hc2 1 _ rfl
        have g22 : wr.cell? ⟨b2, o2 + k * 3 + 2, none⟩ = some (.string y.text) := hc2 2 _ rfl
        have HX := Lib.hid hx
        have HY := Lib.hid hy
        have HW := Lib.hid hW
        clear hc1 hc2 hx hy hW H1 H2
        have hmsg : ∀ (e1 : x.uid = y.uid) (e2 : x.flags = y.flags) (e3 : x.text.toList = y.text.toList), x = y := by
          intro e1 e2 e3
          obtain ⟨a, b, c⟩ := x
          obtain ⟨a', b', c'⟩ := y
          simp only [] at e1 e2 e3
          rw [ByteArray.toList_eq, ByteArray.toList_eq] at e3
          have : c = c' := by cases c; cases c'; simp at e3; subst e3; rfl
          rw [e1, e2, this]
        have hno : ¬ x = y → decide (xs = ys) = false := fun hxy => decide_eq_false (fun e => hxy (by
          have h1 := HX.out
          rw [e, HY.out] at h1
          exact (Option.some.inj h1).symm))
        have HM := Lib.hid hmsg
        have HN := Lib.hid hno
        clear hmsg hno
        by_cases e1 : x.uid = y.uid <;> by_cases e2 : x.flags = y.flags <;> by_cases e3 : x.text.toList = y.text.toList
        · have hs := Lib.hid (show ∀ j, j < k + 1 → xs[j]? = ys[j]? from fun j hj => by
            by_cases h : j < k
            · exact ha.out j h
            · rw [show j = k from by omega, HX.out, HY.out, HM.out e1 e2 e3])
          clear ha
          go_wp2
          go_quiet (fail)
          go_wp2
          go_roundw
          case rel => exact ⟨k + 1, by omega, by go_num, below_drewN HW.out _, hs.out⟩
          case measure => simp [intOf]; omega
        all_goals
          have hfin := Lib.hid (HN.out (fun e => by subst e; simp at e1 e2 e3))
          clear ha
          go_wp2
          go_quiet (fail)
          go_wp2
          go_ret
          exact ⟨ret_b hfin.out.symm, below_drewN HW.out _⟩
      · have hke : k = n1 := by omega
        have hfin := Lib.hid (show decide (xs = ys) = true from decide_eq_true (List.ext_getElem? (fun j => by
          by_cases hj : j < n1
          · exact ha.out j (by omega)
          · rw [List.getElem?_eq_none (by rw [L1.out]; omega), List.getElem?_eq_none (by rw [L2.out]; omega)])))
        clear ha hke
        go_wp2
        go_ret
        exact ⟨ret_b hfin.out.symm, hW⟩
  · have hb : ((n1 : Int) == (n2 : Int)) = false := by rw [beq_eq_false_iff_ne]; omega
    have hfin := Lib.hid (show decide (xs = ys) = false from decide_eq_false (fun e => hn (by rw [← L1.out, ← L2.out, e])))
    go_enter Try.func74, Try.ntmps74
    go_wp2
    go_ret
    exact ⟨ret_b hfin.out.symm, Below.refl _ _⟩
theorem msg_eq {x y : Msg} (e1 : x.uid = y.uid) (e2 : x.flags = y.flags) (e3 : x.text.toList = y.text.toList) : x = y := by
  obtain ⟨a, b, c⟩ := x
  obtain ⟨a', b', c'⟩ := y
  simp only [] at e1 e2 e3
  rw [ByteArray.toList_eq, ByteArray.toList_eq] at e3
  have : c = c' := by cases c; cases c'; simp at e3; subst e3; rfl
  rw [e1, e2, this]
def sameBox (x y : Box) : Bool := decide (x.name = y.name) && (decide (x.validity = y.validity) && (decide (x.next = y.next) && decide (x.msgs = y.msgs)))
theorem tl_eq {a b : ByteArray} : a.toList = b.toList ↔ a = b := by
  constructor
  · intro h
    rw [ByteArray.toList_eq, ByteArray.toList_eq] at h
    cases a; cases b; simp at h; subst h; rfl
  · rintro rfl; rfl
set_option maxHeartbeats 1600000 in
set_option maxRecDepth 20000 in
theorem impl_SameBox (x y : Box) (h1 h2 : Hd) (w : World) (i1 : BoxIs w x h1) (i2 : BoxIs w y h2) (f1 : x.msgs.length ≤ 1048576) (f2 : y.msgs.length ≤ 1048576) :
    Calls Try.prog 39 #[.agg #[.string x.name, .int .i64 x.validity, .int .i64 x.next, .slice h1.A h1.n h1.c], .agg #[.string y.name, .int .i64 y.validity, .int .i64 y.next, .slice h2.A h2.n h2.c]] w fun e w' => e = .returned (.bool (sameBox x y)) ∧ Below w.heap.size w w' := by
  obtain ⟨A1, n1, c1⟩ := h1
  obtain ⟨A2, n2, c2⟩ := h2
  have hr1 := i1.2.1
  have hr2 := i2.2.1
  simp only [] at hr1 hr2
  have hn1 : n1 ≤ 1048576 := by rw [← hr1.1]; exact f1
  have hn2 : n2 ≤ 1048576 := by rw [← hr2.1]; exact f2
  have H1 := Lib.hid hr1
  have H2 := Lib.hid hr2
  clear i1 i2 hr1 hr2 f1 f2
  by_cases e1 : x.name.toList = y.name.toList <;> by_cases e2 : x.validity = y.validity <;> by_cases e3 : x.next = y.next
  · have hs : sameBox x y = decide (x.msgs = y.msgs) := by unfold sameBox; rw [decide_eq_true (tl_eq.1 e1), decide_eq_true e2, decide_eq_true e3]; rfl
    have HS := Lib.hid hs
    clear hs
    go_enter Try.func39, Try.ntmps39
    go_wp2_with fail
    refine (slices_Equal_Msg _ _ _ _ _ _ x.msgs y.msgs _ (by omega) (by omega) (H1.out.below (by go_grown)) (H2.out.below (by go_grown))).mono ?_
    rintro e w1 ⟨rfl, hb1⟩
    have HW := Lib.hid (Below.trans (by go_grown : Below w.heap.size w _) (hb1.mono (by simp; omega)))
    clear hb1
    go_wp2
    go_ret
    exact ⟨ret_b HS.out.symm, HW.out⟩
  all_goals
    have HS := Lib.hid (show sameBox x y = false by
      unfold sameBox
      first
        | rw [decide_eq_false (fun h => e1 (tl_eq.2 h)), Bool.false_and]
        | rw [decide_eq_false e2, Bool.false_and, Bool.and_false]
        | rw [decide_eq_false e3, Bool.false_and, Bool.and_false, Bool.and_false])
    go_enter Try.func39, Try.ntmps39
    go_wp2
    go_ret
    exact ⟨ret_b HS.out.symm, by go_grown⟩
set_option maxHeartbeats 1600000 in
set_option maxRecDepth 20000 in
theorem spec_SameBox (x y : Box) (h1 h2 : Hd) (w : World) (i1 : BoxIs w x h1) (i2 : BoxIs w y h2) (f1 : x.msgs.length ≤ 1048576) (f2 : y.msgs.length ≤ 1048576) :
    Calls Try.prog 38 #[.agg #[.string x.name, .int .i64 x.validity, .int .i64 x.next, .slice h1.A h1.n h1.c], .agg #[.string y.name, .int .i64 y.validity, .int .i64 y.next, .slice h2.A h2.n h2.c]] w fun e w' => e = .returned (.bool (sameBox x y)) ∧ Below w.heap.size w w' := by
  obtain ⟨A1, n1, c1⟩ := h1
  obtain ⟨A2, n2, c2⟩ := h2
  have hr1 := i1.2.1
  have hr2 := i2.2.1
  simp only [] at hr1 hr2
  have hn1 : n1 ≤ 1048576 := by rw [← hr1.1]; exact f1
  have hn2 : n2 ≤ 1048576 := by rw [← hr2.1]; exact f2
  have L1 := Lib.hid hr1.1
  have L2 := Lib.hid hr2.1
  have H1 := Lib.hid hr1
  have H2 := Lib.hid hr2
  clear i1 i2 hr1 hr2 f1 f2
  by_cases e1 : x.name.toList = y.name.toList <;> by_cases e2 : x.validity = y.validity <;> by_cases e3 : x.next = y.next <;> by_cases e4 : n1 = n2
  · have hs : sameBox x y = decide (x.msgs = y.msgs) := by unfold sameBox; rw [decide_eq_true (tl_eq.1 e1), decide_eq_true e2, decide_eq_true e3]; rfl
    have HS := Lib.hid hs
    clear hs
    subst e4
    have e1' := tl_eq.1 e1
    clear e1
    obtain ⟨nm, vd, nx, m1⟩ := x
    obtain ⟨nm', vd', nx', m2⟩ := y
    simp only [] at e1' e2 e3 L1 L2 H1 H2 HS
    subst e1' e2 e3
    dsimp only
    go_enter Try.func38, Try.ntmps38
    go_wp2_with fail
    have hW : Below w.heap.size w ((w.alloc (.cells #[.string nm, .int .i64 vd, .int .i64 nx, .slice A1 n1 c1] 29)).alloc (.cells #[.string nm, .int .i64 vd, .int .i64 nx, .slice A2 n1 c2] 29)) := by go_grown
    have p3 : ((w.alloc (.cells #[.string nm, .int .i64 vd, .int .i64 nx, .slice A1 n1 c1] 29)).alloc (.cells #[.string nm, .int .i64 vd, .int .i64 nx, .slice A2 n1 c2] 29)).cell? ⟨w.heap.size, 3, none⟩ = some (.slice A1 n1 c1) := by go_simp
    have q3 : ((w.alloc (.cells #[.string nm, .int .i64 vd, .int .i64 nx, .slice A1 n1 c1] 29)).alloc (.cells #[.string nm, .int .i64 vd, .int .i64 nx, .slice A2 n1 c2] 29)).cell? ⟨w.heap.size + 1, 3, none⟩ = some (.slice A2 n1 c2) := by go_simp
    generalize (w.alloc (.cells #[.string nm, .int .i64 vd, .int .i64 nx, .slice A1 n1 c1] 29)).alloc (.cells #[.string nm, .int .i64 vd, .int .i64 nx, .slice A2 n1 c2] 29) = w1 at *
    have hlt0 : w.heap.size < w1.heap.size := World.block_lt_of_cell? w1 _ p3
    have hlt1 : w.heap.size + 1 < w1.heap.size := World.block_lt_of_cell? w1 _ q3
    have HW := Lib.hid hW
    have R1 := Lib.hid (H1.out.below hW)
    have R2 := Lib.hid (H2.out.below hW)
    clear hW H1 H2
    go_loopw [5] (fun i wr => ∃ k : Nat, k ≤ n1 ∧ i = .int .i64 k ∧ Below w1.heap.size w1 wr ∧ Hid (∀ j, j < k → m1[j]? = m2[j]?)) (fun i _ => n1 - (intOf i).toNat)
    case atStart => exact ⟨0, Nat.zero_le _, rfl, Below.refl _ _, fun j hj => absurd hj (by omega)⟩
    case round =>
      obtain ⟨k, hk, rfl, hb, ha⟩ := hrel
      have p3' : wr.cell? ⟨w.heap.size, 3, none⟩ = some (.slice A1 n1 c1) := (hb.cell (p := ⟨w.heap.size, 3, none⟩) hlt0).trans p3
      have q3' : wr.cell? ⟨w.heap.size + 1, 3, none⟩ = some (.slice A2 n1 c2) := (hb.cell (p := ⟨w.heap.size + 1, 3, none⟩) hlt1).trans q3
      clear p3 q3
      by_cases hlt : k < n1
      · obtain ⟨b1, o1, u, rfl, _, hu, hc1⟩ := (R1.out.below hb).elem hlt
        obtain ⟨b2, o2, v, rfl, _, hv, hc2⟩ := (R2.out.below hb).elem hlt
        have g10 : wr.cell? ⟨b1, o1 + k * 3, none⟩ = some (.int .i64 u.uid) := by simpa using hc1 0 _ rfl
        have g11 : wr.cell? ⟨b1, o1 + k * 3 + 1, none⟩ = some (.int .i64 u.flags) := hc1 1 _ rfl
        have g12 : wr.cell? ⟨b1, o1 + k * 3 + 2, none⟩ = some (.string u.text) := hc1 2 _ rfl
        have g20 : wr.cell? ⟨b2, o2 + k * 3, none⟩ = some (.int .i64 v.uid) := by simpa using hc2 0 _ rfl
        have g21 : wr.cell? ⟨b2, o2 + k * 3 + 1, none⟩ = some (.int .i64 v.flags) := hc2 1 _ rfl
        have g22 : wr.cell? ⟨b2, o2 + k * 3 + 2, none⟩ = some (.string v.text) := hc2 2 _ rfl
        have HX := Lib.hid hu
        have HY := Lib.hid hv
        have HB := Lib.hid hb
        have HM := Lib.hid (fun e1 e2 e3 => msg_eq (x := u) (y := v) e1 e2 e3)
        have HN := Lib.hid (show ¬ u = v → sameBox ⟨nm, vd, nx, m1⟩ ⟨nm, vd, nx, m2⟩ = false from fun hxy => by
          rw [HS.out]
          exact decide_eq_false (fun e => hxy (by
            have h1 := HX.out
            rw [e, HY.out] at h1
            exact (Option.some.inj h1).symm)))
        clear hc1 hc2 hu hv hb R1 R2
        by_cases e1 : u.uid = v.uid <;> by_cases e2 : u.flags = v.flags <;> by_cases e3 : u.text.toList = v.text.toList
        · have hs := Lib.hid (show ∀ j, j < k + 1 → m1[j]? = m2[j]? from fun j hj => by
            by_cases h : j < k
            · exact ha.out j h
            · rw [show j = k from by omega, HX.out, HY.out, HM.out e1 e2 e3])
          clear ha
          go_wp2
          go_quiet (fail)
          go_wp2
          go_roundw
          case rel => exact ⟨k + 1, by omega, by go_num, below_drewN HB.out _, hs.out⟩
          case measure => simp [intOf]; omega
        all_goals
          have hfin := Lib.hid (HN.out (fun e => by subst e; simp at e1 e2 e3))
          clear ha
          go_wp2
          go_quiet (fail)
          go_wp2
          go_ret
          exact ⟨ret_b hfin.out.symm, HW.out.trans ((below_drewN HB.out _).mono HW.out.size)⟩
      · have hke : k = n1 := by omega
        have hfin := Lib.hid (show sameBox ⟨nm, vd, nx, m1⟩ ⟨nm, vd, nx, m2⟩ = true by
          rw [HS.out]
          exact decide_eq_true (List.ext_getElem? (fun j => by
            by_cases hj : j < n1
            · exact ha.out j (by omega)
            · rw [List.getElem?_eq_none (by rw [L1.out]; omega), List.getElem?_eq_none (by rw [L2.out]; omega)])))
        clear ha hke
        go_wp2
        go_ret
        exact ⟨ret_b hfin.out.symm, HW.out.trans (hb.mono HW.out.size)⟩
  all_goals
    have HS := Lib.hid (show sameBox x y = false by
      unfold sameBox
      first
        | rw [decide_eq_false (fun h => e1 (tl_eq.2 h)), Bool.false_and]
        | rw [decide_eq_false e2, Bool.false_and, Bool.and_false]
        | rw [decide_eq_false e3, Bool.false_and, Bool.and_false, Bool.and_false]
        | rw [decide_eq_false (fun h : x.msgs = y.msgs => e4 (by rw [← L1.out, ← L2.out, h])), Bool.and_false, Bool.and_false, Bool.and_false])
    go_enter Try.func38, Try.ntmps38
    go_wp2
    go_ret
    exact ⟨ret_b HS.out.symm, by go_grown⟩

end Go.Proofs.Ytmkhmgompajdaaa
