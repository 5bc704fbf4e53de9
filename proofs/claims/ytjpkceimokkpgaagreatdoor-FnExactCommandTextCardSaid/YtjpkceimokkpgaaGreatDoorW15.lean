/-
  Walks: what each function returns, and that it leaves what lay in memory as it was.
-/
import Derived.Test.YtjpkceimokkpgaaGreatDoorProg
import Derived.Test.YtjpkceimokkpgaaGreatDoorPlain
import Derived.Test.YtjpkceimokkpgaaGreatDoorBase2
import Derived.Test.YtjpkceimokkpgaaGreatDoorOpen2
import Derived.Test.YtjpkceimokkpgaaGreatDoorShelf
import Derived.WalkKit
import Derived.WalkSpells
import Derived.WalkLawsBesides
import Derived.Lib.Hide
import Derived.Deep.LoopGhost
import Derived.Deep.QuietTactic
import Derived.BigQuiet
import Derived.Handy
import Derived.Deep.RegionHeld3
import Derived.StillTailTactics
import Derived.OpenShut
import Derived.ChangeSame
import Derived.Laws.StructEq

import Derived.Test.YtjpkceimokkpgaaGreatDoorPlainT

import Derived.Test.YtjpkceimokkpgaaGreatDoorW1

import Derived.Test.YtjpkceimokkpgaaGreatDoorW3

import Derived.Test.YtjpkceimokkpgaaGreatDoorW5

import Derived.Test.YtjpkceimokkpgaaGreatDoorW7

import Derived.Test.YtjpkceimokkpgaaGreatDoorW14

namespace Go.Proofs.YtjpkceimokkpgaaGreatDoor
open Go.ChangeShapes Go.WideShapes Go.ChangeAt Go.RowKit Go.Deep
set_option linter.unusedVariables false
set_option linter.unusedSimpArgs false

set_option maxHeartbeats 800000 in
set_option maxRecDepth 20000 in
theorem spec_l7Spans (A1 A2 : Option Addr) (n1 n2 c1 c2 : Nat) (xs ys : List Span) (w : World) (hn1 : n1 ≤ 4611686018427387904) (hn2 : n2 ≤ 4611686018427387904) (h1 : Rd encSpan 2 w A1 n1 xs) (h2 : Rd encSpan 2 w A2 n2 ys) :
    Calls Tryz.prog 94 #[.slice A1 n1 c1, .slice A2 n2 c2] w fun e w' => e = .returned (.bool (decide (xs = ys))) ∧ Below w.heap.size w w' := by
  have H1 := Lib.hid h1
  have H2 := Lib.hid h2
  have L1 := Lib.hid h1.1
  have L2 := Lib.hid h2.1
  clear h1 h2
  by_cases hn : n1 = n2
  · subst hn
    go_enter Tryz.func94, Tryz.ntmps94
    go_wp2_with fail
    go_loopw [5] (fun i wr => ∃ k : Nat, k ≤ n1 ∧ i = .int .i64 k ∧ Below w.heap.size w wr ∧ Hid (∀ j, j < k → xs[j]? = ys[j]?)) (fun i _ => n1 - (intOf i).toNat)
    case atStart => exact ⟨0, Nat.zero_le _, rfl, Below.refl _ _, fun j hj => absurd hj (by omega)⟩
    case round =>
      obtain ⟨k, hk, rfl, hW, ha⟩ := hrel
      by_cases hlt : k < n1
      · obtain ⟨b1, o1, x, rfl, _, hx, hc1⟩ := (H1.out.below hW).elem hlt
        obtain ⟨b2, o2, y, rfl, _, hy, hc2⟩ := (H2.out.below hW).elem hlt
        obtain ⟨xa, xb⟩ := x
        obtain ⟨ya, yb⟩ := y
        have g10 : wr.cell? ⟨b1, o1 + k * 2, none⟩ = some (.int .i64 xa) := by simpa using hc1 0 _ rfl
        have g11 : wr.cell? ⟨b1, o1 + k * 2 + 1, none⟩ = some (.int .i64 xb) := hc1 1 _ rfl
        have g20 : wr.cell? ⟨b2, o2 + k * 2, none⟩ = some (.int .i64 ya) := by simpa using hc2 0 _ rfl
        have g21 : wr.cell? ⟨b2, o2 + k * 2 + 1, none⟩ = some (.int .i64 yb) := hc2 1 _ rfl
        have HX := Lib.hid hx
        have HY := Lib.hid hy
        have HW := Lib.hid hW
        clear hc1 hc2 hx hy hW H1 H2
        have hno : ¬ ((xa, xb) : Span) = (ya, yb) → decide (xs = ys) = false := fun hxy => decide_eq_false (fun e => hxy (by
          have h1 := HX.out
          rw [e, HY.out] at h1
          exact (Option.some.inj h1).symm))
        have HN := Lib.hid hno
        clear hno
        by_cases e1 : xa = ya <;> by_cases e2 : xb = yb
        · have hs := Lib.hid (show ∀ j, j < k + 1 → xs[j]? = ys[j]? from fun j hj => by
            by_cases h : j < k
            · exact ha.out j h
            · rw [show j = k from by omega, HX.out, HY.out, e1, e2])
          clear ha
          go_wp2
          go_quiet (fail)
          go_wp2
          go_roundw
          case rel => exact ⟨k + 1, by omega, by go_num, below_drewN HW.out _, hs.out⟩
          case measure => simp [intOf]; omega
        all_goals
          have hfin := Lib.hid (HN.out (fun e => by injection e with h1 h2; first | exact e1 h1 | exact e2 h2))
          clear ha
          go_wp2
          go_quiet (fail)
          go_wp2
          go_ret
          exact ⟨ret_b hfin.out.symm, below_drewN HW.out _⟩
      · have hke : k = n1 := by omega
        have hfin := Lib.hid (show decide (xs = ys) = true from decide_eq_true (List.ext_getElem? (fun j => by
          by_cases hj : j < n1
          · exact ha.out j (by omega)
          · rw [List.getElem?_eq_none (by rw [L1.out]; omega), List.getElem?_eq_none (by rw [L2.out]; omega)])))
        clear ha hke
        go_wp2
        go_ret
        exact ⟨ret_b hfin.out.symm, hW⟩
  · have hb : ((n1 : Int) == (n2 : Int)) = false := by rw [beq_eq_false_iff_ne]; omega
    have hfin := Lib.hid (show decide (xs = ys) = false from decide_eq_false (fun e => hn (by rw [← L1.out, ← L2.out, e])))
    go_enter Tryz.func94, Tryz.ntmps94
    go_wp2
    go_ret
    exact ⟨ret_b hfin.out.symm, Below.refl _ _⟩
def sameCommand (x y : Command) : Bool := ((x.tag.toList == y.tag.toList) && ((x.kind == y.kind) && ((x.box.toList == y.box.toList) && ((x.dest.toList == y.dest.toList) && ((x.uid == y.uid) && (decide (x.set = y.set) && ((x.op == y.op) && ((x.flags == y.flags) && ((x.text.toList == y.text.toList) && sameFilter x.filter y.filter)))))))))
set_option maxHeartbeats 6400000 in
set_option maxRecDepth 20000 in
theorem spec_SameCommand (x y : Command) (h1 h2 : CHd) (w : World) (i1 : CommandIs w x h1) (i2 : CommandIs w y h2) (f1 : x.Fit) (f2 : y.Fit) :
    Calls Tryz.prog 51 #[.agg #[.string x.tag, .int .i64 x.kind, .string x.box, .string x.dest, .bool x.uid, .slice h1.s.A h1.s.n h1.s.c, .int .i64 x.op, .int .i64 x.flags, .string x.text, .bool x.filter.on, .slice h1.f.A h1.f.n h1.f.c], .agg #[.string y.tag, .int .i64 y.kind, .string y.box, .string y.dest, .bool y.uid, .slice h2.s.A h2.s.n h2.s.c, .int .i64 y.op, .int .i64 y.flags, .string y.text, .bool y.filter.on, .slice h2.f.A h2.f.n h2.f.c]] w fun e w' => e = .returned (.bool (sameCommand x y)) ∧ Below w.heap.size w w' := by
  have hn1 : h1.s.n ≤ 1048576 := by rw [← i1.2.1.1]; exact f1.2.1
  have hn2 : h2.s.n ≤ 1048576 := by rw [← i2.2.1.1]; exact f2.2.1
  have I1 := Lib.hid i1
  have I2 := Lib.hid i2
  have F1 := Lib.hid f1
  have F2 := Lib.hid f2
  have HDef := Lib.hid (show sameCommand x y = ((x.tag.toList == y.tag.toList) && ((x.kind == y.kind) && ((x.box.toList == y.box.toList) && ((x.dest.toList == y.dest.toList) && ((x.uid == y.uid) && (decide (x.set = y.set) && ((x.op == y.op) && ((x.flags == y.flags) && ((x.text.toList == y.text.toList) && sameFilter x.filter y.filter))))))))) from rfl)
  clear i1 i2 f1 f2
  cases b0 : (x.tag.toList == y.tag.toList)
  · have HF := Lib.hid (show sameCommand x y = false by rw [HDef.out, b0]; rfl)
    go_enter Tryz.func51, Tryz.ntmps51
    go_wp2
    go_ret
    exact ⟨ret_b HF.out.symm, by go_grown⟩
  cases b1 : (x.kind == y.kind)
  · have HF := Lib.hid (show sameCommand x y = false by rw [HDef.out, b0, b1]; rfl)
    go_enter Tryz.func51, Tryz.ntmps51
    go_wp2
    go_ret
    exact ⟨ret_b HF.out.symm, by go_grown⟩
  cases b2 : (x.box.toList == y.box.toList)
  · have HF := Lib.hid (show sameCommand x y = false by rw [HDef.out, b0, b1, b2]; rfl)
    go_enter Tryz.func51, Tryz.ntmps51
    go_wp2
    go_ret
    exact ⟨ret_b HF.out.symm, by go_grown⟩
  cases b3 : (x.dest.toList == y.dest.toList)
  · have HF := Lib.hid (show sameCommand x y = false by rw [HDef.out, b0, b1, b2, b3]; rfl)
    go_enter Tryz.func51, Tryz.ntmps51
    go_wp2
    go_ret
    exact ⟨ret_b HF.out.symm, by go_grown⟩
  cases b4 : (x.uid == y.uid)
  · have HF := Lib.hid (show sameCommand x y = false by rw [HDef.out, b0, b1, b2, b3, b4]; rfl)
    go_enter Tryz.func51, Tryz.ntmps51
    go_wp2
    go_ret
    exact ⟨ret_b HF.out.symm, by go_grown⟩
  go_enter Tryz.func51, Tryz.ntmps51
  go_wp2_with fail
  have nB : Below w.heap.size w ((w.alloc (.cells #[.string x.tag, .int .i64 x.kind, .string x.box, .string x.dest, .bool x.uid, .slice h1.s.A h1.s.n h1.s.c, .int .i64 x.op, .int .i64 x.flags, .string x.text, .bool x.filter.on, .slice h1.f.A h1.f.n h1.f.c] 36)).alloc (.cells #[.string y.tag, .int .i64 y.kind, .string y.box, .string y.dest, .bool y.uid, .slice h2.s.A h2.s.n h2.s.c, .int .i64 y.op, .int .i64 y.flags, .string y.text, .bool y.filter.on, .slice h2.f.A h2.f.n h2.f.c] 36)) := by go_grown
  have nP : Holds ((w.alloc (.cells #[.string x.tag, .int .i64 x.kind, .string x.box, .string x.dest, .bool x.uid, .slice h1.s.A h1.s.n h1.s.c, .int .i64 x.op, .int .i64 x.flags, .string x.text, .bool x.filter.on, .slice h1.f.A h1.f.n h1.f.c] 36)).alloc (.cells #[.string y.tag, .int .i64 y.kind, .string y.box, .string y.dest, .bool y.uid, .slice h2.s.A h2.s.n h2.s.c, .int .i64 y.op, .int .i64 y.flags, .string y.text, .bool y.filter.on, .slice h2.f.A h2.f.n h2.f.c] 36)) w.heap.size [.string x.tag, .int .i64 x.kind, .string x.box, .string x.dest, .bool x.uid, .slice h1.s.A h1.s.n h1.s.c, .int .i64 x.op, .int .i64 x.flags, .string x.text, .bool x.filter.on, .slice h1.f.A h1.f.n h1.f.c] := (Holds.new w _ _).below (by go_grown)
  have nQ : Holds ((w.alloc (.cells #[.string x.tag, .int .i64 x.kind, .string x.box, .string x.dest, .bool x.uid, .slice h1.s.A h1.s.n h1.s.c, .int .i64 x.op, .int .i64 x.flags, .string x.text, .bool x.filter.on, .slice h1.f.A h1.f.n h1.f.c] 36)).alloc (.cells #[.string y.tag, .int .i64 y.kind, .string y.box, .string y.dest, .bool y.uid, .slice h2.s.A h2.s.n h2.s.c, .int .i64 y.op, .int .i64 y.flags, .string y.text, .bool y.filter.on, .slice h2.f.A h2.f.n h2.f.c] 36)) (w.heap.size + 1) [.string y.tag, .int .i64 y.kind, .string y.box, .string y.dest, .bool y.uid, .slice h2.s.A h2.s.n h2.s.c, .int .i64 y.op, .int .i64 y.flags, .string y.text, .bool y.filter.on, .slice h2.f.A h2.f.n h2.f.c] := by
    have h := Holds.new (w.alloc (.cells #[.string x.tag, .int .i64 x.kind, .string x.box, .string x.dest, .bool x.uid, .slice h1.s.A h1.s.n h1.s.c, .int .i64 x.op, .int .i64 x.flags, .string x.text, .bool x.filter.on, .slice h1.f.A h1.f.n h1.f.c] 36)) [.string y.tag, .int .i64 y.kind, .string y.box, .string y.dest, .bool y.uid, .slice h2.s.A h2.s.n h2.s.c, .int .i64 y.op, .int .i64 y.flags, .string y.text, .bool y.filter.on, .slice h2.f.A h2.f.n h2.f.c] 36
    rw [show (w.alloc (.cells #[.string x.tag, .int .i64 x.kind, .string x.box, .string x.dest, .bool x.uid, .slice h1.s.A h1.s.n h1.s.c, .int .i64 x.op, .int .i64 x.flags, .string x.text, .bool x.filter.on, .slice h1.f.A h1.f.n h1.f.c] 36)).heap.size = w.heap.size + 1 from by simp] at h
    exact h
  generalize ((w.alloc (.cells #[.string x.tag, .int .i64 x.kind, .string x.box, .string x.dest, .bool x.uid, .slice h1.s.A h1.s.n h1.s.c, .int .i64 x.op, .int .i64 x.flags, .string x.text, .bool x.filter.on, .slice h1.f.A h1.f.n h1.f.c] 36)).alloc (.cells #[.string y.tag, .int .i64 y.kind, .string y.box, .string y.dest, .bool y.uid, .slice h2.s.A h2.s.n h2.s.c, .int .i64 y.op, .int .i64 y.flags, .string y.text, .bool y.filter.on, .slice h2.f.A h2.f.n h2.f.c] 36)) = W0 at *
  have HC := Lib.hid (spec_l7Spans h1.s.A h2.s.A h1.s.n h2.s.n h1.s.c h2.s.c x.set y.set W0 (by omega) (by omega) (I1.out.2.1.below nB) (I2.out.2.1.below nB))
  have NB := Lib.hid nB
  have NP := Lib.hid nP
  have NQ := Lib.hid nQ
  clear nB nP nQ
  cases b5 : decide (x.set = y.set)
  · have HF := Lib.hid (show sameCommand x y = false by rw [HDef.out, b0, b1, b2, b3, b4, b5]; rfl)
    have HC5 := HC.out
    rw [b5] at HC5
    clear HC
    refine HC5.mono ?_
    rintro e w2 ⟨rfl, hb⟩
    have HB := Lib.hid (NB.out.trans (hb.mono NB.out.size))
    clear hb HC5
    go_wp2
    go_ret
    exact ⟨ret_b HF.out.symm, HB.out⟩
  have HC5 := HC.out
  rw [b5] at HC5
  clear HC
  refine HC5.mono ?_
  rintro e w2 ⟨rfl, hb⟩
  have HB := Lib.hid (NB.out.trans (hb.mono NB.out.size))
  have HP := Lib.hid (NP.out.below hb)
  have HQ := Lib.hid (NQ.out.below hb)
  clear hb HC5 NP NQ NB
  have p6 := HP.out.2 6 (.int .i64 x.op) rfl
  have q6 := HQ.out.2 6 (.int .i64 y.op) rfl
  have p7 := HP.out.2 7 (.int .i64 x.flags) rfl
  have q7 := HQ.out.2 7 (.int .i64 y.flags) rfl
  have p8 := HP.out.2 8 (.string x.text) rfl
  have q8 := HQ.out.2 8 (.string y.text) rfl
  have p9 := HP.out.2 9 (.bool x.filter.on) rfl
  have q9 := HQ.out.2 9 (.bool y.filter.on) rfl
  have p10 := HP.out.2 10 (.slice h1.f.A h1.f.n h1.f.c) rfl
  have q10 := HQ.out.2 10 (.slice h2.f.A h2.f.n h2.f.c) rfl
  cases b6 : (x.op == y.op)
  · have HF := Lib.hid (show sameCommand x y = false by rw [HDef.out, b0, b1, b2, b3, b4, b5, b6]; rfl)
    go_wp2
    go_ret
    exact ⟨ret_b HF.out.symm, HB.out⟩
  cases b7 : (x.flags == y.flags)
  · have HF := Lib.hid (show sameCommand x y = false by rw [HDef.out, b0, b1, b2, b3, b4, b5, b6, b7]; rfl)
    go_wp2
    go_ret
    exact ⟨ret_b HF.out.symm, HB.out⟩
  cases b8 : (x.text.toList == y.text.toList)
  · have HF := Lib.hid (show sameCommand x y = false by rw [HDef.out, b0, b1, b2, b3, b4, b5, b6, b7, b8]; rfl)
    go_wp2
    go_ret
    exact ⟨ret_b HF.out.symm, HB.out⟩
  have HF := Lib.hid (show sameCommand x y = sameFilter x.filter y.filter by rw [HDef.out, b0, b1, b2, b3, b4, b5, b6, b7, b8]; simp only [Bool.true_and])
  go_wp2_with fail
  refine (spec_SameFilter x.filter y.filter h1.f h2.f w2 (I1.out.2.2.2.below HB.out) (I2.out.2.2.2.below HB.out) F1.out.2.2 F2.out.2.2).mono ?_
  rintro e w3 ⟨rfl, hb3⟩
  have HB3 := Lib.hid (HB.out.trans (hb3.mono HB.out.size))
  clear hb3
  go_wp2
  go_ret
  exact ⟨ret_b HF.out.symm, HB3.out⟩

end Go.Proofs.YtjpkceimokkpgaaGreatDoor
