/-
  Walks: what each function returns, and that it leaves what lay in memory as it was.
-/
import Derived.Test.YtjpkceimokkpgaaGreatDoorProg
import Derived.Test.YtjpkceimokkpgaaGreatDoorPlain
import Derived.Test.YtjpkceimokkpgaaGreatDoorBase2
import Derived.Test.YtjpkceimokkpgaaGreatDoorOpen2
import Derived.Test.YtjpkceimokkpgaaGreatDoorShelf
import Derived.WalkKit
import Derived.WalkSpells
import Derived.WalkLawsBesides
import Derived.Lib.Hide
import Derived.Deep.LoopGhost
import Derived.Deep.QuietTactic
import Derived.BigQuiet
import Derived.Handy
import Derived.Deep.RegionHeld3
import Derived.StillTailTactics
import Derived.OpenShut
import Derived.ChangeSame
import Derived.Laws.StructEq

import Derived.Test.YtjpkceimokkpgaaGreatDoorPlainT

import Derived.Test.YtjpkceimokkpgaaGreatDoorW1

import Derived.Test.YtjpkceimokkpgaaGreatDoorW2

import Derived.Test.YtjpkceimokkpgaaGreatDoorW3

import Derived.Test.YtjpkceimokkpgaaGreatDoorW4

import Derived.Test.YtjpkceimokkpgaaGreatDoorW5

import Derived.Test.YtjpkceimokkpgaaGreatDoorW7

import Derived.Test.YtjpkceimokkpgaaGreatDoorW9

import Derived.Test.YtjpkceimokkpgaaGreatDoorW14

import Derived.Test.YtjpkceimokkpgaaGreatDoorW15

import Derived.Test.YtjpkceimokkpgaaGreatDoorW17

import Derived.Test.YtjpkceimokkpgaaGreatDoorW18

namespace Go.Proofs.YtjpkceimokkpgaaGreatDoor
open Go.ChangeShapes Go.WideShapes Go.ChangeAt Go.RowKit Go.Deep
set_option linter.unusedVariables false
set_option linter.unusedSimpArgs false

set_option maxRecDepth 20000

theorem spec_l7Boxed (k : Int) (w : World) :
    Calls Tryz.prog 53 #[.int .i64 k] w fun e w' => e = .returned (.bool (boxedK k)) ∧ w = w' := by
  cases h2 : (k == 2) with
  | true =>
    have HF := Lib.hid (show boxedK k = true by unfold boxedK; simp [h2])
    go_enter Tryz.func53, Tryz.ntmps53
    go_wp2
    go_ret
    exact ⟨ret_b HF.out.symm, rfl⟩
  | false =>
    cases h11 : (k == 11) with
    | true =>
      have HF := Lib.hid (show boxedK k = true by unfold boxedK; simp [h2, h11])
      go_enter Tryz.func53, Tryz.ntmps53
      go_wp2
      go_ret
      exact ⟨ret_b HF.out.symm, rfl⟩
    | false =>
      cases h12 : (k == 12) with
      | true =>
        have HF := Lib.hid (show boxedK k = true by unfold boxedK; simp [h2, h11, h12])
        go_enter Tryz.func53, Tryz.ntmps53
        go_wp2
        go_ret
        exact ⟨ret_b HF.out.symm, rfl⟩
      | false =>
        cases h13 : (k == 13) with
        | true =>
          have HF := Lib.hid (show boxedK k = true by unfold boxedK; simp [h2, h11, h12, h13])
          go_enter Tryz.func53, Tryz.ntmps53
          go_wp2
          go_ret
          exact ⟨ret_b HF.out.symm, rfl⟩
        | false =>
          cases h14 : (k == 14) with
          | true =>
            have HF := Lib.hid (show boxedK k = true by unfold boxedK; simp [h2, h11, h12, h13, h14])
            go_enter Tryz.func53, Tryz.ntmps53
            go_wp2
            go_ret
            exact ⟨ret_b HF.out.symm, rfl⟩
          | false =>
            cases h10 : (k == 10) with
            | true =>
              have HF := Lib.hid (show boxedK k = true by unfold boxedK; simp [h2, h11, h12, h13, h14, h10])
              go_enter Tryz.func53, Tryz.ntmps53
              go_wp2
              go_ret
              exact ⟨ret_b HF.out.symm, rfl⟩
            | false =>
              have HF := Lib.hid (show boxedK k = false by unfold boxedK; simp [h2, h11, h12, h13, h14, h10])
              go_enter Tryz.func53, Tryz.ntmps53
              go_wp2
              go_ret
              exact ⟨ret_b HF.out.symm, rfl⟩
theorem spec_l7Sets (k : Int) (w : World) :
    Calls Tryz.prog 55 #[.int .i64 k] w fun e w' => e = .returned (.bool (setsK k)) ∧ w = w' := by
  cases h7 : (k == 7) with
  | true =>
    have HF := Lib.hid (show setsK k = true by unfold setsK; simp [h7])
    go_enter Tryz.func55, Tryz.ntmps55
    go_wp2
    go_ret
    exact ⟨ret_b HF.out.symm, rfl⟩
  | false =>
    cases h8 : (k == 8) with
    | true =>
      have HF := Lib.hid (show setsK k = true by unfold setsK; simp [h7, h8])
      go_enter Tryz.func55, Tryz.ntmps55
      go_wp2
      go_ret
      exact ⟨ret_b HF.out.symm, rfl⟩
    | false =>
      cases h10 : (k == 10) with
      | true =>
        have HF := Lib.hid (show setsK k = true by unfold setsK; simp [h7, h8, h10])
        go_enter Tryz.func55, Tryz.ntmps55
        go_wp2
        go_ret
        exact ⟨ret_b HF.out.symm, rfl⟩
      | false =>
        have HF := Lib.hid (show setsK k = false by unfold setsK; simp [h7, h8, h10])
        go_enter Tryz.func55, Tryz.ntmps55
        go_wp2
        go_ret
        exact ⟨ret_b HF.out.symm, rfl⟩
def saidH (x : Command) (h : CHd) : CHd := ⟨if setsK x.kind then h.s else ⟨none, 0, 0⟩, if x.kind == 6 then h.f else ⟨none, 0, 0, []⟩⟩
theorem said_is {w : World} {x : Command} {h : CHd} (i : CommandIs w x h) : CommandIs w (said x) (saidH x h) := by
  obtain ⟨⟨i1, i2, i3, i4⟩, i5, i6, i7⟩ := i
  unfold said saidH CommandIs
  simp only []
  have z : emptyB.size ≤ maxLen := Nat.zero_le _
  refine ⟨⟨i1, ?_, ?_, ?_⟩, ?_, ?_, ?_⟩
  · split <;> assumption
  · split <;> assumption
  · split <;> assumption
  · split
    · exact i5
    · exact Rd.none_ _ _ _ _
  · split
    · exact i6
    · exact Nat.zero_le _
  · split
    · exact i7
    · exact noFilter_is _
theorem said_fit {x : Command} (f : x.Fit) : (said x).Fit := by
  obtain ⟨⟨i1, i2, i3, i4⟩, i5, i6⟩ := f
  unfold said Command.Fit
  simp only []
  have z : emptyB.size ≤ 1048576 := Nat.zero_le _
  refine ⟨⟨i1, ?_, ?_, ?_⟩, ?_, ?_⟩
  · split <;> assumption
  · split <;> assumption
  · split <;> assumption
  · split
    · exact i5
    · exact Nat.zero_le _
  · split
    · exact i6
    · exact noFilter_fit
set_option maxHeartbeats 6400000 in
set_option maxRecDepth 20000 in
theorem spec_l7Said (x : Command) (h : CHd) (w : World) :
    Calls Tryz.prog 52 #[.agg #[.string x.tag, .int .i64 x.kind, .string x.box, .string x.dest, .bool x.uid, .slice h.s.A h.s.n h.s.c, .int .i64 x.op, .int .i64 x.flags, .string x.text, .bool x.filter.on, .slice h.f.A h.f.n h.f.c]] w fun e w' => e = .returned (.agg #[.string (said x).tag, .int .i64 (said x).kind, .string (said x).box, .string (said x).dest, .bool (said x).uid, .slice (saidH x h).s.A (saidH x h).s.n (saidH x h).s.c, .int .i64 (said x).op, .int .i64 (said x).flags, .string (said x).text, .bool (said x).filter.on, .slice (saidH x h).f.A (saidH x h).f.n (saidH x h).f.c]) ∧ Below w.heap.size w w' := by
  have main : ∀ (y : Command) (hy : CHd), said x = y → saidH x h = hy → Calls Tryz.prog 52 #[.agg #[.string x.tag, .int .i64 x.kind, .string x.box, .string x.dest, .bool x.uid, .slice h.s.A h.s.n h.s.c, .int .i64 x.op, .int .i64 x.flags, .string x.text, .bool x.filter.on, .slice h.f.A h.f.n h.f.c]] w fun e w' => e = .returned (.agg #[.string y.tag, .int .i64 y.kind, .string y.box, .string y.dest, .bool y.uid, .slice hy.s.A hy.s.n hy.s.c, .int .i64 y.op, .int .i64 y.flags, .string y.text, .bool y.filter.on, .slice hy.f.A hy.f.n hy.f.c]) ∧ Below w.heap.size w w' := by
    intro y hy hsy hsh
    by_cases hk : x.kind = 14
    · have B1 := Lib.hid (show boxedK x.kind = true by rw [hk]; rfl)
      have B3 := Lib.hid (show setsK x.kind = false by rw [hk]; rfl)
      have k14 : (x.kind == 14) = true := by rw [hk]; rfl
      have k8 : (x.kind == 8) = false := by rw [hk]; rfl
      have k11 : (x.kind == 11) = false := by rw [hk]; rfl
      have k6 : (x.kind == 6) = false := by rw [hk]; rfl
      have HK := Lib.hid hk
      clear hk
      have HY := Lib.hid (show (⟨x.tag, x.kind, x.box, x.dest, false, [], 0, 0, emptyB, noFilter⟩ : Command) = y by rw [← hsy]; unfold said flagsK; simp only [B1.out, B3.out, k14, k8, k11, k6]; rfl)
      have HH := Lib.hid (show (⟨⟨none, 0, 0⟩, ⟨none, 0, 0, []⟩⟩ : CHd) = hy by rw [← hsh]; unfold saidH; simp only [B3.out, k6]; rfl)
      clear hsy hsh
      go_enter Tryz.func52, Tryz.ntmps52
      go_wp2_with (first | (go_at_call 53; refine (spec_l7Boxed _ _).mono ?_; rw [B1.out]; rintro e w' ⟨rfl, rfl⟩) | (go_at_call 55; refine (spec_l7Sets _ _).mono ?_; rw [B3.out]; rintro e w' ⟨rfl, rfl⟩))
      refine bodyPost_ret (by simp [results, Tryz.results52, go_sem]; try rfl) rfl ?_
      refine ⟨?_, ?_⟩
      · rw [← HY.out, ← HH.out]; rfl
      · (repeat (with_reducible refine Below.setCell ?_ ?_ _)) <;> first | (simp only []; omega) | go_grown
    have k14 : (x.kind == 14) = false := beq_eq_false_iff_ne.2 hk
    clear hk
    by_cases hk : x.kind = 8
    · have B1 := Lib.hid (show boxedK x.kind = false by rw [hk]; rfl)
      have B3 := Lib.hid (show setsK x.kind = true by rw [hk]; rfl)
      have k14 : (x.kind == 14) = false := by rw [hk]; rfl
      have k8 : (x.kind == 8) = true := by rw [hk]; rfl
      have k11 : (x.kind == 11) = false := by rw [hk]; rfl
      have k6 : (x.kind == 6) = false := by rw [hk]; rfl
      have HK := Lib.hid hk
      clear hk
      have HY := Lib.hid (show (⟨x.tag, x.kind, emptyB, emptyB, x.uid, x.set, x.op, x.flags, emptyB, noFilter⟩ : Command) = y by rw [← hsy]; unfold said flagsK; simp only [B1.out, B3.out, k14, k8, k11, k6]; rfl)
      have HH := Lib.hid (show (⟨h.s, ⟨none, 0, 0, []⟩⟩ : CHd) = hy by rw [← hsh]; unfold saidH; simp only [B3.out, k6]; rfl)
      clear hsy hsh
      go_enter Tryz.func52, Tryz.ntmps52
      go_wp2_with (first | (go_at_call 53; refine (spec_l7Boxed _ _).mono ?_; rw [B1.out]; rintro e w' ⟨rfl, rfl⟩) | (go_at_call 55; refine (spec_l7Sets _ _).mono ?_; rw [B3.out]; rintro e w' ⟨rfl, rfl⟩))
      refine bodyPost_ret (by simp [results, Tryz.results52, go_sem]; try rfl) rfl ?_
      refine ⟨?_, ?_⟩
      · rw [← HY.out, ← HH.out]; rfl
      · (repeat (with_reducible refine Below.setCell ?_ ?_ _)) <;> first | (simp only []; omega) | go_grown
    have k8 : (x.kind == 8) = false := beq_eq_false_iff_ne.2 hk
    clear hk
    by_cases hk : x.kind = 11
    · have B1 := Lib.hid (show boxedK x.kind = true by rw [hk]; rfl)
      have B3 := Lib.hid (show setsK x.kind = false by rw [hk]; rfl)
      have k14 : (x.kind == 14) = false := by rw [hk]; rfl
      have k8 : (x.kind == 8) = false := by rw [hk]; rfl
      have k11 : (x.kind == 11) = true := by rw [hk]; rfl
      have k6 : (x.kind == 6) = false := by rw [hk]; rfl
      have HK := Lib.hid hk
      clear hk
      have HY := Lib.hid (show (⟨x.tag, x.kind, x.box, emptyB, false, [], 0, x.flags, x.text, noFilter⟩ : Command) = y by rw [← hsy]; unfold said flagsK; simp only [B1.out, B3.out, k14, k8, k11, k6]; rfl)
      have HH := Lib.hid (show (⟨⟨none, 0, 0⟩, ⟨none, 0, 0, []⟩⟩ : CHd) = hy by rw [← hsh]; unfold saidH; simp only [B3.out, k6]; rfl)
      clear hsy hsh
      go_enter Tryz.func52, Tryz.ntmps52
      go_wp2_with (first | (go_at_call 53; refine (spec_l7Boxed _ _).mono ?_; rw [B1.out]; rintro e w' ⟨rfl, rfl⟩) | (go_at_call 55; refine (spec_l7Sets _ _).mono ?_; rw [B3.out]; rintro e w' ⟨rfl, rfl⟩))
      refine bodyPost_ret (by simp [results, Tryz.results52, go_sem]; try rfl) rfl ?_
      refine ⟨?_, ?_⟩
      · rw [← HY.out, ← HH.out]; rfl
      · (repeat (with_reducible refine Below.setCell ?_ ?_ _)) <;> first | (simp only []; omega) | go_grown
    have k11 : (x.kind == 11) = false := beq_eq_false_iff_ne.2 hk
    clear hk
    by_cases hk : x.kind = 6
    · have B1 := Lib.hid (show boxedK x.kind = false by rw [hk]; rfl)
      have B3 := Lib.hid (show setsK x.kind = false by rw [hk]; rfl)
      have k14 : (x.kind == 14) = false := by rw [hk]; rfl
      have k8 : (x.kind == 8) = false := by rw [hk]; rfl
      have k11 : (x.kind == 11) = false := by rw [hk]; rfl
      have k6 : (x.kind == 6) = true := by rw [hk]; rfl
      have HK := Lib.hid hk
      clear hk
      have HY := Lib.hid (show (⟨x.tag, x.kind, emptyB, emptyB, false, [], 0, 0, emptyB, x.filter⟩ : Command) = y by rw [← hsy]; unfold said flagsK; simp only [B1.out, B3.out, k14, k8, k11, k6]; rfl)
      have HH := Lib.hid (show (⟨⟨none, 0, 0⟩, h.f⟩ : CHd) = hy by rw [← hsh]; unfold saidH; simp only [B3.out, k6]; rfl)
      clear hsy hsh
      go_enter Tryz.func52, Tryz.ntmps52
      go_wp2_with (first | (go_at_call 53; refine (spec_l7Boxed _ _).mono ?_; rw [B1.out]; rintro e w' ⟨rfl, rfl⟩) | (go_at_call 55; refine (spec_l7Sets _ _).mono ?_; rw [B3.out]; rintro e w' ⟨rfl, rfl⟩))
      refine bodyPost_ret (by simp [results, Tryz.results52, go_sem]; try rfl) rfl ?_
      refine ⟨?_, ?_⟩
      · rw [← HY.out, ← HH.out]; rfl
      · (repeat (with_reducible refine Below.setCell ?_ ?_ _)) <;> first | (simp only []; omega) | go_grown
    have k6 : (x.kind == 6) = false := beq_eq_false_iff_ne.2 hk
    clear hk
    cases hb1 : boxedK x.kind
    all_goals
      cases hb3 : setsK x.kind
    · have B1 := Lib.hid hb1
      have B3 := Lib.hid hb3
      clear hb1 hb3
      have HY := Lib.hid (show (⟨x.tag, x.kind, emptyB, emptyB, false, [], 0, 0, emptyB, noFilter⟩ : Command) = y by rw [← hsy]; unfold said flagsK; simp only [B1.out, B3.out, k14, k8, k11, k6]; rfl)
      have HH := Lib.hid (show (⟨⟨none, 0, 0⟩, ⟨none, 0, 0, []⟩⟩ : CHd) = hy by rw [← hsh]; unfold saidH; simp only [B3.out, k6]; rfl)
      clear hsy hsh
      go_enter Tryz.func52, Tryz.ntmps52
      go_wp2_with (first | (go_at_call 53; refine (spec_l7Boxed _ _).mono ?_; rw [B1.out]; rintro e w' ⟨rfl, rfl⟩) | (go_at_call 55; refine (spec_l7Sets _ _).mono ?_; rw [B3.out]; rintro e w' ⟨rfl, rfl⟩))
      refine bodyPost_ret (by simp [results, Tryz.results52, go_sem]; try rfl) rfl ?_
      refine ⟨?_, ?_⟩
      · rw [← HY.out, ← HH.out]; rfl
      · (repeat (with_reducible refine Below.setCell ?_ ?_ _)) <;> first | (simp only []; omega) | go_grown
    · have B1 := Lib.hid hb1
      have B3 := Lib.hid hb3
      clear hb1 hb3
      have HY := Lib.hid (show (⟨x.tag, x.kind, emptyB, emptyB, x.uid, x.set, 0, 0, emptyB, noFilter⟩ : Command) = y by rw [← hsy]; unfold said flagsK; simp only [B1.out, B3.out, k14, k8, k11, k6]; rfl)
      have HH := Lib.hid (show (⟨h.s, ⟨none, 0, 0, []⟩⟩ : CHd) = hy by rw [← hsh]; unfold saidH; simp only [B3.out, k6]; rfl)
      clear hsy hsh
      go_enter Tryz.func52, Tryz.ntmps52
      go_wp2_with (first | (go_at_call 53; refine (spec_l7Boxed _ _).mono ?_; rw [B1.out]; rintro e w' ⟨rfl, rfl⟩) | (go_at_call 55; refine (spec_l7Sets _ _).mono ?_; rw [B3.out]; rintro e w' ⟨rfl, rfl⟩))
      refine bodyPost_ret (by simp [results, Tryz.results52, go_sem]; try rfl) rfl ?_
      refine ⟨?_, ?_⟩
      · rw [← HY.out, ← HH.out]; rfl
      · (repeat (with_reducible refine Below.setCell ?_ ?_ _)) <;> first | (simp only []; omega) | go_grown
    · have B1 := Lib.hid hb1
      have B3 := Lib.hid hb3
      clear hb1 hb3
      have HY := Lib.hid (show (⟨x.tag, x.kind, x.box, emptyB, false, [], 0, 0, emptyB, noFilter⟩ : Command) = y by rw [← hsy]; unfold said flagsK; simp only [B1.out, B3.out, k14, k8, k11, k6]; rfl)
      have HH := Lib.hid (show (⟨⟨none, 0, 0⟩, ⟨none, 0, 0, []⟩⟩ : CHd) = hy by rw [← hsh]; unfold saidH; simp only [B3.out, k6]; rfl)
      clear hsy hsh
      go_enter Tryz.func52, Tryz.ntmps52
      go_wp2_with (first | (go_at_call 53; refine (spec_l7Boxed _ _).mono ?_; rw [B1.out]; rintro e w' ⟨rfl, rfl⟩) | (go_at_call 55; refine (spec_l7Sets _ _).mono ?_; rw [B3.out]; rintro e w' ⟨rfl, rfl⟩))
      refine bodyPost_ret (by simp [results, Tryz.results52, go_sem]; try rfl) rfl ?_
      refine ⟨?_, ?_⟩
      · rw [← HY.out, ← HH.out]; rfl
      · (repeat (with_reducible refine Below.setCell ?_ ?_ _)) <;> first | (simp only []; omega) | go_grown
    · have B1 := Lib.hid hb1
      have B3 := Lib.hid hb3
      clear hb1 hb3
      have HY := Lib.hid (show (⟨x.tag, x.kind, x.box, emptyB, x.uid, x.set, 0, 0, emptyB, noFilter⟩ : Command) = y by rw [← hsy]; unfold said flagsK; simp only [B1.out, B3.out, k14, k8, k11, k6]; rfl)
      have HH := Lib.hid (show (⟨h.s, ⟨none, 0, 0, []⟩⟩ : CHd) = hy by rw [← hsh]; unfold saidH; simp only [B3.out, k6]; rfl)
      clear hsy hsh
      go_enter Tryz.func52, Tryz.ntmps52
      go_wp2_with (first | (go_at_call 53; refine (spec_l7Boxed _ _).mono ?_; rw [B1.out]; rintro e w' ⟨rfl, rfl⟩) | (go_at_call 55; refine (spec_l7Sets _ _).mono ?_; rw [B3.out]; rintro e w' ⟨rfl, rfl⟩))
      refine bodyPost_ret (by simp [results, Tryz.results52, go_sem]; try rfl) rfl ?_
      refine ⟨?_, ?_⟩
      · rw [← HY.out, ← HH.out]; rfl
      · (repeat (with_reducible refine Below.setCell ?_ ?_ _)) <;> first | (simp only []; omega) | go_grown
  exact main _ _ rfl rfl
set_option maxHeartbeats 6400000 in
set_option maxRecDepth 20000 in
theorem spec_CommandOk (x : Command) (h : CHd) (w : World) (i : CommandIs w x h) (f : x.Fit) :
    Calls Tryz.prog 18 #[.agg #[.string x.tag, .int .i64 x.kind, .string x.box, .string x.dest, .bool x.uid, .slice h.s.A h.s.n h.s.c, .int .i64 x.op, .int .i64 x.flags, .string x.text, .bool x.filter.on, .slice h.f.A h.f.n h.f.c]] w fun e w' => e = .returned (.bool (commandOk x)) ∧ Below w.heap.size w w' := by
  have hn1 : h.s.n ≤ 1048576 := by rw [← i.2.1.1]; exact f.2.1
  have F := Lib.hid f
  obtain ⟨t0, ht0⟩ : ∃ b, tagOk x.tag.data.toList = b := ⟨_, rfl⟩
  obtain ⟨k0, hk0⟩ : ∃ b, inR x.kind 1 15 = b := ⟨_, rfl⟩
  obtain ⟨b1, hb1⟩ : ∃ b, boxedK x.kind = b := ⟨_, rfl⟩
  obtain ⟨n1, hn1⟩ : ∃ b, nameOk x.box.data.toList = b := ⟨_, rfl⟩
  obtain ⟨n2, hn2⟩ : ∃ b, nameOk x.dest.data.toList = b := ⟨_, rfl⟩
  obtain ⟨b3, hb3⟩ : ∃ b, setsK x.kind = b := ⟨_, rfl⟩
  obtain ⟨s3, hs3⟩ : ∃ b, setOk x.set = b := ⟨_, rfl⟩
  obtain ⟨o4, ho4⟩ : ∃ b, inR x.op 1 3 = b := ⟨_, rfl⟩
  obtain ⟨f5, hf5⟩ : ∃ b, inR x.flags 0 31 = b := ⟨_, rfl⟩
  obtain ⟨t6, ht6⟩ : ∃ b, decide (x.text.size ≤ 40) = b := ⟨_, rfl⟩
  obtain ⟨f7, hf7⟩ : ∃ b, filterOk x.filter = b := ⟨_, rfl⟩
  obtain ⟨b2, hb2⟩ : ∃ b, (x.kind == 14) = b := ⟨_, rfl⟩
  obtain ⟨b4, hb4⟩ : ∃ b, (x.kind == 8) = b := ⟨_, rfl⟩
  obtain ⟨sm, hsm⟩ : ∃ b, sameCommand (said x) x = b := ⟨_, rfl⟩
  have HDef := Lib.hid (show commandOk x = (t0 && (k0 && (sm && (!((b1 && !n1) || ((b2 && !n2) || ((b3 && !s3) || (b4 && !o4)))) && (f5 && (t6 && f7)))))) by
    rw [commandOk_spec]; unfold badArgs restOk
    rw [ht0, hk0, hb1, hn1, hn2, hb3, hs3, ho4, hf5, ht6, hf7, hb2, hb4, hsm])
  have Ht0 := Lib.hid ht0
  clear ht0
  have Hk0 := Lib.hid hk0
  clear hk0
  have Hb1 := Lib.hid hb1
  clear hb1
  have Hn1 := Lib.hid hn1
  clear hn1
  have Hn2 := Lib.hid hn2
  clear hn2
  have Hb3 := Lib.hid hb3
  clear hb3
  have Hs3 := Lib.hid hs3
  clear hs3
  have Ho4 := Lib.hid ho4
  clear ho4
  have Hf5 := Lib.hid hf5
  clear hf5
  have Ht6 := Lib.hid ht6
  clear ht6
  have Hf7 := Lib.hid hf7
  clear hf7
  have Hsm := Lib.hid hsm
  clear hsm
  have ht6i : decide ((x.text.size : Int) ≤ 40) = t6 := by rw [← Ht6.out]; exact decide_eq_decide.2 (by omega)
  rw [HDef.out]
  clear HDef
  obtain ⟨y, hy⟩ : ∃ y, said x = y := ⟨_, rfl⟩
  obtain ⟨hh, hhh⟩ : ∃ hh, saidH x h = hh := ⟨_, rfl⟩
  have HSaid := Lib.hid (fun w => (hy ▸ hhh ▸ spec_l7Said x h w : Calls Tryz.prog 52 #[.agg #[.string x.tag, .int .i64 x.kind, .string x.box, .string x.dest, .bool x.uid, .slice h.s.A h.s.n h.s.c, .int .i64 x.op, .int .i64 x.flags, .string x.text, .bool x.filter.on, .slice h.f.A h.f.n h.f.c]] w fun e w' => e = .returned (.agg #[.string y.tag, .int .i64 y.kind, .string y.box, .string y.dest, .bool y.uid, .slice hh.s.A hh.s.n hh.s.c, .int .i64 y.op, .int .i64 y.flags, .string y.text, .bool y.filter.on, .slice hh.f.A hh.f.n hh.f.c]) ∧ Below w.heap.size w w'))
  have Fy := Lib.hid (show y.Fit from hy ▸ said_fit f)
  have nB : Below w.heap.size w (w.alloc (.cells #[.string x.tag, .int .i64 x.kind, .string x.box, .string x.dest, .bool x.uid, .slice h.s.A h.s.n h.s.c, .int .i64 x.op, .int .i64 x.flags, .string x.text, .bool x.filter.on, .slice h.f.A h.f.n h.f.c] 36)) := by go_grown
  have nP : Holds (w.alloc (.cells #[.string x.tag, .int .i64 x.kind, .string x.box, .string x.dest, .bool x.uid, .slice h.s.A h.s.n h.s.c, .int .i64 x.op, .int .i64 x.flags, .string x.text, .bool x.filter.on, .slice h.f.A h.f.n h.f.c] 36)) w.heap.size [.string x.tag, .int .i64 x.kind, .string x.box, .string x.dest, .bool x.uid, .slice h.s.A h.s.n h.s.c, .int .i64 x.op, .int .i64 x.flags, .string x.text, .bool x.filter.on, .slice h.f.A h.f.n h.f.c] := Holds.new w _ _
  have HI := Lib.hid (i.below nB)
  have HY := Lib.hid (show CommandIs (w.alloc (.cells #[.string x.tag, .int .i64 x.kind, .string x.box, .string x.dest, .bool x.uid, .slice h.s.A h.s.n h.s.c, .int .i64 x.op, .int .i64 x.flags, .string x.text, .bool x.filter.on, .slice h.f.A h.f.n h.f.c] 36)) y hh from hy ▸ hhh ▸ said_is (i.below nB))
  have HB := Lib.hid nB
  have HP := Lib.hid nP
  rw [hy] at Hsm
  clear i f nB nP hy hhh
  go_enter Tryz.func18, Tryz.ntmps18
  go_wp2_with fail
  generalize hW0 : (w.alloc (.cells #[.string x.tag, .int .i64 x.kind, .string x.box, .string x.dest, .bool x.uid, .slice h.s.A h.s.n h.s.c, .int .i64 x.op, .int .i64 x.flags, .string x.text, .bool x.filter.on, .slice h.f.A h.f.n h.f.c] 36)) = w1 at *
  clear hW0
  have c0 : ∀ u : Later w1, u.at_.cell? ⟨w.heap.size, 0, none⟩ = some (.string x.tag) := fun u => u.cell (HP.out.2 0 _ rfl)
  have c1 : ∀ u : Later w1, u.at_.cell? ⟨w.heap.size, 1, none⟩ = some (.int .i64 x.kind) := fun u => u.cell (HP.out.2 1 _ rfl)
  have c2 : ∀ u : Later w1, u.at_.cell? ⟨w.heap.size, 2, none⟩ = some (.string x.box) := fun u => u.cell (HP.out.2 2 _ rfl)
  have c3 : ∀ u : Later w1, u.at_.cell? ⟨w.heap.size, 3, none⟩ = some (.string x.dest) := fun u => u.cell (HP.out.2 3 _ rfl)
  have c4 : ∀ u : Later w1, u.at_.cell? ⟨w.heap.size, 4, none⟩ = some (.bool x.uid) := fun u => u.cell (HP.out.2 4 _ rfl)
  have c5 : ∀ u : Later w1, u.at_.cell? ⟨w.heap.size, 5, none⟩ = some (.slice h.s.A h.s.n h.s.c) := fun u => u.cell (HP.out.2 5 _ rfl)
  have c6 : ∀ u : Later w1, u.at_.cell? ⟨w.heap.size, 6, none⟩ = some (.int .i64 x.op) := fun u => u.cell (HP.out.2 6 _ rfl)
  have c7 : ∀ u : Later w1, u.at_.cell? ⟨w.heap.size, 7, none⟩ = some (.int .i64 x.flags) := fun u => u.cell (HP.out.2 7 _ rfl)
  have c8 : ∀ u : Later w1, u.at_.cell? ⟨w.heap.size, 8, none⟩ = some (.string x.text) := fun u => u.cell (HP.out.2 8 _ rfl)
  have c9 : ∀ u : Later w1, u.at_.cell? ⟨w.heap.size, 9, none⟩ = some (.bool x.filter.on) := fun u => u.cell (HP.out.2 9 _ rfl)
  have c10 : ∀ u : Later w1, u.at_.cell? ⟨w.heap.size, 10, none⟩ = some (.slice h.f.A h.f.n h.f.c) := fun u => u.cell (HP.out.2 10 _ rfl)
  cases t0 with
  | false =>
    refine wp_region_calm_lit (by kernel_rfl) (by kernel_rfl) ?_
    repeat (go_big_quiet_step (first | (go_at_call 49; exact Calls.calm_same (Calls.flip (Calls.known (spec_TagOk x.tag _ (by have := F.out.1.1; unfold maxLen; omega)) Ht0.out))) | (go_at_call 50; exact Calls.calm_same (Calls.flip (Calls.known (l1In_any x.kind 1 15 _) Hk0.out))) | (go_at_call 52; exact Calls.calm (HSaid.out _)) | (go_at_call 51; exact Calls.calm (Calls.known (spec_SameCommand y x hh h _ (HY.out.below (Later.bel _)) (HI.out.below (Later.bel _)) Fy.out F.out) Hsm.out))))
    refine wpQuiet_nil ?_
    intro _ hw'
    obtain ⟨u, rfl⟩ := hw'
    have HBf := Lib.hid (HB.out.trans (u.bel.mono HB.out.size))
    go_wp2
    go_ret
    exact ⟨rfl, HBf.out⟩
  | true =>
    cases k0 with
    | false =>
      refine wp_region_calm_lit (by kernel_rfl) (by kernel_rfl) ?_
      repeat (go_big_quiet_step (first | (go_at_call 49; exact Calls.calm_same (Calls.flip (Calls.known (spec_TagOk x.tag _ (by have := F.out.1.1; unfold maxLen; omega)) Ht0.out))) | (go_at_call 50; exact Calls.calm_same (Calls.flip (Calls.known (l1In_any x.kind 1 15 _) Hk0.out))) | (go_at_call 52; exact Calls.calm (HSaid.out _)) | (go_at_call 51; exact Calls.calm (Calls.known (spec_SameCommand y x hh h _ (HY.out.below (Later.bel _)) (HI.out.below (Later.bel _)) Fy.out F.out) Hsm.out))))
      refine wpQuiet_nil ?_
      intro _ hw'
      obtain ⟨u, rfl⟩ := hw'
      have HBf := Lib.hid (HB.out.trans (u.bel.mono HB.out.size))
      go_wp2
      go_ret
      exact ⟨rfl, HBf.out⟩
    | true =>
      cases sm with
      | false =>
        refine wp_region_calm_lit (by kernel_rfl) (by kernel_rfl) ?_
        repeat (go_big_quiet_step (first | (go_at_call 49; exact Calls.calm_same (Calls.flip (Calls.known (spec_TagOk x.tag _ (by have := F.out.1.1; unfold maxLen; omega)) Ht0.out))) | (go_at_call 50; exact Calls.calm_same (Calls.flip (Calls.known (l1In_any x.kind 1 15 _) Hk0.out))) | (go_at_call 52; exact Calls.calm (HSaid.out _)) | (go_at_call 51; exact Calls.calm (Calls.known (spec_SameCommand y x hh h _ (HY.out.below (Later.bel _)) (HI.out.below (Later.bel _)) Fy.out F.out) Hsm.out))))
        refine wpQuiet_nil ?_
        intro _ hw'
        obtain ⟨u, rfl⟩ := hw'
        have HBf := Lib.hid (HB.out.trans (u.bel.mono HB.out.size))
        go_wp2
        go_ret
        exact ⟨rfl, HBf.out⟩
      | true =>
        refine wp_region_calm_lit (by kernel_rfl) (by kernel_rfl) ?_
        repeat (go_big_quiet_step (first | (go_at_call 49; exact Calls.calm_same (Calls.flip (Calls.known (spec_TagOk x.tag _ (by have := F.out.1.1; unfold maxLen; omega)) Ht0.out))) | (go_at_call 50; exact Calls.calm_same (Calls.flip (Calls.known (l1In_any x.kind 1 15 _) Hk0.out))) | (go_at_call 52; exact Calls.calm (HSaid.out _)) | (go_at_call 51; exact Calls.calm (Calls.known (spec_SameCommand y x hh h _ (HY.out.below (Later.bel _)) (HI.out.below (Later.bel _)) Fy.out F.out) Hsm.out))))
        refine wpQuiet_nil ?_
        intro _ hw'
        obtain ⟨u, rfl⟩ := hw'
        have HBf := Lib.hid (HB.out.trans (u.bel.mono HB.out.size))
        have HP2 := Lib.hid (HP.out.below u.bel)
        have HI2 := Lib.hid (HI.out.below u.bel)
        obtain ⟨w2, hw2⟩ : ∃ w2, u.at_ = w2 := ⟨_, rfl⟩
        rw [hw2] at HP2 HI2 HBf ⊢
        clear c0 c1 c2 c3 c4 c5 c6 c7 c8 c9 c10
        clear HI HY HP HB HSaid Fy hw2 u
        have c1 := HP2.out.2 1 _ rfl
        have c2 := HP2.out.2 2 _ rfl
        have c3 := HP2.out.2 3 _ rfl
        have c5 := HP2.out.2 5 _ rfl
        have c6 := HP2.out.2 6 _ rfl
        have c7 := HP2.out.2 7 _ rfl
        have c8 := HP2.out.2 8 _ rfl
        have c9 := HP2.out.2 9 _ rfl
        have c10 := HP2.out.2 10 _ rfl
        by_cases hk : x.kind = 14
        · obtain rfl : b1 = true := by rw [← Hb1.out, hk]; rfl
          obtain rfl : b3 = false := by rw [← Hb3.out, hk]; rfl
          obtain rfl : b2 = true := by rw [← hb2, hk]; rfl
          obtain rfl : b4 = false := by rw [← hb4, hk]; rfl
          have HK := Lib.hid hk
          clear hk
          go_wp2_with fail
          refine (spec_l7Boxed x.kind _).mono ?_
          rw [Hb1.out]
          rintro e w' ⟨rfl, rfl⟩
          go_wp2_with fail
          refine (spec_NameOk x.box _ (by have := F.out.1.2.1; unfold maxLen; omega)).mono ?_
          rw [Hn1.out]
          rintro e w' ⟨rfl, rfl⟩
          cases n1 with
          | false =>
            go_wp2
            go_ret
            exact ⟨rfl, HBf.out⟩
          | true =>
            go_wp2_with fail
            refine (spec_NameOk x.dest _ (by have := F.out.1.2.2.1; unfold maxLen; omega)).mono ?_
            rw [Hn2.out]
            rintro e w' ⟨rfl, rfl⟩
            cases n2 with
            | false =>
              go_wp2
              go_ret
              exact ⟨rfl, HBf.out⟩
            | true =>
              go_wp2_with fail
              refine (spec_l7Sets x.kind _).mono ?_
              rw [Hb3.out]
              rintro e w' ⟨rfl, rfl⟩
              go_wp2_with fail
              refine (spec_FlagsOk x.flags _).mono ?_
              rw [Hf5.out]
              rintro e w' ⟨rfl, rfl⟩
              cases f5 with
              | false =>
                go_wp2
                go_ret
                exact ⟨rfl, HBf.out⟩
              | true =>
                cases t6 with
                | false =>
                  go_wp2
                  go_ret
                  exact ⟨rfl, HBf.out⟩
                | true =>
                  go_wp2_with fail
                  refine (spec_FilterOk x.filter h.f _ HI2.out.2.2.2 F.out.2.2).mono ?_
                  rw [Hf7.out]
                  rintro e w3 ⟨rfl, hb3⟩
                  have HB3 := Lib.hid (HBf.out.trans (hb3.mono HBf.out.size))
                  clear hb3
                  cases f7
                  all_goals
                    go_wp2
                    go_ret
                    exact ⟨rfl, HB3.out⟩
        obtain rfl : b2 = false := by rw [← hb2]; exact beq_eq_false_iff_ne.2 hk
        clear hk
        by_cases hk : x.kind = 8
        · obtain rfl : b1 = false := by rw [← Hb1.out, hk]; rfl
          obtain rfl : b3 = true := by rw [← Hb3.out, hk]; rfl
          obtain rfl : b4 = true := by rw [← hb4, hk]; rfl
          have HK := Lib.hid hk
          clear hk
          go_wp2_with fail
          refine (spec_l7Boxed x.kind _).mono ?_
          rw [Hb1.out]
          rintro e w' ⟨rfl, rfl⟩
          go_wp2_with fail
          refine (spec_l7Sets x.kind _).mono ?_
          rw [Hb3.out]
          rintro e w' ⟨rfl, rfl⟩
          go_wp2_with fail
          refine (spec_SetOk h.s.A h.s.n h.s.c x.set _ (by omega) HI2.out.2.1).mono ?_
          rw [Hs3.out]
          rintro e w' ⟨rfl, rfl⟩
          cases s3 with
          | false =>
            go_wp2
            go_ret
            exact ⟨rfl, HBf.out⟩
          | true =>
            go_wp2_with fail
            refine (l1In_any x.op 1 3 _).mono ?_
            rw [Ho4.out]
            rintro e w' ⟨rfl, rfl⟩
            cases o4 with
            | false =>
              go_wp2
              go_ret
              exact ⟨rfl, HBf.out⟩
            | true =>
              go_wp2_with fail
              refine (spec_FlagsOk x.flags _).mono ?_
              rw [Hf5.out]
              rintro e w' ⟨rfl, rfl⟩
              cases f5 with
              | false =>
                go_wp2
                go_ret
                exact ⟨rfl, HBf.out⟩
              | true =>
                cases t6 with
                | false =>
                  go_wp2
                  go_ret
                  exact ⟨rfl, HBf.out⟩
                | true =>
                  go_wp2_with fail
                  refine (spec_FilterOk x.filter h.f _ HI2.out.2.2.2 F.out.2.2).mono ?_
                  rw [Hf7.out]
                  rintro e w3 ⟨rfl, hb3⟩
                  have HB3 := Lib.hid (HBf.out.trans (hb3.mono HBf.out.size))
                  clear hb3
                  cases f7
                  all_goals
                    go_wp2
                    go_ret
                    exact ⟨rfl, HB3.out⟩
        obtain rfl : b4 = false := by rw [← hb4]; exact beq_eq_false_iff_ne.2 hk
        clear hk
        cases b1 with
        | false =>
          cases b3 with
          | false =>
            go_wp2_with fail
            refine (spec_l7Boxed x.kind _).mono ?_
            rw [Hb1.out]
            rintro e w' ⟨rfl, rfl⟩
            go_wp2_with fail
            refine (spec_l7Sets x.kind _).mono ?_
            rw [Hb3.out]
            rintro e w' ⟨rfl, rfl⟩
            go_wp2_with fail
            refine (spec_FlagsOk x.flags _).mono ?_
            rw [Hf5.out]
            rintro e w' ⟨rfl, rfl⟩
            cases f5 with
            | false =>
              go_wp2
              go_ret
              exact ⟨rfl, HBf.out⟩
            | true =>
              cases t6 with
              | false =>
                go_wp2
                go_ret
                exact ⟨rfl, HBf.out⟩
              | true =>
                go_wp2_with fail
                refine (spec_FilterOk x.filter h.f _ HI2.out.2.2.2 F.out.2.2).mono ?_
                rw [Hf7.out]
                rintro e w3 ⟨rfl, hb3⟩
                have HB3 := Lib.hid (HBf.out.trans (hb3.mono HBf.out.size))
                clear hb3
                cases f7
                all_goals
                  go_wp2
                  go_ret
                  exact ⟨rfl, HB3.out⟩
          | true =>
            go_wp2_with fail
            refine (spec_l7Boxed x.kind _).mono ?_
            rw [Hb1.out]
            rintro e w' ⟨rfl, rfl⟩
            go_wp2_with fail
            refine (spec_l7Sets x.kind _).mono ?_
            rw [Hb3.out]
            rintro e w' ⟨rfl, rfl⟩
            go_wp2_with fail
            refine (spec_SetOk h.s.A h.s.n h.s.c x.set _ (by omega) HI2.out.2.1).mono ?_
            rw [Hs3.out]
            rintro e w' ⟨rfl, rfl⟩
            cases s3 with
            | false =>
              go_wp2
              go_ret
              exact ⟨rfl, HBf.out⟩
            | true =>
              go_wp2_with fail
              refine (spec_FlagsOk x.flags _).mono ?_
              rw [Hf5.out]
              rintro e w' ⟨rfl, rfl⟩
              cases f5 with
              | false =>
                go_wp2
                go_ret
                exact ⟨rfl, HBf.out⟩
              | true =>
                cases t6 with
                | false =>
                  go_wp2
                  go_ret
                  exact ⟨rfl, HBf.out⟩
                | true =>
                  go_wp2_with fail
                  refine (spec_FilterOk x.filter h.f _ HI2.out.2.2.2 F.out.2.2).mono ?_
                  rw [Hf7.out]
                  rintro e w3 ⟨rfl, hb3⟩
                  have HB3 := Lib.hid (HBf.out.trans (hb3.mono HBf.out.size))
                  clear hb3
                  cases f7
                  all_goals
                    go_wp2
                    go_ret
                    exact ⟨rfl, HB3.out⟩
        | true =>
          cases b3 with
          | false =>
            go_wp2_with fail
            refine (spec_l7Boxed x.kind _).mono ?_
            rw [Hb1.out]
            rintro e w' ⟨rfl, rfl⟩
            go_wp2_with fail
            refine (spec_NameOk x.box _ (by have := F.out.1.2.1; unfold maxLen; omega)).mono ?_
            rw [Hn1.out]
            rintro e w' ⟨rfl, rfl⟩
            cases n1 with
            | false =>
              go_wp2
              go_ret
              exact ⟨rfl, HBf.out⟩
            | true =>
              go_wp2_with fail
              refine (spec_l7Sets x.kind _).mono ?_
              rw [Hb3.out]
              rintro e w' ⟨rfl, rfl⟩
              go_wp2_with fail
              refine (spec_FlagsOk x.flags _).mono ?_
              rw [Hf5.out]
              rintro e w' ⟨rfl, rfl⟩
              cases f5 with
              | false =>
                go_wp2
                go_ret
                exact ⟨rfl, HBf.out⟩
              | true =>
                cases t6 with
                | false =>
                  go_wp2
                  go_ret
                  exact ⟨rfl, HBf.out⟩
                | true =>
                  go_wp2_with fail
                  refine (spec_FilterOk x.filter h.f _ HI2.out.2.2.2 F.out.2.2).mono ?_
                  rw [Hf7.out]
                  rintro e w3 ⟨rfl, hb3⟩
                  have HB3 := Lib.hid (HBf.out.trans (hb3.mono HBf.out.size))
                  clear hb3
                  cases f7
                  all_goals
                    go_wp2
                    go_ret
                    exact ⟨rfl, HB3.out⟩
          | true =>
            go_wp2_with fail
            refine (spec_l7Boxed x.kind _).mono ?_
            rw [Hb1.out]
            rintro e w' ⟨rfl, rfl⟩
            go_wp2_with fail
            refine (spec_NameOk x.box _ (by have := F.out.1.2.1; unfold maxLen; omega)).mono ?_
            rw [Hn1.out]
            rintro e w' ⟨rfl, rfl⟩
            cases n1 with
            | false =>
              go_wp2
              go_ret
              exact ⟨rfl, HBf.out⟩
            | true =>
              go_wp2_with fail
              refine (spec_l7Sets x.kind _).mono ?_
              rw [Hb3.out]
              rintro e w' ⟨rfl, rfl⟩
              go_wp2_with fail
              refine (spec_SetOk h.s.A h.s.n h.s.c x.set _ (by omega) HI2.out.2.1).mono ?_
              rw [Hs3.out]
              rintro e w' ⟨rfl, rfl⟩
              cases s3 with
              | false =>
                go_wp2
                go_ret
                exact ⟨rfl, HBf.out⟩
              | true =>
                go_wp2_with fail
                refine (spec_FlagsOk x.flags _).mono ?_
                rw [Hf5.out]
                rintro e w' ⟨rfl, rfl⟩
                cases f5 with
                | false =>
                  go_wp2
                  go_ret
                  exact ⟨rfl, HBf.out⟩
                | true =>
                  cases t6 with
                  | false =>
                    go_wp2
                    go_ret
                    exact ⟨rfl, HBf.out⟩
                  | true =>
                    go_wp2_with fail
                    refine (spec_FilterOk x.filter h.f _ HI2.out.2.2.2 F.out.2.2).mono ?_
                    rw [Hf7.out]
                    rintro e w3 ⟨rfl, hb3⟩
                    have HB3 := Lib.hid (HBf.out.trans (hb3.mono HBf.out.size))
                    clear hb3
                    cases f7
                    all_goals
                      go_wp2
                      go_ret
                      exact ⟨rfl, HB3.out⟩

end Go.Proofs.YtjpkceimokkpgaaGreatDoor
