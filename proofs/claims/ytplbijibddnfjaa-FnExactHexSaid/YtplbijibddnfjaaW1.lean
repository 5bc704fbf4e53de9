/-
  Walks: what each function returns, and that it leaves what lay in memory as it was.
-/
import Derived.Test.YtplbijibddnfjaaProg
import Derived.Test.YtplbijibddnfjaaPlain
import Derived.WalkKit
import Derived.WalkSpells
import Derived.WalkLawsBesides
import Derived.Lib.Hide
import Derived.Deep.LoopGhost
import Derived.Deep.QuietTactic
import Derived.BigQuiet
import Derived.Handy
namespace Go.Proofs.Ytplbijibddnfjaa
open Go.RowKit
set_option linter.unusedVariables false
set_option linter.unusedSimpArgs false

set_option maxHeartbeats 400000 in
theorem within_any (n lo hi : Int) (w : World) :
    Calls Try.prog 44 #[.int .i64 n, .int .i64 lo, .int .i64 hi] w fun e w' => e = .returned (.bool (inR n lo hi)) ∧ w = w' := by
  by_cases h1 : lo ≤ n
  · by_cases h2 : n ≤ hi
    · go_enter Try.func44, Try.ntmps44
      go_wp2
      go_ret
      exact ⟨by simp [inR, h1, h2], rfl⟩
    · have h2' : decide (n ≤ hi) = false := by simpa using h2
      go_enter Try.func44, Try.ntmps44
      go_wp2
      go_ret
      exact ⟨by simp [inR, h1, h2], rfl⟩
  · have h1' : decide (lo ≤ n) = false := by simpa using h1
    go_enter Try.func44, Try.ntmps44
    go_wp2
    go_ret
    exact ⟨by simp [inR]; omega, rfl⟩
set_option maxHeartbeats 400000 in
theorem l1In_any (n lo hi : Int) (w : World) :
    Calls Try.prog 43 #[.int .i64 n, .int .i64 lo, .int .i64 hi] w fun e w' => e = .returned (.bool (inR n lo hi)) ∧ w = w' := by
  by_cases h1 : lo ≤ n
  · by_cases h2 : n ≤ hi
    · go_enter Try.func43, Try.ntmps43
      go_wp2
      go_ret
      exact ⟨by simp [inR, h1, h2], rfl⟩
    · have h2' : decide (n ≤ hi) = false := by simpa using h2
      go_enter Try.func43, Try.ntmps43
      go_wp2
      go_ret
      exact ⟨by simp [inR, h1, h2], rfl⟩
  · have h1' : decide (lo ≤ n) = false := by simpa using h1
    go_enter Try.func43, Try.ntmps43
    go_wp2
    go_ret
    exact ⟨by simp [inR]; omega, rfl⟩

theorem impl_FlagsOk (n : Int) (w : World) :
    Calls Try.prog 16 #[.int .i64 n] w fun e w' => e = .returned (.bool (inR n 0 31)) ∧ w = w' := by
  go_enter Try.func16, Try.ntmps16
  go_wp2_with (go_at_call 44; refine (within_any _ _ _ _).mono ?_; rintro e w' ⟨rfl, rfl⟩)
  go_ret
  exact ⟨rfl, rfl⟩
theorem spec_FlagsOk (n : Int) (w : World) :
    Calls Try.prog 15 #[.int .i64 n] w fun e w' => e = .returned (.bool (inR n 0 31)) ∧ w = w' := by
  go_enter Try.func15, Try.ntmps15
  go_wp2_with (go_at_call 43; refine (l1In_any _ _ _ _).mono ?_; rintro e w' ⟨rfl, rfl⟩)
  go_ret
  exact ⟨rfl, rfl⟩
theorem walk_FnExactFlagsOk (a0 : Int) (w : World) (_w0 : (Lit.int .i64 a0).wf = true) :
    Calls Try.prog 4 #[.int .i64 a0] w fun e w' => e = .returned (.bool true) ∧ Below w.heap.size w w' := by
  go_enter Try.func4, Try.ntmps4
  go_wp2_with (first | (go_at_call 16; refine (impl_FlagsOk _ _).mono ?_; rintro e w' ⟨rfl, rfl⟩) | (go_at_call 15; refine (spec_FlagsOk _ _).mono ?_; rintro e w' ⟨rfl, rfl⟩))
  go_ret
  exact ⟨rfl, Below.refl _ _⟩
theorem walk_FnExactConstants (w : World) :
    Calls Try.prog 3 #[] w fun e w' => e = .returned (.bool true) ∧ Below w.heap.size w w' := by
  go_enter Try.func3, Try.ntmps3
  go_wp2
  go_ret
  exact ⟨rfl, Below.refl _ _⟩

theorem impl_isOp (n : Int) (w : World) :
    Calls Try.prog 45 #[.int .i64 n] w fun e w' => e = .returned (.bool (inR n 1 3)) ∧ w = w' := by
  go_enter Try.func45, Try.ntmps45
  go_wp2_with (go_at_call 44; refine (within_any _ _ _ _).mono ?_; rintro e w' ⟨rfl, rfl⟩)
  go_ret
  exact ⟨rfl, rfl⟩
theorem impl_OpText (n : Int) (w : World) :
    Calls Try.prog 18 #[.int .i64 n] w fun e w' => e = .returned (.string ⟨(opText n).toArray⟩) ∧ w = w' := by
  by_cases h : inR n 1 3 = true
  · have h3 : n = 1 ∨ n = 2 ∨ n = 3 := by simp [inR] at h; omega
    rcases h3 with rfl | rfl | rfl
    all_goals
      go_enter Try.func18, Try.ntmps18
      go_wp2_with (go_at_call 45; refine (impl_isOp _ _).mono ?_; rintro e w' ⟨rfl, rfl⟩)
      go_ret
      exact ⟨rfl, rfl⟩
  · have h' : inR n 1 3 = false := by simpa using h
    have h4 : opText n = [] := by simp [inR] at h; unfold opText; rw [if_neg (by omega), if_neg (by omega), if_neg (by omega)]
    clear h
    go_enter Try.func18, Try.ntmps18
    go_wp2_with (go_at_call 45; refine (impl_isOp _ _).mono ?_; rintro e w' ⟨rfl, rfl⟩)
    go_ret
    exact ⟨by rw [h4]; rfl, rfl⟩
theorem spec_OpText (n : Int) (w : World) :
    Calls Try.prog 17 #[.int .i64 n] w fun e w' => e = .returned (.string ⟨(opText n).toArray⟩) ∧ Below w.heap.size w w' := by
  by_cases h : inR n 1 3 = true
  · have h3 : n = 1 ∨ n = 2 ∨ n = 3 := by simp [inR] at h; omega
    rcases h3 with rfl | rfl | rfl
    all_goals
      go_enter Try.func17, Try.ntmps17
      go_wp2_with (go_at_call 43; refine (l1In_any _ _ _ _).mono ?_; rintro e w' ⟨rfl, rfl⟩)
      go_ret
      exact ⟨rfl, by go_grown⟩
  · have h' : inR n 1 3 = false := by simpa using h
    have h4 : opText n = [] := by simp [inR] at h; unfold opText; rw [if_neg (by omega), if_neg (by omega), if_neg (by omega)]
    clear h
    go_enter Try.func17, Try.ntmps17
    go_wp2_with (go_at_call 43; refine (l1In_any _ _ _ _).mono ?_; rintro e w' ⟨rfl, rfl⟩)
    go_ret
    exact ⟨by rw [h4]; rfl, Below.refl _ _⟩
theorem walk_FnExactOpText (a0 : Int) (w : World) (_w0 : (Lit.int .i64 a0).wf = true) :
    Calls Try.prog 5 #[.int .i64 a0] w fun e w' => e = .returned (.bool true) ∧ Below w.heap.size w w' := by
  generalize hw : w.heap.size = B
  go_enter Try.func5, Try.ntmps5
  go_wp2_with fail
  refine (spec_OpText _ _).mono ?_
  rintro e w1 ⟨rfl, hb1⟩
  rw [hw] at hb1
  clear hw
  go_wp2_with (go_at_call 18; refine (impl_OpText _ _).mono ?_; rintro e w' ⟨rfl, rfl⟩)
  go_ret
  exact ⟨rfl, hb1⟩
theorem impl_Changed (op a b : Int) (w : World) :
    Calls Try.prog 32 #[.int .i64 op, .int .i64 a, .int .i64 b] w fun e w' => e = .returned (.int .i64 (changed op a b)) ∧ w = w' := by
  unfold changed
  cases h1 : inR a 0 31 <;> cases h2 : inR b 0 31
  all_goals
    rcases (show op = 1 ∨ op = 2 ∨ op = 3 ∨ (¬ op = 1 ∧ ¬ op = 2 ∧ ¬ op = 3) from by omega) with rfl | rfl | rfl | ⟨n1, n2, n3⟩
    all_goals
      go_enter Try.func32, Try.ntmps32
      go_wp2_with (go_at_call 16; refine (impl_FlagsOk _ _).mono ?_; rintro e w' ⟨rfl, rfl⟩)
      go_ret
      exact ⟨by simp [*], rfl⟩
theorem spec_Changed (op a b : Int) (w : World) :
    Calls Try.prog 31 #[.int .i64 op, .int .i64 a, .int .i64 b] w fun e w' => e = .returned (.int .i64 (changed op a b)) ∧ w = w' := by
  unfold changed
  cases h1 : inR a 0 31 <;> cases h2 : inR b 0 31
  all_goals
    rcases (show op = 1 ∨ op = 2 ∨ op = 3 ∨ (¬ op = 1 ∧ ¬ op = 2 ∧ ¬ op = 3) from by omega) with rfl | rfl | rfl | ⟨n1, n2, n3⟩
    all_goals
      go_enter Try.func31, Try.ntmps31
      go_wp2_with (go_at_call 15; refine (spec_FlagsOk _ _).mono ?_; rintro e w' ⟨rfl, rfl⟩)
      go_ret
      exact ⟨by simp [*], rfl⟩
theorem walk_FnExactChanged (a0 a1 a2 : Int) (w : World) (_w0 : (Lit.int .i64 a0).wf = true) (_w1 : (Lit.int .i64 a1).wf = true) (_w2 : (Lit.int .i64 a2).wf = true) :
    Calls Try.prog 12 #[.int .i64 a0, .int .i64 a1, .int .i64 a2] w fun e w' => e = .returned (.bool true) ∧ Below w.heap.size w w' := by
  go_enter Try.func12, Try.ntmps12
  go_wp2_with (first | (go_at_call 32; refine (impl_Changed _ _ _ _).mono ?_; rintro e w' ⟨rfl, rfl⟩) | (go_at_call 31; refine (spec_Changed _ _ _ _).mono ?_; rintro e w' ⟨rfl, rfl⟩))
  go_ret
  exact ⟨rfl, Below.refl _ _⟩

end Go.Proofs.Ytplbijibddnfjaa
