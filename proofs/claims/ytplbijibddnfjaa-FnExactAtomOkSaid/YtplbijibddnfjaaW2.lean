/-
  Walks: what each function returns, and that it leaves what lay in memory as it was.
-/
import Derived.Test.YtplbijibddnfjaaProg
import Derived.Test.YtplbijibddnfjaaPlain
import Derived.Test.YtplbijibddnfjaaBase
import Derived.Test.YtplbijibddnfjaaShelf
import Derived.Test.YtplbijibddnfjaaW1
import Derived.WalkKit
import Derived.WalkSpells
import Derived.WalkLawsBesides
import Derived.Lib.Hide
import Derived.Deep.LoopGhost
import Derived.Deep.QuietTactic
import Derived.BigQuiet
import Derived.Handy
namespace Go.Proofs.Ytplbijibddnfjaa
open Go.RowKit
set_option linter.unusedVariables false

theorem atom_idx (c : UInt8) : decide (Lib.indexByte [40, 41, 123, 34, 92] c < 0) = !(c == 40 || c == 41 || c == 123 || c == 34 || c == 92) := by
  have h := u8_all (fun c => decide (Lib.indexByte [40, 41, 123, 34, 92] c < 0) == !(c == 40 || c == 41 || c == 123 || c == 34 || c == 92)) (by decide +kernel) c
  exact beq_iff_eq.1 h
set_option maxHeartbeats 400000 in
theorem impl_isAtomByte (c : UInt8) (w : World) :
    Calls Try.prog 47 #[.int .u8 (c.toNat : Int)] w fun e w' => e = .returned (.bool (atomB c)) ∧ w = w' := by
  have hcc : ((c.toNat : Int)).toNat.toUInt8 = c := by simp
  by_cases h1 : (33 : Int) ≤ (c.toNat : Int)
  · by_cases h2 : (c.toNat : Int) ≤ 126
    · have hi : atomB c = decide (Lib.indexByte [40, 41, 123, 34, 92] c < 0) := by
        rw [atom_idx]; unfold atomB; rw [decide_eq_true (show 33 ≤ c.toNat by omega), decide_eq_true (show c.toNat ≤ 126 by omega)]; simp
      have Hi := Lib.hid hi
      clear hi
      go_enter Try.func47, Try.ntmps47
      go_wp2_with (go_at_call 55; refine (Try.strings_IndexByte _ _ _).mono ?_; rintro e w' ⟨rfl, rfl⟩; rw [hcc])
      go_ret
      exact ⟨ret_b Hi.out.symm, rfl⟩
    · have h2' : decide ((c.toNat : Int) ≤ 126) = false := by simpa using h2
      go_enter Try.func47, Try.ntmps47
      go_wp2
      go_ret
      exact ⟨ret_b (by unfold atomB; rw [decide_eq_false (show ¬ c.toNat ≤ 126 by omega)]; simp), rfl⟩
  · have h1' : decide ((33 : Int) ≤ (c.toNat : Int)) = false := by simpa using h1
    go_enter Try.func47, Try.ntmps47
    go_wp2
    go_ret
    exact ⟨ret_b (by unfold atomB; rw [decide_eq_false (show ¬ 33 ≤ c.toNat by omega)]; simp), rfl⟩
set_option maxHeartbeats 400000 in
theorem impl_AtomOk (s : ByteArray) (w : World) (hs : s.size ≤ maxLen) :
    Calls Try.prog 24 #[.string s] w fun e w' => e = .returned (.bool (atomOk s.data.toList)) ∧ w = w' := by
  unfold maxLen at hs
  have HL := Lib.hid (size_len s)
  go_enter Try.func24, Try.ntmps24
  go_wp2_with fail
  go_loop [6] (fun i => ∃ k : Nat, k ≤ s.size ∧ i = .int .i64 k ∧ Hid ((s.data.toList.take k).all atomB = true)) (fun i => s.size - (intOf i).toNat)
  case atStart => exact ⟨0, Nat.zero_le _, rfl, rfl⟩
  case round =>
    obtain ⟨k, hk, rfl, ha⟩ := hrel
    by_cases hlt : k < s.size
    · have hlt' : k < s.data.toList.length := by rw [← HL.out]; exact hlt
      cases hc : atomB s[k] with
      | true =>
        go_wp2_with (go_at_call 47; refine (impl_isAtomByte _ _).mono ?_; rintro e w' ⟨rfl, rfl⟩)
        go_round
        case rel => exact ⟨k + 1, by omega, by go_num, all_take_succ hlt' ha.out hc⟩
        case measure => simp [intOf]; omega
      | false =>
        go_wp2_with (go_at_call 47; refine (impl_isAtomByte _ _).mono ?_; rintro e w' ⟨rfl, rfl⟩)
        go_ret
        exact ⟨ret_b (by unfold atomOk; rw [all_false hlt' hc]; rfl), rfl⟩
    · have hke : k = s.size := by omega
      have ha2 : s.data.toList.all atomB = true := by
        have h := ha.out
        rw [List.take_of_length_le (by rw [← HL.out]; omega)] at h
        exact h
      have hfin : atomOk s.data.toList = inR (s.size : Int) 1 40 := by unfold atomOk; rw [ha2, Bool.true_and, HL.out]
      have Hfin := Lib.hid hfin
      clear hfin ha2 ha hke
      go_wp2_with (go_at_call 44; refine (within_any _ _ _ _).mono ?_; rintro e w' ⟨rfl, rfl⟩)
      go_ret
      exact ⟨ret_b Hfin.out.symm, rfl⟩
/-- The reference's test of one byte. -/
theorem atomB_iff (c : UInt8) : atomB c = true ↔ 33 ≤ (c.toNat : Int) ∧ (c.toNat : Int) ≤ 126 ∧ ¬ (c.toNat : Int) = 40 ∧ ¬ (c.toNat : Int) = 41 ∧ ¬ (c.toNat : Int) = 123 ∧ ¬ (c.toNat : Int) = 34 ∧ ¬ (c.toNat : Int) = 92 := by
  have h := u8_all (fun c => atomB c == decide (33 ≤ (c.toNat : Int) ∧ (c.toNat : Int) ≤ 126 ∧ ¬ (c.toNat : Int) = 40 ∧ ¬ (c.toNat : Int) = 41 ∧ ¬ (c.toNat : Int) = 123 ∧ ¬ (c.toNat : Int) = 34 ∧ ¬ (c.toNat : Int) = 92)) (by decide +kernel) c
  rw [beq_iff_eq.1 h, decide_eq_true_iff]
set_option maxHeartbeats 800000 in
theorem spec_AtomOk (s : ByteArray) (w : World) (hs : s.size ≤ maxLen) :
    Calls Try.prog 23 #[.string s] w fun e w' => e = .returned (.bool (atomOk s.data.toList)) ∧ w = w' := by
  unfold maxLen at hs
  have HL := Lib.hid (size_len s)
  go_enter Try.func23, Try.ntmps23
  go_wp2_with fail
  go_loop [3] (fun i => ∃ k : Nat, k ≤ s.size ∧ i = .int .i64 k ∧ Hid ((s.data.toList.take k).all atomB = true)) (fun i => s.size - (intOf i).toNat)
  case atStart => exact ⟨0, Nat.zero_le _, rfl, rfl⟩
  case round =>
    obtain ⟨k, hk, rfl, ha⟩ := hrel
    by_cases hlt : k < s.size
    · have hlt' : k < s.data.toList.length := by rw [← HL.out]; exact hlt
      go_wp2
      all_goals try simp only [beq_iff_eq, beq_eq_false_iff_ne, ne_eq] at *
      all_goals first
        | (go_round
           case rel => exact ⟨k + 1, by omega, by go_num, all_take_succ hlt' ha.out (show atomB s[k] = true from (atomB_iff _).2 (by omega))⟩
           case measure => simp [intOf]; omega)
        | (go_ret
           exact ⟨ret_b (by unfold atomOk; rw [all_false hlt' (show atomB s[k] = false by rw [← Bool.not_eq_true, atomB_iff]; omega)]; rfl), rfl⟩)
    · have hke : k = s.size := by omega
      have ha2 : s.data.toList.all atomB = true := by
        have h := ha.out
        rw [List.take_of_length_le (by rw [← HL.out]; omega)] at h
        exact h
      have hfin : atomOk s.data.toList = inR (s.size : Int) 1 40 := by unfold atomOk; rw [ha2, Bool.true_and, HL.out]
      have Hfin := Lib.hid hfin
      clear hfin ha2 ha hke
      go_wp2_with (go_at_call 43; refine (l1In_any _ _ _ _).mono ?_; rintro e w' ⟨rfl, rfl⟩)
      go_ret
      exact ⟨ret_b Hfin.out.symm, rfl⟩
theorem walk_FnExactAtomOk (a0 : ByteArray) (w : World) (w0 : a0.size ≤ maxLen) :
    Calls Try.prog 8 #[.string a0] w fun e w' => e = .returned (.bool true) ∧ Below w.heap.size w w' := by
  have hm := w0
  unfold maxLen at hm
  by_cases hbig : (1048576 : Int) < (a0.size : Int)
  all_goals
    go_enter Try.func8, Try.ntmps8
    go_wp2_with (first | (go_at_call 24; refine (impl_AtomOk _ _ w0).mono ?_; rintro e w' ⟨rfl, rfl⟩) | (go_at_call 23; refine (spec_AtomOk _ _ w0).mono ?_; rintro e w' ⟨rfl, rfl⟩))
    go_ret
    exact ⟨rfl, Below.refl _ _⟩

end Go.Proofs.Ytplbijibddnfjaa
