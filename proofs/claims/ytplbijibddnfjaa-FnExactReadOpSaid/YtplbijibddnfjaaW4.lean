/-
  Walks: what each function returns, and that it leaves what lay in memory as it was.
-/
import Derived.Test.YtplbijibddnfjaaProg
import Derived.Test.YtplbijibddnfjaaPlain
import Derived.Test.YtplbijibddnfjaaBase
import Derived.Test.YtplbijibddnfjaaShelf
import Derived.Test.YtplbijibddnfjaaW1
import Derived.WalkKit
import Derived.WalkSpells
import Derived.WalkLawsBesides
import Derived.Lib.Hide
import Derived.Deep.LoopGhost
import Derived.Deep.QuietTactic
import Derived.BigQuiet
import Derived.Handy
import Derived.Deep.RegionHeld3
import Derived.StillTailTactics
namespace Go.Proofs.Ytplbijibddnfjaa
open Go.RowKit
set_option linter.unusedVariables false

theorem impl_kindWords (w : World) :
    Calls Try.prog 46 #[] w fun e w' => e = .returned (.slice (some ⟨w.heap.size, 0, none⟩) 16 16) ∧ w' = w.alloc (.cells (kindList.map fun l => Value.string ⟨l.toArray⟩).toArray 9) := by
  go_enter Try.func46, Try.ntmps46
  go_wp2
  go_ret
  exact ⟨rfl, rfl⟩
set_option maxHeartbeats 800000 in
theorem impl_KindWord (n : Int) (w : World) :
    Calls Try.prog 20 #[.int .i64 n] w fun e w' => e = .returned (.string ⟨(kindWord n).toArray⟩) ∧ Below w.heap.size w w' := by
  by_cases h : inR n 1 15 = true
  · have h1 : (1 : Int) ≤ n ∧ n ≤ 15 := by simpa [inR] using h
    obtain ⟨k, rfl⟩ := Int.eq_ofNat_of_zero_le (show 0 ≤ n by omega)
    have hk1 : 1 ≤ k := by omega
    have hk2 : k ≤ 15 := by omega
    have hkw : kindWord (k : Int) = kindList.getD k [] := by unfold kindWord; rw [if_pos h, Int.toNat_natCast]
    have HK := Lib.hid hkw
    have hcell : (w.alloc (.cells (kindList.map fun l => Value.string ⟨l.toArray⟩).toArray 9)).cell? ⟨w.heap.size, k, none⟩ = some (.string ⟨(kindList.getD k []).toArray⟩) := by
      rw [World.cell?_alloc_mark]
      have hlen : kindList.length = 16 := rfl
      rw [List.getElem?_toArray, List.getElem?_map, List.getElem?_eq_getElem (by omega)]
      simp [List.getD, List.getElem?_eq_getElem (show k < kindList.length by omega)]
    clear hkw h1
    generalize hkl : kindList.getD k [] = wd at hcell HK
    go_enter Try.func20, Try.ntmps20
    go_wp2_with (first | (go_at_call 44; refine (within_any _ _ _ _).mono ?_; rintro e w' ⟨rfl, rfl⟩) | (go_at_call 46; refine (impl_kindWords _).mono ?_; rintro e w' ⟨rfl, rfl⟩))
    go_ret
    exact ⟨by rw [HK.out]; rfl, by go_grown⟩
  · have h' : inR n 1 15 = false := by simpa using h
    have h4 : kindWord n = [] := by unfold kindWord; rw [if_neg h]
    have H4 := Lib.hid h4
    clear h h4
    go_enter Try.func20, Try.ntmps20
    go_wp2_with (go_at_call 44; refine (within_any _ _ _ _).mono ?_; rintro e w' ⟨rfl, rfl⟩)
    go_ret
    exact ⟨by rw [H4.out]; rfl, Below.refl _ _⟩
set_option maxHeartbeats 800000 in
theorem spec_KindWord (n : Int) (w : World) :
    Calls Try.prog 19 #[.int .i64 n] w fun e w' => e = .returned (.string ⟨(kindWord n).toArray⟩) ∧ Below w.heap.size w w' := by
  by_cases h : inR n 1 15 = true
  · have h1 : (1 : Int) ≤ n ∧ n ≤ 15 := by simpa [inR] using h
    obtain ⟨k, rfl⟩ := Int.eq_ofNat_of_zero_le (show 0 ≤ n by omega)
    have hk1 : 1 ≤ k := by omega
    have hk2 : k ≤ 15 := by omega
    have hkw : kindWord (k : Int) = kindList.getD k [] := by unfold kindWord; rw [if_pos h, Int.toNat_natCast]
    have hcell : (w.alloc (.cells (kindList.map fun l => Value.string ⟨l.toArray⟩).toArray 9)).cell? ⟨w.heap.size, k, none⟩ = some (.string ⟨(kindWord (k : Int)).toArray⟩) := by
      rw [World.cell?_alloc_mark, hkw]
      have hlen : kindList.length = 16 := rfl
      rw [List.getElem?_toArray, List.getElem?_map, List.getElem?_eq_getElem (by omega)]
      simp [List.getD, List.getElem?_eq_getElem (show k < kindList.length by omega)]
    clear hkw h1
    simp only [kindList, List.map_cons, List.map_nil] at hcell
    generalize kindWord (k : Int) = wd at hcell ⊢
    go_enter Try.func19, Try.ntmps19
    go_wp2_with (go_at_call 43; refine (l1In_any _ _ _ _).mono ?_; rintro e w' ⟨rfl, rfl⟩)
    go_ret
    exact ⟨rfl, by go_grown⟩
  · have h' : inR n 1 15 = false := by simpa using h
    have h4 : kindWord n = [] := by unfold kindWord; rw [if_neg h]
    have H4 := Lib.hid h4
    clear h h4
    go_enter Try.func19, Try.ntmps19
    go_wp2_with (go_at_call 43; refine (l1In_any _ _ _ _).mono ?_; rintro e w' ⟨rfl, rfl⟩)
    go_ret
    exact ⟨by rw [H4.out]; rfl, Below.refl _ _⟩
theorem walk_FnExactKindWord (a0 : Int) (w : World) (_w0 : (Lit.int .i64 a0).wf = true) :
    Calls Try.prog 6 #[.int .i64 a0] w fun e w' => e = .returned (.bool true) ∧ Below w.heap.size w w' := by
  have hb0 := Below.refl w.heap.size w
  go_enter Try.func6, Try.ntmps6
  go_wp2_with (first | (go_at_call 20; refine (acc (impl_KindWord _ _) (by assumption) (Nat.le_refl _)).mono ?_; rintro e w' ⟨rfl, hb⟩) | (go_at_call 19; refine (acc (spec_KindWord _ _) (by assumption) (Nat.le_refl _)).mono ?_; rintro e w' ⟨rfl, hb⟩))
  go_ret
  exact ⟨rfl, by assumption⟩

set_option maxHeartbeats 400000 in
theorem impl_ReadOp (s : ByteArray) (w : World) :
    Calls Try.prog 30 #[.string s] w fun e w' => e = .returned (.tuple #[.int .i64 (readOp s.data.toList).1, .bool (readOp s.data.toList).2]) ∧ w = w' := by
  go_enter Try.func30, Try.ntmps30
  go_wp2_with fail
  refine wp_loop_rounds 4 ?_
  repeat any_goals (rw [rounds_succ]; go_wp2_with (go_at_call 18; refine (impl_OpText _ _).mono ?_; rintro e w' ⟨rfl, rfl⟩))
  all_goals (try simp only [ByteArray.toList_eq, beq_iff_eq, beq_eq_false_iff_ne, ne_eq] at *)
  all_goals
    go_ret2
    exact ⟨ret_ib (by simp [readOp, *]) (by simp [readOp, *]), rfl⟩
set_option maxHeartbeats 400000 in
theorem spec_ReadOp (s : ByteArray) (w : World) :
    Calls Try.prog 29 #[.string s] w fun e w' => e = .returned (.tuple #[.int .i64 (readOp s.data.toList).1, .bool (readOp s.data.toList).2]) ∧ Below w.heap.size w w' := by
  have hb0 := Below.refl w.heap.size w
  go_enter Try.func29, Try.ntmps29
  go_wp2_with fail
  refine wp_loop_rounds 4 ?_
  repeat any_goals (rw [rounds_succ]; go_wp2_with (go_at_call 17; refine (acc (spec_OpText _ _) (by assumption) (Nat.le_refl _)).mono ?_; rintro e w' ⟨rfl, hb⟩))
  all_goals (try simp only [ByteArray.toList_eq, beq_iff_eq, beq_eq_false_iff_ne, ne_eq] at *)
  all_goals
    go_ret2
    exact ⟨ret_ib (by simp [readOp, *]) (by simp [readOp, *]), by assumption⟩
theorem walk_FnExactReadOp (a0 : ByteArray) (w : World) (w0 : a0.size ≤ maxLen) :
    Calls Try.prog 11 #[.string a0] w fun e w' => e = .returned (.bool true) ∧ Below w.heap.size w w' := by
  have hm := w0
  unfold maxLen at hm
  by_cases hbig : (1048576 : Int) < (a0.size : Int)
  · go_enter Try.func11, Try.ntmps11
    go_wp2
    go_ret
    exact ⟨rfl, Below.refl _ _⟩
  · go_enter Try.func11, Try.ntmps11
    go_wp2_with (first | (go_at_call 30; refine (impl_ReadOp _ _).mono ?_; rintro e w' ⟨rfl, rfl⟩) | (go_at_call 29; refine (spec_ReadOp _ _).mono ?_; rintro e w' ⟨rfl, hb⟩))
    go_ret
    exact ⟨rfl, by assumption⟩

end Go.Proofs.Ytplbijibddnfjaa
