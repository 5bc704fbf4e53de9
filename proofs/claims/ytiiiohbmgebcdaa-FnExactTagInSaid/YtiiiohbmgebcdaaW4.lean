/-
  Walks: what each function returns, and that it leaves what lay in memory as it was.
-/
import Derived.Test.YtiiiohbmgebcdaaProg
import Derived.Test.YtiiiohbmgebcdaaPlain
import Derived.Test.YtiiiohbmgebcdaaBase2
import Derived.Test.YtiiiohbmgebcdaaOpen
import Derived.Test.YtiiiohbmgebcdaaShelf
import Derived.WalkKit
import Derived.WalkSpells
import Derived.WalkLawsBesides
import Derived.Lib.Hide
import Derived.Deep.LoopGhost
import Derived.Deep.QuietTactic
import Derived.BigQuiet
import Derived.Handy
import Derived.Deep.RegionHeld3
import Derived.StillTailTactics
import Derived.OpenShut
import Derived.ChangeSame

import Derived.Test.YtiiiohbmgebcdaaW1

import Derived.Test.YtiiiohbmgebcdaaW2

import Derived.Test.YtiiiohbmgebcdaaW3

namespace Go.Proofs.Ytiiiohbmgebcdaa
open Go.ChangeShapes Go.WideShapes Go.ChangeAt Go.RowKit Go.Deep
set_option linter.unusedVariables false
set_option linter.unusedSimpArgs false

theorem ba_eq {a b : ByteArray} : a = b ↔ a.data.toList = b.data.toList := by
  constructor
  · rintro rfl; rfl
  · intro h
    rw [str_eq h]
theorem ba_beq (a b : ByteArray) : (a.toList == b.toList) = decide (a = b) := by
  rw [Bool.eq_iff_iff, beq_iff_eq, decide_eq_true_iff, ByteArray.toList_eq, ByteArray.toList_eq, ba_eq]
set_option maxHeartbeats 800000 in
theorem spec_Under (s t : ByteArray) (w : World) (hs : s.size ≤ 1099511627) (ht : t.size ≤ 1099511627) :
    Calls Try.prog 5 #[.string s, .string t] w fun e w' => e = .returned (.bool (underIn s.data.toList t.data.toList)) ∧ w = w' := by
  have hu : underIn s.data.toList t.data.toList = (nameOk s.data.toList && (nameOk t.data.toList && (decide (s = t) || (decide (t.size < s.size) && (decide (s.extract 0 t.size = t) && slashAt s.data.toList t.size))))) := by
    unfold underIn
    rw [hasPrefix_sep, ← size_len, ← size_len]
    congr 3
    · rw [decide_eq_decide]; exact ba_eq.symm
    · congr 2
      rw [decide_eq_decide, ba_eq, extract_str]
      simp
  have HU := Lib.hid hu
  clear hu
  have hb1 := ba_beq s t
  have hb2 := ba_beq (s.extract 0 t.size) t
  cases h1 : nameOk s.data.toList
  · have Hr := Lib.hid (HU.out.trans (by rw [h1, Bool.false_and]))
    go_enter Try.func5, Try.ntmps5
    go_wp2_with (go_at_call 9; refine (spec_NameOk _ _ (by unfold maxLen; omega)).mono ?_; rintro e w' ⟨rfl, rfl⟩)
    go_ret
    exact ⟨ret_b Hr.out.symm, rfl⟩
  · cases h2 : nameOk t.data.toList
    · have Hr := Lib.hid (HU.out.trans (by rw [h1, h2, Bool.false_and, Bool.and_false]))
      go_enter Try.func5, Try.ntmps5
      go_wp2_with (go_at_call 9; refine (spec_NameOk _ _ (by unfold maxLen; omega)).mono ?_; rintro e w' ⟨rfl, rfl⟩; first | rw [h1] | rw [h2])
      go_ret
      exact ⟨ret_b Hr.out.symm, rfl⟩
    · cases e1 : decide (s = t)
      · by_cases hl : t.size < s.size
        · have hlb : (t.size : Int) < (s.size : Int) := by omega
          have Hsl := Lib.hid (slash_at s t.size hl)
          cases hp : decide (s.extract 0 t.size = t) <;> by_cases hc : (s[t.size].toNat : Int) = 47
          all_goals
            have Hr := Lib.hid (HU.out.trans (by rw [h1, h2, e1, decide_eq_true hl, hp, Hsl.out]))
            have hb1' := hb1.trans e1
            have hb2' := hb2.trans hp
            clear hb1 hb2 e1 hp HU
            have HC := Lib.hid hc
            go_enter Try.func5, Try.ntmps5
            go_wp2_with (go_at_call 9; refine (spec_NameOk _ _ (by unfold maxLen; omega)).mono ?_; rintro e w' ⟨rfl, rfl⟩; first | rw [h1] | rw [h2])
            go_ret
            exact ⟨ret_b (by rw [Hr.out]; simp [HC.out]), rfl⟩
        · have hlb : ¬ (t.size : Int) < (s.size : Int) := by omega
          have Hr := Lib.hid (HU.out.trans (by rw [h1, h2, e1, decide_eq_false hl, Bool.false_and]))
          have hb1' := hb1.trans e1
          clear hb1 hb2 e1 HU
          go_enter Try.func5, Try.ntmps5
          go_wp2_with (go_at_call 9; refine (spec_NameOk _ _ (by unfold maxLen; omega)).mono ?_; rintro e w' ⟨rfl, rfl⟩; first | rw [h1] | rw [h2])
          go_ret
          exact ⟨ret_b (by rw [Hr.out]; rfl), rfl⟩
      · have Hr := Lib.hid (HU.out.trans (by rw [h1, h2, e1]))
        have hb1' := hb1.trans e1
        clear hb1 hb2 e1 HU
        go_enter Try.func5, Try.ntmps5
        go_wp2_with (go_at_call 9; refine (spec_NameOk _ _ (by unfold maxLen; omega)).mono ?_; rintro e w' ⟨rfl, rfl⟩; first | rw [h1] | rw [h2])
        go_ret
        exact ⟨ret_b (by rw [Hr.out]; rfl), rfl⟩
set_option maxHeartbeats 800000 in
theorem impl_Under (s t : ByteArray) (w : World) (hs : s.size ≤ 1099511627) (ht : t.size ≤ 1099511627) (hml : ML w) :
    Calls Try.prog 6 #[.string s, .string t] w fun e w' => e = .returned (.bool (underIn s.data.toList t.data.toList)) ∧ w = w' := by
  have hcat : (t ++ (⟨#[47]⟩ : ByteArray)).data.toList = t.data.toList ++ [47] := by simp
  have hu : underIn s.data.toList t.data.toList = (nameOk s.data.toList && (nameOk t.data.toList && (decide (s = t) || Lib.hasPrefix s.data.toList (t ++ (⟨#[47]⟩ : ByteArray)).data.toList))) := by
    unfold underIn
    rw [hcat]
    congr 3
    rw [decide_eq_decide]; exact ba_eq.symm
  have hpre := Try.strings_HasPrefix s (t ++ (⟨#[47]⟩ : ByteArray)) w
  have HU := Lib.hid hu
  have Hml := Lib.hid hml
  have Hpre := Lib.hid hpre
  have hb1 := ba_beq s t
  clear hu hml hcat hpre
  cases h1 : nameOk s.data.toList <;> cases h2 : nameOk t.data.toList <;> cases e1 : decide (s = t) <;> cases h3 : Lib.hasPrefix s.data.toList (t ++ (⟨#[47]⟩ : ByteArray)).data.toList
  all_goals
    have Hr := Lib.hid (HU.out.trans (by rw [h1, h2, e1, h3]))
    have H3 := Lib.hid h3
    have hb1' := hb1.trans e1
    clear h3 HU hb1 e1
    go_enter Try.func6, Try.ntmps6
    go_wp2_with (first | (go_at_call 10; refine (impl_NameOk _ _ (by omega) Hml.out).mono ?_; rintro e w' ⟨rfl, rfl⟩; first | rw [h1] | rw [h2]) | (go_at_call 11; refine Hpre.out.mono ?_; rintro e w' ⟨rfl, rfl⟩; rw [H3.out]))
    go_ret
    exact ⟨ret_b (by rw [Hr.out]; rfl), rfl⟩
theorem walk_FnExactUnder (a0 a1 : ByteArray) (w : World) (w0 : a0.size ≤ maxLen) (w1 : a1.size ≤ maxLen) (hS : w.ShapedOpen Try.prog) :
    Calls Try.prog 3 #[.string a0, .string a1] w fun e w' => e = .returned (.bool true) ∧ Below w.heap.size w w' := by
  have Hml := Lib.hid (ML.of_shaped hS)
  unfold maxLen at w0 w1
  clear hS
  by_cases hs : (1048576 : Int) < (a0.size : Int)
  · go_enter Try.func3, Try.ntmps3
    go_wp2
    go_ret
    exact ⟨rfl, Below.refl _ _⟩
  · by_cases ht : (1048576 : Int) < (a1.size : Int)
    · go_enter Try.func3, Try.ntmps3
      go_wp2
      go_ret
      exact ⟨rfl, Below.refl _ _⟩
    · go_enter Try.func3, Try.ntmps3
      go_wp2_with (first | (go_at_call 6; refine (impl_Under _ _ _ (by omega) (by omega) Hml.out).mono ?_; rintro e w' ⟨rfl, rfl⟩) | (go_at_call 5; refine (spec_Under _ _ _ (by omega) (by omega)).mono ?_; rintro e w' ⟨rfl, rfl⟩))
      go_ret
      exact ⟨rfl, Below.refl _ _⟩

set_option maxHeartbeats 800000 in
theorem spec_TagIn (s : ByteArray) (w : World) (hs : s.size ≤ 1099511627) :
    Calls Try.prog 7 #[.string s] w fun e w' => e = .returned (.string ⟨(tagIn s.data.toList).toArray⟩) ∧ Below w.heap.size w w' := by
  obtain ⟨t, ht⟩ := parts_head 32 s.data.toList
  have hlen : (s.data.toList.takeWhile (fun c => !decide (c = 32))).length ≤ s.size := by rw [size_len]; exact List.Sublist.length_le (List.takeWhile_sublist _)
  have HT := Lib.hid (show tagIn s.data.toList = if tagOk (s.data.toList.takeWhile (fun c => !decide (c = 32))) then s.data.toList.takeWhile (fun c => !decide (c = 32)) else [42] from rfl)
  generalize s.data.toList.takeWhile (fun c => !decide (c = 32)) = h at *
  have hp := spec_Parts s 32 w (by omega)
  rw [ht] at hp
  have HP := Lib.hid hp
  clear hp ht
  go_enter Try.func7, Try.ntmps7
  go_wp2_with fail
  refine HP.out.mono ?_
  rintro e w1 ⟨A, c, rfl, ho, hb⟩
  have hA : ∃ g, A = some ⟨g, 0, none⟩ := by
    rcases ho.2 with ⟨hv, h0⟩ | ⟨g, cap, cur, hv, _⟩
    · simp at h0
    · injection hv with hA; exact ⟨g, hA⟩
  obtain ⟨g, rfl⟩ := hA
  have hc := ho.cellAt 0 (by simp)
  have hc2 : ((h :: t).flatMap encStr)[0]? = some (.string ⟨h.toArray⟩) := rfl
  rw [hc2] at hc
  have HB := Lib.hid hb
  have hl : (h :: t).length = t.length + 1 := rfl
  rw [hl] at *
  clear hc2 ho hb HP
  cases hk : tagOk h
  all_goals
    have Hr := Lib.hid (HT.out.trans (by rw [hk]))
    go_wp2_with (go_at_call 13; refine (spec_TagOk _ _ (by unfold maxLen; show h.length ≤ _; omega)).mono ?_; rintro e w' ⟨rfl, rfl⟩)
    go_ret
    exact ⟨by rw [Hr.out]; rfl, HB.out⟩
set_option maxHeartbeats 800000 in
theorem impl_TagIn (s : ByteArray) (w : World) (hs : s.size ≤ 1099511627) (hml : ML w) :
    Calls Try.prog 8 #[.string s] w fun e w' => e = .returned (.string ⟨(tagIn s.data.toList).toArray⟩) ∧ Below w.heap.size w w' := by
  obtain ⟨m, hm⟩ := hml
  have hlen : (s.data.toList.takeWhile (fun c => !decide (c = 32))).length ≤ s.size := by rw [size_len]; exact List.Sublist.length_le (List.takeWhile_sublist _)
  have HT := Lib.hid (show tagIn s.data.toList = if tagOk (s.data.toList.takeWhile (fun c => !decide (c = 32))) then s.data.toList.takeWhile (fun c => !decide (c = 32)) else [42] from rfl)
  have hcut := Try.strings_Cut s ⟨#[32]⟩ m w (by omega) hm
  have hh : (Lib.cut s.data.toList [32]).1 = s.data.toList.takeWhile (fun c => !decide (c = 32)) := cut_head 32 _
  rw [hh] at hcut
  generalize s.data.toList.takeWhile (fun c => !decide (c = 32)) = h at *
  generalize (Lib.cut s.data.toList [32]).2.1 = r1 at *
  generalize (Lib.cut s.data.toList [32]).2.2 = r2 at *
  have HC := Lib.hid hcut
  clear hcut hh
  go_enter Try.func8, Try.ntmps8
  go_wp2_with fail
  refine HC.out.mono ?_
  rintro e w1 ⟨rfl, N, rfl⟩
  have HB := Lib.hid (below_drewN (Below.refl w.heap.size w) N)
  clear HC
  generalize w.drewN N = w1 at *
  cases hk : tagOk h
  all_goals
    have Hr := Lib.hid (HT.out.trans (by rw [hk]))
    go_wp2_with (go_at_call 15; refine (impl_TagOk _ _ (by unfold maxLen; show h.length ≤ _; omega)).mono ?_; rintro e w' ⟨rfl, hb'⟩)
    go_ret
    exact ⟨by rw [Hr.out]; rfl, HB.out.trans (hb'.mono HB.out.size)⟩
theorem walk_FnExactTagIn (a0 : ByteArray) (w : World) (w0 : a0.size ≤ maxLen) (hS : w.ShapedOpen Try.prog) :
    Calls Try.prog 4 #[.string a0] w fun e w' => e = .returned (.bool true) ∧ Below w.heap.size w w' := by
  have Hml := Lib.hid (ML.of_shaped hS)
  unfold maxLen at w0
  clear hS
  by_cases hs : (1048576 : Int) < (a0.size : Int)
  · go_enter Try.func4, Try.ntmps4
    go_wp2
    go_ret
    exact ⟨rfl, Below.refl _ _⟩
  · go_enter Try.func4, Try.ntmps4
    go_wp2_with fail
    refine (spec_TagIn _ _ (by omega)).mono ?_
    rintro e w1 ⟨rfl, hb1⟩
    have Hml1 := Lib.hid (Hml.out.below hb1)
    have HB1 := Lib.hid hb1
    have hi := impl_TagIn a0 w1 (by omega) Hml1.out
    generalize tagIn a0.data.toList = R at *
    have HI := Lib.hid hi
    clear hb1 hi
    go_wp2_with fail
    refine HI.out.mono ?_
    rintro e w2 ⟨rfl, hb2⟩
    have HB2 := Lib.hid (HB1.out.trans (hb2.mono HB1.out.size))
    clear hb2
    go_wp2
    go_ret
    exact ⟨rfl, HB2.out⟩

end Go.Proofs.Ytiiiohbmgebcdaa
