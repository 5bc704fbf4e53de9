/-
  Walks: what each function returns, and that it leaves what lay in memory as it was.
-/
import Derived.Test.YtnphoodoheccoaaProg
import Derived.Test.YtnphoodoheccoaaPlain
import Derived.Test.YtnphoodoheccoaaBase2
import Derived.Test.YtnphoodoheccoaaOpen2
import Derived.Test.YtnphoodoheccoaaShelf
import Derived.WalkKit
import Derived.WalkSpells
import Derived.WalkLawsBesides
import Derived.Lib.Hide
import Derived.Deep.LoopGhost
import Derived.Deep.QuietTactic
import Derived.BigQuiet
import Derived.Handy
import Derived.Deep.RegionHeld3
import Derived.StillTailTactics
import Derived.OpenShut
import Derived.ChangeSame
import Derived.Laws.StructEq

import Derived.Test.YtnphoodoheccoaaPlainT

import Derived.Test.YtnphoodoheccoaaW1

namespace Go.Proofs.Ytnphoodoheccoaa
open Go.ChangeShapes Go.WideShapes Go.ChangeAt Go.RowKit Go.Deep
set_option linter.unusedVariables false
set_option linter.unusedSimpArgs false

/-- The variable internal/bytealg.MaxLen holds some number. -/
def ML (w : World) : Prop := ∃ m, w.cell? ⟨0, 0, none⟩ = some (.int .i64 m)
theorem ML.below {w w' : World} (h : ML w) (hb : Below w.heap.size w w') : ML w' := by
  obtain ⟨m, hm⟩ := h
  exact ⟨m, (hb.cell (p := ⟨0, 0, none⟩) (World.block_lt_of_cell? w _ hm)).trans hm⟩
theorem ML.drewN {w : World} (h : ML w) (n : Nat) : ML (w.drewN n) := h
theorem ML.of_shaped {w : World} (h : w.ShapedOpen Try.prog) : ML w := Try.laysM144.s1_3 w h
theorem nmB_iff (c : UInt8) : nmB c = true ↔ (c.toNat : Int) = 47 ∨ (97 ≤ (c.toNat : Int) ∧ (c.toNat : Int) ≤ 122) := by
  have h := u8_all (fun c => nmB c == decide ((c.toNat : Int) = 47 ∨ (97 ≤ (c.toNat : Int) ∧ (c.toNat : Int) ≤ 122))) (by decide +kernel) c
  rw [beq_iff_eq.1 h, decide_eq_true_iff]
theorem slash_at (s : ByteArray) (i : Nat) (h : i < s.size) : slashAt s.data.toList i = decide ((s[i].toNat : Int) = 47) := by
  unfold slashAt
  have hl : i < s.data.toList.length := by rw [← size_len]; exact h
  rw [List.getElem?_eq_getElem hl]
  have e : s.data.toList[i] = s[i] := rfl
  rw [e]
  have h2 := u8_all (fun c => decide (some c = some (47 : UInt8)) == decide ((c.toNat : Int) = 47)) (by decide +kernel) s[i]
  exact beq_iff_eq.1 h2
theorem bad_slash {s : ByteArray} {i : Nat} (h : i < s.size) (hs : (s[i].toNat : Int) = 47) : badAt s.data.toList i = (decide (i = 0) || decide (i + 1 = s.size) || slashAt s.data.toList (i - 1)) := by
  unfold badAt
  rw [slash_at s i h, decide_eq_true hs, size_len]
  simp
theorem bad_other {s : ByteArray} {i : Nat} (h : i < s.size) (hs : ¬ (s[i].toNat : Int) = 47) : badAt s.data.toList i = !(decide (97 ≤ (s[i].toNat : Int)) && decide ((s[i].toNat : Int) ≤ 122)) := by
  unfold badAt
  have hl : i < s.data.toList.length := by rw [← size_len]; exact h
  have e : s.data.toList.getD i 0 = s[i] := by rw [List.getD_eq_getElem?_getD, List.getElem?_eq_getElem hl]; rfl
  rw [slash_at s i h, decide_eq_false hs, e]
  rfl
set_option maxHeartbeats 800000 in
theorem spec_NameOk (s : ByteArray) (w : World) (hs : s.size ≤ maxLen) :
    Calls Try.prog 50 #[.string s] w fun e w' => e = .returned (.bool (nameOk s.data.toList)) ∧ w = w' := by
  unfold maxLen at hs
  have HL := Lib.hid (size_len s)
  go_enter Try.func50, Try.ntmps50
  go_wp2_with fail
  go_loop [3] (fun i => ∃ k : Nat, k ≤ s.size ∧ i = .int .i64 k ∧ Hid (∀ j, j < k → badAt s.data.toList j = false)) (fun i => s.size - (intOf i).toNat)
  case atStart => exact ⟨0, Nat.zero_le _, rfl, fun j hj => absurd hj (by omega)⟩
  case round =>
    obtain ⟨k, hk, rfl, ha⟩ := hrel
    by_cases hlt : k < s.size
    · have hlt' : k < s.data.toList.length := by rw [← HL.out]; exact hlt
      have hgood : badAt s.data.toList k = false → ∀ j, j < k + 1 → badAt s.data.toList j = false := by
        intro h j hj
        by_cases e : j < k
        · exact ha.out j e
        · rw [show j = k from by omega]; exact h
      have Hgood := Lib.hid hgood
      have Hbad := Lib.hid (fun h => nameOk_bad hlt' h)
      clear hgood
      by_cases hc : (s[k].toNat : Int) = 47
      · have Hb := Lib.hid (bad_slash hlt hc)
        have hcb : ((s[k].toNat : Int) == 47) = true := by rw [hc]; rfl
        by_cases h0 : k = 0
        · have h0i : ((k : Int) == 0) = true := by rw [h0]; rfl
          have H0 := Lib.hid h0
          clear Hgood h0
          go_wp2
          go_ret
          exact ⟨ret_b (Hbad.out (by rw [Hb.out, H0.out]; rfl)).symm, rfl⟩
        · have h0i : ((k : Int) == 0) = false := by rw [beq_eq_false_iff_ne]; omega
          by_cases h1 : k + 1 = s.size
          · have h1i : ((k : Int) == (s.size : Int) - 1) = true := by rw [beq_iff_eq]; omega
            have H1 := Lib.hid h1
            clear Hgood h1
            go_wp2
            go_ret
            exact ⟨ret_b (Hbad.out (by rw [Hb.out, decide_eq_true H1.out]; simp)).symm, rfl⟩
          · have h1i : ((k : Int) == (s.size : Int) - 1) = false := by rw [beq_eq_false_iff_ne]; omega
            have hk1 : (k : Int) - 1 = ((k - 1 : Nat) : Int) := by omega
            have hk2 : k - 1 < s.size := by omega
            have Hs := Lib.hid (slash_at s (k - 1) hk2)
            by_cases hp : (s[k - 1].toNat : Int) = 47
            · have hpb : ((s[k - 1].toNat : Int) == 47) = true := by rw [hp]; rfl
              clear Hgood
              go_wp2
              go_ret
              exact ⟨ret_b (Hbad.out (by rw [Hb.out, Hs.out, decide_eq_true hp]; simp)).symm, rfl⟩
            · have hpb : ((s[k - 1].toNat : Int) == 47) = false := by rw [beq_eq_false_iff_ne]; exact hp
              have Hg := Lib.hid (Hgood.out (by rw [Hb.out, Hs.out, decide_eq_false hp, decide_eq_false h0, decide_eq_false h1]; rfl))
              clear Hgood Hbad
              go_wp2
              go_round
              case rel => exact ⟨k + 1, by omega, by go_num, Hg.out⟩
              case measure => simp [intOf]; omega
      · have Hb := Lib.hid (bad_other hlt hc)
        have hcb : ((s[k].toNat : Int) == 47) = false := by rw [beq_eq_false_iff_ne]; exact hc
        by_cases h1 : (97 : Int) ≤ (s[k].toNat : Int)
        · by_cases h2 : (s[k].toNat : Int) ≤ 122
          · have Hg := Lib.hid (Hgood.out (by rw [Hb.out, decide_eq_true h1, decide_eq_true h2]; rfl))
            clear Hgood Hbad
            go_wp2
            go_round
            case rel => exact ⟨k + 1, by omega, by go_num, Hg.out⟩
            case measure => simp [intOf]; omega
          · clear Hgood
            go_wp2
            go_ret
            exact ⟨ret_b (Hbad.out (by rw [Hb.out, decide_eq_false (show ¬ (s[k].toNat : Int) ≤ 122 by omega)]; simp)).symm, rfl⟩
        · clear Hgood
          go_wp2
          go_ret
          exact ⟨ret_b (Hbad.out (by rw [Hb.out, decide_eq_false (show ¬ (97 : Int) ≤ (s[k].toNat : Int) by omega)]; simp)).symm, rfl⟩
    · have hke : k = s.size := by omega
      have hfin : nameOk s.data.toList = inR (s.size : Int) 1 12 := by rw [nameOk_good (fun i hi => ha.out i (by rw [hke, HL.out]; exact hi)), HL.out]
      have Hfin := Lib.hid hfin
      clear hfin ha hke
      go_wp2_with (go_at_call 62; refine (l1In_any _ _ _ _).mono ?_; rintro e w' ⟨rfl, rfl⟩)
      go_ret
      exact ⟨ret_b Hfin.out.symm, rfl⟩
set_option maxHeartbeats 800000 in
theorem impl_NameOk (s : ByteArray) (w : World) (hs : s.size ≤ 1099511627) (hml : ML w) :
    Calls Try.prog 27 #[.string s] w fun e w' => e = .returned (.bool (nameOk s.data.toList)) ∧ w = w' := by
  obtain ⟨m, hm⟩ := hml
  have HL := Lib.hid (size_len s)
  go_enter Try.func27, Try.ntmps27
  go_wp2_with fail
  go_loop [6] (fun i => ∃ k : Nat, k ≤ s.size ∧ i = .int .i64 k ∧ Hid ((s.data.toList.take k).all nmB = true)) (fun i => s.size - (intOf i).toNat)
  case atStart => exact ⟨0, Nat.zero_le _, rfl, rfl⟩
  case round =>
    obtain ⟨k, hk, rfl, ha⟩ := hrel
    by_cases hlt : k < s.size
    · have hlt' : k < s.data.toList.length := by rw [← HL.out]; exact hlt
      go_wp2
      all_goals try simp only [beq_iff_eq, beq_eq_false_iff_ne, ne_eq, bne_iff_ne, bne_eq_false_iff_eq, Bool.not_eq_true', Bool.not_eq_false', Bool.or_eq_true, Bool.or_eq_false_iff, decide_eq_true_eq, decide_eq_false_iff_not] at *
      all_goals first
        | (go_round
           case rel => exact ⟨k + 1, by omega, by go_num, all_take_succ hlt' ha.out (show nmB s[k] = true from (nmB_iff _).2 (by omega))⟩
           case measure => simp [intOf]; omega)
        | (go_ret
           exact ⟨ret_b (nameOk_byte hlt' (show nmB s[k] = false by rw [← Bool.not_eq_true, nmB_iff]; omega)).symm, rfl⟩)
    · have hke : k = s.size := by omega
      have ha2 : s.data.toList.all nmB = true := by
        have h := ha.out
        rw [List.take_of_length_le (by rw [← HL.out]; omega)] at h
        exact h
      have hfin := nameOk_rest ha2
      rw [← HL.out] at hfin
      have hcon := Try.strings_Contains s ⟨#[47, 47]⟩ m w (by omega) hm
      have Hfin := Lib.hid hfin
      clear ha2 ha hke hfin
      by_cases hn : s.size = 0
      · have Hf2 := Lib.hid (show nameOk s.data.toList = false by rw [Hfin.out, hn]; rfl)
        have Hr := Lib.hid (show inR (s.size : Int) 1 12 = false by rw [hn]; rfl)
        clear hcon Hfin hn
        go_wp2_with (go_at_call 38; refine (within_any _ _ _ _).mono ?_; rintro e w' ⟨rfl, rfl⟩; rw [Hr.out])
        go_ret
        exact ⟨ret_b Hf2.out.symm, rfl⟩
      · have hn0 : 0 < s.size := by omega
        have hn1 : (s.size : Int) - 1 = ((s.size - 1 : Nat) : Int) := by omega
        have hn2 : s.size - 1 < s.size := by omega
        have Hs0 := Lib.hid (slash_at s 0 hn0)
        have Hs1 := Lib.hid (slash_at s (s.size - 1) hn2)
        cases h1 : inR (s.size : Int) 1 12 <;> cases h4 : Lib.contains s.data.toList [47, 47] <;> by_cases h2 : (s[0].toNat : Int) = 47 <;> by_cases h3 : (s[s.size - 1].toNat : Int) = 47
        all_goals
          have Hc := Lib.hid hcon
          have Hf2 := Lib.hid (Hfin.out.trans (by rw [h1, h4, Hs0.out, Hs1.out]))
          have H4 := Lib.hid h4
          clear h4
          have h2b : ((s[0].toNat : Int) == 47) = decide ((s[0].toNat : Int) = 47) := rfl
          have h3b : ((s[s.size - 1].toNat : Int) == 47) = decide ((s[s.size - 1].toNat : Int) = 47) := rfl
          clear hcon Hfin Hs0 Hs1
          go_wp2_with (first | (go_at_call 38; refine (within_any _ _ _ _).mono ?_; rintro e w' ⟨rfl, rfl⟩) | (go_at_call 53; refine Hc.out.mono ?_; rintro e w' ⟨rfl, rfl⟩; rw [H4.out]))
          go_ret
          exact ⟨ret_b (by rw [Hf2.out]; simp [h2, h3]), rfl⟩

end Go.Proofs.Ytnphoodoheccoaa
