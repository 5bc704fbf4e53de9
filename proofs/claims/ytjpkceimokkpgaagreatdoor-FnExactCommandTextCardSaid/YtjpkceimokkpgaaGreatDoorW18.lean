/-
  Walks: what each function returns, and that it leaves what lay in memory as it was.
-/
import Derived.Test.YtjpkceimokkpgaaGreatDoorProg
import Derived.Test.YtjpkceimokkpgaaGreatDoorPlain
import Derived.Test.YtjpkceimokkpgaaGreatDoorBase2
import Derived.Test.YtjpkceimokkpgaaGreatDoorOpen2
import Derived.Test.YtjpkceimokkpgaaGreatDoorShelf
import Derived.WalkKit
import Derived.WalkSpells
import Derived.WalkLawsBesides
import Derived.Lib.Hide
import Derived.Deep.LoopGhost
import Derived.Deep.QuietTactic
import Derived.BigQuiet
import Derived.Handy
import Derived.Deep.RegionHeld3
import Derived.StillTailTactics
import Derived.OpenShut
import Derived.ChangeSame
import Derived.Laws.StructEq

import Derived.Test.YtjpkceimokkpgaaGreatDoorPlainT

import Derived.Test.YtjpkceimokkpgaaGreatDoorW1

import Derived.Test.YtjpkceimokkpgaaGreatDoorW2

import Derived.Test.YtjpkceimokkpgaaGreatDoorW3

import Derived.Test.YtjpkceimokkpgaaGreatDoorW4

import Derived.Test.YtjpkceimokkpgaaGreatDoorW5

import Derived.Test.YtjpkceimokkpgaaGreatDoorW7

import Derived.Test.YtjpkceimokkpgaaGreatDoorW9

import Derived.Test.YtjpkceimokkpgaaGreatDoorW14

import Derived.Test.YtjpkceimokkpgaaGreatDoorW17

namespace Go.Proofs.YtjpkceimokkpgaaGreatDoor
open Go.ChangeShapes Go.WideShapes Go.ChangeAt Go.RowKit Go.Deep
set_option linter.unusedVariables false
set_option linter.unusedSimpArgs false

set_option maxRecDepth 20000

set_option maxHeartbeats 800000 in
theorem impl_Upper (s : ByteArray) (w : World) (hs : s.size ≤ maxLen) :
    Calls Tryz.prog 99 #[.string s] w fun e w' => e = .returned (.string ⟨(upper s.data.toList).toArray⟩) ∧ Below w.heap.size w w' := by
  unfold maxLen at hs
  have HL := Lib.hid (size_len s)
  go_enter Tryz.func99, Tryz.ntmps99
  go_wp2_with (refine wpList_toBytes rfl 9 88 5 _ rfl Tryz.underlying9 Tryz.underlying88 Tryz.underlying5 s rfl ?_; intro w1 g cap hbuf hbel hg hcap)
  go_loopw [10] (fun i wr => ∃ k : Nat, k ≤ s.size ∧ i = .int .i64 k ∧ Buf wr g ((upTo s.data.toList k).flatMap encB) ∧ Below w.heap.size w wr) (fun i _ => s.size - (intOf i).toNat)
  case atStart => exact ⟨0, Nat.zero_le _, rfl, by rw [upTo_zero]; exact hbuf, hbel⟩
  case round =>
    obtain ⟨k, hk, rfl, hB, hW⟩ := hrel
    by_cases hlt : k < s.size
    · have hlt' : k < s.data.toList.length := by rw [← HL.out]; exact hlt
      have hat : ((upTo s.data.toList k).flatMap encB)[k]? = some (.int .u8 (s.data.toList[k].toNat : Int)) := by
        have := flat_get (enc := encB) (k := 1) (fun _ => rfl) _ k 0 _ _ (upTo_at _ hlt') rfl
        simpa using this
      have hc := hB.cell hat
      have hf : wr.frozen? ⟨g, k, none⟩ = false := hB.frozen (List.getElem?_eq_some_iff.1 hat).1
      have hset : ∀ v : UInt8, v = upB s.data.toList[k] → Buf (wr.setCell ⟨g, k, none⟩ (.int .u8 (v.toNat : Int))) g ((upTo s.data.toList (k + 1)).flatMap encB) := by
        intro v hv
        have h := hB.set k (.int .u8 (v.toNat : Int))
        rw [flat_set] at h
        rw [← upTo_set _ hlt', ← hv]
        exact h
      have hskip := upTo_skip s.data.toList hlt'
      have hlow := @upB_low s.data.toList[k]
      have hoth := @upB_other s.data.toList[k]
      have Hset := Lib.hid hset
      have Hskip := Lib.hid hskip
      have Hlow := Lib.hid hlow
      have Hoth := Lib.hid hoth
      have HB := Lib.hid hB
      have hlt256 := u8_lt s.data.toList[k]
      generalize s.data.toList[k] = c at *
      clear hset hskip hlow hoth hat hB hlt' hbuf hbel
      by_cases h1 : (97 : Int) ≤ (c.toNat : Int)
      · by_cases h2 : (c.toNat : Int) ≤ 122
        · go_wp2
          go_roundw
          case rel => exact ⟨k + 1, by omega, by go_num, by have := Hset.out _ rfl; rw [Hlow.out h1 h2] at this; rw [show (c.toNat : Int) - 97 + 65 = (c.toNat : Int) - 32 from by omega]; exact this, hW.setCell hg _⟩
          case measure => simp [intOf]; omega
        · have h2' : decide ((c.toNat : Int) ≤ 122) = false := by simpa using h2
          go_wp2
          go_roundw
          case rel => exact ⟨k + 1, by omega, by go_num, by rw [← Hskip.out (Hoth.out (by omega))]; exact HB.out, hW⟩
          case measure => simp [intOf]; omega
      · have h1' : decide ((97 : Int) ≤ (c.toNat : Int)) = false := by simpa using h1
        go_wp2
        go_roundw
        case rel => exact ⟨k + 1, by omega, by go_num, by rw [← Hskip.out (Hoth.out (by omega))]; exact HB.out, hW⟩
        case measure => simp [intOf]; omega
    · have hke : k = s.size := by omega
      subst hke
      have hfin : (upTo s.data.toList s.size) = upper s.data.toList := upTo_all _ (by rw [HL.out]; exact Nat.le_refl _)
      rw [hfin] at hB
      have hcv := run_ofBytes (P := Tryz.prog) 88 9 5 Tryz.underlying88 Tryz.underlying5 Tryz.underlying9 (Buf.rd (enc := encB) (k := 1) (fun _ => rfl) hB (n := s.size) (by rw [HL.out]; simp [upper])) cap
      clear hB hbuf hfin
      go_wp2
      go_ret
      exact ⟨rfl, hW⟩

set_option maxHeartbeats 800000 in
theorem impl_TagOk (s : ByteArray) (w : World) (hs : s.size ≤ maxLen) :
    Calls Tryz.prog 67 #[.string s] w fun e w' => e = .returned (.bool (tagOk s.data.toList)) ∧ Below w.heap.size w w' := by
  unfold maxLen at hs
  have HL := Lib.hid (size_len s)
  go_enter Tryz.func67, Tryz.ntmps67
  go_wp2_with fail
  go_loopw [7] (fun i wr => ∃ k : Nat, k ≤ s.size ∧ i = .int .i64 k ∧ Hid ((s.data.toList.take k).all alnumB = true) ∧ Below w.heap.size w wr) (fun i _ => s.size - (intOf i).toNat)
  case atStart => exact ⟨0, Nat.zero_le _, rfl, rfl, Below.refl _ _⟩
  case round =>
    obtain ⟨k, hk, rfl, ha, hW⟩ := hrel
    by_cases hlt : k < s.size
    · have hlt' : k < s.data.toList.length := by rw [← HL.out]; exact hlt
      have hup : upper (s.extract k (k + 1)).data.toList = [upB s[k]] := by
        have : (s.extract k (k + 1)).data.toList = [s[k]] := by
          rw [Lib.extract_data, show k + 1 - k = 1 from by omega, drop_cons hlt']
          rfl
        rw [this]; rfl
      have Hup := Lib.hid hup
      clear hup
      have hiff := Lib.hid (alnum_up s[k])
      go_wp2_with fail
      refine (acc (impl_Upper _ _ (by simp [maxLen]; omega)) hW (Nat.le_refl _)).mono ?_
      rintro e w1 ⟨rfl, hW1⟩
      rw [Hup.out]
      have hx0 : ∀ h : 0 < (ByteArray.mk #[upB s[k]]).size, (ByteArray.mk #[upB s[k]])[0]'h = upB s[k] := fun _ => rfl
      go_wp2
      all_goals try simp only [beq_iff_eq, beq_eq_false_iff_ne, ne_eq, Bool.not_eq_true', Bool.not_eq_false', decide_eq_true_eq, decide_eq_false_iff_not] at *
      all_goals first
        | (go_roundw
           case rel => exact ⟨k + 1, by omega, by go_num, all_take_succ hlt' ha.out (show alnumB s[k] = true from hiff.out.2 (by omega)), hW1⟩
           case measure => simp [intOf]; omega)
        | (go_ret
           exact ⟨ret_b (by unfold tagOk; rw [all_false hlt' (show alnumB s[k] = false by rw [← Bool.not_eq_true, hiff.out]; omega)]; rfl), hW1⟩)
    · have hke : k = s.size := by omega
      have ha2 : s.data.toList.all alnumB = true := by
        have h := ha.out
        rw [List.take_of_length_le (by rw [← HL.out]; omega)] at h
        exact h
      have hfin : tagOk s.data.toList = inR (s.size : Int) 1 8 := by unfold tagOk; rw [ha2, Bool.true_and, HL.out]
      have Hfin := Lib.hid hfin
      clear hfin ha2 ha hke
      go_wp2_with (go_at_call 76; refine (within_any _ _ _ _).mono ?_; rintro e w' ⟨rfl, rfl⟩)
      go_ret
      exact ⟨ret_b Hfin.out.symm, hW⟩
set_option maxHeartbeats 800000 in
theorem spec_TagOk (s : ByteArray) (w : World) (hs : s.size ≤ maxLen) :
    Calls Tryz.prog 49 #[.string s] w fun e w' => e = .returned (.bool (tagOk s.data.toList)) ∧ w = w' := by
  unfold maxLen at hs
  have HL := Lib.hid (size_len s)
  go_enter Tryz.func49, Tryz.ntmps49
  go_wp2_with fail
  go_loop [3] (fun i => ∃ k : Nat, k ≤ s.size ∧ i = .int .i64 k ∧ Hid ((s.data.toList.take k).all alnumB = true)) (fun i => s.size - (intOf i).toNat)
  case atStart => exact ⟨0, Nat.zero_le _, rfl, rfl⟩
  case round =>
    obtain ⟨k, hk, rfl, ha⟩ := hrel
    by_cases hlt : k < s.size
    · have hlt' : k < s.data.toList.length := by rw [← HL.out]; exact hlt
      have hin := Lib.hid (alnum_in s[k])
      have hlt256 := u8_lt s[k]
      cases h1 : inR (s[k].toNat : Int) 97 122 <;> cases h2 : inR (s[k].toNat : Int) 65 90 <;> cases h3 : inR (s[k].toNat : Int) 48 57
      all_goals
        go_wp2_with (go_at_call 50; refine (l1In_any _ _ _ _).mono ?_; rintro e w' ⟨rfl, rfl⟩)
        first
          | (go_round
             case rel => exact ⟨k + 1, by omega, by go_num, all_take_succ hlt' ha.out (show alnumB s[k] = true from by rw [hin.out, h1, h2, h3]; rfl)⟩
             case measure => simp [intOf]; omega)
          | (go_ret
             exact ⟨ret_b (by unfold tagOk; rw [all_false hlt' (show alnumB s[k] = false by rw [hin.out, h1, h2, h3]; rfl)]; rfl), rfl⟩)
    · have hke : k = s.size := by omega
      have ha2 : s.data.toList.all alnumB = true := by
        have h := ha.out
        rw [List.take_of_length_le (by rw [← HL.out]; omega)] at h
        exact h
      have hfin : tagOk s.data.toList = inR (s.size : Int) 1 8 := by unfold tagOk; rw [ha2, Bool.true_and, HL.out]
      have Hfin := Lib.hid hfin
      clear hfin ha2 ha hke
      go_wp2_with (go_at_call 50; refine (l1In_any _ _ _ _).mono ?_; rintro e w' ⟨rfl, rfl⟩)
      go_ret
      exact ⟨ret_b Hfin.out.symm, rfl⟩

theorem impl_kindWords (w : World) :
    Calls Tryz.prog 77 #[] w fun e w' => e = .returned (.slice (some ⟨w.heap.size, 0, none⟩) 16 16) ∧ w' = w.alloc (.cells (kindList.map fun l => Value.string ⟨l.toArray⟩).toArray 9) := by
  go_enter Tryz.func77, Tryz.ntmps77
  go_wp2
  go_ret
  exact ⟨rfl, rfl⟩
set_option maxHeartbeats 800000 in
theorem impl_KindWord (n : Int) (w : World) :
    Calls Tryz.prog 32 #[.int .i64 n] w fun e w' => e = .returned (.string ⟨(kindWord n).toArray⟩) ∧ Below w.heap.size w w' := by
  by_cases h : inR n 1 15 = true
  · have h1 : (1 : Int) ≤ n ∧ n ≤ 15 := by simpa [inR] using h
    obtain ⟨k, rfl⟩ := Int.eq_ofNat_of_zero_le (show 0 ≤ n by omega)
    have hk1 : 1 ≤ k := by omega
    have hk2 : k ≤ 15 := by omega
    have hkw : kindWord (k : Int) = kindList.getD k [] := by unfold kindWord; rw [if_pos h, Int.toNat_natCast]
    have HK := Lib.hid hkw
    have hcell : (w.alloc (.cells (kindList.map fun l => Value.string ⟨l.toArray⟩).toArray 9)).cell? ⟨w.heap.size, k, none⟩ = some (.string ⟨(kindList.getD k []).toArray⟩) := by
      rw [World.cell?_alloc_mark]
      have hlen : kindList.length = 16 := rfl
      rw [List.getElem?_toArray, List.getElem?_map, List.getElem?_eq_getElem (by omega)]
      simp [List.getD, List.getElem?_eq_getElem (show k < kindList.length by omega)]
    clear hkw h1
    generalize hkl : kindList.getD k [] = wd at hcell HK
    go_enter Tryz.func32, Tryz.ntmps32
    go_wp2_with (first | (go_at_call 76; refine (within_any _ _ _ _).mono ?_; rintro e w' ⟨rfl, rfl⟩) | (go_at_call 77; refine (impl_kindWords _).mono ?_; rintro e w' ⟨rfl, rfl⟩))
    go_ret
    exact ⟨by rw [HK.out]; rfl, by go_grown⟩
  · have h' : inR n 1 15 = false := by simpa using h
    have h4 : kindWord n = [] := by unfold kindWord; rw [if_neg h]
    have H4 := Lib.hid h4
    clear h h4
    go_enter Tryz.func32, Tryz.ntmps32
    go_wp2_with (go_at_call 76; refine (within_any _ _ _ _).mono ?_; rintro e w' ⟨rfl, rfl⟩)
    go_ret
    exact ⟨by rw [H4.out]; rfl, Below.refl _ _⟩
set_option maxHeartbeats 800000 in
theorem spec_KindWord (n : Int) (w : World) :
    Calls Tryz.prog 20 #[.int .i64 n] w fun e w' => e = .returned (.string ⟨(kindWord n).toArray⟩) ∧ Below w.heap.size w w' := by
  by_cases h : inR n 1 15 = true
  · have h1 : (1 : Int) ≤ n ∧ n ≤ 15 := by simpa [inR] using h
    obtain ⟨k, rfl⟩ := Int.eq_ofNat_of_zero_le (show 0 ≤ n by omega)
    have hk1 : 1 ≤ k := by omega
    have hk2 : k ≤ 15 := by omega
    have hkw : kindWord (k : Int) = kindList.getD k [] := by unfold kindWord; rw [if_pos h, Int.toNat_natCast]
    have hcell : (w.alloc (.cells (kindList.map fun l => Value.string ⟨l.toArray⟩).toArray 9)).cell? ⟨w.heap.size, k, none⟩ = some (.string ⟨(kindWord (k : Int)).toArray⟩) := by
      rw [World.cell?_alloc_mark, hkw]
      have hlen : kindList.length = 16 := rfl
      rw [List.getElem?_toArray, List.getElem?_map, List.getElem?_eq_getElem (by omega)]
      simp [List.getD, List.getElem?_eq_getElem (show k < kindList.length by omega)]
    clear hkw h1
    simp only [kindList, List.map_cons, List.map_nil] at hcell
    generalize kindWord (k : Int) = wd at hcell ⊢
    go_enter Tryz.func20, Tryz.ntmps20
    go_wp2_with (go_at_call 50; refine (l1In_any _ _ _ _).mono ?_; rintro e w' ⟨rfl, rfl⟩)
    go_ret
    exact ⟨rfl, by go_grown⟩
  · have h' : inR n 1 15 = false := by simpa using h
    have h4 : kindWord n = [] := by unfold kindWord; rw [if_neg h]
    have H4 := Lib.hid h4
    clear h h4
    go_enter Tryz.func20, Tryz.ntmps20
    go_wp2_with (go_at_call 50; refine (l1In_any _ _ _ _).mono ?_; rintro e w' ⟨rfl, rfl⟩)
    go_ret
    exact ⟨by rw [H4.out]; rfl, Below.refl _ _⟩

end Go.Proofs.YtjpkceimokkpgaaGreatDoor
