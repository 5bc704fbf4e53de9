/-
  Walks: what each function returns, and that it leaves what lay in memory as it was.
-/
import Derived.Test.YtnphoodoheccoaaProg
import Derived.Test.YtnphoodoheccoaaPlain
import Derived.Test.YtnphoodoheccoaaBase2
import Derived.Test.YtnphoodoheccoaaOpen2
import Derived.Test.YtnphoodoheccoaaShelf
import Derived.WalkKit
import Derived.WalkSpells
import Derived.WalkLawsBesides
import Derived.Lib.Hide
import Derived.Deep.LoopGhost
import Derived.Deep.QuietTactic
import Derived.BigQuiet
import Derived.Handy
import Derived.Deep.RegionHeld3
import Derived.StillTailTactics
import Derived.OpenShut
import Derived.ChangeSame
import Derived.Laws.StructEq

import Derived.Test.YtnphoodoheccoaaPlainT

import Derived.Test.YtnphoodoheccoaaW1

import Derived.Test.YtnphoodoheccoaaW2

import Derived.Test.YtnphoodoheccoaaW3

import Derived.Test.YtnphoodoheccoaaW5

import Derived.Test.YtnphoodoheccoaaW9

import Derived.Test.YtnphoodoheccoaaW10

namespace Go.Proofs.Ytnphoodoheccoaa
open Go.ChangeShapes Go.WideShapes Go.ChangeAt Go.RowKit Go.Deep
set_option linter.unusedVariables false
set_option linter.unusedSimpArgs false

set_option maxHeartbeats 1600000 in
set_option maxRecDepth 20000 in
theorem spec_BoxOk (x : Box) (h : Hd) (w : World) (hx : BoxIs w x h) (hf : x.Fit) :
    Calls Try.prog 33 #[.agg #[.string x.name, .int .i64 x.validity, .int .i64 x.next, .slice h.A h.n h.c]] w fun e w' => e = .returned (.bool (boxOk x)) ∧ Below w.heap.size w w' := by
  obtain ⟨A, n, c⟩ := h
  have hr := hx.2.1
  simp only [] at hr
  have HL := Lib.hid hr.1
  have hn : n ≤ 1048576 := by rw [← hr.1]; exact hf.2.1
  have hnm : x.name.size ≤ maxLen := by have := hf.1; unfold maxLen; omega
  have HR := Lib.hid hr
  clear hx hr hf
  have hfull : boxOk x = (nameOk x.name.data.toList && (isId x.validity && (isId x.next && (decide (x.msgs.length ≤ 6) && (List.range x.msgs.length).all (fun i => msgOk x.next x.msgs i))))) := rfl
  have HX := Lib.hid hfull
  clear hfull
  cases c0 : nameOk x.name.data.toList
  · have HF := Lib.hid (HX.out.trans (by rw [c0, Bool.false_and]))
    go_enter Try.func33, Try.ntmps33
    go_wp2_with (go_at_call 50; refine (spec_NameOk _ _ hnm).mono ?_; rintro e w' ⟨rfl, rfl⟩; rw [c0])
    go_ret
    exact ⟨ret_b HF.out.symm, by go_grown⟩
  cases c1 : isId x.validity
  · have HF := Lib.hid (HX.out.trans (by rw [c0, c1, Bool.true_and, Bool.false_and]))
    go_enter Try.func33, Try.ntmps33
    go_wp2_with (first | (go_at_call 50; refine (spec_NameOk _ _ hnm).mono ?_; rintro e w' ⟨rfl, rfl⟩; rw [c0]) | (go_at_call 61; refine (spec_l9Number _ _).mono ?_; rintro e w' ⟨rfl, rfl⟩; rw [c1]))
    go_ret
    exact ⟨ret_b HF.out.symm, by go_grown⟩
  cases c2 : isId x.next
  · have HF := Lib.hid (show boxOk x = false by rw [HX.out]; simp [c0, c1, c2])
    go_enter Try.func33, Try.ntmps33
    go_wp2_with (first | (go_at_call 50; refine (spec_NameOk _ _ hnm).mono ?_; rintro e w' ⟨rfl, rfl⟩; rw [c0]) | (go_at_call 61; refine (spec_l9Number _ _).mono ?_; rintro e w' ⟨rfl, rfl⟩; first | rw [c1] | rw [c2] | skip))
    go_ret
    exact ⟨ret_b HF.out.symm, by go_grown⟩
  by_cases c3 : (6 : Int) < (n : Int)
  · have HF := Lib.hid (show boxOk x = false by rw [HX.out, HL.out, decide_eq_false (show ¬ n ≤ 6 by omega)]; simp)
    go_enter Try.func33, Try.ntmps33
    go_wp2_with (first | (go_at_call 50; refine (spec_NameOk _ _ hnm).mono ?_; rintro e w' ⟨rfl, rfl⟩; rw [c0]) | (go_at_call 61; refine (spec_l9Number _ _).mono ?_; rintro e w' ⟨rfl, rfl⟩; first | rw [c1] | rw [c2] | skip))
    go_ret
    exact ⟨ret_b HF.out.symm, by go_grown⟩
  have c3' : decide ((6 : Int) < (n : Int)) = false := decide_eq_false c3
  have HX2 := Lib.hid (show boxOk x = (List.range x.msgs.length).all (fun i => msgOk x.next x.msgs i) by rw [HX.out, c0, c1, c2, HL.out, decide_eq_true (show n ≤ 6 by omega)]; rfl)
  clear HX
  have hnx : 1 ≤ x.next ∧ x.next ≤ 999999999 := by unfold isId inR at c2; simpa using c2
  obtain ⟨hnx1, hnx2⟩ := hnx
  go_enter Try.func33, Try.ntmps33
  go_wp2_with (first | (go_at_call 50; refine (spec_NameOk _ _ hnm).mono ?_; rintro e w' ⟨rfl, rfl⟩; rw [c0]) | (go_at_call 61; refine (spec_l9Number _ _).mono ?_; rintro e w' ⟨rfl, rfl⟩; first | rw [c1] | rw [c2] | skip))
  have hW : Below w.heap.size w (w.alloc (.cells #[.string x.name, .int .i64 x.validity, .int .i64 x.next, .slice A n c] 40)) := by go_grown
  have hP : Holds (w.alloc (.cells #[.string x.name, .int .i64 x.validity, .int .i64 x.next, .slice A n c] 40)) w.heap.size [.string x.name, .int .i64 x.validity, .int .i64 x.next, .slice A n c] := Holds.new w _ _
  have p3w := hP.2 3 (.slice A n c) rfl
  generalize w.alloc (.cells #[.string x.name, .int .i64 x.validity, .int .i64 x.next, .slice A n c] 40) = w1 at *
  have HW := Lib.hid hW
  have HP := Lib.hid hP
  have H := Lib.hid (HR.out.below hW)
  clear hW HR hP c0 c1 c2
  go_loopw [3] (fun i wr => ∃ k : Nat, k ≤ n ∧ i = .int .i64 k ∧ Below w1.heap.size w1 wr ∧ Hid (∀ j, j < k → msgOk x.next x.msgs j = true)) (fun i _ => n - (intOf i).toNat)
  case atStart => exact ⟨0, Nat.zero_le _, rfl, Below.refl _ _, fun j hj => absurd hj (by omega)⟩
  case round =>
    obtain ⟨k, hk, rfl, hb, ha⟩ := hrel
    have p3v := (HP.out.below hb).2 3 (.slice A n c) rfl
    clear p3w
    by_cases hlt : k < n
    · obtain ⟨b, off, m, rfl, hblt, hm, hc⟩ := (H.out.below hb).elem hlt
      have g0 : wr.cell? ⟨b, off + k * 3, none⟩ = some (.int .i64 m.uid) := by simpa using hc 0 _ rfl
      have g1 : wr.cell? ⟨b, off + k * 3 + 1, none⟩ = some (.int .i64 m.flags) := hc 1 _ rfl
      have g2 : wr.cell? ⟨b, off + k * 3 + 2, none⟩ = some (.string m.text) := hc 2 _ rfl
      have Hm := Lib.hid hm
      have HB := Lib.hid hb
      have Hlen := Lib.hid (show k < x.msgs.length by rw [HL.out]; exact hlt)
      clear hc hm hb
      go_wp2
      have hG : Below wr.heap.size wr (wr.alloc (.cells #[.int .i64 m.uid, .int .i64 m.flags, .string m.text] 62)) := by go_grown
      have hQ : Holds (wr.alloc (.cells #[.int .i64 m.uid, .int .i64 m.flags, .string m.text] 62)) wr.heap.size [.int .i64 m.uid, .int .i64 m.flags, .string m.text] := Holds.new wr _ _
      generalize wr.alloc (.cells #[.int .i64 m.uid, .int .i64 m.flags, .string m.text] 62) = w2 at *
      have hb2 := HB.out.trans (hG.mono HB.out.size)
      generalize wr.heap.size = G at *
      have p2 := (HP.out.below hb2).2 2 (.int .i64 x.next) rfl
      have p3 := (HP.out.below hb2).2 3 (.slice (some ⟨b, off, none⟩) n c) rfl
      have q0 := hQ.2 0 (.int .i64 m.uid) rfl
      have q1 := hQ.2 1 (.int .i64 m.flags) rfl
      have q2 := hQ.2 2 (.string m.text) rfl
      have HB2 := Lib.hid hb2
      clear g0 g1 g2 HB hG hQ hb2 p3v
      have hstep : msgOk x.next x.msgs k = true → ∀ j, j < k + 1 → msgOk x.next x.msgs j = true := by
        intro h j hj
        by_cases e : j < k
        · exact ha.out j e
        · rw [show j = k from by omega]; exact h
      have HS := Lib.hid hstep
      have HD := Lib.hid (show msgOk x.next x.msgs k = false → boxOk x = false from fun h => by rw [HX2.out]; exact range_all_false Hlen.out h)
      clear hstep ha
      by_cases hk0 : k = 0
      · have HV := Lib.hid (show msgOk x.next x.msgs k = (inR m.uid 1 (x.next - 1) && (inR m.flags 0 31 && decide (m.text.size ≤ 40))) from by have h := Hm.out; rw [hk0] at h ⊢; exact msgOk_first h)
        have hk0i : decide ((0 : Int) < (k : Int)) = false := by rw [hk0]; rfl
        cases b1 : inR m.uid 1 (x.next - 1) with
        | false =>
          have HF := Lib.hid (HD.out (by rw [HV.out]; simp [b1]))
          clear HV HD HS
          go_big_quiet (first | (go_at_call 62; refine Calls.quiet_of_same (l1In_q b1 _)) | (go_at_call 63; refine Calls.quiet_of_same (spec_FlagsOk_q b2 _)))
          go_wp2
          go_ret
          exact ⟨ret_b HF.out.symm, HW.out.trans ((below_drewN HB2.out _).mono HW.out.size)⟩
        | true =>
          cases b2 : inR m.flags 0 31 with
          | false =>
            have HF := Lib.hid (HD.out (by rw [HV.out]; simp [b2]))
            clear HV HD HS
            go_big_quiet (first | (go_at_call 62; refine Calls.quiet_of_same (l1In_q b1 _)) | (go_at_call 63; refine Calls.quiet_of_same (spec_FlagsOk_q b2 _)))
            go_wp2
            go_ret
            exact ⟨ret_b HF.out.symm, HW.out.trans ((below_drewN HB2.out _).mono HW.out.size)⟩
          | true =>
            by_cases b3 : (40 : Int) < (m.text.size : Int)
            · have HF := Lib.hid (HD.out (by rw [HV.out]; rw [decide_eq_false (show ¬ m.text.size ≤ 40 by omega)]; simp))
              clear HV HD HS
              go_big_quiet (first | (go_at_call 62; refine Calls.quiet_of_same (l1In_q b1 _)) | (go_at_call 63; refine Calls.quiet_of_same (spec_FlagsOk_q b2 _)))
              go_wp2
              go_ret
              exact ⟨ret_b HF.out.symm, HW.out.trans ((below_drewN HB2.out _).mono HW.out.size)⟩
            · have b3' : decide ((40 : Int) < (m.text.size : Int)) = false := decide_eq_false b3
              have HF := Lib.hid (HS.out (by rw [HV.out]; rw [b1, b2, decide_eq_true (show m.text.size ≤ 40 by omega)]; rfl))
              clear HV HD HS
              go_big_quiet (first | (go_at_call 62; refine Calls.quiet_of_same (l1In_q b1 _)) | (go_at_call 63; refine Calls.quiet_of_same (spec_FlagsOk_q b2 _)))
              go_wp2
              go_roundw
              case rel => exact ⟨k + 1, by omega, by go_num, below_drewN HB2.out _, HF.out⟩
              case measure => simp [intOf]; omega
      · obtain ⟨b', off', p, he, _, hp, hcp⟩ := (H.out.below HB2.out).elem (show k - 1 < n by omega)
        obtain ⟨rfl, rfl⟩ : b' = b ∧ off' = off := by simpa using he.symm
        have r0 : w2.cell? ⟨b', off' + (k - 1) * 3, none⟩ = some (.int .i64 p.uid) := by simpa using hcp 0 _ rfl
        have HV := Lib.hid (show msgOk x.next x.msgs k = (inR m.uid 1 (x.next - 1) && (inR m.flags 0 31 && (decide (m.text.size ≤ 40) && decide (p.uid < m.uid)))) from msgOk_later hk0 Hm.out hp)
        have hk0i : (0 : Int) < (k : Int) := by omega
        have hk0n : 0 < k := by omega
        have hk0d : decide (0 < k) = true := decide_eq_true hk0n
        have hk1 : (k : Int) - 1 = ((k - 1 : Nat) : Int) := by omega
        clear hp hcp he
        cases b1 : inR m.uid 1 (x.next - 1) with
        | false =>
          have HF := Lib.hid (HD.out (by rw [HV.out]; simp [b1]))
          clear HV HD HS
          go_big_quiet (first | (go_at_call 62; refine Calls.quiet_of_same (l1In_q b1 _)) | (go_at_call 63; refine Calls.quiet_of_same (spec_FlagsOk_q b2 _)))
          go_wp2
          go_ret
          exact ⟨ret_b HF.out.symm, HW.out.trans ((below_drewN HB2.out _).mono HW.out.size)⟩
        | true =>
          by_cases b5 : m.uid ≤ p.uid
          · have HF := Lib.hid (HD.out (by rw [HV.out]; rw [decide_eq_false (show ¬ p.uid < m.uid by omega)]; simp))
            clear HV HD HS
            go_big_quiet (first | (go_at_call 62; refine Calls.quiet_of_same (l1In_q b1 _)) | (go_at_call 63; refine Calls.quiet_of_same (spec_FlagsOk_q b2 _)))
            go_wp2
            go_ret
            exact ⟨ret_b HF.out.symm, HW.out.trans ((below_drewN HB2.out _).mono HW.out.size)⟩
          have b5' : decide (m.uid ≤ p.uid) = false := decide_eq_false b5
          cases b2 : inR m.flags 0 31 with
          | false =>
            have HF := Lib.hid (HD.out (by rw [HV.out]; simp [b2]))
            clear HV HD HS
            go_big_quiet (first | (go_at_call 62; refine Calls.quiet_of_same (l1In_q b1 _)) | (go_at_call 63; refine Calls.quiet_of_same (spec_FlagsOk_q b2 _)))
            go_wp2
            go_ret
            exact ⟨ret_b HF.out.symm, HW.out.trans ((below_drewN HB2.out _).mono HW.out.size)⟩
          | true =>
            by_cases b3 : (40 : Int) < (m.text.size : Int)
            · have HF := Lib.hid (HD.out (by rw [HV.out]; rw [decide_eq_false (show ¬ m.text.size ≤ 40 by omega)]; simp))
              clear HV HD HS
              go_big_quiet (first | (go_at_call 62; refine Calls.quiet_of_same (l1In_q b1 _)) | (go_at_call 63; refine Calls.quiet_of_same (spec_FlagsOk_q b2 _)))
              go_wp2
              go_ret
              exact ⟨ret_b HF.out.symm, HW.out.trans ((below_drewN HB2.out _).mono HW.out.size)⟩
            · have b3' : decide ((40 : Int) < (m.text.size : Int)) = false := decide_eq_false b3
              have HF := Lib.hid (HS.out (by rw [HV.out]; rw [b1, b2, decide_eq_true (show m.text.size ≤ 40 by omega), decide_eq_true (show p.uid < m.uid by omega)]; rfl))
              clear HV HD HS
              go_big_quiet (first | (go_at_call 62; refine Calls.quiet_of_same (l1In_q b1 _)) | (go_at_call 63; refine Calls.quiet_of_same (spec_FlagsOk_q b2 _)))
              go_wp2
              go_roundw
              case rel => exact ⟨k + 1, by omega, by go_num, below_drewN HB2.out _, HF.out⟩
              case measure => simp [intOf]; omega
    · have hke : k = n := by omega
      have HF := Lib.hid (show boxOk x = true from by rw [HX2.out]; exact range_all_true (fun j hj => ha.out j (by rw [HL.out] at hj; omega)))
      have HB := Lib.hid (HW.out.trans (hb.mono HW.out.size))
      clear ha hb
      go_wp2
      go_ret
      exact ⟨ret_b HF.out.symm, HB.out⟩

end Go.Proofs.Ytnphoodoheccoaa
