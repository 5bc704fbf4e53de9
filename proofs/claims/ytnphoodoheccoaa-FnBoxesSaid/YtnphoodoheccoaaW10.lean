/-
  Walks: what each function returns, and that it leaves what lay in memory as it was.
-/
import Derived.Test.YtnphoodoheccoaaProg
import Derived.Test.YtnphoodoheccoaaPlain
import Derived.Test.YtnphoodoheccoaaBase2
import Derived.Test.YtnphoodoheccoaaOpen2
import Derived.Test.YtnphoodoheccoaaShelf
import Derived.WalkKit
import Derived.WalkSpells
import Derived.WalkLawsBesides
import Derived.Lib.Hide
import Derived.Deep.LoopGhost
import Derived.Deep.QuietTactic
import Derived.BigQuiet
import Derived.Handy
import Derived.Deep.RegionHeld3
import Derived.StillTailTactics
import Derived.OpenShut
import Derived.ChangeSame
import Derived.Laws.StructEq

import Derived.Test.YtnphoodoheccoaaPlainT

import Derived.Test.YtnphoodoheccoaaW1

import Derived.Test.YtnphoodoheccoaaW2

import Derived.Test.YtnphoodoheccoaaW3

import Derived.Test.YtnphoodoheccoaaW5

import Derived.Test.YtnphoodoheccoaaW9

namespace Go.Proofs.Ytnphoodoheccoaa
open Go.ChangeShapes Go.WideShapes Go.ChangeAt Go.RowKit Go.Deep
set_option linter.unusedVariables false
set_option linter.unusedSimpArgs false

def isId (n : Int) : Bool := inR n 1 999999999
def msgOk (nx : Int) (l : List Msg) (k : Nat) : Bool :=
  match l[k]? with
  | none => true
  | some m => inR m.uid 1 (nx - 1) && (inR m.flags 0 31 && (decide (m.text.size ≤ 40) && (decide (k = 0) || (match l[k - 1]? with | none => true | some p => decide (p.uid < m.uid)))))
def boxOk (x : Box) : Bool := nameOk x.name.data.toList && (isId x.validity && (isId x.next && (decide (x.msgs.length ≤ 6) && (List.range x.msgs.length).all (fun i => msgOk x.next x.msgs i))))
theorem range_all_false {p : Nat → Bool} {n k : Nat} (h : k < n) (hp : p k = false) : (List.range n).all p = false := by
  rw [List.all_eq_false]; exact ⟨k, List.mem_range.2 h, by simp [hp]⟩
theorem range_all_true {p : Nat → Bool} {n : Nat} (h : ∀ k, k < n → p k = true) : (List.range n).all p = true := by
  rw [List.all_eq_true]; intro k hk; exact h k (List.mem_range.1 hk)
theorem boxOk_next {x : Box} (h : isId x.next = false) : boxOk x = false := by simp [boxOk, h]
theorem boxOk_bad {x : Box} {k : Nat} (hk : k < x.msgs.length) (h : isId x.next = true → msgOk x.next x.msgs k = false) : boxOk x = false := by
  cases hi : isId x.next with
  | false => exact boxOk_next hi
  | true => unfold boxOk; rw [range_all_false hk (h hi)]; simp
theorem boxOk_good {x : Box} (h : isId x.next = true → ∀ k, k < x.msgs.length → msgOk x.next x.msgs k = true) : boxOk x = (nameOk x.name.data.toList && (isId x.validity && (isId x.next && decide (x.msgs.length ≤ 6)))) := by
  cases hi : isId x.next with
  | false => rw [boxOk_next hi]; simp
  | true => unfold boxOk; rw [range_all_true (h hi), hi]; simp
theorem msgOk_first {nx : Int} {l : List Msg} {m : Msg} (h : l[0]? = some m) : msgOk nx l 0 = (inR m.uid 1 (nx - 1) && (inR m.flags 0 31 && decide (m.text.size ≤ 40))) := by
  unfold msgOk; rw [h]; simp
theorem msgOk_later {nx : Int} {l : List Msg} {k : Nat} {m p : Msg} (hk : ¬ k = 0) (h : l[k]? = some m) (hp : l[k - 1]? = some p) : msgOk nx l k = (inR m.uid 1 (nx - 1) && (inR m.flags 0 31 && (decide (m.text.size ≤ 40) && decide (p.uid < m.uid)))) := by
  unfold msgOk; rw [h]; simp only [hp]; simp [hk]
theorem wrap_id {n : Int} (h : isId n = true) : wrap64 (n - 1) = n - 1 := by
  unfold isId inR at h
  simp at h
  exact IntWalk.wrap64_in _ (by omega)
theorem within_q {n lo hi : Int} {b : Bool} (h : inR n lo hi = b) (w : World) : Calls Try.prog 38 #[.int .i64 n, .int .i64 lo, .int .i64 hi] w fun e w' => e = .returned (.bool b) ∧ w' = w :=
  (within_any n lo hi w).mono fun _ _ ⟨h1, h2⟩ => ⟨by rw [h1, h], h2.symm⟩
theorem l1In_q {n lo hi : Int} {b : Bool} (h : inR n lo hi = b) (w : World) : Calls Try.prog 62 #[.int .i64 n, .int .i64 lo, .int .i64 hi] w fun e w' => e = .returned (.bool b) ∧ w' = w :=
  (l1In_any n lo hi w).mono fun _ _ ⟨h1, h2⟩ => ⟨by rw [h1, h], h2.symm⟩
theorem impl_FlagsOk_q {n : Int} {b : Bool} (h : inR n 0 31 = b) (w : World) : Calls Try.prog 39 #[.int .i64 n] w fun e w' => e = .returned (.bool b) ∧ w' = w :=
  (impl_FlagsOk n w).mono fun _ _ ⟨h1, h2⟩ => ⟨by rw [h1, h], h2.symm⟩
theorem spec_FlagsOk_q {n : Int} {b : Bool} (h : inR n 0 31 = b) (w : World) : Calls Try.prog 63 #[.int .i64 n] w fun e w' => e = .returned (.bool b) ∧ w' = w :=
  (spec_FlagsOk n w).mono fun _ _ ⟨h1, h2⟩ => ⟨by rw [h1, h], h2.symm⟩
theorem impl_isId (n : Int) (w : World) : Calls Try.prog 40 #[.int .i64 n] w fun e w' => e = .returned (.bool (isId n)) ∧ w = w' := by
  have h := Lib.hid (show inR n 1 999999999 = isId n from rfl)
  go_enter Try.func40, Try.ntmps40
  go_wp2_with (go_at_call 38; refine (within_any _ _ _ _).mono ?_; rintro e w' ⟨rfl, rfl⟩)
  go_ret
  exact ⟨ret_b h.out, rfl⟩
theorem spec_l9Number (n : Int) (w : World) : Calls Try.prog 61 #[.int .i64 n] w fun e w' => e = .returned (.bool (isId n)) ∧ w = w' := by
  have h := Lib.hid (show inR n 1 999999999 = isId n from rfl)
  go_enter Try.func61, Try.ntmps61
  go_wp2_with (go_at_call 62; refine (l1In_any _ _ _ _).mono ?_; rintro e w' ⟨rfl, rfl⟩)
  go_ret
  exact ⟨ret_b h.out, rfl⟩
set_option maxHeartbeats 1600000 in
set_option maxRecDepth 20000 in
theorem impl_BoxOk (x : Box) (h : Hd) (w : World) (hx : BoxIs w x h) (hf : x.Fit) (hml : ML w) :
    Calls Try.prog 15 #[.agg #[.string x.name, .int .i64 x.validity, .int .i64 x.next, .slice h.A h.n h.c]] w fun e w' => e = .returned (.bool (boxOk x)) ∧ Below w.heap.size w w' := by
  obtain ⟨A, n, c⟩ := h
  have hr := hx.2.1
  simp only [] at hr
  have HL := Lib.hid hr.1
  have hn : n ≤ 1048576 := by rw [← hr.1]; exact hf.2.1
  have hnm : x.name.size ≤ 1048576 := hf.1
  have HR := Lib.hid hr
  have HW0 := Lib.hid (fun h => wrap_id (n := x.next) h)
  clear hx hr hf
  go_enter Try.func15, Try.ntmps15
  go_wp2_with fail
  have hW : Below w.heap.size w (w.alloc (.cells #[.string x.name, .int .i64 x.validity, .int .i64 x.next, .slice A n c] 40)) := by go_grown
  have hP : Holds (w.alloc (.cells #[.string x.name, .int .i64 x.validity, .int .i64 x.next, .slice A n c] 40)) w.heap.size [.string x.name, .int .i64 x.validity, .int .i64 x.next, .slice A n c] := Holds.new w _ _
  generalize w.alloc (.cells #[.string x.name, .int .i64 x.validity, .int .i64 x.next, .slice A n c] 40) = w1 at *
  have HW := Lib.hid hW
  have HP := Lib.hid hP
  have H := Lib.hid (HR.out.below hW)
  have HM := Lib.hid (hml.below hW)
  clear hW HR hml hP
  go_loopw [8] (fun i wr => ∃ k : Nat, k ≤ n ∧ i = .int .i64 k ∧ Below w1.heap.size w1 wr ∧ Hid (isId x.next = true → ∀ j, j < k → msgOk x.next x.msgs j = true)) (fun i _ => n - (intOf i).toNat)
  case atStart => exact ⟨0, Nat.zero_le _, rfl, Below.refl _ _, fun _ j hj => absurd hj (by omega)⟩
  case round =>
    obtain ⟨k, hk, rfl, hb, ha⟩ := hrel
    by_cases hlt : k < n
    · obtain ⟨b, off, m, rfl, hblt, hm, hc⟩ := (H.out.below hb).elem hlt
      have g0 : wr.cell? ⟨b, off + k * 3, none⟩ = some (.int .i64 m.uid) := by simpa using hc 0 _ rfl
      have g1 : wr.cell? ⟨b, off + k * 3 + 1, none⟩ = some (.int .i64 m.flags) := hc 1 _ rfl
      have g2 : wr.cell? ⟨b, off + k * 3 + 2, none⟩ = some (.string m.text) := hc 2 _ rfl
      have Hm := Lib.hid hm
      have HB := Lib.hid hb
      have Hlen := Lib.hid (show k < x.msgs.length by rw [HL.out]; exact hlt)
      clear hc hm hb
      go_wp2
      have hG : Below wr.heap.size wr (wr.alloc (.cells #[.int .i64 m.uid, .int .i64 m.flags, .string m.text] 62)) := by go_grown
      have hQ : Holds (wr.alloc (.cells #[.int .i64 m.uid, .int .i64 m.flags, .string m.text] 62)) wr.heap.size [.int .i64 m.uid, .int .i64 m.flags, .string m.text] := Holds.new wr _ _
      generalize wr.alloc (.cells #[.int .i64 m.uid, .int .i64 m.flags, .string m.text] 62) = w2 at *
      have hb2 := HB.out.trans (hG.mono HB.out.size)
      generalize wr.heap.size = G at *
      have p2 := (HP.out.below hb2).2 2 (.int .i64 x.next) rfl
      have p3 := (HP.out.below hb2).2 3 (.slice (some ⟨b, off, none⟩) n c) rfl
      have q0 := hQ.2 0 (.int .i64 m.uid) rfl
      have q1 := hQ.2 1 (.int .i64 m.flags) rfl
      have q2 := hQ.2 2 (.string m.text) rfl
      have HB2 := Lib.hid hb2
      clear g0 g1 g2 HB hG hQ hb2
      have hstep : (isId x.next = true → msgOk x.next x.msgs k = true) → isId x.next = true → ∀ j, j < k + 1 → msgOk x.next x.msgs j = true := by
        intro h hi j hj
        by_cases e : j < k
        · exact ha.out hi j e
        · rw [show j = k from by omega]; exact h hi
      have HS := Lib.hid hstep
      have HD := Lib.hid (fun h => boxOk_bad Hlen.out h)
      clear hstep ha
      by_cases hk0 : k = 0
      · have HV := Lib.hid (show isId x.next = true → msgOk x.next x.msgs k = (inR m.uid 1 (wrap64 (x.next - 1)) && (inR m.flags 0 31 && decide (m.text.size ≤ 40))) from fun hi => by have h := Hm.out; rw [hk0] at h ⊢; rw [HW0.out hi]; exact msgOk_first h)
        have hk0i : decide ((0 : Int) < (k : Int)) = false := by rw [hk0]; rfl
        cases b1 : inR m.uid 1 (wrap64 (x.next - 1)) with
        | false =>
          have HF := Lib.hid (HD.out (fun hi => by rw [HV.out hi]; simp [b1]))
          clear HV HD HS
          go_big_quiet (first | (go_at_call 38; refine Calls.quiet_of_same (within_q b1 _)) | (go_at_call 39; refine Calls.quiet_of_same (impl_FlagsOk_q b2 _)))
          go_wp2
          go_ret
          exact ⟨ret_b HF.out.symm, HW.out.trans ((below_drewN HB2.out _).mono HW.out.size)⟩
        | true =>
          cases b2 : inR m.flags 0 31 with
          | false =>
            have HF := Lib.hid (HD.out (fun hi => by rw [HV.out hi]; simp [b2]))
            clear HV HD HS
            go_big_quiet (first | (go_at_call 38; refine Calls.quiet_of_same (within_q b1 _)) | (go_at_call 39; refine Calls.quiet_of_same (impl_FlagsOk_q b2 _)))
            go_wp2
            go_ret
            exact ⟨ret_b HF.out.symm, HW.out.trans ((below_drewN HB2.out _).mono HW.out.size)⟩
          | true =>
            by_cases b3 : (40 : Int) < (m.text.size : Int)
            · have HF := Lib.hid (HD.out (fun hi => by rw [HV.out hi]; rw [decide_eq_false (show ¬ m.text.size ≤ 40 by omega)]; simp))
              clear HV HD HS
              go_big_quiet (first | (go_at_call 38; refine Calls.quiet_of_same (within_q b1 _)) | (go_at_call 39; refine Calls.quiet_of_same (impl_FlagsOk_q b2 _)))
              go_wp2
              go_ret
              exact ⟨ret_b HF.out.symm, HW.out.trans ((below_drewN HB2.out _).mono HW.out.size)⟩
            · have b3' : decide ((40 : Int) < (m.text.size : Int)) = false := decide_eq_false b3
              have HF := Lib.hid (HS.out (fun hi => by rw [HV.out hi]; rw [b1, b2, decide_eq_true (show m.text.size ≤ 40 by omega)]; rfl))
              clear HV HD HS
              go_big_quiet (first | (go_at_call 38; refine Calls.quiet_of_same (within_q b1 _)) | (go_at_call 39; refine Calls.quiet_of_same (impl_FlagsOk_q b2 _)))
              go_wp2
              go_roundw
              case rel => exact ⟨k + 1, by omega, by go_num, below_drewN HB2.out _, HF.out⟩
              case measure => simp [intOf]; omega
      · obtain ⟨b', off', p, he, _, hp, hcp⟩ := (H.out.below HB2.out).elem (show k - 1 < n by omega)
        obtain ⟨rfl, rfl⟩ : b' = b ∧ off' = off := by simpa using he.symm
        have r0 : w2.cell? ⟨b', off' + (k - 1) * 3, none⟩ = some (.int .i64 p.uid) := by simpa using hcp 0 _ rfl
        have HV := Lib.hid (show isId x.next = true → msgOk x.next x.msgs k = (inR m.uid 1 (wrap64 (x.next - 1)) && (inR m.flags 0 31 && (decide (m.text.size ≤ 40) && decide (p.uid < m.uid)))) from fun hi => by rw [HW0.out hi]; exact msgOk_later hk0 Hm.out hp)
        have hk0i : (0 : Int) < (k : Int) := by omega
        have hk0n : 0 < k := by omega
        have hk0d : decide (0 < k) = true := decide_eq_true hk0n
        have hk1 : (k : Int) - 1 = ((k - 1 : Nat) : Int) := by omega
        clear hp hcp he
        cases b1 : inR m.uid 1 (wrap64 (x.next - 1)) with
        | false =>
          have HF := Lib.hid (HD.out (fun hi => by rw [HV.out hi]; simp [b1]))
          clear HV HD HS
          go_big_quiet (first | (go_at_call 38; refine Calls.quiet_of_same (within_q b1 _)) | (go_at_call 39; refine Calls.quiet_of_same (impl_FlagsOk_q b2 _)))
          go_wp2
          go_ret
          exact ⟨ret_b HF.out.symm, HW.out.trans ((below_drewN HB2.out _).mono HW.out.size)⟩
        | true =>
          cases b2 : inR m.flags 0 31 with
          | false =>
            have HF := Lib.hid (HD.out (fun hi => by rw [HV.out hi]; simp [b2]))
            clear HV HD HS
            go_big_quiet (first | (go_at_call 38; refine Calls.quiet_of_same (within_q b1 _)) | (go_at_call 39; refine Calls.quiet_of_same (impl_FlagsOk_q b2 _)))
            go_wp2
            go_ret
            exact ⟨ret_b HF.out.symm, HW.out.trans ((below_drewN HB2.out _).mono HW.out.size)⟩
          | true =>
            by_cases b3 : (40 : Int) < (m.text.size : Int)
            · have HF := Lib.hid (HD.out (fun hi => by rw [HV.out hi]; rw [decide_eq_false (show ¬ m.text.size ≤ 40 by omega)]; simp))
              clear HV HD HS
              go_big_quiet (first | (go_at_call 38; refine Calls.quiet_of_same (within_q b1 _)) | (go_at_call 39; refine Calls.quiet_of_same (impl_FlagsOk_q b2 _)))
              go_wp2
              go_ret
              exact ⟨ret_b HF.out.symm, HW.out.trans ((below_drewN HB2.out _).mono HW.out.size)⟩
            · have b3' : decide ((40 : Int) < (m.text.size : Int)) = false := decide_eq_false b3
              by_cases b5 : m.uid ≤ p.uid
              · have HF := Lib.hid (HD.out (fun hi => by rw [HV.out hi]; rw [decide_eq_false (show ¬ p.uid < m.uid by omega)]; simp))
                clear HV HD HS
                go_big_quiet (first | (go_at_call 38; refine Calls.quiet_of_same (within_q b1 _)) | (go_at_call 39; refine Calls.quiet_of_same (impl_FlagsOk_q b2 _)))
                go_wp2
                go_ret
                exact ⟨ret_b HF.out.symm, HW.out.trans ((below_drewN HB2.out _).mono HW.out.size)⟩
              · have b5' : decide (m.uid ≤ p.uid) = false := decide_eq_false b5
                have HF := Lib.hid (HS.out (fun hi => by rw [HV.out hi]; rw [b1, b2, decide_eq_true (show m.text.size ≤ 40 by omega), decide_eq_true (show p.uid < m.uid by omega)]; rfl))
                clear HV HD HS
                go_big_quiet (first | (go_at_call 38; refine Calls.quiet_of_same (within_q b1 _)) | (go_at_call 39; refine Calls.quiet_of_same (impl_FlagsOk_q b2 _)))
                go_wp2
                go_roundw
                case rel => exact ⟨k + 1, by omega, by go_num, below_drewN HB2.out _, HF.out⟩
                case measure => simp [intOf]; omega
    · have hke : k = n := by omega
      have hfin := Lib.hid (show boxOk x = (nameOk x.name.data.toList && (isId x.validity && (isId x.next && decide (x.msgs.length ≤ 6)))) from boxOk_good (fun hi j hj => ha.out hi j (by rw [HL.out] at hj; omega)))
      have HB := Lib.hid (HW.out.trans (hb.mono HW.out.size))
      have p0 := (HP.out.below hb).2 0 (.string x.name) rfl
      have p1 := (HP.out.below hb).2 1 (.int .i64 x.validity) rfl
      have p2 := (HP.out.below hb).2 2 (.int .i64 x.next) rfl
      have p3 := (HP.out.below hb).2 3 (.slice A n c) rfl
      have HM2 := Lib.hid (HM.out.below hb)
      clear ha hb
      cases c0 : nameOk x.name.data.toList
      · have HF := Lib.hid (hfin.out.trans (by rw [c0, Bool.false_and]))
        clear hfin
        go_wp2_with (go_at_call 27; refine (impl_NameOk _ _ (by omega) HM2.out).mono ?_; rintro e w' ⟨rfl, rfl⟩; rw [c0])
        go_ret
        exact ⟨ret_b HF.out.symm, HB.out⟩
      cases c1 : isId x.validity
      · have HF := Lib.hid (hfin.out.trans (by rw [c0, c1, Bool.true_and, Bool.false_and]))
        clear hfin
        go_wp2_with (first | (go_at_call 27; refine (impl_NameOk _ _ (by omega) HM2.out).mono ?_; rintro e w' ⟨rfl, rfl⟩; rw [c0]) | (go_at_call 40; refine (impl_isId _ _).mono ?_; rintro e w' ⟨rfl, rfl⟩; rw [c1]))
        go_ret
        exact ⟨ret_b HF.out.symm, HB.out⟩
      cases c2 : isId x.next
      · have HF := Lib.hid (show boxOk x = false by rw [hfin.out]; simp [c0, c1, c2])
        clear hfin
        go_wp2_with (first | (go_at_call 27; refine (impl_NameOk _ _ (by omega) HM2.out).mono ?_; rintro e w' ⟨rfl, rfl⟩; rw [c0]) | (go_at_call 40; refine (impl_isId _ _).mono ?_; rintro e w' ⟨rfl, rfl⟩; first | rw [c1] | rw [c2] | skip))
        go_ret
        exact ⟨ret_b HF.out.symm, HB.out⟩
      have HF := Lib.hid (show boxOk x = decide ((n : Int) ≤ 6) by rw [hfin.out, c0, c1, c2, HL.out, Bool.true_and, Bool.true_and, Bool.true_and]; exact decide_eq_decide.2 (by omega))
      clear hfin
      go_wp2_with (first | (go_at_call 27; refine (impl_NameOk _ _ (by omega) HM2.out).mono ?_; rintro e w' ⟨rfl, rfl⟩; rw [c0]) | (go_at_call 40; refine (impl_isId _ _).mono ?_; rintro e w' ⟨rfl, rfl⟩; first | rw [c1] | rw [c2] | skip))
      go_ret
      exact ⟨ret_b HF.out.symm, HB.out⟩

end Go.Proofs.Ytnphoodoheccoaa
