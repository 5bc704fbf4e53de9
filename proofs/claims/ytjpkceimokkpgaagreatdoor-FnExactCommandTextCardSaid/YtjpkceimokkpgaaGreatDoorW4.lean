/-
  Walks: what each function returns, and that it leaves what lay in memory as it was.
-/
import Derived.Test.YtjpkceimokkpgaaGreatDoorProg
import Derived.Test.YtjpkceimokkpgaaGreatDoorPlain
import Derived.Test.YtjpkceimokkpgaaGreatDoorBase2
import Derived.Test.YtjpkceimokkpgaaGreatDoorOpen2
import Derived.Test.YtjpkceimokkpgaaGreatDoorShelf
import Derived.WalkKit
import Derived.WalkSpells
import Derived.WalkLawsBesides
import Derived.Lib.Hide
import Derived.Deep.LoopGhost
import Derived.Deep.QuietTactic
import Derived.BigQuiet
import Derived.Handy
import Derived.Deep.RegionHeld3
import Derived.StillTailTactics
import Derived.OpenShut
import Derived.ChangeSame
import Derived.Laws.StructEq

import Derived.Test.YtjpkceimokkpgaaGreatDoorPlainT

import Derived.Test.YtjpkceimokkpgaaGreatDoorW1

import Derived.Test.YtjpkceimokkpgaaGreatDoorW2

import Derived.Test.YtjpkceimokkpgaaGreatDoorW3

namespace Go.Proofs.YtjpkceimokkpgaaGreatDoor
open Go.ChangeShapes Go.WideShapes Go.ChangeAt Go.RowKit Go.Deep
set_option linter.unusedVariables false
set_option linter.unusedSimpArgs false

def strLt (a b : Str) : Bool := Op.bytesLess a b
def nmAt (l : List Str) (k : Nat) : Bool :=
  match l[k]? with
  | none => true
  | some b => nameOk b && (decide (k = 0) || (match l[k - 1]? with | none => true | some p => strLt p b))
def scopeOk (s : Scope) : Bool := inR s.kind 1 4 && (inR s.events 1 15 && (if s.kind < 3 then decide (s.names.length = 0) else (List.range s.names.length).all (fun k => nmAt s.names k) && inR (s.names.length : Int) 1 3))
theorem nmAt_first {l : List Str} {b : Str} (h : l[0]? = some b) : nmAt l 0 = nameOk b := by
  unfold nmAt; rw [h]; simp
theorem nmAt_later {l : List Str} {k : Nat} {b p : Str} (hk : ¬ k = 0) (h : l[k]? = some b) (hp : l[k - 1]? = some p) : nmAt l k = (nameOk b && strLt p b) := by
  unfold nmAt; rw [h]; simp only [hp]; simp [hk]
theorem scopeOk_long {s : Scope} (h1 : inR s.kind 1 4 = true) (h2 : inR s.events 1 15 = true) (h3 : ¬ s.kind < 3) : scopeOk s = ((List.range s.names.length).all (fun k => nmAt s.names k) && inR (s.names.length : Int) 1 3) := by
  unfold scopeOk; rw [h1, h2, if_neg h3]; rfl
theorem scopeOk_short {s : Scope} (h1 : inR s.kind 1 4 = true) (h2 : inR s.events 1 15 = true) (h3 : s.kind < 3) : scopeOk s = decide (s.names.length = 0) := by
  unfold scopeOk; rw [h1, h2, if_pos h3]; rfl
theorem str_lt {zx zp : ByteArray} {x p : Str} (hx : zx.data.toList = x) (hp : zp.data.toList = p) : Op.bytesLess zp.toList zx.toList = strLt p x := by
  unfold strLt; rw [ByteArray.toList_eq, ByteArray.toList_eq]; rw [hx, hp]
theorem str_le {zx zp : ByteArray} {x p : Str} (hx : zx.data.toList = x) (hp : zp.data.toList = p) : (Op.bytesLess zx.toList zp.toList || zx.toList == zp.toList) = !strLt p x := by
  rw [less_total, str_lt hx hp]
theorem impl_hasNames (n : Int) (w : World) : Calls Tryz.prog 82 #[.int .i64 n] w fun e w' => e = .returned (.bool (decide (n = 3) || decide (n = 4))) ∧ w = w' := by
  by_cases h3 : n = 3
  · subst h3
    go_enter Tryz.func82, Tryz.ntmps82
    go_wp2
    go_ret
    exact ⟨rfl, rfl⟩
  · by_cases h4 : n = 4
    · subst h4
      go_enter Tryz.func82, Tryz.ntmps82
      go_wp2
      go_ret
      exact ⟨rfl, rfl⟩
    · have b3 : (n == 3) = false := beq_eq_false_iff_ne.2 h3
      have b4 : (n == 4) = false := beq_eq_false_iff_ne.2 h4
      have H := Lib.hid (show (decide (n = 3) || decide (n = 4)) = false by rw [decide_eq_false h3, decide_eq_false h4]; rfl)
      go_enter Tryz.func82, Tryz.ntmps82
      go_wp2
      go_ret
      exact ⟨ret_b H.out.symm, rfl⟩
set_option maxHeartbeats 1600000 in
set_option maxRecDepth 20000 in
theorem spec_ScopeOk (x : Scope) (h : Hd) (w : World) (i : ScopeIs w x h) (f : x.Fit) :
    Calls Tryz.prog 96 #[.agg #[.int .i64 x.kind, .slice h.A h.n h.c, .int .i64 x.events]] w fun e w' => e = .returned (.bool (scopeOk x)) ∧ Below w.heap.size w w' := by
  obtain ⟨A, n, c⟩ := h
  have hr := i.1
  simp only [] at hr
  have hn : n ≤ 1048576 := by rw [← hr.1]; exact f.1
  have HL := Lib.hid hr.1
  have HF := Lib.hid f.2
  have HR := Lib.hid hr
  clear i hr f
  have HX := Lib.hid (show scopeOk x = (inR x.kind 1 4 && (inR x.events 1 15 && (if x.kind < 3 then decide (x.names.length = 0) else (List.range x.names.length).all (fun k => nmAt x.names k) && inR (x.names.length : Int) 1 3))) from rfl)
  cases b1 : inR x.kind 1 4
  · have HFin := Lib.hid (show scopeOk x = false by rw [HX.out, b1, Bool.false_and])
    go_enter Tryz.func96, Tryz.ntmps96
    go_wp2_with (go_at_call 50; refine (l1In_any _ _ _ _).mono ?_; rintro e w' ⟨rfl, rfl⟩; first | rw [b1] | rw [b2] | skip)
    go_ret
    exact ⟨ret_b HFin.out.symm, by go_grown⟩
  cases b2 : inR x.events 1 15
  · have HFin := Lib.hid (show scopeOk x = false by rw [HX.out, b1, b2]; rfl)
    go_enter Tryz.func96, Tryz.ntmps96
    go_wp2_with (go_at_call 50; refine (l1In_any _ _ _ _).mono ?_; rintro e w' ⟨rfl, rfl⟩; first | rw [b1] | rw [b2] | skip)
    go_ret
    exact ⟨ret_b HFin.out.symm, by go_grown⟩
  have hk4 : 1 ≤ x.kind ∧ x.kind ≤ 4 := by unfold inR at b1; simpa using b1
  by_cases k3 : x.kind < 3
  · have HFin := Lib.hid (show scopeOk x = decide (n = 0) by rw [scopeOk_short b1 b2 k3, HL.out])
    by_cases h0 : n = 0
    · have HQ := Lib.hid (decide_eq_true h0)
      have hnb : ((n : Int) == 0) = true := beq_iff_eq.2 (by omega)
      subst h0
      go_enter Tryz.func96, Tryz.ntmps96
      go_wp2_with (go_at_call 50; refine (l1In_any _ _ _ _).mono ?_; rintro e w' ⟨rfl, rfl⟩; first | rw [b1] | rw [b2] | skip)
      go_ret
      exact ⟨ret_b (by rw [HFin.out]; rfl), by go_grown⟩
    · have HQ := Lib.hid (decide_eq_false h0)
      have hnb : ((n : Int) == 0) = false := beq_eq_false_iff_ne.2 (by omega)
      go_enter Tryz.func96, Tryz.ntmps96
      go_wp2_with (go_at_call 50; refine (l1In_any _ _ _ _).mono ?_; rintro e w' ⟨rfl, rfl⟩; first | rw [b1] | rw [b2] | skip)
      go_ret
      exact ⟨ret_b (by rw [HFin.out, HQ.out]), by go_grown⟩
  have HFin := Lib.hid (scopeOk_long b1 b2 k3)
  go_enter Tryz.func96, Tryz.ntmps96
  go_wp2_with (go_at_call 50; refine (l1In_any _ _ _ _).mono ?_; rintro e w' ⟨rfl, rfl⟩; first | rw [b1] | rw [b2] | skip)
  have hW : Below w.heap.size w (w.alloc (.cells #[.int .i64 x.kind, .slice A n c, .int .i64 x.events] 79)) := by go_grown
  have hP : Holds (w.alloc (.cells #[.int .i64 x.kind, .slice A n c, .int .i64 x.events] 79)) w.heap.size [.int .i64 x.kind, .slice A n c, .int .i64 x.events] := Holds.new w _ _
  have p1w := hP.2 1 (.slice A n c) rfl
  generalize w.alloc (.cells #[.int .i64 x.kind, .slice A n c, .int .i64 x.events] 79) = w1 at *
  have HW := Lib.hid hW
  have HP := Lib.hid hP
  have H := Lib.hid (HR.out.below hW)
  clear hW hP HR b1 b2 hk4 k3 HX
  go_loopw [3] (fun i wr => ∃ k : Nat, k ≤ n ∧ i = .int .i64 k ∧ Below w1.heap.size w1 wr ∧ Hid (∀ j, j < k → nmAt x.names j = true)) (fun i _ => n - (intOf i).toNat)
  case atStart => exact ⟨0, Nat.zero_le _, rfl, Below.refl _ _, fun j hj => absurd hj (by omega)⟩
  case round =>
    obtain ⟨k, hk, rfl, hb, ha⟩ := hrel
    have p1 := (HP.out.below hb).2 1 (.slice A n c) rfl
    clear p1w
    by_cases hlt : k < n
    · obtain ⟨b, off, y, rfl, hblt, hy, hc⟩ := (H.out.below hb).elem hlt
      have g0 : wr.cell? ⟨b, off + k, none⟩ = some (.string ⟨y.toArray⟩) := by simpa using hc 0 _ rfl
      have hy1 : y.length ≤ 1048576 := HF.out y (List.mem_of_getElem? hy)
      have Hy := Lib.hid hy
      have HB := Lib.hid hb
      have HS := Lib.hid (show nmAt x.names k = true → ∀ j, j < k + 1 → nmAt x.names j = true from fun h j hj => by
        by_cases e : j < k
        · exact ha.out j e
        · rw [show j = k from by omega]; exact h)
      have HD := Lib.hid (show nmAt x.names k = false → scopeOk x = false from fun h => by rw [HFin.out, range_all_false (show k < x.names.length by rw [HL.out]; exact hlt) h, Bool.false_and])
      obtain ⟨zx, hzx⟩ : ∃ z : ByteArray, (⟨y.toArray⟩ : ByteArray) = z := ⟨_, rfl⟩
      rw [hzx] at g0
      have HZ := Lib.hid (show zx.data.toList = y by rw [← hzx])
      have hzl : zx.size ≤ 1099511627 := by rw [← hzx, encStr_size]; omega
      have hzm : zx.size ≤ maxLen := by unfold maxLen; omega
      have hkn : (k : Int) < (n : Int) := by omega
      have hk00 : (0 : Int) ≤ (k : Int) := by omega
      clear hc hy hb ha hzx
      go_wp2
      have f1 : ∀ u : Later wr, u.at_.cell? ⟨w.heap.size, 1, none⟩ = some (.slice (some ⟨b, off, none⟩) n c) := fun u => u.cell p1
      have f2 : ∀ u : Later wr, u.at_.cell? ⟨b, off + k, none⟩ = some (.string zx) := fun u => u.cell g0
      by_cases hk0 : k = 0
      · have HV := Lib.hid (show nmAt x.names k = nameOk zx.data.toList from by rw [HZ.out]; have h := Hy.out; rw [hk0] at h ⊢; exact nmAt_first h)
        have hk0d : decide ((0 : Int) < (k : Int)) = false := by rw [hk0]; rfl
        have hk0e : decide (0 < k) = false := by rw [hk0]; rfl
        have HK0 := Lib.hid hk0
        clear hk0
        cases q1 : nameOk zx.data.toList with
        | false =>
          have B1 := Lib.hid q1
          clear q1
          have HV2 := Lib.hid (HV.out.trans (by exact B1.out : _ = false))
          have HE := Lib.hid (HD.out HV2.out)
          clear HV HV2 HS HD
          refine wp_region_calm_lit (by kernel_rfl) (by kernel_rfl) ?_
          repeat (go_big_quiet_step (first | (go_at_call 54; exact Calls.calm_same (Calls.flip (Calls.known (spec_NameOk zx _ hzm) B1.out)))))
          refine wpQuiet_nil ?_
          intro _ hw'
          obtain ⟨u, rfl⟩ := hw'
          have HBf := Lib.hid (HB.out.trans (u.bel.mono HB.out.size))
          go_wp2
          go_ret
          exact ⟨ret_b HE.out.symm, HW.out.trans (HBf.out.mono HW.out.size)⟩
        | true =>
          have B1 := Lib.hid q1
          clear q1
          have HV2 := Lib.hid (HV.out.trans (by exact B1.out : _ = true))
          have HE := Lib.hid (HS.out HV2.out)
          clear HV HV2 HS HD
          refine wp_region_calm_lit (by kernel_rfl) (by kernel_rfl) ?_
          repeat (go_big_quiet_step (first | (go_at_call 54; exact Calls.calm_same (Calls.flip (Calls.known (spec_NameOk zx _ hzm) B1.out)))))
          refine wpQuiet_nil ?_
          intro _ hw'
          obtain ⟨u, rfl⟩ := hw'
          have HBf := Lib.hid (HB.out.trans (u.bel.mono HB.out.size))
          go_wp2
          go_roundw
          case rel => exact ⟨k + 1, by omega, by go_num, HBf.out, HE.out⟩
          case measure => simp [intOf]; omega
      · obtain ⟨b', off', p, he, _, hp, hcp⟩ := (H.out.below HB.out).elem (show k - 1 < n by omega)
        obtain ⟨rfl, rfl⟩ : b' = b ∧ off' = off := by simpa using he.symm
        have r0 : wr.cell? ⟨b', off' + (k - 1), none⟩ = some (.string ⟨p.toArray⟩) := by simpa using hcp 0 _ rfl
        obtain ⟨zp, hzp⟩ : ∃ z : ByteArray, (⟨p.toArray⟩ : ByteArray) = z := ⟨_, rfl⟩
        rw [hzp] at r0
        have HZp := Lib.hid (show zp.data.toList = p by rw [← hzp])
        have f3 : ∀ u : Later wr, u.at_.cell? ⟨b', off' + (k - 1), none⟩ = some (.string zp) := fun u => u.cell r0
        have HV := Lib.hid (show nmAt x.names k = (nameOk zx.data.toList && strLt p y) from by rw [HZ.out]; exact nmAt_later hk0 Hy.out hp)
        have hk0i : (0 : Int) < (k : Int) := by omega
        have hk0n : 0 < k := by omega
        have hk0d : decide (0 < k) = true := decide_eq_true hk0n
        have hk1 : (k : Int) - 1 = ((k - 1 : Nat) : Int) := by omega
        have hk1n : k - 1 < n := by omega
        clear hp hcp he hzp
        cases q1 : nameOk zx.data.toList with
        | false =>
          have B1 := Lib.hid q1
          clear q1
          have HV2 := Lib.hid (HV.out.trans (by rw [B1.out, Bool.false_and] : _ = false))
          have HE := Lib.hid (HD.out HV2.out)
          clear HV HV2 HS HD
          refine wp_region_calm_lit (by kernel_rfl) (by kernel_rfl) ?_
          repeat (go_big_quiet_step (first | (go_at_call 54; exact Calls.calm_same (Calls.flip (Calls.known (spec_NameOk zx _ hzm) B1.out)))))
          refine wpQuiet_nil ?_
          intro _ hw'
          obtain ⟨u, rfl⟩ := hw'
          have HBf := Lib.hid (HB.out.trans (u.bel.mono HB.out.size))
          go_wp2
          go_ret
          exact ⟨ret_b HE.out.symm, HW.out.trans (HBf.out.mono HW.out.size)⟩
        | true =>
          have B1 := Lib.hid q1
          clear q1
          cases q2 : strLt p y with
          | false =>
            have c2 : Op.bytesLess zp.toList zx.toList = false := by rw [str_lt HZ.out HZp.out, q2]
            have B2 := Lib.hid q2
            clear q2
            have HV2 := Lib.hid (HV.out.trans (by rw [B1.out, B2.out]; rfl : _ = false))
            have HE := Lib.hid (HD.out HV2.out)
            clear HV HV2 HS HD
            refine wp_region_calm_lit (by kernel_rfl) (by kernel_rfl) ?_
            repeat (go_big_quiet_step (first | (go_at_call 54; exact Calls.calm_same (Calls.flip (Calls.known (spec_NameOk zx _ hzm) B1.out)))))
            refine wpQuiet_nil ?_
            intro _ hw'
            obtain ⟨u, rfl⟩ := hw'
            have HBf := Lib.hid (HB.out.trans (u.bel.mono HB.out.size))
            go_wp2
            go_ret
            exact ⟨ret_b HE.out.symm, HW.out.trans (HBf.out.mono HW.out.size)⟩
          | true =>
            have c2 : Op.bytesLess zp.toList zx.toList = true := by rw [str_lt HZ.out HZp.out, q2]
            have B2 := Lib.hid q2
            clear q2
            have HV2 := Lib.hid (HV.out.trans (by rw [B1.out, B2.out]; rfl : _ = true))
            have HE := Lib.hid (HS.out HV2.out)
            clear HV HV2 HS HD
            refine wp_region_calm_lit (by kernel_rfl) (by kernel_rfl) ?_
            repeat (go_big_quiet_step (first | (go_at_call 54; exact Calls.calm_same (Calls.flip (Calls.known (spec_NameOk zx _ hzm) B1.out)))))
            refine wpQuiet_nil ?_
            intro _ hw'
            obtain ⟨u, rfl⟩ := hw'
            have HBf := Lib.hid (HB.out.trans (u.bel.mono HB.out.size))
            go_wp2
            go_roundw
            case rel => exact ⟨k + 1, by omega, by go_num, HBf.out, HE.out⟩
            case measure => simp [intOf]; omega
    · have hke : k = n := by omega
      have HE := Lib.hid (show scopeOk x = inR (n : Int) 1 3 by rw [HFin.out, range_all_true (fun j hj => ha.out j (by rw [HL.out] at hj; omega)), HL.out, Bool.true_and])
      have HB := Lib.hid (HW.out.trans (hb.mono HW.out.size))
      clear ha hb hke
      go_wp2_with (go_at_call 50; refine (l1In_any _ _ _ _).mono ?_; rintro e w' ⟨rfl, rfl⟩)
      go_ret
      exact ⟨ret_b HE.out.symm, HB.out⟩
set_option maxHeartbeats 1600000 in
set_option maxRecDepth 20000 in
theorem impl_ScopeOk (x : Scope) (h : Hd) (w : World) (i : ScopeIs w x h) (f : x.Fit) (hml : ML w) :
    Calls Tryz.prog 105 #[.agg #[.int .i64 x.kind, .slice h.A h.n h.c, .int .i64 x.events]] w fun e w' => e = .returned (.bool (scopeOk x)) ∧ Below w.heap.size w w' := by
  obtain ⟨A, n, c⟩ := h
  have hr := i.1
  simp only [] at hr
  have hn : n ≤ 1048576 := by rw [← hr.1]; exact f.1
  have HL := Lib.hid hr.1
  have HF := Lib.hid f.2
  have HR := Lib.hid hr
  clear i hr f
  have HM0 := Lib.hid hml
  clear hml
  have HX := Lib.hid (show scopeOk x = (inR x.kind 1 4 && (inR x.events 1 15 && (if x.kind < 3 then decide (x.names.length = 0) else (List.range x.names.length).all (fun k => nmAt x.names k) && inR (x.names.length : Int) 1 3))) from rfl)
  cases b1 : inR x.kind 1 4
  · have HFin := Lib.hid (show scopeOk x = false by rw [HX.out, b1, Bool.false_and])
    go_enter Tryz.func105, Tryz.ntmps105
    go_wp2_with (first | (go_at_call 76; refine (within_any _ _ _ _).mono ?_; rintro e w' ⟨rfl, rfl⟩; first | rw [b1] | rw [b2] | skip) | (go_at_call 82; refine (impl_hasNames _ _).mono ?_; rintro e w' ⟨rfl, rfl⟩; rw [hh]))
    go_ret
    exact ⟨ret_b HFin.out.symm, by go_grown⟩
  cases b2 : inR x.events 1 15
  · have HFin := Lib.hid (show scopeOk x = false by rw [HX.out, b1, b2]; rfl)
    go_enter Tryz.func105, Tryz.ntmps105
    go_wp2_with (first | (go_at_call 76; refine (within_any _ _ _ _).mono ?_; rintro e w' ⟨rfl, rfl⟩; first | rw [b1] | rw [b2] | skip) | (go_at_call 82; refine (impl_hasNames _ _).mono ?_; rintro e w' ⟨rfl, rfl⟩; rw [hh]))
    go_ret
    exact ⟨ret_b HFin.out.symm, by go_grown⟩
  have hk4 : 1 ≤ x.kind ∧ x.kind ≤ 4 := by unfold inR at b1; simpa using b1
  by_cases k3 : x.kind < 3
  · have HFin := Lib.hid (show scopeOk x = decide (n = 0) by rw [scopeOk_short b1 b2 k3, HL.out])
    have hh : (decide (x.kind = 3) || decide (x.kind = 4)) = false := by rw [decide_eq_false (by omega), decide_eq_false (by omega)]; rfl
    by_cases h0 : n = 0
    · have HQ := Lib.hid (decide_eq_true h0)
      have hnb : ((n : Int) == 0) = true := beq_iff_eq.2 (by omega)
      subst h0
      go_enter Tryz.func105, Tryz.ntmps105
      go_wp2_with (first | (go_at_call 76; refine (within_any _ _ _ _).mono ?_; rintro e w' ⟨rfl, rfl⟩; first | rw [b1] | rw [b2] | skip) | (go_at_call 82; refine (impl_hasNames _ _).mono ?_; rintro e w' ⟨rfl, rfl⟩; rw [hh]))
      go_ret
      exact ⟨ret_b (by rw [HFin.out]; rfl), by go_grown⟩
    · have HQ := Lib.hid (decide_eq_false h0)
      have hnb : ((n : Int) == 0) = false := beq_eq_false_iff_ne.2 (by omega)
      go_enter Tryz.func105, Tryz.ntmps105
      go_wp2_with (first | (go_at_call 76; refine (within_any _ _ _ _).mono ?_; rintro e w' ⟨rfl, rfl⟩; first | rw [b1] | rw [b2] | skip) | (go_at_call 82; refine (impl_hasNames _ _).mono ?_; rintro e w' ⟨rfl, rfl⟩; rw [hh]))
      go_ret
      exact ⟨ret_b (by rw [HFin.out, HQ.out]), by go_grown⟩
  have HFin := Lib.hid (scopeOk_long b1 b2 k3)
  have hh : (decide (x.kind = 3) || decide (x.kind = 4)) = true := by by_cases e : x.kind = 3; rw [decide_eq_true e]; rfl; rw [decide_eq_true (show x.kind = 4 by omega), Bool.or_true]
  go_enter Tryz.func105, Tryz.ntmps105
  go_wp2_with (first | (go_at_call 76; refine (within_any _ _ _ _).mono ?_; rintro e w' ⟨rfl, rfl⟩; first | rw [b1] | rw [b2] | skip) | (go_at_call 82; refine (impl_hasNames _ _).mono ?_; rintro e w' ⟨rfl, rfl⟩; rw [hh]))
  have hW : Below w.heap.size w (w.alloc (.cells #[.int .i64 x.kind, .slice A n c, .int .i64 x.events] 79)) := by go_grown
  have hP : Holds (w.alloc (.cells #[.int .i64 x.kind, .slice A n c, .int .i64 x.events] 79)) w.heap.size [.int .i64 x.kind, .slice A n c, .int .i64 x.events] := Holds.new w _ _
  have p1w := hP.2 1 (.slice A n c) rfl
  generalize w.alloc (.cells #[.int .i64 x.kind, .slice A n c, .int .i64 x.events] 79) = w1 at *
  have HW := Lib.hid hW
  have HP := Lib.hid hP
  have H := Lib.hid (HR.out.below hW)
  have HM1 := Lib.hid (HM0.out.below hW)
  clear HM0
  clear hW hP HR b1 b2 hk4 k3 HX
  go_loopw [26] (fun i wr => ∃ k : Nat, k ≤ n ∧ i = .int .i64 k ∧ Below w1.heap.size w1 wr ∧ Hid (∀ j, j < k → nmAt x.names j = true)) (fun i _ => n - (intOf i).toNat)
  case atStart => exact ⟨0, Nat.zero_le _, rfl, Below.refl _ _, fun j hj => absurd hj (by omega)⟩
  case round =>
    obtain ⟨k, hk, rfl, hb, ha⟩ := hrel
    have p1 := (HP.out.below hb).2 1 (.slice A n c) rfl
    clear p1w
    by_cases hlt : k < n
    · obtain ⟨b, off, y, rfl, hblt, hy, hc⟩ := (H.out.below hb).elem hlt
      have g0 : wr.cell? ⟨b, off + k, none⟩ = some (.string ⟨y.toArray⟩) := by simpa using hc 0 _ rfl
      have hy1 : y.length ≤ 1048576 := HF.out y (List.mem_of_getElem? hy)
      have Hy := Lib.hid hy
      have HB := Lib.hid hb
      have HS := Lib.hid (show nmAt x.names k = true → ∀ j, j < k + 1 → nmAt x.names j = true from fun h j hj => by
        by_cases e : j < k
        · exact ha.out j e
        · rw [show j = k from by omega]; exact h)
      have HD := Lib.hid (show nmAt x.names k = false → scopeOk x = false from fun h => by rw [HFin.out, range_all_false (show k < x.names.length by rw [HL.out]; exact hlt) h, Bool.false_and])
      obtain ⟨zx, hzx⟩ : ∃ z : ByteArray, (⟨y.toArray⟩ : ByteArray) = z := ⟨_, rfl⟩
      rw [hzx] at g0
      have HZ := Lib.hid (show zx.data.toList = y by rw [← hzx])
      have hzl : zx.size ≤ 1099511627 := by rw [← hzx, encStr_size]; omega
      have hzm : zx.size ≤ maxLen := by unfold maxLen; omega
      have HM := Lib.hid (HM1.out.below hb)
      have hkn : (k : Int) < (n : Int) := by omega
      have hk00 : (0 : Int) ≤ (k : Int) := by omega
      clear hc hy hb ha hzx
      by_cases hk0 : k = 0
      · have HV := Lib.hid (show nmAt x.names k = nameOk zx.data.toList from by rw [HZ.out]; have h := Hy.out; rw [hk0] at h ⊢; exact nmAt_first h)
        have hk0d : decide ((0 : Int) < (k : Int)) = false := by rw [hk0]; rfl
        have hk0e : decide (0 < k) = false := by rw [hk0]; rfl
        have HK0 := Lib.hid hk0
        clear hk0
        cases q1 : nameOk zx.data.toList with
        | false =>
          have B1 := Lib.hid q1
          clear q1
          have HV2 := Lib.hid (HV.out.trans (by exact B1.out : _ = false))
          have HE := Lib.hid (HD.out HV2.out)
          clear HV HV2 HS HD
          go_wp2_with (go_at_call 69; refine (impl_NameOk zx _ hzl HM.out).mono ?_; rw [B1.out]; rintro e w' ⟨rfl, rfl⟩)
          have HBf := HB
          go_ret
          exact ⟨ret_b HE.out.symm, HW.out.trans (HBf.out.mono HW.out.size)⟩
        | true =>
          have B1 := Lib.hid q1
          clear q1
          have HV2 := Lib.hid (HV.out.trans (by exact B1.out : _ = true))
          have HE := Lib.hid (HS.out HV2.out)
          clear HV HV2 HS HD
          go_wp2_with (go_at_call 69; refine (impl_NameOk zx _ hzl HM.out).mono ?_; rw [B1.out]; rintro e w' ⟨rfl, rfl⟩)
          have HBf := HB
          go_roundw
          case rel => exact ⟨k + 1, by omega, by go_num, HBf.out, HE.out⟩
          case measure => simp [intOf]; omega
      · obtain ⟨b', off', p, he, _, hp, hcp⟩ := (H.out.below HB.out).elem (show k - 1 < n by omega)
        obtain ⟨rfl, rfl⟩ : b' = b ∧ off' = off := by simpa using he.symm
        have r0 : wr.cell? ⟨b', off' + (k - 1), none⟩ = some (.string ⟨p.toArray⟩) := by simpa using hcp 0 _ rfl
        obtain ⟨zp, hzp⟩ : ∃ z : ByteArray, (⟨p.toArray⟩ : ByteArray) = z := ⟨_, rfl⟩
        rw [hzp] at r0
        have HZp := Lib.hid (show zp.data.toList = p by rw [← hzp])
        have HV := Lib.hid (show nmAt x.names k = (nameOk zx.data.toList && strLt p y) from by rw [HZ.out]; exact nmAt_later hk0 Hy.out hp)
        have hk0i : (0 : Int) < (k : Int) := by omega
        have hk0n : 0 < k := by omega
        have hk0d : decide (0 < k) = true := decide_eq_true hk0n
        have hk1 : (k : Int) - 1 = ((k - 1 : Nat) : Int) := by omega
        have hk1n : k - 1 < n := by omega
        clear hp hcp he hzp
        cases q1 : nameOk zx.data.toList with
        | false =>
          have B1 := Lib.hid q1
          clear q1
          have HV2 := Lib.hid (HV.out.trans (by rw [B1.out, Bool.false_and] : _ = false))
          have HE := Lib.hid (HD.out HV2.out)
          clear HV HV2 HS HD
          go_wp2_with (go_at_call 69; refine (impl_NameOk zx _ hzl HM.out).mono ?_; rw [B1.out]; rintro e w' ⟨rfl, rfl⟩)
          have HBf := HB
          go_ret
          exact ⟨ret_b HE.out.symm, HW.out.trans (HBf.out.mono HW.out.size)⟩
        | true =>
          have B1 := Lib.hid q1
          clear q1
          cases q2 : strLt p y with
          | false =>
            have c2 : (Op.bytesLess zx.toList zp.toList || zx.toList == zp.toList) = true := by rw [str_le HZ.out HZp.out, q2]; rfl
            have B2 := Lib.hid q2
            clear q2
            have HV2 := Lib.hid (HV.out.trans (by rw [B1.out, B2.out]; rfl : _ = false))
            have HE := Lib.hid (HD.out HV2.out)
            clear HV HV2 HS HD
            go_wp2_with (go_at_call 69; refine (impl_NameOk zx _ hzl HM.out).mono ?_; rw [B1.out]; rintro e w' ⟨rfl, rfl⟩)
            have HBf := HB
            go_ret
            exact ⟨ret_b HE.out.symm, HW.out.trans (HBf.out.mono HW.out.size)⟩
          | true =>
            have c2 : (Op.bytesLess zx.toList zp.toList || zx.toList == zp.toList) = false := by rw [str_le HZ.out HZp.out, q2]; rfl
            have B2 := Lib.hid q2
            clear q2
            have HV2 := Lib.hid (HV.out.trans (by rw [B1.out, B2.out]; rfl : _ = true))
            have HE := Lib.hid (HS.out HV2.out)
            clear HV HV2 HS HD
            go_wp2_with (go_at_call 69; refine (impl_NameOk zx _ hzl HM.out).mono ?_; rw [B1.out]; rintro e w' ⟨rfl, rfl⟩)
            have HBf := HB
            go_roundw
            case rel => exact ⟨k + 1, by omega, by go_num, HBf.out, HE.out⟩
            case measure => simp [intOf]; omega
    · have hke : k = n := by omega
      have HE := Lib.hid (show scopeOk x = inR (n : Int) 1 3 by rw [HFin.out, range_all_true (fun j hj => ha.out j (by rw [HL.out] at hj; omega)), HL.out, Bool.true_and])
      have HB := Lib.hid (HW.out.trans (hb.mono HW.out.size))
      clear ha hb hke
      go_wp2_with (go_at_call 76; refine (within_any _ _ _ _).mono ?_; rintro e w' ⟨rfl, rfl⟩)
      go_ret
      exact ⟨ret_b HE.out.symm, HB.out⟩

end Go.Proofs.YtjpkceimokkpgaaGreatDoor
