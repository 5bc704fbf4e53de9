/-
  Walks: what each function returns, and that it leaves what lay in memory as it was.
-/
import Derived.Test.YthccfnoebbimjaaProg
import Derived.Test.YthccfnoebbimjaaPlain
import Derived.Test.YthccfnoebbimjaaBase2
import Derived.Test.YthccfnoebbimjaaOpen2
import Derived.Test.YthccfnoebbimjaaShelf
import Derived.WalkKit
import Derived.WalkSpells
import Derived.WalkLawsBesides
import Derived.Lib.Hide
import Derived.Deep.LoopGhost
import Derived.Deep.QuietTactic
import Derived.BigQuiet
import Derived.Handy
import Derived.Deep.RegionHeld3
import Derived.StillTailTactics
import Derived.OpenShut
import Derived.ChangeSame
import Derived.Laws.StructEq

import Derived.Test.YthccfnoebbimjaaPlainT

import Derived.Test.YthccfnoebbimjaaW1

import Derived.Test.YthccfnoebbimjaaW2

import Derived.Test.YthccfnoebbimjaaW3

import Derived.Test.YthccfnoebbimjaaW4

import Derived.Test.YthccfnoebbimjaaW5

import Derived.Test.YthccfnoebbimjaaW6

import Derived.Test.YthccfnoebbimjaaBase3

namespace Go.Proofs.Ythccfnoebbimjaa
open Go.ChangeShapes Go.WideShapes Go.ChangeAt Go.RowKit Go.Deep
set_option linter.unusedVariables false
set_option linter.unusedSimpArgs false

set_option maxRecDepth 20000

theorem Rd.take {α : Type} {enc : α → List Value} {k : Nat} {w : World} {A : Option Addr} {n j : Nat} {xs : List α} (h : Rd enc k w A n xs) (hj : j ≤ n) : Rd enc k w A j (xs.take j) := by
  refine ⟨by rw [List.length_take, h.1]; omega, fun h0 => ?_⟩
  obtain ⟨b, off, e, hlt, hc⟩ := h.2 (by omega)
  refine ⟨b, off, e, hlt, fun i x hx v u hu => hc i x ?_ v u hu⟩
  rw [List.getElem?_take] at hx
  split at hx
  · exact hx
  · cases hx
theorem Rd.drop {α : Type} {enc : α → List Value} {k : Nat} {w : World} {b off : Nat} {n j : Nat} {xs : List α} (h : Rd enc k w (some ⟨b, off, none⟩) n xs) (hj : j ≤ n) : Rd enc k w (some ⟨b, off + j * k, none⟩) (n - j) (xs.drop j) := by
  refine ⟨by rw [List.length_drop, h.1], fun h0 => ?_⟩
  obtain ⟨b', off', e, hlt, hc⟩ := h.2 (by omega)
  injection e with e; injection e with e1 e2
  subst e1; subst e2
  refine ⟨b, off + j * k, rfl, hlt, fun i x hx v u hu => ?_⟩
  rw [List.getElem?_drop] at hx
  have h1 := hc (j + i) x hx v u hu
  rw [show off + j * k + i * k + v = off + (j + i) * k + v by rw [Nat.add_mul]; omega]
  exact h1
theorem mem_members {xs : List Span} {n x : Int} : x ∈ members xs n ↔ (1 ≤ x ∧ x ≤ iMin n 999) ∧ hasNum xs x (iMin n 999) = true := by
  unfold members memTo
  rw [List.mem_filter, List.mem_map]
  constructor
  · rintro ⟨⟨j, hj, rfl⟩, h2⟩
    rw [List.mem_range] at hj
    exact ⟨⟨by omega, by omega⟩, h2⟩
  · rintro ⟨⟨h1, h2⟩, h3⟩
    exact ⟨⟨(x - 1).toNat, by rw [List.mem_range]; omega, by omega⟩, h3⟩
theorem hasNum_split (xs : List Span) (k : Nat) (x m : Int) : hasNum xs x m = (hasNum (xs.take k) x m || hasNum (xs.drop k) x m) := by
  unfold hasNum
  rw [← List.any_append, List.take_append_drop]
theorem cntI_pos {x : Int} {l : List Int} (h : x ∈ l) : 1 ≤ cntI x l := List.count_pos_iff.2 h
theorem members_split {xs : List Span} {n x : Int} (k : Nat) (h : x ∈ members xs n) : 1 ≤ cntI x (members (xs.take k) n) + cntI x (members (xs.drop k) n) := by
  obtain ⟨h1, h2⟩ := mem_members.1 h
  rw [hasNum_split xs k] at h2
  rcases Bool.or_eq_true_iff.1 h2 with h3 | h3
  · have := cntI_pos (mem_members.2 ⟨h1, h3⟩); omega
  · have := cntI_pos (mem_members.2 ⟨h1, h3⟩); omega
theorem memTo_mono {xs ys : List Span} (m : Int) (k : Nat) (h : ∀ x, hasNum xs x m = true → hasNum ys x m = true) : (memTo xs m k).length ≤ (memTo ys m k).length := by
  unfold memTo
  rw [← List.countP_eq_length_filter, ← List.countP_eq_length_filter]
  exact List.countP_mono_left fun x _ hx => h x hx
theorem members_take (xs : List Span) (n : Int) (k : Nat) : (members (xs.take k) n).length ≤ (members xs n).length :=
  memTo_mono _ _ fun x h => by rw [hasNum_split xs k, h]; rfl
theorem members_drop (xs : List Span) (n : Int) (k : Nat) : (members (xs.drop k) n).length ≤ (members xs n).length :=
  memTo_mono _ _ fun x h => by rw [hasNum_split xs k, h]; simp
theorem members_pair (xs : List Span) (n : Int) : (members xs n).Pairwise (· < ·) := by
  unfold members memTo
  refine List.Pairwise.filter _ ?_
  rw [List.pairwise_map]
  exact List.Pairwise.imp (fun h => by omega) List.pairwise_lt_range
theorem members_up {xs : List Span} {n a b : Int} {i : Nat} (h1 : (members xs n)[i]? = some a) (h2 : (members xs n)[i + 1]? = some b) : a < b := by
  obtain ⟨e1, rfl⟩ := List.getElem?_eq_some_iff.1 h1
  obtain ⟨e2, rfl⟩ := List.getElem?_eq_some_iff.1 h2
  exact List.pairwise_iff_getElem.1 (members_pair xs n) i (i + 1) e1 e2 (by omega)
set_option maxHeartbeats 3200000 in
set_option maxRecDepth 20000 in
theorem walk_FnMembers {H : Type} {enc0 : TypeId × Value → H} {base : Nat} {d0 : DataW H} {p0 : List MemPlace} (v0 : Value) (w : World) (o0 : Value.okWide Try.prog w .any base 22 v0) (k0 : DataW.Trod enc0 Try.prog w 0 (fun _ => true) true 22 v0 d0 p0) :
    Calls Try.prog 3 #[v0] w fun e w' => e = .returned (.bool true) ∧ Below w.heap.size w w' := by
  obtain ⟨A0, n0, c0, ys0, rfl, h0, hn0⟩ := open_Bytes o0 k0
  clear o0 k0
  by_cases hbig : 1048576 < n0
  · have hd : decide (1048576 < n0) = true := by simpa using hbig
    have C := Lib.hid (laws_big A0 n0 c0 w hn0)
    rw [hd] at C
    clear h0
    go_enter Try.func3, Try.ntmps3
    go_wp2_with fail
    refine C.out.mono ?_
    rintro e z ⟨rfl, rfl⟩
    go_wp2
    go_ret
    exact ⟨rfl, Below.refl _ _⟩
  have hd : decide (1048576 < n0) = false := by simpa using hbig
  have C := Lib.hid (laws_big A0 n0 c0 w hn0)
  rw [hd] at C
  have D := Lib.hid (spec_DrawMembers A0 n0 c0 ys0 w (by omega) h0)
  have H0 := Lib.hid h0
  clear h0
  go_enter Try.func3, Try.ntmps3
  go_wp2_with fail
  refine C.out.mono ?_
  rintro e z ⟨rfl, rfl⟩
  go_wp2_with fail
  refine D.out.mono ?_
  rintro e w1 ⟨⟨A, c, l, x, hl, hx, rfl, ho⟩, hb1⟩
  have HB1 := Lib.hid hb1
  have HR1 := Lib.hid (Rd.of_own (enc := encSpan) (k := 2) (fun _ => rfl) ho rfl)
  have hcap := own_cap ho
  have HF := Lib.hid ho
  clear hb1 ho C D
  obtain ⟨R, hR⟩ : ∃ R, members l x = R := ⟨_, rfl⟩
  have hRl : R.length ≤ 999 := by rw [← hR]; exact members_len _ _
  have HRe := Lib.hid hR
  have HM := Lib.hid (fun w => hR ▸ impl_Members A l.length c l x w (by omega) (by omega))
  have HS := Lib.hid (fun w => hR ▸ spec_Members A l.length c l x w (by omega) (by omega))
  clear hR
  go_wp2_with fail
  refine (HM.out _ HR1.out).mono ?_
  rintro e w2 ⟨A2, c2, rfl, ho2, hb2⟩
  have HO2 := Lib.hid (Rd.of_own (enc := encI) (k := 1) (fun _ => rfl) ho2 rfl)
  have HB2 := Lib.hid (HB1.out.trans (hb2.mono HB1.out.size))
  have HR2 := Lib.hid (HR1.out.below hb2)
  clear ho2 hb2 HR1 HB1 HM
  go_wp2_with fail
  refine (HS.out _ HR2.out).mono ?_
  rintro e w3 ⟨A3, c3, rfl, ho3, hb3⟩
  have HO3 := Lib.hid (Rd.of_own (enc := encI) (k := 1) (fun _ => rfl) ho3 rfl)
  have HO23 := Lib.hid (HO2.out.below hb3)
  have HB3 := Lib.hid (HB2.out.trans (hb3.mono HB2.out.size))
  have HR3 := Lib.hid (HR2.out.below hb3)
  clear ho3 hb3 HR2 HB2 HO2 HS
  go_wp2_with fail
  refine (laws_sameInts A2 A3 R.length c2 c3 R w3 (by omega) HO23.out HO3.out).mono ?_
  rintro e w4 ⟨rfl, hb4⟩
  have HB4 := Lib.hid (HB3.out.trans (hb4.mono HB3.out.size))
  have HR4 := Lib.hid (HR3.out.below hb4)
  have HO4 := Lib.hid (HO23.out.below hb4)
  clear hb4 HR3 HB3 HO23 HO3
  go_wp2_with fail
  refine (laws_at0 A0 n0 c0 2 ys0 w4 (by omega) (by omega) (H0.out.below HB4.out)).mono ?_
  rintro e w5 ⟨⟨m, hm, rfl⟩, rfl⟩
  obtain ⟨k, hk⟩ : ∃ k : Nat, m % (l.length + 1) = k := ⟨_, rfl⟩
  have hkl : k ≤ l.length := by have := Nat.mod_lt m (show 0 < l.length + 1 by omega); omega
  have hkm : (m : Int).tmod ((l.length : Int) + 1) = (k : Int) := by
    rw [Int.tmod_eq_emod_of_nonneg (by omega), ← hk, Int.natCast_emod]
    rfl
  have hKc : k ≤ c := by omega
  have Hform := Lib.hid (show (A = none ∧ l.length = 0 ∧ c = 0) ∨ ∃ b, A = some ⟨b, 0, none⟩ by
    rcases HF.out.2 with ⟨hv, h0⟩ | ⟨g, cap, cur, hv, _⟩
    · injection hv with h1 h2 h3; exact .inl ⟨h1, h0, h3⟩
    · injection hv with h1; exact .inr ⟨g, h1⟩)
  have HT4 := Lib.hid (Rd.take HR4.out hkl)
  go_wp2_with fail
  refine (impl_Members A k c (l.take k) x w4 (by omega) (by omega) HT4.out).mono ?_
  rintro e w5 ⟨A5, c5, rfl, ho5, hb5⟩
  have HO5 := Lib.hid (Rd.of_own (enc := encI) (k := 1) (fun _ => rfl) ho5 rfl)
  have HB5 := Lib.hid (HB4.out.trans (hb5.mono HB4.out.size))
  have HR5 := Lib.hid (HR4.out.below hb5)
  have HQ5 := Lib.hid (HO4.out.below hb5)
  clear ho5 hb5 HR4 HB4 HO4 HT4
  have hAl : (members (l.take k) x).length ≤ R.length := by rw [← HRe.out]; exact members_take l x k
  have hBl : (members (l.drop k) x).length ≤ R.length := by rw [← HRe.out]; exact members_drop l x k
  have HSp := Lib.hid (fun y (h : y ∈ R) => members_split (n := x) (x := y) k (by rw [HRe.out]; exact h : y ∈ members l x))
  have HUp := Lib.hid (fun (i : Nat) (a b : Int) (h1 : R[i]? = some a) (h2 : R[i + 1]? = some b) => members_up (xs := l) (n := x) (i := i) (a := a) (b := b) (by rw [HRe.out]; exact h1) (by rw [HRe.out]; exact h2))
  obtain ⟨P, hP⟩ : ∃ P, members (l.take k) x = P := ⟨_, rfl⟩
  obtain ⟨Q, hQ⟩ : ∃ Q, members (l.drop k) x = Q := ⟨_, rfl⟩
  rw [hP] at HO5 hAl HSp ⊢
  rw [hQ] at hBl HSp
  have hform : (A = none ∧ l.length = 0 ∧ c = 0) ∨ (∃ b, A = some ⟨b, 0, none⟩ ∧ k = c) ∨ (∃ b, A = some ⟨b, 0, none⟩ ∧ ¬ k = c) := by
    rcases Hform.out with h | ⟨b, h⟩
    · exact .inl h
    · by_cases hkc : k = c
      · exact .inr (.inl ⟨b, h, hkc⟩)
      · exact .inr (.inr ⟨b, h, hkc⟩)
  rcases hform with ⟨rfl, h0, h1⟩ | ⟨b, rfl, hkE⟩ | ⟨b, rfl, hkN⟩
  all_goals
    first
      | have HD5 := Lib.hid (show Rd encSpan 2 w5 none 0 (l.drop k) by have := h0; rw [List.drop_eq_nil_of_le (by omega)]; exact Rd.none_ _ _ _ _)
      | have HD5 := Lib.hid (show Rd encSpan 2 w5 (some ⟨b, 0, none⟩) 0 (l.drop k) by have := hkE; rw [List.drop_eq_nil_of_le (by omega)]; exact Rd.none_ _ _ _ _)
      | have HD5 := Lib.hid (show Rd encSpan 2 w5 (some ⟨b, k * 2, none⟩) (l.length - k) (l.drop k) by have h := Rd.drop HR5.out hkl; rw [Nat.zero_add] at h; exact h)
    clear HR5 HF Hform
    go_wp2_with fail
    refine (impl_Members _ _ _ (l.drop k) x w5 (by omega) (by omega) HD5.out).mono ?_
    rw [hQ]
    rintro e w6 ⟨A6, c6, rfl, ho6, hb6⟩
    have HQr := Lib.hid (Rd.of_own (enc := encI) (k := 1) (fun _ => rfl) ho6 rfl)
    have HPr := Lib.hid (HO5.out.below hb6)
    have HOr := Lib.hid (HQ5.out.below hb6)
    have HB6 := Lib.hid (HB5.out.trans (hb6.mono HB5.out.size))
    clear ho6 hb6 HO5 HQ5 HB5 HD5
    go_wp2_with fail
    go_loopw [9] (fun i wr => ∃ j : Nat, j ≤ R.length ∧ i = .int .i64 j ∧ Below w6.heap.size w6 wr) (fun i _ => R.length - (intOf i).toNat)
    case atStart => exact ⟨0, by omega, rfl, Below.refl _ _⟩
    case round =>
      obtain ⟨j, hj, rfl, hW⟩ := hrel
      by_cases hlt : j < R.length
      · obtain ⟨bR, oR, y, rfl, _, hy, hcR⟩ := (HOr.out.below hW).elem hlt
        have hym := List.mem_of_getElem? hy
        have hpq := HSp.out y hym
        have hz : (((cntI y P : Nat) : Int) + ((cntI y Q : Nat) : Int) == 0) = false := by rw [beq_eq_false_iff_ne]; omega
        have hpb : cntI y P ≤ 1000 := by have := List.count_le_length (a := y) (l := P); unfold cntI; omega
        have hqb : cntI y Q ≤ 1000 := by have := List.count_le_length (a := y) (l := Q); unfold cntI; omega
        have g0 : wr.cell? ⟨bR, oR + j, none⟩ = some (.int .i64 y) := by simpa using hcR 0 _ rfl
        have HPw := Lib.hid (HPr.out.below hW)
        have HQw := Lib.hid (HQr.out.below hW)
        have HUj := Lib.hid (fun (i : Nat) (a : Int) (h1 : R[i]? = some a) (h2 : i + 1 = j) => HUp.out i a y h1 (by rw [h2]; exact hy))
        have HRw := Lib.hid (HOr.out.below hW)
        have HW := Lib.hid hW
        have hjR : (j : Int) < (R.length : Int) := by omega
        clear hpq hym hcR hy hW
        by_cases j0 : j = 0
        · have hj0 : decide ((0 : Int) < (j : Int)) = false := decide_eq_false (by omega)
          have hj0n : decide (0 < j) = false := decide_eq_false (by omega)
          have HJ0 := Lib.hid j0
          clear j0
          go_wp2
          have f0 : ∀ u : Later wr, u.at_.cell? ⟨bR, oR + j, none⟩ = some (.int .i64 y) := fun u => u.cell g0
          refine wp_region_calm_lit (by kernel_rfl) (by kernel_rfl) ?_
          repeat (go_big_quiet_step (first | (go_at_call 13; exact Calls.calm_same (Calls.flip (laws_times _ _ _ _ _ _ (by omega) (by first | exact (HPw.out.below (Later.bel _)) | exact (HQw.out.below (Later.bel _))))))))
          refine wpQuiet_nil ?_
          intro _ hw'
          obtain ⟨u, rfl⟩ := hw'
          have HBf := Lib.hid (HW.out.trans (u.bel.mono HW.out.size))
          go_wp2
          go_roundw
          case rel => exact ⟨j + 1, by omega, by go_num, HBf.out⟩
          case measure => simp [intOf]; omega
        · obtain ⟨b', off', y', he, _, hy', hcp⟩ := HRw.out.elem (show j - 1 < R.length by omega)
          obtain ⟨rfl, rfl⟩ : b' = bR ∧ off' = oR := by simpa using he.symm
          have g1 : wr.cell? ⟨b', off' + (j - 1), none⟩ = some (.int .i64 y') := by simpa using hcp 0 _ rfl
          have hyy : y' < y := HUj.out (j - 1) y' hy' (by omega)
          have hge : decide (y ≤ y') = false := decide_eq_false (by omega)
          have hj0 : decide ((0 : Int) < (j : Int)) = true := decide_eq_true (by omega)
          have hj0n : decide (0 < j) = true := decide_eq_true (by omega)
          have hj1 : (j : Int) - 1 = ((j - 1 : Nat) : Int) := by omega
          have hj1R : j - 1 < R.length := by omega
          clear hy' hcp he
          go_wp2
          have f0 : ∀ u : Later wr, u.at_.cell? ⟨b', off' + j, none⟩ = some (.int .i64 y) := fun u => u.cell g0
          have f1 : ∀ u : Later wr, u.at_.cell? ⟨b', off' + (j - 1), none⟩ = some (.int .i64 y') := fun u => u.cell g1
          refine wp_region_calm_lit (by kernel_rfl) (by kernel_rfl) ?_
          repeat (go_big_quiet_step (first | (go_at_call 13; exact Calls.calm_same (Calls.flip (laws_times _ _ _ _ _ _ (by omega) (by first | exact (HPw.out.below (Later.bel _)) | exact (HQw.out.below (Later.bel _))))))))
          refine wpQuiet_nil ?_
          intro _ hw'
          obtain ⟨u, rfl⟩ := hw'
          have HBf := Lib.hid (HW.out.trans (u.bel.mono HW.out.size))
          go_wp2
          go_roundw
          case rel => exact ⟨j + 1, by omega, by go_num, HBf.out⟩
          case measure => simp [intOf]; omega
      · have HW := Lib.hid (HB6.out.trans (hW.mono HB6.out.size))
        have hAi : decide ((P.length : Int) ≤ (R.length : Int)) = true := decide_eq_true (by omega)
        have hBi : decide ((Q.length : Int) ≤ (R.length : Int)) = true := decide_eq_true (by omega)
        clear hW
        go_wp2
        go_ret
        exact ⟨rfl, HW.out⟩

end Go.Proofs.Ythccfnoebbimjaa
