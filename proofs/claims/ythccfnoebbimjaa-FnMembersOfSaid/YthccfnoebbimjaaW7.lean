/-
  Walks: what each function returns, and that it leaves what lay in memory as it was.
-/
import Derived.Test.YthccfnoebbimjaaProg
import Derived.Test.YthccfnoebbimjaaPlain
import Derived.Test.YthccfnoebbimjaaBase2
import Derived.Test.YthccfnoebbimjaaOpen2
import Derived.Test.YthccfnoebbimjaaShelf
import Derived.WalkKit
import Derived.WalkSpells
import Derived.WalkLawsBesides
import Derived.Lib.Hide
import Derived.Deep.LoopGhost
import Derived.Deep.QuietTactic
import Derived.BigQuiet
import Derived.Handy
import Derived.Deep.RegionHeld3
import Derived.StillTailTactics
import Derived.OpenShut
import Derived.ChangeSame
import Derived.Laws.StructEq

import Derived.Test.YthccfnoebbimjaaPlainT

import Derived.Test.YthccfnoebbimjaaW1

import Derived.Test.YthccfnoebbimjaaW2

import Derived.Test.YthccfnoebbimjaaW3

import Derived.Test.YthccfnoebbimjaaW4

import Derived.Test.YthccfnoebbimjaaW5

import Derived.Test.YthccfnoebbimjaaW6

import Derived.Test.YthccfnoebbimjaaBase3

namespace Go.Proofs.Ythccfnoebbimjaa
open Go.ChangeShapes Go.WideShapes Go.ChangeAt Go.RowKit Go.Deep
set_option linter.unusedVariables false
set_option linter.unusedSimpArgs false

set_option maxRecDepth 20000

def oneTo (n : Nat) : List Int := (List.range n).map (fun (j : Nat) => (j : Int) + 1)
theorem oneTo_succ (n : Nat) : oneTo (n + 1) = oneTo n ++ [(n : Int) + 1] := by
  unfold oneTo; rw [List.range_succ, List.map_append]; rfl
theorem oneTo_len (n : Nat) : (oneTo n).length = n := by unfold oneTo; simp
theorem oneTo_fold (n : Nat) (a : Int) : (oneTo n).foldl max a = max a n ∨ n = 0 := by
  induction n with
  | zero => exact .inr rfl
  | succ n ih =>
    refine .inl ?_
    rw [oneTo_succ, List.foldl_append]
    rcases ih with h | rfl
    · rw [h]; show max (max a (n : Int)) ((n : Int) + 1) = _; omega
    · show max a _ = _; rfl
theorem oneTo_max (n : Nat) (h : 1 ≤ n) : Lib.maxOf (oneTo n) = n := by
  unfold Lib.maxOf
  have h1 : (oneTo n).headD 0 = 1 := by
    obtain ⟨m, rfl⟩ : ∃ m, n = m + 1 := ⟨n - 1, by omega⟩
    unfold oneTo
    rw [List.range_succ_eq_map]
    rfl
  rw [h1]
  rcases oneTo_fold n 1 with h2 | h2
  · rw [h2]; omega
  · omega
theorem membersOf_oneTo (xs : List Span) (n : Nat) (h1 : 1 ≤ n) (h2 : n ≤ 999) : membersOf xs (oneTo n) = members xs n := by
  unfold membersOf members memTo
  rw [oneTo_max n h1]
  have e : iMin (n : Int) 999 = n := by rw [iMin_eq]; omega
  rw [e]
  rfl
set_option maxHeartbeats 3200000 in
set_option maxRecDepth 20000 in
theorem walk_FnMembersOf {H : Type} {enc0 : TypeId × Value → H} {base : Nat} {d0 : DataW H} {p0 : List MemPlace} (v0 : Value) (w : World) (o0 : Value.okWide Try.prog w .any base 22 v0) (k0 : DataW.Trod enc0 Try.prog w 0 (fun _ => true) true 22 v0 d0 p0) :
    Calls Try.prog 4 #[v0] w fun e w' => e = .returned (.bool true) ∧ Below w.heap.size w w' := by
  obtain ⟨A0, n0, c0, ys0, rfl, h0, hn0⟩ := open_Bytes o0 k0
  clear o0 k0
  by_cases hbig : 1048576 < n0
  · have hd : decide (1048576 < n0) = true := by simpa using hbig
    have C := Lib.hid (laws_big A0 n0 c0 w hn0)
    rw [hd] at C
    clear h0
    go_enter Try.func4, Try.ntmps4
    go_wp2_with fail
    refine C.out.mono ?_
    rintro e z ⟨rfl, rfl⟩
    go_wp2
    go_ret
    exact ⟨rfl, Below.refl _ _⟩
  have hd : decide (1048576 < n0) = false := by simpa using hbig
  have C := Lib.hid (laws_big A0 n0 c0 w hn0)
  rw [hd] at C
  have D := Lib.hid (spec_DrawMembers A0 n0 c0 ys0 w (by omega) h0)
  have H0 := Lib.hid h0
  clear h0
  go_enter Try.func4, Try.ntmps4
  go_wp2_with fail
  refine C.out.mono ?_
  rintro e z ⟨rfl, rfl⟩
  go_wp2_with fail
  refine D.out.mono ?_
  rintro e w1 ⟨⟨A, c, l, x, hl, hx, rfl, ho⟩, hb1⟩
  have HB1 := Lib.hid hb1
  have HR1 := Lib.hid (Rd.of_own (enc := encSpan) (k := 2) (fun _ => rfl) ho rfl)
  clear hb1 ho C D H0
  by_cases hx1 : x < 1
  · go_wp2_with fail
    refine (impl_MembersOf A none l.length c 0 0 l [] _ (by omega) (by omega) HR1.out (Rd.none_ _ _ _ _)).mono ?_
    rintro e w2 ⟨A2, c2, rfl, ho2, hb2⟩
    have HB2 := Lib.hid (HB1.out.trans (hb2.mono HB1.out.size))
    clear ho2 hb2
    rw [show (membersOf l []).length = 0 from rfl]
    go_wp2
    go_ret
    exact ⟨rfl, HB2.out⟩
  by_cases hx2 : 50 < x
  · go_wp2_with fail
    refine (impl_MembersOf A none l.length c 0 0 l [] _ (by omega) (by omega) HR1.out (Rd.none_ _ _ _ _)).mono ?_
    rintro e w2 ⟨A2, c2, rfl, ho2, hb2⟩
    have HB2 := Lib.hid (HB1.out.trans (hb2.mono HB1.out.size))
    clear ho2 hb2
    rw [show (membersOf l []).length = 0 from rfl]
    go_wp2
    go_ret
    exact ⟨rfl, HB2.out⟩
  obtain ⟨N, rfl⟩ : ∃ N : Nat, x = N := ⟨x.toNat, by omega⟩
  obtain ⟨R, hR⟩ : ∃ R, members l (N : Int) = R := ⟨_, rfl⟩
  have hRl : R.length ≤ 999 := by rw [← hR]; exact members_len _ _
  have HM := Lib.hid (fun w => hR ▸ impl_Members A l.length c l (N : Int) w (by omega) (by omega))
  have HS := Lib.hid (fun w => hR ▸ spec_Members A l.length c l (N : Int) w (by omega) (by omega))
  have HMO := Lib.hid (show membersOf l (oneTo N) = R by rw [membersOf_oneTo l N (by omega) (by omega), hR])
  have HNew := Lib.hid (World.ownsRow_made (base := w1.heap.size) (e := 3) (size := 1) w1 #[] 0 (Nat.le_refl _) (by unfold maxLen; omega) rfl)
  have HBN := Lib.hid (show Below w1.heap.size w1 (w1.alloc (.cells #[] 3)) from (Below.refl _ _).alloc (Nat.le_refl _) _)
  clear hR hx
  go_wp2_with fail
  go_loopw [5, 6] (fun o i wr => ∃ (k : Nat) (q : List Int), k ≤ N ∧ i = .int .i64 ((k : Int) + 1) ∧ Hid (oneTo k = q) ∧ q.length = k ∧ wr.ownsRow w1.heap.size 3 1 o q.length (q.flatMap encI) ∧ Below w1.heap.size w1 wr) (fun _ i _ => (N + 1 - intOf i).toNat)
  case atStart => exact ⟨0, [], by omega, rfl, Lib.hid rfl, rfl, HNew.out, HBN.out⟩
  case round =>
    clear HNew HBN
    obtain ⟨k, q, hk, rfl, hq, hql, hown, hW⟩ := hrel
    have HW := Lib.hid hW
    have Hown := Lib.hid hown
    have hsz := hW.size
    have HQL := Lib.hid hql
    clear hW hown hql
    by_cases hlt : k < N
    · have HN := Lib.hid (show oneTo (k + 1) = q ++ [(k : Int) + 1] by rw [oneTo_succ, hq.out])
      have Hown2 := Lib.hid (Hown.out.alloc (.cells #[.int .i64 ((k : Int) + 1)] 3))
      have Hrd2 := Lib.hid (Rd.new (enc := encI) (k := 1) (fun _ => rfl) wr #[.int .i64 ((k : Int) + 1)] 3 (n := 1) [(k : Int) + 1] rfl rfl)
      have HB3 := Lib.hid (HW.out.alloc hsz (.cells #[.int .i64 ((k : Int) + 1)] 3))
      have hqs : q.length ≤ 50 := by have := HQL.out; omega
      clear hq
      go_wp2_with (at_builtin; refine wpList_app (enc := encI) (k := 1) (fun _ => rfl) (fun _ u hu => by simp at hu; subst hu; rfl) (by omega) rfl _ _ 27 3 rfl (.int .i64 0) 8 Try.underlying27 (by kernel_rfl) rfl w1.heap.size _ q rfl Hown2.out _ _ _ _ rfl Hrd2.out (by first | omega | (simp; omega)) (by omega) (by first | omega | (simp; omega)) ?_; intro v2 w2 hown2 hbel2)
      have HB := Lib.hid (HB3.out.trans hbel2)
      clear hbel2
      go_roundw
      case rel => exact ⟨k + 1, q ++ [(k : Int) + 1], by omega, by go_num, HN, by have := HQL.out; simp; omega, hown2, HB.out⟩
      case measure => simp [intOf]; omega
    · have hke : k = N := by omega
      have HQ := Lib.hid (show membersOf l q = R by rw [← hq.out, hke]; exact HMO.out)
      clear hq HMO hke
      rcases own_form Hown.out with ⟨Aq, cq, rfl⟩
      have HRq := Lib.hid (Rd.of_own (enc := encI) (k := 1) (fun _ => rfl) Hown.out rfl)
      have HBr := Lib.hid (HB1.out.trans (HW.out.mono HB1.out.size))
      have HRr := Lib.hid (HR1.out.below HW.out)
      have hqs : q.length ≤ 50 := by have := HQL.out; omega
      clear HQL Hown HR1 HW HB1
      go_wp2_with fail
      refine (impl_MembersOf A Aq l.length c q.length cq l q _ (by omega) (by omega) HRr.out HRq.out).mono ?_
      rw [HQ.out]
      rintro e w2 ⟨A2, c2, rfl, ho2, hb2⟩
      have HO2 := Lib.hid (Rd.of_own (enc := encI) (k := 1) (fun _ => rfl) ho2 rfl)
      have HB2 := Lib.hid (HBr.out.trans (hb2.mono HBr.out.size))
      have HR2 := Lib.hid (HRr.out.below hb2)
      clear ho2 hb2 HRr HBr HQ HRq
      go_wp2_with fail
      refine (HM.out _ HR2.out).mono ?_
      rintro e w3 ⟨A3, c3, rfl, ho3, hb3⟩
      have HO3 := Lib.hid (Rd.of_own (enc := encI) (k := 1) (fun _ => rfl) ho3 rfl)
      have HO23 := Lib.hid (HO2.out.below hb3)
      have HB3 := Lib.hid (HB2.out.trans (hb3.mono HB2.out.size))
      have HR3 := Lib.hid (HR2.out.below hb3)
      clear ho3 hb3 HR2 HB2 HO2
      go_wp2_with fail
      refine (laws_sameInts A2 A3 R.length c2 c3 R w3 (by omega) HO23.out HO3.out).mono ?_
      rintro e w4 ⟨rfl, hb4⟩
      have HB4 := Lib.hid (HB3.out.trans (hb4.mono HB3.out.size))
      have HR4 := Lib.hid (HR3.out.below hb4)
      clear hb4 HR3 HB3 HO23 HO3
      go_wp2_with fail
      refine (HM.out _ HR4.out).mono ?_
      rintro e w5 ⟨A5, c5, rfl, ho5, hb5⟩
      have HO5 := Lib.hid (Rd.of_own (enc := encI) (k := 1) (fun _ => rfl) ho5 rfl)
      have HB5 := Lib.hid (HB4.out.trans (hb5.mono HB4.out.size))
      have HR5 := Lib.hid (HR4.out.below hb5)
      clear ho5 hb5 HR4 HB4
      go_wp2_with fail
      refine (HS.out _ HR5.out).mono ?_
      rintro e w6 ⟨A6, c6, rfl, ho6, hb6⟩
      have HO6 := Lib.hid (Rd.of_own (enc := encI) (k := 1) (fun _ => rfl) ho6 rfl)
      have HO56 := Lib.hid (HO5.out.below hb6)
      have HB6 := Lib.hid (HB5.out.trans (hb6.mono HB5.out.size))
      clear ho6 hb6 HR5 HB5 HO5
      go_wp2_with fail
      refine (laws_sameInts A5 A6 R.length c5 c6 R w6 (by omega) HO56.out HO6.out).mono ?_
      rintro e w7 ⟨rfl, hb7⟩
      have HB7 := Lib.hid (HB6.out.trans (hb7.mono HB6.out.size))
      clear hb7 HB6
      go_wp2
      go_ret
      exact ⟨rfl, HB7.out⟩

end Go.Proofs.Ythccfnoebbimjaa
