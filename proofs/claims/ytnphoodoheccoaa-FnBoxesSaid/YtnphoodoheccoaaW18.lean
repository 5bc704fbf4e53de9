/-
  Walks: what each function returns, and that it leaves what lay in memory as it was.
-/
import Derived.Test.YtnphoodoheccoaaProg
import Derived.Test.YtnphoodoheccoaaPlain
import Derived.Test.YtnphoodoheccoaaBase2
import Derived.Test.YtnphoodoheccoaaOpen2
import Derived.Test.YtnphoodoheccoaaShelf
import Derived.WalkKit
import Derived.WalkSpells
import Derived.WalkLawsBesides
import Derived.Lib.Hide
import Derived.Deep.LoopGhost
import Derived.Deep.QuietTactic
import Derived.BigQuiet
import Derived.Handy
import Derived.Deep.RegionHeld3
import Derived.StillTailTactics
import Derived.OpenShut
import Derived.ChangeSame
import Derived.Laws.StructEq

import Derived.Test.YtnphoodoheccoaaPlainT

import Derived.Test.YtnphoodoheccoaaW1

import Derived.Test.YtnphoodoheccoaaW2

import Derived.Test.YtnphoodoheccoaaW3

import Derived.Test.YtnphoodoheccoaaW5

import Derived.Test.YtnphoodoheccoaaW6

import Derived.Test.YtnphoodoheccoaaW9

import Derived.Test.YtnphoodoheccoaaW10

import Derived.Test.YtnphoodoheccoaaW11

import Derived.Test.YtnphoodoheccoaaW17

import Derived.Laws.Cover1

namespace Go.Proofs.Ytnphoodoheccoaa
open Go.ChangeShapes Go.WideShapes Go.ChangeAt Go.RowKit Go.Deep
set_option linter.unusedVariables false
set_option linter.unusedSimpArgs false

set_option maxHeartbeats 3200000 in
set_option maxRecDepth 20000 in
theorem impl_BoxesOk (A : Option Addr) (n c : Nat) (rs : List (Box × Hd)) (w : World) (hn : n ≤ 1048576) (h : Rd encBox 4 w A n rs) (i : ∀ p ∈ rs, BoxIs w p.1 p.2) (f : ∀ p ∈ rs, p.1.Fit) (hml : ML w) :
    Calls Try.prog 11 #[.slice A n c] w fun e w' => e = .returned (.bool (boxesOk (rs.map Prod.fst))) ∧ Below w.heap.size w w' := by
  have HL := Lib.hid (show (rs.map Prod.fst).length = n by rw [List.length_map]; exact h.1)
  have H := Lib.hid h
  have HI := Lib.hid i
  have HF := Lib.hid f
  clear h i f
  have HM := Lib.hid hml
  clear hml
  go_enter Try.func11, Try.ntmps11
  go_wp2_with fail
  go_loopw [7] (fun i wr => ∃ k : Nat, k ≤ n ∧ i = .int .i64 k ∧ Below w.heap.size w wr ∧ Hid (∀ j, j < k → boxAt (rs.map Prod.fst) j = true)) (fun i _ => n - (intOf i).toNat)
  case atStart => exact ⟨0, Nat.zero_le _, rfl, Below.refl _ _, fun j hj => absurd hj (by omega)⟩
  case round =>
    obtain ⟨k, hk, rfl, hb, ha⟩ := hrel
    by_cases hlt : k < n
    · obtain ⟨b, off, x, rfl, hblt, hx, hc⟩ := (H.out.below hb).elem hlt
      have g0 : wr.cell? ⟨b, off + k * 4, none⟩ = some (.string x.1.name) := by simpa using hc 0 _ rfl
      have g1 : wr.cell? ⟨b, off + k * 4 + 1, none⟩ = some (.int .i64 x.1.validity) := hc 1 _ rfl
      have g2 : wr.cell? ⟨b, off + k * 4 + 2, none⟩ = some (.int .i64 x.1.next) := hc 2 _ rfl
      have g3 : wr.cell? ⟨b, off + k * 4 + 3, none⟩ = some (.slice x.2.A x.2.n x.2.c) := hc 3 _ rfl
      have Hx := Lib.hid (map_get hx)
      have J := Lib.hid ((HI.out x (List.mem_of_getElem? hx)).below hb)
      have K := Lib.hid (HF.out x (List.mem_of_getElem? hx))
      have HB := Lib.hid hb
      have Hlen := Lib.hid (show k < (rs.map Prod.fst).length by rw [HL.out]; exact hlt)
      have HS := Lib.hid (show boxAt (rs.map Prod.fst) k = true → ∀ j, j < k + 1 → boxAt (rs.map Prod.fst) j = true from fun h j hj => by
        by_cases e : j < k
        · exact ha.out j e
        · rw [show j = k from by omega]; exact h)
      have HD := Lib.hid (fun h => boxesOk_bad Hlen.out h)
      clear hc hx hb ha
      go_wp2
      have hG : Below wr.heap.size wr (wr.alloc (.cells #[.string x.1.name, .int .i64 x.1.validity, .int .i64 x.1.next, .slice x.2.A x.2.n x.2.c] 40)) := by go_grown
      have hQ : Holds (wr.alloc (.cells #[.string x.1.name, .int .i64 x.1.validity, .int .i64 x.1.next, .slice x.2.A x.2.n x.2.c] 40)) wr.heap.size [.string x.1.name, .int .i64 x.1.validity, .int .i64 x.1.next, .slice x.2.A x.2.n x.2.c] := Holds.new wr _ _
      have hblt2 : b < (wr.alloc (.cells #[.string x.1.name, .int .i64 x.1.validity, .int .i64 x.1.next, .slice x.2.A x.2.n x.2.c] 40)).heap.size := by simp; omega
      generalize wr.alloc (.cells #[.string x.1.name, .int .i64 x.1.validity, .int .i64 x.1.next, .slice x.2.A x.2.n x.2.c] 40) = w2 at *
      have J2 := Lib.hid (J.out.below hG)
      have hb2 := HB.out.trans (hG.mono HB.out.size)
      generalize wr.heap.size = G at *
      have H2 := Lib.hid (H.out.below hb2)
      have HB2 := Lib.hid hb2
      have HQ := Lib.hid hQ
      have HM2 := Lib.hid (HM.out.below hb2)
      have q0 := hQ.2 0 (.string x.1.name) rfl
      have q1 := hQ.2 1 (.int .i64 x.1.validity) rfl
      have q2 := hQ.2 2 (.int .i64 x.1.next) rfl
      have q3 := hQ.2 3 (.slice x.2.A x.2.n x.2.c) rfl
      clear g0 g1 g2 g3 HB hG hQ hb2 J
      have hkn : (k : Int) < (n : Int) := by omega
      have hk00 : (0 : Int) ≤ (k : Int) := by omega
      obtain ⟨Z, hZ⟩ : ∃ Z, boxWith (rs.map Prod.fst) x.1.validity = Z := ⟨_, rfl⟩
      have HZ := Lib.hid hZ
      clear hZ
      cases b1 : boxOk x.1 with
      | false =>
        have B1 := Lib.hid b1
        clear b1
        by_cases hk0 : k = 0
        · have HV := Lib.hid (show boxAt (rs.map Prod.fst) k = (boxOk x.1 && decide (boxWith (rs.map Prod.fst) x.1.validity = (k : Int))) from by have h := Hx.out; rw [hk0] at h ⊢; exact boxAt_first h)
          have f0 : ∀ u : Later w2, u.at_.cell? ⟨G, 0, none⟩ = some (.string x.1.name) := fun u => u.cell q0
          have f1 : ∀ u : Later w2, u.at_.cell? ⟨G, 1, none⟩ = some (.int .i64 x.1.validity) := fun u => u.cell q1
          have f2 : ∀ u : Later w2, u.at_.cell? ⟨G, 2, none⟩ = some (.int .i64 x.1.next) := fun u => u.cell q2
          have f3 : ∀ u : Later w2, u.at_.cell? ⟨G, 3, none⟩ = some (.slice x.2.A x.2.n x.2.c) := fun u => u.cell q3
          have HV2 := Lib.hid (HV.out.trans (by rw [B1.out, Bool.false_and] : _ = false))
          have HFin := Lib.hid (HD.out HV2.out)
          clear HV HV2 HS HD
          refine wp_region_calm_lit (by kernel_rfl) (by kernel_rfl) ?_
          repeat (go_big_quiet_step (first | (go_at_call 15; exact Calls.calm (Calls.known (impl_BoxOk x.1 x.2 _ (J2.out.below (Later.bel _)) K.out (HM2.out.below (Later.bel _))) B1.out)) | (go_at_call 14; exact Calls.calm (Calls.knownI (impl_BoxWith _ _ _ rs _ _ hn (H2.out.below (Later.bel _))) HZ.out))))
          refine wpQuiet_nil ?_
          intro _ hw'
          obtain ⟨u, rfl⟩ := hw'
          have HBf := Lib.hid (HB2.out.trans (u.bel.mono HB2.out.size))
          go_wp2
          go_ret
          exact ⟨ret_b HFin.out.symm, HBf.out⟩
        · obtain ⟨b', off', p, he, _, hp, hcp⟩ := H2.out.elem (show k - 1 < n by omega)
          obtain ⟨rfl, rfl⟩ : b' = b ∧ off' = off := by simpa using he.symm
          have r0 : w2.cell? ⟨b', off' + (k - 1) * 4, none⟩ = some (.string p.1.name) := by simpa using hcp 0 _ rfl
          have HV := Lib.hid (show boxAt (rs.map Prod.fst) k = (boxOk x.1 && (nameLt p.1.name x.1.name && decide (boxWith (rs.map Prod.fst) x.1.validity = (k : Int)))) from boxAt_later hk0 Hx.out (map_get hp))
          have hk0i : (0 : Int) < (k : Int) := by omega
          have hk0n : 0 < k := by omega
          have hk0d : decide (0 < k) = true := decide_eq_true hk0n
          have hk1 : (k : Int) - 1 = ((k - 1 : Nat) : Int) := by omega
          have hk1n : k - 1 < n := by omega
          clear hp hcp he
          have f0 : ∀ u : Later w2, u.at_.cell? ⟨G, 0, none⟩ = some (.string x.1.name) := fun u => u.cell q0
          have f1 : ∀ u : Later w2, u.at_.cell? ⟨G, 1, none⟩ = some (.int .i64 x.1.validity) := fun u => u.cell q1
          have f2 : ∀ u : Later w2, u.at_.cell? ⟨G, 2, none⟩ = some (.int .i64 x.1.next) := fun u => u.cell q2
          have f3 : ∀ u : Later w2, u.at_.cell? ⟨G, 3, none⟩ = some (.slice x.2.A x.2.n x.2.c) := fun u => u.cell q3
          have f4 : ∀ u : Later w2, u.at_.cell? ⟨b', off' + (k - 1) * 4, none⟩ = some (.string p.1.name) := fun u => u.cell r0
          have HV2 := Lib.hid (HV.out.trans (by rw [B1.out, Bool.false_and] : _ = false))
          have HFin := Lib.hid (HD.out HV2.out)
          clear HV HV2 HS HD
          refine wp_region_calm_lit (by kernel_rfl) (by kernel_rfl) ?_
          repeat (go_big_quiet_step (first | (go_at_call 15; exact Calls.calm (Calls.known (impl_BoxOk x.1 x.2 _ (J2.out.below (Later.bel _)) K.out (HM2.out.below (Later.bel _))) B1.out)) | (go_at_call 14; exact Calls.calm (Calls.knownI (impl_BoxWith _ _ _ rs _ _ hn (H2.out.below (Later.bel _))) HZ.out))))
          refine wpQuiet_nil ?_
          intro _ hw'
          obtain ⟨u, rfl⟩ := hw'
          have HBf := Lib.hid (HB2.out.trans (u.bel.mono HB2.out.size))
          go_wp2
          go_ret
          exact ⟨ret_b HFin.out.symm, HBf.out⟩
      | true =>
        have B1 := Lib.hid b1
        clear b1
        by_cases hk0 : k = 0
        · have HV := Lib.hid (show boxAt (rs.map Prod.fst) k = (boxOk x.1 && decide (boxWith (rs.map Prod.fst) x.1.validity = (k : Int))) from by have h := Hx.out; rw [hk0] at h ⊢; exact boxAt_first h)
          have hk0d : decide ((0 : Int) < (k : Int)) = false := by rw [hk0]; rfl
          have hk0e : decide (0 < k) = false := by rw [hk0]; rfl
          by_cases z : Z = (k : Int)
          · have HZk := Lib.hid (show decide (boxWith (rs.map Prod.fst) x.1.validity = (k : Int)) = true by rw [HZ.out]; exact decide_eq_true z)
            subst z
            have f0 : ∀ u : Later w2, u.at_.cell? ⟨G, 0, none⟩ = some (.string x.1.name) := fun u => u.cell q0
            have f1 : ∀ u : Later w2, u.at_.cell? ⟨G, 1, none⟩ = some (.int .i64 x.1.validity) := fun u => u.cell q1
            have f2 : ∀ u : Later w2, u.at_.cell? ⟨G, 2, none⟩ = some (.int .i64 x.1.next) := fun u => u.cell q2
            have f3 : ∀ u : Later w2, u.at_.cell? ⟨G, 3, none⟩ = some (.slice x.2.A x.2.n x.2.c) := fun u => u.cell q3
            have HV2 := Lib.hid (HV.out.trans (by rw [B1.out, HZk.out]; rfl : _ = true))
            have HFin := Lib.hid (HS.out HV2.out)
            clear HV HV2 HS HD
            refine wp_region_calm_lit (by kernel_rfl) (by kernel_rfl) ?_
            repeat (go_big_quiet_step (first | (go_at_call 15; exact Calls.calm (Calls.known (impl_BoxOk x.1 x.2 _ (J2.out.below (Later.bel _)) K.out (HM2.out.below (Later.bel _))) B1.out)) | (go_at_call 14; exact Calls.calm (Calls.knownI (impl_BoxWith _ _ _ rs _ _ hn (H2.out.below (Later.bel _))) HZ.out))))
            refine wpQuiet_nil ?_
            intro _ hw'
            obtain ⟨u, rfl⟩ := hw'
            have HBf := Lib.hid (HB2.out.trans (u.bel.mono HB2.out.size))
            go_wp2
            go_roundw
            case rel => exact ⟨k + 1, by omega, by go_num, HBf.out, HFin.out⟩
            case measure => simp [intOf]; omega
          · have HZk := Lib.hid (show decide (boxWith (rs.map Prod.fst) x.1.validity = (k : Int)) = false by rw [HZ.out]; exact decide_eq_false z)
            have zb : (Z == (k : Int)) = false := beq_eq_false_iff_ne.2 z
            have f0 : ∀ u : Later w2, u.at_.cell? ⟨G, 0, none⟩ = some (.string x.1.name) := fun u => u.cell q0
            have f1 : ∀ u : Later w2, u.at_.cell? ⟨G, 1, none⟩ = some (.int .i64 x.1.validity) := fun u => u.cell q1
            have f2 : ∀ u : Later w2, u.at_.cell? ⟨G, 2, none⟩ = some (.int .i64 x.1.next) := fun u => u.cell q2
            have f3 : ∀ u : Later w2, u.at_.cell? ⟨G, 3, none⟩ = some (.slice x.2.A x.2.n x.2.c) := fun u => u.cell q3
            have HV2 := Lib.hid (HV.out.trans (by rw [B1.out, HZk.out]; rfl : _ = false))
            have HFin := Lib.hid (HD.out HV2.out)
            clear HV HV2 HS HD
            refine wp_region_calm_lit (by kernel_rfl) (by kernel_rfl) ?_
            repeat (go_big_quiet_step (first | (go_at_call 15; exact Calls.calm (Calls.known (impl_BoxOk x.1 x.2 _ (J2.out.below (Later.bel _)) K.out (HM2.out.below (Later.bel _))) B1.out)) | (go_at_call 14; exact Calls.calm (Calls.knownI (impl_BoxWith _ _ _ rs _ _ hn (H2.out.below (Later.bel _))) HZ.out))))
            refine wpQuiet_nil ?_
            intro _ hw'
            obtain ⟨u, rfl⟩ := hw'
            have HBf := Lib.hid (HB2.out.trans (u.bel.mono HB2.out.size))
            go_wp2
            go_ret
            exact ⟨ret_b HFin.out.symm, HBf.out⟩
        · obtain ⟨b', off', p, he, _, hp, hcp⟩ := H2.out.elem (show k - 1 < n by omega)
          obtain ⟨rfl, rfl⟩ : b' = b ∧ off' = off := by simpa using he.symm
          have r0 : w2.cell? ⟨b', off' + (k - 1) * 4, none⟩ = some (.string p.1.name) := by simpa using hcp 0 _ rfl
          have HV := Lib.hid (show boxAt (rs.map Prod.fst) k = (boxOk x.1 && (nameLt p.1.name x.1.name && decide (boxWith (rs.map Prod.fst) x.1.validity = (k : Int)))) from boxAt_later hk0 Hx.out (map_get hp))
          have hk0i : (0 : Int) < (k : Int) := by omega
          have hk0n : 0 < k := by omega
          have hk0d : decide (0 < k) = true := decide_eq_true hk0n
          have hk1 : (k : Int) - 1 = ((k - 1 : Nat) : Int) := by omega
          have hk1n : k - 1 < n := by omega
          clear hp hcp he
          cases b2 : nameLt p.1.name x.1.name with
          | false =>
            have c2 : (Op.bytesLess x.1.name.toList p.1.name.toList || x.1.name.toList == p.1.name.toList) = true := by rw [nameLe, b2]; rfl
            have B2 := Lib.hid b2
            clear b2
            have f0 : ∀ u : Later w2, u.at_.cell? ⟨G, 0, none⟩ = some (.string x.1.name) := fun u => u.cell q0
            have f1 : ∀ u : Later w2, u.at_.cell? ⟨G, 1, none⟩ = some (.int .i64 x.1.validity) := fun u => u.cell q1
            have f2 : ∀ u : Later w2, u.at_.cell? ⟨G, 2, none⟩ = some (.int .i64 x.1.next) := fun u => u.cell q2
            have f3 : ∀ u : Later w2, u.at_.cell? ⟨G, 3, none⟩ = some (.slice x.2.A x.2.n x.2.c) := fun u => u.cell q3
            have f4 : ∀ u : Later w2, u.at_.cell? ⟨b', off' + (k - 1) * 4, none⟩ = some (.string p.1.name) := fun u => u.cell r0
            have HV2 := Lib.hid (HV.out.trans (by rw [B1.out, B2.out]; rfl : _ = false))
            have HFin := Lib.hid (HD.out HV2.out)
            clear HV HV2 HS HD
            refine wp_region_calm_lit (by kernel_rfl) (by kernel_rfl) ?_
            repeat (go_big_quiet_step (first | (go_at_call 15; exact Calls.calm (Calls.known (impl_BoxOk x.1 x.2 _ (J2.out.below (Later.bel _)) K.out (HM2.out.below (Later.bel _))) B1.out)) | (go_at_call 14; exact Calls.calm (Calls.knownI (impl_BoxWith _ _ _ rs _ _ hn (H2.out.below (Later.bel _))) HZ.out))))
            refine wpQuiet_nil ?_
            intro _ hw'
            obtain ⟨u, rfl⟩ := hw'
            have HBf := Lib.hid (HB2.out.trans (u.bel.mono HB2.out.size))
            go_wp2
            go_ret
            exact ⟨ret_b HFin.out.symm, HBf.out⟩
          | true =>
            have c2 : (Op.bytesLess x.1.name.toList p.1.name.toList || x.1.name.toList == p.1.name.toList) = false := by rw [nameLe, b2]; rfl
            have B2 := Lib.hid b2
            clear b2
            by_cases z : Z = (k : Int)
            · have HZk := Lib.hid (show decide (boxWith (rs.map Prod.fst) x.1.validity = (k : Int)) = true by rw [HZ.out]; exact decide_eq_true z)
              subst z
              have f0 : ∀ u : Later w2, u.at_.cell? ⟨G, 0, none⟩ = some (.string x.1.name) := fun u => u.cell q0
              have f1 : ∀ u : Later w2, u.at_.cell? ⟨G, 1, none⟩ = some (.int .i64 x.1.validity) := fun u => u.cell q1
              have f2 : ∀ u : Later w2, u.at_.cell? ⟨G, 2, none⟩ = some (.int .i64 x.1.next) := fun u => u.cell q2
              have f3 : ∀ u : Later w2, u.at_.cell? ⟨G, 3, none⟩ = some (.slice x.2.A x.2.n x.2.c) := fun u => u.cell q3
              have f4 : ∀ u : Later w2, u.at_.cell? ⟨b', off' + (k - 1) * 4, none⟩ = some (.string p.1.name) := fun u => u.cell r0
              have HV2 := Lib.hid (HV.out.trans (by rw [B1.out, B2.out, HZk.out]; rfl : _ = true))
              have HFin := Lib.hid (HS.out HV2.out)
              clear HV HV2 HS HD
              refine wp_region_calm_lit (by kernel_rfl) (by kernel_rfl) ?_
              repeat (go_big_quiet_step (first | (go_at_call 15; exact Calls.calm (Calls.known (impl_BoxOk x.1 x.2 _ (J2.out.below (Later.bel _)) K.out (HM2.out.below (Later.bel _))) B1.out)) | (go_at_call 14; exact Calls.calm (Calls.knownI (impl_BoxWith _ _ _ rs _ _ hn (H2.out.below (Later.bel _))) HZ.out))))
              refine wpQuiet_nil ?_
              intro _ hw'
              obtain ⟨u, rfl⟩ := hw'
              have HBf := Lib.hid (HB2.out.trans (u.bel.mono HB2.out.size))
              go_wp2
              go_roundw
              case rel => exact ⟨k + 1, by omega, by go_num, HBf.out, HFin.out⟩
              case measure => simp [intOf]; omega
            · have HZk := Lib.hid (show decide (boxWith (rs.map Prod.fst) x.1.validity = (k : Int)) = false by rw [HZ.out]; exact decide_eq_false z)
              have zb : (Z == (k : Int)) = false := beq_eq_false_iff_ne.2 z
              have f0 : ∀ u : Later w2, u.at_.cell? ⟨G, 0, none⟩ = some (.string x.1.name) := fun u => u.cell q0
              have f1 : ∀ u : Later w2, u.at_.cell? ⟨G, 1, none⟩ = some (.int .i64 x.1.validity) := fun u => u.cell q1
              have f2 : ∀ u : Later w2, u.at_.cell? ⟨G, 2, none⟩ = some (.int .i64 x.1.next) := fun u => u.cell q2
              have f3 : ∀ u : Later w2, u.at_.cell? ⟨G, 3, none⟩ = some (.slice x.2.A x.2.n x.2.c) := fun u => u.cell q3
              have f4 : ∀ u : Later w2, u.at_.cell? ⟨b', off' + (k - 1) * 4, none⟩ = some (.string p.1.name) := fun u => u.cell r0
              have HV2 := Lib.hid (HV.out.trans (by rw [B1.out, B2.out, HZk.out]; rfl : _ = false))
              have HFin := Lib.hid (HD.out HV2.out)
              clear HV HV2 HS HD
              refine wp_region_calm_lit (by kernel_rfl) (by kernel_rfl) ?_
              repeat (go_big_quiet_step (first | (go_at_call 15; exact Calls.calm (Calls.known (impl_BoxOk x.1 x.2 _ (J2.out.below (Later.bel _)) K.out (HM2.out.below (Later.bel _))) B1.out)) | (go_at_call 14; exact Calls.calm (Calls.knownI (impl_BoxWith _ _ _ rs _ _ hn (H2.out.below (Later.bel _))) HZ.out))))
              refine wpQuiet_nil ?_
              intro _ hw'
              obtain ⟨u, rfl⟩ := hw'
              have HBf := Lib.hid (HB2.out.trans (u.bel.mono HB2.out.size))
              go_wp2
              go_ret
              exact ⟨ret_b HFin.out.symm, HBf.out⟩
    · have hke : k = n := by omega
      have HFin := Lib.hid (show boxesOk (rs.map Prod.fst) = decide ((n : Int) ≤ 4) by rw [boxesOk_good (fun j hj => ha.out j (by rw [HL.out] at hj; omega)), HL.out]; exact decide_eq_decide.2 (by omega))
      clear ha
      go_wp2
      go_ret
      exact ⟨ret_b HFin.out.symm, hb⟩

end Go.Proofs.Ytnphoodoheccoaa
