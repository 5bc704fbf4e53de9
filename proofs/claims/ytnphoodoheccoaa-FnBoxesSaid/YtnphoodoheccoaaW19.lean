/-
  Walks: what each function returns, and that it leaves what lay in memory as it was.
-/
import Derived.Test.YtnphoodoheccoaaProg
import Derived.Test.YtnphoodoheccoaaPlain
import Derived.Test.YtnphoodoheccoaaBase2
import Derived.Test.YtnphoodoheccoaaOpen2
import Derived.Test.YtnphoodoheccoaaShelf
import Derived.WalkKit
import Derived.WalkSpells
import Derived.WalkLawsBesides
import Derived.Lib.Hide
import Derived.Deep.LoopGhost
import Derived.Deep.QuietTactic
import Derived.BigQuiet
import Derived.Handy
import Derived.Deep.RegionHeld3
import Derived.StillTailTactics
import Derived.OpenShut
import Derived.ChangeSame
import Derived.Laws.StructEq

import Derived.Test.YtnphoodoheccoaaPlainT

import Derived.Test.YtnphoodoheccoaaW1

import Derived.Test.YtnphoodoheccoaaW2

import Derived.Test.YtnphoodoheccoaaW3

import Derived.Test.YtnphoodoheccoaaW5

import Derived.Test.YtnphoodoheccoaaW6

import Derived.Test.YtnphoodoheccoaaW9

import Derived.Test.YtnphoodoheccoaaW10

import Derived.Test.YtnphoodoheccoaaW11

import Derived.Test.YtnphoodoheccoaaW17

import Derived.Laws.Cover1

namespace Go.Proofs.Ytnphoodoheccoaa
open Go.ChangeShapes Go.WideShapes Go.ChangeAt Go.RowKit Go.Deep
set_option linter.unusedVariables false
set_option linter.unusedSimpArgs false

set_option maxHeartbeats 3200000 in
set_option maxRecDepth 20000 in
theorem spec_BoxesOk (A : Option Addr) (n c : Nat) (rs : List (Box × Hd)) (w : World) (hn : n ≤ 1048576) (hcap : n ≤ c) (h : Rd encBox 4 w A n rs) (i : ∀ p ∈ rs, BoxIs w p.1 p.2) (f : ∀ p ∈ rs, p.1.Fit) :
    Calls Try.prog 12 #[.slice A n c] w fun e w' => e = .returned (.bool (boxesOk (rs.map Prod.fst))) ∧ Below w.heap.size w w' := by
  have HL := Lib.hid (show (rs.map Prod.fst).length = n by rw [List.length_map]; exact h.1)
  have H := Lib.hid h
  have HI := Lib.hid i
  have HF := Lib.hid f
  clear h i f
  go_enter Try.func12, Try.ntmps12
  go_wp2_with fail
  go_loopw [3] (fun i wr => ∃ k : Nat, k ≤ n ∧ i = .int .i64 k ∧ Below w.heap.size w wr ∧ Hid (∀ j, j < k → boxAt (rs.map Prod.fst) j = true)) (fun i _ => n - (intOf i).toNat)
  case atStart => exact ⟨0, Nat.zero_le _, rfl, Below.refl _ _, fun j hj => absurd hj (by omega)⟩
  case round =>
    obtain ⟨k, hk, rfl, hb, ha⟩ := hrel
    by_cases hlt : k < n
    · obtain ⟨b, off, x, rfl, hblt, hx, hc⟩ := (H.out.below hb).elem hlt
      have g0 : wr.cell? ⟨b, off + k * 4, none⟩ = some (.string x.1.name) := by simpa using hc 0 _ rfl
      have g1 : wr.cell? ⟨b, off + k * 4 + 1, none⟩ = some (.int .i64 x.1.validity) := hc 1 _ rfl
      have g2 : wr.cell? ⟨b, off + k * 4 + 2, none⟩ = some (.int .i64 x.1.next) := hc 2 _ rfl
      have g3 : wr.cell? ⟨b, off + k * 4 + 3, none⟩ = some (.slice x.2.A x.2.n x.2.c) := hc 3 _ rfl
      have Hx := Lib.hid (map_get hx)
      have J := Lib.hid ((HI.out x (List.mem_of_getElem? hx)).below hb)
      have K := Lib.hid (HF.out x (List.mem_of_getElem? hx))
      have HB := Lib.hid hb
      have Hlen := Lib.hid (show k < (rs.map Prod.fst).length by rw [HL.out]; exact hlt)
      have HS := Lib.hid (show boxAt (rs.map Prod.fst) k = true → ∀ j, j < k + 1 → boxAt (rs.map Prod.fst) j = true from fun h j hj => by
        by_cases e : j < k
        · exact ha.out j e
        · rw [show j = k from by omega]; exact h)
      have HD := Lib.hid (fun h => boxesOk_bad Hlen.out h)
      clear hc hx hb ha
      have J2 := Lib.hid J.out
      have H2 := Lib.hid (H.out.below HB.out)
      have HB2 := Lib.hid HB.out
      have hblt2 : b < wr.heap.size := hblt
      clear J HB
      go_wp2
      generalize hww : wr = w2 at *
      clear hww wr
      have hkn : (k : Int) < (n : Int) := by omega
      have hkc : (k : Int) ≤ (c : Int) := by omega
      have hkc' : k ≤ c := by omega
      have hk00 : (0 : Int) ≤ (k : Int) := by omega
      obtain ⟨Z, hZ⟩ : ∃ Z, boxWith ((rs.map Prod.fst).take k) x.1.validity = Z := ⟨_, rfl⟩
      have HZ := Lib.hid hZ
      have HZ2 := Lib.hid (show boxWith ((rs.take k).map Prod.fst) x.1.validity = Z by rw [List.map_take]; exact hZ)
      have HT := Lib.hid (show decide (0 ≤ Z) = !decide (boxWith (rs.map Prod.fst) x.1.validity = (k : Int)) by rw [← hZ]; exact boxWith_take Hx.out)
      clear hZ
      cases b1 : boxOk x.1 with
      | false =>
        have B1 := Lib.hid b1
        clear b1
        by_cases hk0 : k = 0
        · have HV := Lib.hid (show boxAt (rs.map Prod.fst) k = (boxOk x.1 && decide (boxWith (rs.map Prod.fst) x.1.validity = (k : Int))) from by have h := Hx.out; rw [hk0] at h ⊢; exact boxAt_first h)
          have HK0 := Lib.hid hk0
          clear hk0
          have f0 : ∀ u : Later w2, u.at_.cell? ⟨b, off + k * 4, none⟩ = some (.string x.1.name) := fun u => u.cell g0
          have f1 : ∀ u : Later w2, u.at_.cell? ⟨b, off + k * 4 + 1, none⟩ = some (.int .i64 x.1.validity) := fun u => u.cell g1
          have f2 : ∀ u : Later w2, u.at_.cell? ⟨b, off + k * 4 + 2, none⟩ = some (.int .i64 x.1.next) := fun u => u.cell g2
          have f3 : ∀ u : Later w2, u.at_.cell? ⟨b, off + k * 4 + 3, none⟩ = some (.slice x.2.A x.2.n x.2.c) := fun u => u.cell g3
          have HV2 := Lib.hid (HV.out.trans (by rw [B1.out, Bool.false_and] : _ = false))
          have HFin := Lib.hid (HD.out HV2.out)
          clear HV HV2 HS HD
          refine wp_region_calm_lit (by kernel_rfl) (by kernel_rfl) ?_
          repeat (go_big_quiet_step (first | (go_at_call 33; exact Calls.calm (Calls.known (spec_BoxOk x.1 x.2 _ (J2.out.below (Later.bel _)) K.out) B1.out)) | (go_at_call 34; exact Calls.calm_same (Calls.flip (Calls.knownI (spec_BoxWith _ _ _ (rs.take k) _ _ (by omega) ((H2.out.below (Later.bel _)).take (by omega))) HZ2.out)))))
          refine wpQuiet_nil ?_
          intro _ hw'
          obtain ⟨u, rfl⟩ := hw'
          have HBf := Lib.hid (HB2.out.trans (u.bel.mono HB2.out.size))
          go_wp2
          go_ret
          exact ⟨ret_b HFin.out.symm, HBf.out⟩
        · obtain ⟨b', off', p, he, _, hp, hcp⟩ := H2.out.elem (show k - 1 < n by omega)
          obtain ⟨rfl, rfl⟩ : b' = b ∧ off' = off := by simpa using he.symm
          have r0 : w2.cell? ⟨b', off' + (k - 1) * 4, none⟩ = some (.string p.1.name) := by simpa using hcp 0 _ rfl
          have HV := Lib.hid (show boxAt (rs.map Prod.fst) k = (boxOk x.1 && (nameLt p.1.name x.1.name && decide (boxWith (rs.map Prod.fst) x.1.validity = (k : Int)))) from boxAt_later hk0 Hx.out (map_get hp))
          have hk0i : (0 : Int) < (k : Int) := by omega
          have hk0n : 0 < k := by omega
          have hk0d : decide (0 < k) = true := decide_eq_true hk0n
          have hk1 : (k : Int) - 1 = ((k - 1 : Nat) : Int) := by omega
          have hk1n : k - 1 < n := by omega
          clear hp hcp he
          have f0 : ∀ u : Later w2, u.at_.cell? ⟨b', off' + k * 4, none⟩ = some (.string x.1.name) := fun u => u.cell g0
          have f1 : ∀ u : Later w2, u.at_.cell? ⟨b', off' + k * 4 + 1, none⟩ = some (.int .i64 x.1.validity) := fun u => u.cell g1
          have f2 : ∀ u : Later w2, u.at_.cell? ⟨b', off' + k * 4 + 2, none⟩ = some (.int .i64 x.1.next) := fun u => u.cell g2
          have f3 : ∀ u : Later w2, u.at_.cell? ⟨b', off' + k * 4 + 3, none⟩ = some (.slice x.2.A x.2.n x.2.c) := fun u => u.cell g3
          have f4 : ∀ u : Later w2, u.at_.cell? ⟨b', off' + (k - 1) * 4, none⟩ = some (.string p.1.name) := fun u => u.cell r0
          have HV2 := Lib.hid (HV.out.trans (by rw [B1.out, Bool.false_and] : _ = false))
          have HFin := Lib.hid (HD.out HV2.out)
          clear HV HV2 HS HD
          refine wp_region_calm_lit (by kernel_rfl) (by kernel_rfl) ?_
          repeat (go_big_quiet_step (first | (go_at_call 33; exact Calls.calm (Calls.known (spec_BoxOk x.1 x.2 _ (J2.out.below (Later.bel _)) K.out) B1.out)) | (go_at_call 34; exact Calls.calm_same (Calls.flip (Calls.knownI (spec_BoxWith _ _ _ (rs.take k) _ _ (by omega) ((H2.out.below (Later.bel _)).take (by omega))) HZ2.out)))))
          refine wpQuiet_nil ?_
          intro _ hw'
          obtain ⟨u, rfl⟩ := hw'
          have HBf := Lib.hid (HB2.out.trans (u.bel.mono HB2.out.size))
          go_wp2
          go_ret
          exact ⟨ret_b HFin.out.symm, HBf.out⟩
      | true =>
        have B1 := Lib.hid b1
        clear b1
        by_cases hk0 : k = 0
        · have HV := Lib.hid (show boxAt (rs.map Prod.fst) k = (boxOk x.1 && decide (boxWith (rs.map Prod.fst) x.1.validity = (k : Int))) from by have h := Hx.out; rw [hk0] at h ⊢; exact boxAt_first h)
          have hk0d : decide ((0 : Int) < (k : Int)) = false := by rw [hk0]; rfl
          have hk0e : decide (0 < k) = false := by rw [hk0]; rfl
          have HK0 := Lib.hid hk0
          clear hk0
          by_cases z : (0 : Int) ≤ Z
          · have HZk := Lib.hid (show decide (boxWith (rs.map Prod.fst) x.1.validity = (k : Int)) = false by have h := HT.out; rw [decide_eq_true z] at h; simpa using h)
            have f0 : ∀ u : Later w2, u.at_.cell? ⟨b, off + k * 4, none⟩ = some (.string x.1.name) := fun u => u.cell g0
            have f1 : ∀ u : Later w2, u.at_.cell? ⟨b, off + k * 4 + 1, none⟩ = some (.int .i64 x.1.validity) := fun u => u.cell g1
            have f2 : ∀ u : Later w2, u.at_.cell? ⟨b, off + k * 4 + 2, none⟩ = some (.int .i64 x.1.next) := fun u => u.cell g2
            have f3 : ∀ u : Later w2, u.at_.cell? ⟨b, off + k * 4 + 3, none⟩ = some (.slice x.2.A x.2.n x.2.c) := fun u => u.cell g3
            have HV2 := Lib.hid (HV.out.trans (by rw [B1.out, HZk.out]; rfl : _ = false))
            have HFin := Lib.hid (HD.out HV2.out)
            clear HV HV2 HS HD
            refine wp_region_calm_lit (by kernel_rfl) (by kernel_rfl) ?_
            repeat (go_big_quiet_step (first | (go_at_call 33; exact Calls.calm (Calls.known (spec_BoxOk x.1 x.2 _ (J2.out.below (Later.bel _)) K.out) B1.out)) | (go_at_call 34; exact Calls.calm_same (Calls.flip (Calls.knownI (spec_BoxWith _ _ _ (rs.take k) _ _ (by omega) ((H2.out.below (Later.bel _)).take (by omega))) HZ2.out)))))
            refine wpQuiet_nil ?_
            intro _ hw'
            obtain ⟨u, rfl⟩ := hw'
            have HBf := Lib.hid (HB2.out.trans (u.bel.mono HB2.out.size))
            go_wp2
            go_ret
            exact ⟨ret_b HFin.out.symm, HBf.out⟩
          · have HZk := Lib.hid (show decide (boxWith (rs.map Prod.fst) x.1.validity = (k : Int)) = true by have h := HT.out; rw [decide_eq_false z] at h; simpa using h)
            have zb : decide ((0 : Int) ≤ Z) = false := decide_eq_false z
            have f0 : ∀ u : Later w2, u.at_.cell? ⟨b, off + k * 4, none⟩ = some (.string x.1.name) := fun u => u.cell g0
            have f1 : ∀ u : Later w2, u.at_.cell? ⟨b, off + k * 4 + 1, none⟩ = some (.int .i64 x.1.validity) := fun u => u.cell g1
            have f2 : ∀ u : Later w2, u.at_.cell? ⟨b, off + k * 4 + 2, none⟩ = some (.int .i64 x.1.next) := fun u => u.cell g2
            have f3 : ∀ u : Later w2, u.at_.cell? ⟨b, off + k * 4 + 3, none⟩ = some (.slice x.2.A x.2.n x.2.c) := fun u => u.cell g3
            have HV2 := Lib.hid (HV.out.trans (by rw [B1.out, HZk.out]; rfl : _ = true))
            have HFin := Lib.hid (HS.out HV2.out)
            clear HV HV2 HS HD
            refine wp_region_calm_lit (by kernel_rfl) (by kernel_rfl) ?_
            repeat (go_big_quiet_step (first | (go_at_call 33; exact Calls.calm (Calls.known (spec_BoxOk x.1 x.2 _ (J2.out.below (Later.bel _)) K.out) B1.out)) | (go_at_call 34; exact Calls.calm_same (Calls.flip (Calls.knownI (spec_BoxWith _ _ _ (rs.take k) _ _ (by omega) ((H2.out.below (Later.bel _)).take (by omega))) HZ2.out)))))
            refine wpQuiet_nil ?_
            intro _ hw'
            obtain ⟨u, rfl⟩ := hw'
            have HBf := Lib.hid (HB2.out.trans (u.bel.mono HB2.out.size))
            go_wp2
            go_roundw
            case rel => exact ⟨k + 1, by omega, by go_num, HBf.out, HFin.out⟩
            case measure => simp [intOf]; omega
        · obtain ⟨b', off', p, he, _, hp, hcp⟩ := H2.out.elem (show k - 1 < n by omega)
          obtain ⟨rfl, rfl⟩ : b' = b ∧ off' = off := by simpa using he.symm
          have r0 : w2.cell? ⟨b', off' + (k - 1) * 4, none⟩ = some (.string p.1.name) := by simpa using hcp 0 _ rfl
          have HV := Lib.hid (show boxAt (rs.map Prod.fst) k = (boxOk x.1 && (nameLt p.1.name x.1.name && decide (boxWith (rs.map Prod.fst) x.1.validity = (k : Int)))) from boxAt_later hk0 Hx.out (map_get hp))
          have hk0i : (0 : Int) < (k : Int) := by omega
          have hk0n : 0 < k := by omega
          have hk0d : decide (0 < k) = true := decide_eq_true hk0n
          have hk1 : (k : Int) - 1 = ((k - 1 : Nat) : Int) := by omega
          have hk1n : k - 1 < n := by omega
          clear hp hcp he
          cases b2 : nameLt p.1.name x.1.name with
          | false =>
            have c2 : Op.bytesLess p.1.name.toList x.1.name.toList = false := b2
            have B2 := Lib.hid b2
            clear b2
            have f0 : ∀ u : Later w2, u.at_.cell? ⟨b', off' + k * 4, none⟩ = some (.string x.1.name) := fun u => u.cell g0
            have f1 : ∀ u : Later w2, u.at_.cell? ⟨b', off' + k * 4 + 1, none⟩ = some (.int .i64 x.1.validity) := fun u => u.cell g1
            have f2 : ∀ u : Later w2, u.at_.cell? ⟨b', off' + k * 4 + 2, none⟩ = some (.int .i64 x.1.next) := fun u => u.cell g2
            have f3 : ∀ u : Later w2, u.at_.cell? ⟨b', off' + k * 4 + 3, none⟩ = some (.slice x.2.A x.2.n x.2.c) := fun u => u.cell g3
            have f4 : ∀ u : Later w2, u.at_.cell? ⟨b', off' + (k - 1) * 4, none⟩ = some (.string p.1.name) := fun u => u.cell r0
            have HV2 := Lib.hid (HV.out.trans (by rw [B1.out, B2.out]; rfl : _ = false))
            have HFin := Lib.hid (HD.out HV2.out)
            clear HV HV2 HS HD
            refine wp_region_calm_lit (by kernel_rfl) (by kernel_rfl) ?_
            repeat (go_big_quiet_step (first | (go_at_call 33; exact Calls.calm (Calls.known (spec_BoxOk x.1 x.2 _ (J2.out.below (Later.bel _)) K.out) B1.out)) | (go_at_call 34; exact Calls.calm_same (Calls.flip (Calls.knownI (spec_BoxWith _ _ _ (rs.take k) _ _ (by omega) ((H2.out.below (Later.bel _)).take (by omega))) HZ2.out)))))
            refine wpQuiet_nil ?_
            intro _ hw'
            obtain ⟨u, rfl⟩ := hw'
            have HBf := Lib.hid (HB2.out.trans (u.bel.mono HB2.out.size))
            go_wp2
            go_ret
            exact ⟨ret_b HFin.out.symm, HBf.out⟩
          | true =>
            have c2 : Op.bytesLess p.1.name.toList x.1.name.toList = true := b2
            have B2 := Lib.hid b2
            clear b2
            by_cases z : (0 : Int) ≤ Z
            · have HZk := Lib.hid (show decide (boxWith (rs.map Prod.fst) x.1.validity = (k : Int)) = false by have h := HT.out; rw [decide_eq_true z] at h; simpa using h)
              have f0 : ∀ u : Later w2, u.at_.cell? ⟨b', off' + k * 4, none⟩ = some (.string x.1.name) := fun u => u.cell g0
              have f1 : ∀ u : Later w2, u.at_.cell? ⟨b', off' + k * 4 + 1, none⟩ = some (.int .i64 x.1.validity) := fun u => u.cell g1
              have f2 : ∀ u : Later w2, u.at_.cell? ⟨b', off' + k * 4 + 2, none⟩ = some (.int .i64 x.1.next) := fun u => u.cell g2
              have f3 : ∀ u : Later w2, u.at_.cell? ⟨b', off' + k * 4 + 3, none⟩ = some (.slice x.2.A x.2.n x.2.c) := fun u => u.cell g3
              have f4 : ∀ u : Later w2, u.at_.cell? ⟨b', off' + (k - 1) * 4, none⟩ = some (.string p.1.name) := fun u => u.cell r0
              have HV2 := Lib.hid (HV.out.trans (by rw [B1.out, B2.out, HZk.out]; rfl : _ = false))
              have HFin := Lib.hid (HD.out HV2.out)
              clear HV HV2 HS HD
              refine wp_region_calm_lit (by kernel_rfl) (by kernel_rfl) ?_
              repeat (go_big_quiet_step (first | (go_at_call 33; exact Calls.calm (Calls.known (spec_BoxOk x.1 x.2 _ (J2.out.below (Later.bel _)) K.out) B1.out)) | (go_at_call 34; exact Calls.calm_same (Calls.flip (Calls.knownI (spec_BoxWith _ _ _ (rs.take k) _ _ (by omega) ((H2.out.below (Later.bel _)).take (by omega))) HZ2.out)))))
              refine wpQuiet_nil ?_
              intro _ hw'
              obtain ⟨u, rfl⟩ := hw'
              have HBf := Lib.hid (HB2.out.trans (u.bel.mono HB2.out.size))
              go_wp2
              go_ret
              exact ⟨ret_b HFin.out.symm, HBf.out⟩
            · have HZk := Lib.hid (show decide (boxWith (rs.map Prod.fst) x.1.validity = (k : Int)) = true by have h := HT.out; rw [decide_eq_false z] at h; simpa using h)
              have zb : decide ((0 : Int) ≤ Z) = false := decide_eq_false z
              have f0 : ∀ u : Later w2, u.at_.cell? ⟨b', off' + k * 4, none⟩ = some (.string x.1.name) := fun u => u.cell g0
              have f1 : ∀ u : Later w2, u.at_.cell? ⟨b', off' + k * 4 + 1, none⟩ = some (.int .i64 x.1.validity) := fun u => u.cell g1
              have f2 : ∀ u : Later w2, u.at_.cell? ⟨b', off' + k * 4 + 2, none⟩ = some (.int .i64 x.1.next) := fun u => u.cell g2
              have f3 : ∀ u : Later w2, u.at_.cell? ⟨b', off' + k * 4 + 3, none⟩ = some (.slice x.2.A x.2.n x.2.c) := fun u => u.cell g3
              have f4 : ∀ u : Later w2, u.at_.cell? ⟨b', off' + (k - 1) * 4, none⟩ = some (.string p.1.name) := fun u => u.cell r0
              have HV2 := Lib.hid (HV.out.trans (by rw [B1.out, B2.out, HZk.out]; rfl : _ = true))
              have HFin := Lib.hid (HS.out HV2.out)
              clear HV HV2 HS HD
              refine wp_region_calm_lit (by kernel_rfl) (by kernel_rfl) ?_
              repeat (go_big_quiet_step (first | (go_at_call 33; exact Calls.calm (Calls.known (spec_BoxOk x.1 x.2 _ (J2.out.below (Later.bel _)) K.out) B1.out)) | (go_at_call 34; exact Calls.calm_same (Calls.flip (Calls.knownI (spec_BoxWith _ _ _ (rs.take k) _ _ (by omega) ((H2.out.below (Later.bel _)).take (by omega))) HZ2.out)))))
              refine wpQuiet_nil ?_
              intro _ hw'
              obtain ⟨u, rfl⟩ := hw'
              have HBf := Lib.hid (HB2.out.trans (u.bel.mono HB2.out.size))
              go_wp2
              go_roundw
              case rel => exact ⟨k + 1, by omega, by go_num, HBf.out, HFin.out⟩
              case measure => simp [intOf]; omega
    · have hke : k = n := by omega
      have HFin := Lib.hid (show boxesOk (rs.map Prod.fst) = decide ((n : Int) ≤ 4) by rw [boxesOk_good (fun j hj => ha.out j (by rw [HL.out] at hj; omega)), HL.out]; exact decide_eq_decide.2 (by omega))
      clear ha
      go_wp2
      go_ret
      exact ⟨ret_b HFin.out.symm, hb⟩

end Go.Proofs.Ytnphoodoheccoaa
