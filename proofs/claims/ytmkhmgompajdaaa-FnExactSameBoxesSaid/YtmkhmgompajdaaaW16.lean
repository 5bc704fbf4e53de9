/-
  Walks: what each function returns, and that it leaves what lay in memory as it was.
-/
import Derived.Test.YtmkhmgompajdaaaProg
import Derived.Test.YtmkhmgompajdaaaPlain
import Derived.Test.YtmkhmgompajdaaaBase2
import Derived.Test.YtmkhmgompajdaaaOpen2
import Derived.Test.YtmkhmgompajdaaaShelf
import Derived.WalkKit
import Derived.WalkSpells
import Derived.WalkLawsBesides
import Derived.Lib.Hide
import Derived.Deep.LoopGhost
import Derived.Deep.QuietTactic
import Derived.BigQuiet
import Derived.Handy
import Derived.Deep.RegionHeld3
import Derived.StillTailTactics
import Derived.OpenShut
import Derived.ChangeSame
import Derived.Laws.StructEq

import Derived.Test.YtmkhmgompajdaaaPlainT

import Derived.Test.YtmkhmgompajdaaaW1

import Derived.Test.YtmkhmgompajdaaaW2

import Derived.Test.YtmkhmgompajdaaaW3

import Derived.Test.YtmkhmgompajdaaaW5

import Derived.Test.YtmkhmgompajdaaaW6

import Derived.Test.YtmkhmgompajdaaaW7

import Derived.Test.YtmkhmgompajdaaaW14

namespace Go.Proofs.Ytmkhmgompajdaaa
open Go.ChangeShapes Go.WideShapes Go.ChangeAt Go.RowKit Go.Deep
set_option linter.unusedVariables false
set_option linter.unusedSimpArgs false

set_option maxHeartbeats 3200000 in
set_option maxRecDepth 20000 in
theorem walk_FnExactSameBoxes {H : Type} {enc0 : TypeId × Value → H} {base : Nat} {d0 : DataW H} {p0 : List MemPlace} {d1 : DataW H} {p1 : List MemPlace} (v0 : Value) (v1 : Value) (w : World) (o0 : Value.okWide Try.prog w .any base 33 v0) (k0 : DataW.Trod enc0 Try.prog w 0 (fun _ => true) true 33 v0 d0 p0) (o1 : Value.okWide Try.prog w .any base 33 v1) (k1 : DataW.Trod enc0 Try.prog w 0 (fun _ => true) true 33 v1 d1 p1) :
    Calls Try.prog 9 #[v0, v1] w fun e w' => e = .returned (.bool true) ∧ Below w.heap.size w w' := by
  obtain ⟨A0, n0, c0, rs0, rfl, h0, hn0, hi0⟩ := open_BoxS o0 k0
  obtain ⟨ys0, hy0⟩ : ∃ ys, rs0.map Prod.fst = ys := ⟨_, rfl⟩
  have hlen0 : n0 = ys0.length := by rw [← hy0, List.length_map]; exact h0.1.symm
  subst hlen0
  obtain ⟨A1, n1, c1, rs1, rfl, h1, hn1, hi1⟩ := open_BoxS o1 k1
  obtain ⟨ys1, hy1⟩ : ∃ ys, rs1.map Prod.fst = ys := ⟨_, rfl⟩
  have hlen1 : n1 = ys1.length := by rw [← hy1, List.length_map]; exact h1.1.symm
  subst hlen1
  clear o0 k0 o1 k1
  obtain ⟨R, hR⟩ : ∃ R, sameBoxes ys0 ys1 = R := ⟨_, rfl⟩
  have HR := Lib.hid hR
  clear hR
  have HH0 := Lib.hid h0
  have HI0 := Lib.hid hi0
  have HY0 := Lib.hid hy0
  clear h0 hi0 hy0
  have HH1 := Lib.hid h1
  have HI1 := Lib.hid hi1
  have HY1 := Lib.hid hy1
  clear h1 hi1 hy1
  go_enter Try.func9, Try.ntmps9
  go_wp2_with fail
  have HB0 := Lib.hid (Below.refl w.heap.size w)
  refine (laws_szBoxS A0 ys0.length c0 rs0 1048576 w (by omega) (by omega) hn0 (HH0.out.below HB0.out) (fun p hp => (HI0.out p hp).below HB0.out)).mono ?_
  rintro e z0 ⟨⟨v0, rfl, hv01, hv02, hfit0⟩, hb⟩
  have HB1 := Lib.hid (HB0.out.trans (hb.mono HB0.out.size))
  clear hb
  by_cases hneg0 : v0 < 0
  · clear hfit0
    go_wp2
    go_ret
    exact ⟨rfl, HB1.out⟩
  have hf0 := hfit0 (by omega)
  have hl0 := hf0.1
  have HF0 := Lib.hid hf0.2
  clear hf0 hfit0
  go_wp2_with fail
  refine (laws_szBoxS A1 ys1.length c1 rs1 v0 z0 (by omega) (by omega) hn1 (HH1.out.below HB1.out) (fun p hp => (HI1.out p hp).below HB1.out)).mono ?_
  rintro e z1 ⟨⟨v1, rfl, hv11, hv12, hfit1⟩, hb⟩
  have HB2 := Lib.hid (HB1.out.trans (hb.mono HB1.out.size))
  clear hb
  by_cases hneg1 : v1 < 0
  · clear hfit1
    go_wp2
    go_ret
    exact ⟨rfl, HB2.out⟩
  have hf1 := hfit1 (by omega)
  have hl1 := hf1.1
  have HF1 := Lib.hid hf1.2
  clear hf1 hfit1
  go_wp2_with fail
  refine (laws_toBoxS' A0 ys0.length c0 rs0 ys0 z1 hl0 (HH0.out.below HB2.out) (fun p hp => (HI0.out p hp).below HB2.out) HF0.out HY0.out).mono ?_
  rintro e us0 ⟨As0, cs0, rss0, rfl, hm, ho, hi, hb⟩
  have Rs0 := Lib.hid (Rd.of_own (enc := encBox) (k := 4) (fun _ => rfl) ho (by rw [← hm, List.length_map]))
  have Is0 := Lib.hid (show ∀ p ∈ rss0, BoxIs us0 p.1 p.2 from fun p hp => (hi p hp).is)
  have Fs0 := Lib.hid (fit_of HF0.out HY0.out hm)
  have Ms0 := Lib.hid hm
  have HB3 := Lib.hid (HB2.out.trans (hb.mono HB2.out.size))
  have HKs0 := Lib.hid (Below.refl us0.heap.size us0)
  clear hb ho hi hm
  go_wp2_with fail
  refine (laws_toBoxS' A1 ys1.length c1 rs1 ys1 us0 hl1 (HH1.out.below HB3.out) (fun p hp => (HI1.out p hp).below HB3.out) HF1.out HY1.out).mono ?_
  rintro e us1 ⟨As1, cs1, rss1, rfl, hm, ho, hi, hb⟩
  have Rs1 := Lib.hid (Rd.of_own (enc := encBox) (k := 4) (fun _ => rfl) ho (by rw [← hm, List.length_map]))
  have Is1 := Lib.hid (show ∀ p ∈ rss1, BoxIs us1 p.1 p.2 from fun p hp => (hi p hp).is)
  have Fs1 := Lib.hid (fit_of HF1.out HY1.out hm)
  have Ms1 := Lib.hid hm
  have HKs0' := Lib.hid (HKs0.out.trans (hb.mono HKs0.out.size))
  clear HKs0
  have HKs0 := HKs0'
  clear HKs0'
  have HB4 := Lib.hid (HB3.out.trans (hb.mono HB3.out.size))
  have HKs1 := Lib.hid (Below.refl us1.heap.size us1)
  clear hb ho hi hm
  go_wp2_with fail
  have HC := spec_SameBoxes As0 As1 ys0.length ys1.length cs0 cs1 rss0 rss1 us1 (by omega) (by omega) (Rs0.out.below HKs0.out) (Rs1.out.below HKs1.out) (fun p hp => (Is0.out p hp).below HKs0.out) (fun p hp => (Is1.out p hp).below HKs1.out) Fs0.out Fs1.out
  rw [Ms0.out, Ms1.out, HR.out] at HC
  have HC2 := Lib.hid HC
  clear HC
  refine HC2.out.mono ?_
  rintro e s9 ⟨rfl, hb0⟩
  clear HC2
  have hb : Below us1.heap.size us1 s9 := hb0
  clear hb0
  have HKs0' := Lib.hid (HKs0.out.trans (hb.mono HKs0.out.size))
  clear HKs0
  have HKs0 := HKs0'
  clear HKs0'
  have HKs1' := Lib.hid (HKs1.out.trans (hb.mono HKs1.out.size))
  clear HKs1
  have HKs1 := HKs1'
  clear HKs1'
  have HB5 := Lib.hid (HB4.out.trans (hb.mono HB4.out.size))
  clear hb
  go_wp2_with fail
  refine (laws_toBoxS' A0 ys0.length c0 rs0 ys0 s9 hl0 (HH0.out.below HB5.out) (fun p hp => (HI0.out p hp).below HB5.out) HF0.out HY0.out).mono ?_
  rintro e ux0 ⟨Ax0, cx0, rsx0, rfl, hm, ho, hi, hb⟩
  have Rx0 := Lib.hid (Rd.of_own (enc := encBox) (k := 4) (fun _ => rfl) ho (by rw [← hm, List.length_map]))
  have Ix0 := Lib.hid (show ∀ p ∈ rsx0, BoxIs ux0 p.1 p.2 from fun p hp => (hi p hp).is)
  have Fx0 := Lib.hid (fit_of HF0.out HY0.out hm)
  have Mx0 := Lib.hid hm
  have HB6 := Lib.hid (HB5.out.trans (hb.mono HB5.out.size))
  have HKx0 := Lib.hid (Below.refl ux0.heap.size ux0)
  clear hb ho hi hm
  go_wp2_with fail
  refine (laws_toBoxS' A1 ys1.length c1 rs1 ys1 ux0 hl1 (HH1.out.below HB6.out) (fun p hp => (HI1.out p hp).below HB6.out) HF1.out HY1.out).mono ?_
  rintro e ux1 ⟨Ax1, cx1, rsx1, rfl, hm, ho, hi, hb⟩
  have Rx1 := Lib.hid (Rd.of_own (enc := encBox) (k := 4) (fun _ => rfl) ho (by rw [← hm, List.length_map]))
  have Ix1 := Lib.hid (show ∀ p ∈ rsx1, BoxIs ux1 p.1 p.2 from fun p hp => (hi p hp).is)
  have Fx1 := Lib.hid (fit_of HF1.out HY1.out hm)
  have Mx1 := Lib.hid hm
  have HKx0' := Lib.hid (HKx0.out.trans (hb.mono HKx0.out.size))
  clear HKx0
  have HKx0 := HKx0'
  clear HKx0'
  have HB7 := Lib.hid (HB6.out.trans (hb.mono HB6.out.size))
  have HKx1 := Lib.hid (Below.refl ux1.heap.size ux1)
  clear hb ho hi hm
  go_wp2_with fail
  have HC := impl_SameBoxes Ax0 Ax1 ys0.length ys1.length cx0 cx1 rsx0 rsx1 ux1 (by omega) (by omega) (Rx0.out.below HKx0.out) (Rx1.out.below HKx1.out) (fun p hp => (Ix0.out p hp).below HKx0.out) (fun p hp => (Ix1.out p hp).below HKx1.out) Fx0.out Fx1.out
  rw [Mx0.out, Mx1.out, HR.out] at HC
  have HC2 := Lib.hid HC
  clear HC
  refine HC2.out.mono ?_
  rintro e x9 ⟨rfl, hb0⟩
  clear HC2
  have hb : Below ux1.heap.size ux1 x9 := hb0
  clear hb0
  have HKx0' := Lib.hid (HKx0.out.trans (hb.mono HKx0.out.size))
  clear HKx0
  have HKx0 := HKx0'
  clear HKx0'
  have HKx1' := Lib.hid (HKx1.out.trans (hb.mono HKx1.out.size))
  clear HKx1
  have HKx1 := HKx1'
  clear HKx1'
  have HB8 := Lib.hid (HB7.out.trans (hb.mono HB7.out.size))
  clear hb
  go_wp2_with fail
  refine (laws_toBoxS' A0 ys0.length c0 rs0 ys0 x9 hl0 (HH0.out.below HB8.out) (fun p hp => (HI0.out p hp).below HB8.out) HF0.out HY0.out).mono ?_
  rintro e ue0 ⟨Ae0, ce0, rse0, rfl, hm, ho, hi, hb⟩
  have Re0 := Lib.hid (Rd.of_own (enc := encBox) (k := 4) (fun _ => rfl) ho (by rw [← hm, List.length_map]))
  have Ie0 := Lib.hid (show ∀ p ∈ rse0, BoxIs ue0 p.1 p.2 from fun p hp => (hi p hp).is)
  have Me0 := Lib.hid hm
  have HKx0' := Lib.hid (HKx0.out.trans (hb.mono HKx0.out.size))
  clear HKx0
  have HKx0 := HKx0'
  clear HKx0'
  have HKx1' := Lib.hid (HKx1.out.trans (hb.mono HKx1.out.size))
  clear HKx1
  have HKx1 := HKx1'
  clear HKx1'
  have HB9 := Lib.hid (HB8.out.trans (hb.mono HB8.out.size))
  clear hb ho hi hm
  have HC := Lib.hid (laws_eqBoxS Ax0 Ae0 ys0.length cx0 ce0 rsx0 rse0 ue0 (by omega) (Rx0.out.below HKx0.out) Re0.out (fun p hp => (Ix0.out p hp).below HKx0.out) Ie0.out Fx0.out (Mx0.out.trans Me0.out.symm))
  go_wp2_with fail
  refine HC.out.mono ?_
  rintro e q0 ⟨rfl, hb⟩
  clear HC
  have HKx0' := Lib.hid (HKx0.out.trans (hb.mono HKx0.out.size))
  clear HKx0
  have HKx0 := HKx0'
  clear HKx0'
  have HKx1' := Lib.hid (HKx1.out.trans (hb.mono HKx1.out.size))
  clear HKx1
  have HKx1 := HKx1'
  clear HKx1'
  have HB10 := Lib.hid (HB9.out.trans (hb.mono HB9.out.size))
  clear hb
  go_wp2_with fail
  refine (laws_toBoxS' A1 ys1.length c1 rs1 ys1 q0 hl1 (HH1.out.below HB10.out) (fun p hp => (HI1.out p hp).below HB10.out) HF1.out HY1.out).mono ?_
  rintro e ue1 ⟨Ae1, ce1, rse1, rfl, hm, ho, hi, hb⟩
  have Re1 := Lib.hid (Rd.of_own (enc := encBox) (k := 4) (fun _ => rfl) ho (by rw [← hm, List.length_map]))
  have Ie1 := Lib.hid (show ∀ p ∈ rse1, BoxIs ue1 p.1 p.2 from fun p hp => (hi p hp).is)
  have Me1 := Lib.hid hm
  have HKx0' := Lib.hid (HKx0.out.trans (hb.mono HKx0.out.size))
  clear HKx0
  have HKx0 := HKx0'
  clear HKx0'
  have HKx1' := Lib.hid (HKx1.out.trans (hb.mono HKx1.out.size))
  clear HKx1
  have HKx1 := HKx1'
  clear HKx1'
  have HB11 := Lib.hid (HB10.out.trans (hb.mono HB10.out.size))
  clear hb ho hi hm
  have HC := Lib.hid (laws_eqBoxS Ax1 Ae1 ys1.length cx1 ce1 rsx1 rse1 ue1 (by omega) (Rx1.out.below HKx1.out) Re1.out (fun p hp => (Ix1.out p hp).below HKx1.out) Ie1.out Fx1.out (Mx1.out.trans Me1.out.symm))
  go_wp2_with fail
  refine HC.out.mono ?_
  rintro e q1 ⟨rfl, hb⟩
  clear HC
  have HKx0' := Lib.hid (HKx0.out.trans (hb.mono HKx0.out.size))
  clear HKx0
  have HKx0 := HKx0'
  clear HKx0'
  have HKx1' := Lib.hid (HKx1.out.trans (hb.mono HKx1.out.size))
  clear HKx1
  have HKx1 := HKx1'
  clear HKx1'
  have HB12 := Lib.hid (HB11.out.trans (hb.mono HB11.out.size))
  clear hb
  go_wp2
  go_ret
  exact ⟨rfl, HB12.out⟩

end Go.Proofs.Ytmkhmgompajdaaa
