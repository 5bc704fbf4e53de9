/-
  Walks: what each function returns, and that it leaves what lay in memory as it was.
-/
import Derived.Test.YtmkhmgompajdaaaProg
import Derived.Test.YtmkhmgompajdaaaPlain
import Derived.Test.YtmkhmgompajdaaaBase2
import Derived.Test.YtmkhmgompajdaaaOpen2
import Derived.Test.YtmkhmgompajdaaaShelf
import Derived.WalkKit
import Derived.WalkSpells
import Derived.WalkLawsBesides
import Derived.Lib.Hide
import Derived.Deep.LoopGhost
import Derived.Deep.QuietTactic
import Derived.BigQuiet
import Derived.Handy
import Derived.Deep.RegionHeld3
import Derived.StillTailTactics
import Derived.OpenShut
import Derived.ChangeSame
import Derived.Laws.StructEq

import Derived.Test.YtmkhmgompajdaaaPlainT

import Derived.Test.YtmkhmgompajdaaaW1

import Derived.Test.YtmkhmgompajdaaaW2

import Derived.Test.YtmkhmgompajdaaaW3

import Derived.Test.YtmkhmgompajdaaaW5

import Derived.Test.YtmkhmgompajdaaaW6

import Derived.Test.YtmkhmgompajdaaaW9

import Derived.Test.YtmkhmgompajdaaaW17

import Derived.Test.YtmkhmgompajdaaaW18

import Derived.Test.YtmkhmgompajdaaaW19

namespace Go.Proofs.Ytmkhmgompajdaaa
open Go.ChangeShapes Go.WideShapes Go.ChangeAt Go.RowKit Go.Deep
set_option linter.unusedVariables false
set_option linter.unusedSimpArgs false

set_option maxHeartbeats 3200000 in
set_option maxRecDepth 20000 in
theorem walk_FnExactBoxesOk {H : Type} {enc0 : TypeId × Value → H} {base : Nat} {d0 : DataW H} {p0 : List MemPlace} (v0 : Value) (w : World) (o0 : Value.okWide Try.prog w .any base 33 v0) (k0 : DataW.Trod enc0 Try.prog w 0 (fun _ => true) true 33 v0 d0 p0) (hS : w.ShapedOpen Try.prog) :
    Calls Try.prog 4 #[v0] w fun e w' => e = .returned (.bool true) ∧ Below w.heap.size w w' := by
  obtain ⟨A0, n0, c0, rs0, rfl, h0, hn0, hi0⟩ := open_BoxS o0 k0
  obtain ⟨ys0, hy0⟩ : ∃ ys, rs0.map Prod.fst = ys := ⟨_, rfl⟩
  have hlen0 : n0 = ys0.length := by rw [← hy0, List.length_map]; exact h0.1.symm
  subst hlen0
  clear o0 k0
  have nM := ML.of_shaped hS
  clear hS
  obtain ⟨R, hR⟩ : ∃ R, boxesOk ys0 = R := ⟨_, rfl⟩
  have HR := Lib.hid hR
  clear hR
  have HH0 := Lib.hid h0
  have HI0 := Lib.hid hi0
  have HY0 := Lib.hid hy0
  clear h0 hi0 hy0
  have HM := Lib.hid nM
  clear nM
  go_enter Try.func4, Try.ntmps4
  go_wp2_with fail
  have HB0 := Lib.hid (Below.refl w.heap.size w)
  refine (laws_szBoxS A0 ys0.length c0 rs0 1048576 w (by omega) (by omega) hn0 (HH0.out.below HB0.out) (fun p hp => (HI0.out p hp).below HB0.out)).mono ?_
  rintro e z0 ⟨⟨v0, rfl, hv01, hv02, hfit0⟩, hb⟩
  have HB1 := Lib.hid (HB0.out.trans (hb.mono HB0.out.size))
  clear hb
  by_cases hneg0 : v0 < 0
  · clear hfit0
    go_wp2
    go_ret
    exact ⟨rfl, HB1.out⟩
  have hf0 := hfit0 (by omega)
  have hl0 := hf0.1
  have HF0 := Lib.hid hf0.2
  clear hf0 hfit0
  go_wp2_with fail
  refine (laws_toBoxS' A0 ys0.length c0 rs0 ys0 z0 hl0 (HH0.out.below HB1.out) (fun p hp => (HI0.out p hp).below HB1.out) HF0.out HY0.out).mono ?_
  rintro e us0 ⟨As0, cs0, rss0, rfl, hm, ho, hi, hb⟩
  have Rs0 := Lib.hid (Rd.of_own (enc := encBox) (k := 4) (fun _ => rfl) ho (by rw [← hm, List.length_map]))
  have Is0 := Lib.hid (show ∀ p ∈ rss0, BoxIs us0 p.1 p.2 from fun p hp => (hi p hp).is)
  have Fs0 := Lib.hid (fit_of HF0.out HY0.out hm)
  have Ms0 := Lib.hid hm
  have hcaps0 := own_cap ho
  have HB2 := Lib.hid (HB1.out.trans (hb.mono HB1.out.size))
  have HKs0 := Lib.hid (Below.refl us0.heap.size us0)
  clear hb ho hi hm
  go_wp2_with fail
  have HC := spec_BoxesOk As0 ys0.length cs0 rss0 us0 hl0 hcaps0 (Rs0.out.below HKs0.out) (fun p hp => (Is0.out p hp).below HKs0.out) Fs0.out
  rw [Ms0.out, HR.out] at HC
  have HC2 := Lib.hid HC
  clear HC
  refine HC2.out.mono ?_
  rintro e s9 ⟨rfl, hb0⟩
  clear HC2
  have hb : Below us0.heap.size us0 s9 := hb0
  clear hb0
  have HKs0' := Lib.hid (HKs0.out.trans (hb.mono HKs0.out.size))
  clear HKs0
  have HKs0 := HKs0'
  clear HKs0'
  have HB3 := Lib.hid (HB2.out.trans (hb.mono HB2.out.size))
  clear hb
  go_wp2_with fail
  refine (laws_toBoxS' A0 ys0.length c0 rs0 ys0 s9 hl0 (HH0.out.below HB3.out) (fun p hp => (HI0.out p hp).below HB3.out) HF0.out HY0.out).mono ?_
  rintro e ux0 ⟨Ax0, cx0, rsx0, rfl, hm, ho, hi, hb⟩
  have Rx0 := Lib.hid (Rd.of_own (enc := encBox) (k := 4) (fun _ => rfl) ho (by rw [← hm, List.length_map]))
  have Ix0 := Lib.hid (show ∀ p ∈ rsx0, BoxIs ux0 p.1 p.2 from fun p hp => (hi p hp).is)
  have Fx0 := Lib.hid (fit_of HF0.out HY0.out hm)
  have Mx0 := Lib.hid hm
  have hcapx0 := own_cap ho
  have HB4 := Lib.hid (HB3.out.trans (hb.mono HB3.out.size))
  have HKx0 := Lib.hid (Below.refl ux0.heap.size ux0)
  clear hb ho hi hm
  go_wp2_with fail
  have HC := impl_BoxesOk Ax0 ys0.length cx0 rsx0 ux0 hl0 (Rx0.out.below HKx0.out) (fun p hp => (Ix0.out p hp).below HKx0.out) Fx0.out (HM.out.below HB4.out)
  rw [Mx0.out, HR.out] at HC
  have HC2 := Lib.hid HC
  clear HC
  refine HC2.out.mono ?_
  rintro e x9 ⟨rfl, hb0⟩
  clear HC2
  have hb : Below ux0.heap.size ux0 x9 := hb0
  clear hb0
  have HKx0' := Lib.hid (HKx0.out.trans (hb.mono HKx0.out.size))
  clear HKx0
  have HKx0 := HKx0'
  clear HKx0'
  have HB5 := Lib.hid (HB4.out.trans (hb.mono HB4.out.size))
  clear hb
  go_wp2_with fail
  refine (laws_toBoxS' A0 ys0.length c0 rs0 ys0 x9 hl0 (HH0.out.below HB5.out) (fun p hp => (HI0.out p hp).below HB5.out) HF0.out HY0.out).mono ?_
  rintro e ue0 ⟨Ae0, ce0, rse0, rfl, hm, ho, hi, hb⟩
  have Re0 := Lib.hid (Rd.of_own (enc := encBox) (k := 4) (fun _ => rfl) ho (by rw [← hm, List.length_map]))
  have Ie0 := Lib.hid (show ∀ p ∈ rse0, BoxIs ue0 p.1 p.2 from fun p hp => (hi p hp).is)
  have Me0 := Lib.hid hm
  have HKx0' := Lib.hid (HKx0.out.trans (hb.mono HKx0.out.size))
  clear HKx0
  have HKx0 := HKx0'
  clear HKx0'
  have HB6 := Lib.hid (HB5.out.trans (hb.mono HB5.out.size))
  clear hb ho hi hm
  have HC := Lib.hid (laws_eqBoxS Ax0 Ae0 ys0.length cx0 ce0 rsx0 rse0 ue0 (by omega) (Rx0.out.below HKx0.out) Re0.out (fun p hp => (Ix0.out p hp).below HKx0.out) Ie0.out Fx0.out (Mx0.out.trans Me0.out.symm))
  go_wp2_with fail
  refine HC.out.mono ?_
  rintro e q0 ⟨rfl, hb⟩
  clear HC
  have HKx0' := Lib.hid (HKx0.out.trans (hb.mono HKx0.out.size))
  clear HKx0
  have HKx0 := HKx0'
  clear HKx0'
  have HB7 := Lib.hid (HB6.out.trans (hb.mono HB6.out.size))
  clear hb
  go_wp2
  go_ret
  exact ⟨rfl, HB7.out⟩

end Go.Proofs.Ytmkhmgompajdaaa
