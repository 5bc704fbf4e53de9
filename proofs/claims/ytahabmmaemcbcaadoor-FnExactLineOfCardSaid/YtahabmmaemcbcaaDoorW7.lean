/-
  Walks: what each function returns, and that it leaves what lay in memory as it was.
-/
import Derived.Test.YtahabmmaemcbcaaDoorProg
import Derived.Test.YtahabmmaemcbcaaDoorPlain
import Derived.Test.YtahabmmaemcbcaaDoorBase2
import Derived.Test.YtahabmmaemcbcaaDoorOpen2
import Derived.Test.YtahabmmaemcbcaaDoorShelf
import Derived.WalkKit
import Derived.WalkSpells
import Derived.WalkLawsBesides
import Derived.Lib.Hide
import Derived.Deep.LoopGhost
import Derived.Deep.QuietTactic
import Derived.BigQuiet
import Derived.Handy
import Derived.Deep.RegionHeld3
import Derived.StillTailTactics
import Derived.OpenShut
import Derived.ChangeSame
import Derived.Laws.StructEq

import Derived.Test.YtahabmmaemcbcaaDoorPlainT

import Derived.Test.YtahabmmaemcbcaaDoorW1

import Derived.Test.YtahabmmaemcbcaaDoorW2

import Derived.Test.YtahabmmaemcbcaaDoorW3

import Derived.Test.YtahabmmaemcbcaaDoorW4

import Derived.Test.YtahabmmaemcbcaaDoorW5

import Derived.Test.YtahabmmaemcbcaaDoorW6

import Derived.Lib.Builder
import Derived.Lib.AppendStr
import Derived.Lib.UnsafeStr
import Derived.Laws.Externs

import Derived.Lib.ItoaMem
import Derived.Lib.ItoaLen
import Derived.Lib.LaidTab

import Derived.Test.YtahabmmaemcbcaaDoorBase3

namespace Go.Proofs.YtahabmmaemcbcaaDoor
open Go.ChangeShapes Go.WideShapes Go.ChangeAt Go.RowKit Go.Deep
set_option linter.unusedVariables false
set_option linter.unusedSimpArgs false

set_option maxRecDepth 20000

set_option maxRecDepth 20000 in
theorem open_TokenS {H : Type} {enc0 : TypeId × Value → H} {w : World} {base b0 : Nat} {r : Reach} {spare : Nat → Bool} {held : Bool} {v : Value} {d : DataW H} {p : List MemPlace}
    (o : Value.okWide Tryd.prog w r b0 22 v) (h : DataW.Trod enc0 Tryd.prog w base spare held 22 v d p) :
    ∃ (A : Option Addr) (n c : Nat) (xs : List Token), v = .slice A n c ∧ Rd encToken 2 w A n xs ∧ n ≤ 9223372036854775807 ∧ ∀ y ∈ xs, y.Big := by
  obtain ⟨A, n, c, xs, rfl, h, hc, hm, hN⟩ := open_rd encToken (fun y => y.Big) 2 Tryd.underlying22 o h (by kernel_rfl) (by omega) (fun _ => rfl) (fun n cs x hx => dec_Token n cs x hx)
  exact ⟨A, n, c, xs, rfl, h, by unfold maxLen at hm; omega, hN⟩

set_option maxHeartbeats 3200000 in
set_option maxRecDepth 20000 in
theorem walk_FnExactLineOf {H : Type} {enc0 : TypeId × Value → H} {base : Nat} {d0 : DataW H} {p0 : List MemPlace} (v0 : Value) (w : World) (o0 : Value.okWide Tryd.prog w .any base 22 v0) (k0 : DataW.Trod enc0 Tryd.prog w 0 (fun _ => true) true 22 v0 d0 p0) (hS : w.ShapedOpen Tryd.prog) :
    Calls Tryd.prog 3 #[v0] w fun e w' => e = .returned (.bool true) ∧ Below w.heap.size w w' := by
  obtain ⟨A0, n0, c0, ys0, rfl, h0, hn0, hi0⟩ := open_TokenS o0 k0
  have hlen0 : n0 = ys0.length := h0.1.symm
  subst hlen0
  clear o0 k0
  have nM := ML.of_shaped hS
  clear hS
  obtain ⟨R, hR⟩ : ∃ R, (⟨(lineOf ys0).toArray⟩ : ByteArray) = R := ⟨_, rfl⟩
  have HR := Lib.hid hR
  clear hR
  have HH0 := Lib.hid h0
  have HI0 := Lib.hid hi0
  clear h0 hi0
  have HM := Lib.hid nM
  clear nM
  go_enter Tryd.func3, Tryd.ntmps3
  go_wp2_with fail
  have HB0 := Lib.hid (Below.refl w.heap.size w)
  refine (laws_szTokenS A0 ys0.length c0 ys0 1048576 w (by omega) (by omega) hn0 (HH0.out.below HB0.out) HI0.out).mono ?_
  rintro e z0 ⟨⟨v0, rfl, hv01, hv02, hfit0⟩, hb⟩
  have HB1 := Lib.hid (HB0.out.trans (hb.mono HB0.out.size))
  clear hb
  by_cases hneg0 : v0 < 0
  · clear hfit0
    go_wp2
    go_ret
    exact ⟨rfl, HB1.out⟩
  have hf0 := hfit0 (by omega)
  have hl0 := hf0.1
  have HF0 := Lib.hid hf0.2
  clear hf0 hfit0
  go_wp2_with fail
  refine (laws_toTokenS A0 ys0.length c0 ys0 z0 hl0 (HH0.out.below HB1.out)).mono ?_
  rintro e us0 ⟨As0, cs0, rfl, ho, hb⟩
  have Rs0 := Lib.hid (Rd.of_own (enc := encToken) (k := 2) (fun _ => rfl) ho rfl)
  have HB2 := Lib.hid (HB1.out.trans (hb.mono HB1.out.size))
  have HKs0 := Lib.hid (Below.refl us0.heap.size us0)
  clear hb ho
  go_wp2_with fail
  have HC := spec_LineOf As0 ys0.length cs0 ys0 us0 hl0 (Rs0.out.below HKs0.out) HF0.out
  rw [HR.out] at HC
  have HC2 := Lib.hid HC
  clear HC
  refine HC2.out.mono ?_
  rintro e s9 ⟨rfl, hb0⟩
  clear HC2
  have hb : Below us0.heap.size us0 s9 := hb0
  clear hb0
  have HKs0' := Lib.hid (HKs0.out.trans (hb.mono HKs0.out.size))
  clear HKs0
  have HKs0 := HKs0'
  clear HKs0'
  have HB3 := Lib.hid (HB2.out.trans (hb.mono HB2.out.size))
  clear hb
  go_wp2_with fail
  refine (laws_toTokenS A0 ys0.length c0 ys0 s9 hl0 (HH0.out.below HB3.out)).mono ?_
  rintro e ux0 ⟨Ax0, cx0, rfl, ho, hb⟩
  have Rx0 := Lib.hid (Rd.of_own (enc := encToken) (k := 2) (fun _ => rfl) ho rfl)
  have HB4 := Lib.hid (HB3.out.trans (hb.mono HB3.out.size))
  have HKx0 := Lib.hid (Below.refl ux0.heap.size ux0)
  clear hb ho
  go_wp2_with fail
  have HC := impl_LineOf Ax0 ys0.length cx0 ys0 ux0 hl0 (Rx0.out.below HKx0.out) HF0.out (HM.out.below HB4.out)
  rw [HR.out] at HC
  have HC2 := Lib.hid HC
  clear HC
  refine HC2.out.mono ?_
  rintro e x9 ⟨rfl, hb0⟩
  clear HC2
  have hb : Below ux0.heap.size ux0 x9 := hb0
  clear hb0
  have HKx0' := Lib.hid (HKx0.out.trans (hb.mono HKx0.out.size))
  clear HKx0
  have HKx0 := HKx0'
  clear HKx0'
  have HB5 := Lib.hid (HB4.out.trans (hb.mono HB4.out.size))
  clear hb
  go_wp2_with fail
  refine (laws_toTokenS A0 ys0.length c0 ys0 x9 hl0 (HH0.out.below HB5.out)).mono ?_
  rintro e ue0 ⟨Ae0, ce0, rfl, ho, hb⟩
  have Re0 := Lib.hid (Rd.of_own (enc := encToken) (k := 2) (fun _ => rfl) ho rfl)
  have HKx0' := Lib.hid (HKx0.out.trans (hb.mono HKx0.out.size))
  clear HKx0
  have HKx0 := HKx0'
  clear HKx0'
  have HB6 := Lib.hid (HB5.out.trans (hb.mono HB5.out.size))
  clear hb ho
  have HC := Lib.hid (laws_eqTokenS Ax0 Ae0 ys0.length cx0 ce0 ys0 ue0 (by omega) (Rx0.out.below HKx0.out) Re0.out)
  go_wp2_with fail
  refine HC.out.mono ?_
  rintro e q0 ⟨rfl, hb⟩
  clear HC
  have HKx0' := Lib.hid (HKx0.out.trans (hb.mono HKx0.out.size))
  clear HKx0
  have HKx0 := HKx0'
  clear HKx0'
  have HB7 := Lib.hid (HB6.out.trans (hb.mono HB6.out.size))
  clear hb
  go_wp2
  go_ret
  exact ⟨rfl, HB7.out⟩

end Go.Proofs.YtahabmmaemcbcaaDoor
