/-
  Walks: what each function returns, and that it leaves what lay in memory as it was.
-/
import Derived.Test.YtgdebejmcfcpgaaDoorProg
import Derived.Test.YtgdebejmcfcpgaaDoorPlain
import Derived.Test.YtgdebejmcfcpgaaDoorBase2
import Derived.Test.YtgdebejmcfcpgaaDoorOpen2
import Derived.Test.YtgdebejmcfcpgaaDoorShelf
import Derived.WalkKit
import Derived.WalkSpells
import Derived.WalkLawsBesides
import Derived.Lib.Hide
import Derived.Deep.LoopGhost
import Derived.Deep.QuietTactic
import Derived.BigQuiet
import Derived.Handy
import Derived.Deep.RegionHeld3
import Derived.StillTailTactics
import Derived.OpenShut
import Derived.ChangeSame
import Derived.Laws.StructEq

import Derived.Test.YtgdebejmcfcpgaaDoorPlainT

import Derived.Test.YtgdebejmcfcpgaaDoorW1

import Derived.Test.YtgdebejmcfcpgaaDoorW2

import Derived.Test.YtgdebejmcfcpgaaDoorW3

import Derived.Test.YtgdebejmcfcpgaaDoorW5

import Derived.Test.YtgdebejmcfcpgaaDoorBase3

import Derived.Lib.ItoaMem
import Derived.Lib.ItoaLen
import Derived.Lib.LaidTab

namespace Go.Proofs.YtgdebejmcfcpgaaDoor
open Go.ChangeShapes Go.WideShapes Go.ChangeAt Go.RowKit Go.Deep
set_option linter.unusedVariables false
set_option linter.unusedSimpArgs false

set_option maxRecDepth 20000

set_option maxHeartbeats 1600000 in
theorem spec_l1Whole (w0 : World) (g : Nat) (w : World) (hc : Cur w0 g w) :
    Calls Tryd.prog 50 #[.pointer (some ⟨g, 0, none⟩)] w fun e w' => (∃ x : Int, (-9223372036854775808 ≤ x ∧ x ≤ 9223372036854775807) ∧ e = .returned (.int .i64 x)) ∧ Cur w0 g w' ∧ Below w0.heap.size w0 w' := by
  have C1 := Lib.hid (spec_l1Below 3 w0 g w hc (by omega) (by omega))
  clear hc
  go_enter Tryd.func50, Tryd.ntmps50
  go_wp2_with fail
  refine C1.out.mono ?_
  rintro e w1 ⟨⟨m, hm, _, rfl⟩, hc1, _⟩
  have hc1 := Lib.hid hc1
  by_cases h0 : m = 0
  · subst h0
    go_wp2_with fail
    refine (spec_l1PickInt (fun x => -9223372036854775808 ≤ x ∧ x ≤ 9223372036854775807) _ 9 9 w0 g _ (hc1.out.below (by go_grown)) (by omega) (by omega) (by have := hc1.out.lt; omega) _ (Holds.new _ _ _) rfl ?_).mono ?_
    · intro v hv
      simp at hv
      rcases hv with rfl | rfl | rfl | rfl | rfl | rfl | rfl | rfl | rfl <;> exact ⟨_, by omega, rfl⟩
    rintro e w2 ⟨⟨x, hx, rfl⟩, hc2, hg2⟩
    have hc2 := Lib.hid hc2
    go_wp2_with fail
    go_ret
    exact ⟨⟨_, hx, rfl⟩, hc2.out, hc2.out.bel⟩
  · by_cases h1 : m = 1
    · subst h1
      go_wp2_with fail
      refine (spec_l1Below 1000000 w0 g _ hc1.out (by omega) (by omega)).mono ?_
      rintro e w2 ⟨⟨x, hx, _, rfl⟩, hc2, hg2⟩
      have hc2 := Lib.hid hc2
      go_wp2_with fail
      go_ret
      exact ⟨⟨_, ⟨by omega, by omega⟩, rfl⟩, hc2.out, hc2.out.bel⟩
    · go_wp2_with fail
      refine (spec_l1Below 20 w0 g _ hc1.out (by omega) (by omega)).mono ?_
      rintro e w2 ⟨⟨x, hx, _, rfl⟩, hc2, hg2⟩
      have hc2 := Lib.hid hc2
      go_wp2_with fail
      go_ret
      exact ⟨⟨_, ⟨by omega, by omega⟩, rfl⟩, hc2.out, hc2.out.bel⟩
theorem spec_DrawDigits (A : Option Addr) (n c : Nat) (xs : List UInt8) (w : World) (hn : n ≤ 1048576) (hx : Rd encB 1 w A n xs) :
    Calls Tryd.prog 27 #[.slice A n c] w fun e w' => (∃ x : Int, (-9223372036854775808 ≤ x ∧ x ≤ 9223372036854775807) ∧ e = .returned (.int .i64 x)) ∧ Below w.heap.size w w' := by
  have C1 := Lib.hid (spec_l1New A n c xs w hn hx)
  clear hx
  go_enter Tryd.func27, Tryd.ntmps27
  go_wp2_with fail
  refine C1.out.mono ?_
  rintro e w1 ⟨rfl, hc1, _⟩
  have hc1 := Lib.hid hc1
  obtain ⟨g, hg⟩ : ∃ g, w.heap.size = g := ⟨_, rfl⟩
  rw [hg] at hc1 ⊢
  go_wp2_with fail
  refine (spec_l1Whole w g _ hc1.out).mono ?_
  rintro e w3 ⟨⟨x, hx, rfl⟩, _, hb⟩
  have hb := Lib.hid hb
  go_wp2_with fail
  go_ret
  exact ⟨⟨x, hx, rfl⟩, hg ▸ hb.out⟩
set_option maxHeartbeats 1600000 in
theorem spec_DrawNumber (A : Option Addr) (n c : Nat) (xs : List UInt8) (w : World) (hn : n ≤ 1048576) (hx : Rd encB 1 w A n xs) :
    Calls Tryd.prog 30 #[.slice A n c] w fun e w' => (∃ s : ByteArray, s.size ≤ 100 ∧ e = .returned (.string s)) ∧ Below w.heap.size w w' := by
  have C1 := Lib.hid (spec_l1New A n c xs w hn hx)
  clear hx
  go_enter Tryd.func30, Tryd.ntmps30
  go_wp2_with fail
  refine C1.out.mono ?_
  rintro e w1 ⟨rfl, hc1, _⟩
  have hc1 := Lib.hid hc1
  obtain ⟨g, hg⟩ : ∃ g, w.heap.size = g := ⟨_, rfl⟩
  rw [hg] at hc1 ⊢
  go_wp2_with fail
  refine (spec_l1Once 2 w g _ hc1.out (by omega) (by omega)).mono ?_
  rintro e w2 ⟨⟨b, rfl⟩, hc2, _⟩
  have hc2 := Lib.hid hc2
  cases b with
  | true =>
    go_wp2_with fail
    refine (spec_l1Whole w g _ hc2.out).mono ?_
    rintro e w3 ⟨⟨x, hx, rfl⟩, hc3, _⟩
    have hc3 := Lib.hid hc3
    go_wp2_with fail
    refine (spec_Digits x _ hx.1 hx.2).mono ?_
    rintro e w4 ⟨rfl, hb4⟩
    have hc4 := Lib.hid (hc3.out.below hb4).bel
    obtain ⟨Z, hZ⟩ : ∃ Z : ByteArray, (⟨(Lib.itoa x).toArray⟩ : ByteArray) = Z := ⟨_, rfl⟩
    have HZ := Lib.hid (show Z.size ≤ 100 by
      have h := Lib.itoa_length_le x hx.1 hx.2
      rw [← hZ, size_len]; simp only [List.toList_toArray]; omega)
    rw [hZ]
    clear hZ
    go_wp2_with fail
    go_ret
    exact ⟨⟨Z, HZ.out, rfl⟩, hg ▸ hc4.out⟩
  | false =>
    go_wp2_with fail
    refine (spec_l1Pick (fun s => s.size ≤ 100) _ 12 12 w g _ (hc2.out.below (by go_grown)) (by omega) (by omega) (by have := hc2.out.lt; omega) _ (Holds.new _ _ _) rfl ?_).mono ?_
    · intro v hv
      simp at hv
      rcases hv with rfl | rfl | rfl | rfl | rfl | rfl | rfl | rfl | rfl | rfl | rfl | rfl <;> exact ⟨_, by decide, rfl⟩
    rintro e w3 ⟨⟨s, hs, rfl⟩, hc3, _⟩
    have hb3 := Lib.hid hc3.bel
    clear hc3
    go_wp2_with fail
    go_ret
    exact ⟨⟨s, hs, rfl⟩, hg ▸ hb3.out⟩

end Go.Proofs.YtgdebejmcfcpgaaDoor
