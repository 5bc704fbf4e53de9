/-
  Walks: what each function returns, and that it leaves what lay in memory as it was.
-/
import Derived.Test.YtgdebejmcfcpgaaProg
import Derived.Test.YtgdebejmcfcpgaaPlain
import Derived.Test.YtgdebejmcfcpgaaBase2
import Derived.Test.YtgdebejmcfcpgaaOpen2
import Derived.Test.YtgdebejmcfcpgaaShelf
import Derived.WalkKit
import Derived.WalkSpells
import Derived.WalkLawsBesides
import Derived.Lib.Hide
import Derived.Deep.LoopGhost
import Derived.Deep.QuietTactic
import Derived.BigQuiet
import Derived.Handy
import Derived.Deep.RegionHeld3
import Derived.StillTailTactics
import Derived.OpenShut
import Derived.ChangeSame
import Derived.Laws.StructEq

import Derived.Test.YtgdebejmcfcpgaaPlainT

import Derived.Test.YtgdebejmcfcpgaaW1

import Derived.Test.YtgdebejmcfcpgaaW2

namespace Go.Proofs.Ytgdebejmcfcpgaa
open Go.ChangeShapes Go.WideShapes Go.ChangeAt Go.RowKit Go.Deep
set_option linter.unusedVariables false
set_option linter.unusedSimpArgs false

set_option maxHeartbeats 1600000 in
theorem spec_l5Bits (w0 : World) (g : Nat) (w : World) (hc : Cur w0 g w) :
    Calls Try.prog 26 #[.pointer (some ⟨g, 0, none⟩)] w fun e w' => (∃ x : Int, (-9223372036854775808 ≤ x ∧ x ≤ 9223372036854775807) ∧ e = .returned (.int .i64 x)) ∧ Cur w0 g w' ∧ Below w0.heap.size w0 w' := by
  have C1 := Lib.hid (spec_l1Once 12 w0 g w hc (by omega) (by omega))
  clear hc
  go_enter Try.func26, Try.ntmps26
  go_wp2_with fail
  refine C1.out.mono ?_
  rintro e w1 ⟨⟨b, rfl⟩, hc1, _⟩
  have hc1 := Lib.hid hc1
  cases b with
  | false =>
    go_wp2_with fail
    refine (spec_l1Below 32 w0 g _ hc1.out (by omega) (by omega)).mono ?_
    rintro e w2 ⟨⟨m, hm, _, rfl⟩, hc2, hg2⟩
    have hc2 := Lib.hid hc2
    go_wp2_with fail
    go_ret
    exact ⟨⟨_, ⟨by omega, by omega⟩, rfl⟩, hc2.out, hc2.out.bel⟩
  | true =>
    go_wp2_with fail
    refine (spec_l1PickInt (fun x => -9223372036854775808 ≤ x ∧ x ≤ 9223372036854775807) _ 5 5 w0 g _ (hc1.out.below (by go_grown)) (by omega) (by omega) (by have := hc1.out.lt; omega) _ (Holds.new _ _ _) rfl ?_).mono ?_
    · intro v hv
      simp at hv
      rcases hv with rfl | rfl | rfl | rfl | rfl <;> exact ⟨_, by omega, rfl⟩
    rintro e w2 ⟨⟨m, hm, rfl⟩, hc2, hg2⟩
    have hc2 := Lib.hid hc2
    go_wp2_with fail
    go_ret
    exact ⟨⟨_, hm, rfl⟩, hc2.out, hc2.out.bel⟩
set_option maxHeartbeats 1600000 in
theorem spec_DrawChanged (A : Option Addr) (n c : Nat) (xs : List UInt8) (w : World) (hn : n ≤ 1048576) (hx : Rd encB 1 w A n xs) :
    Calls Try.prog 13 #[.slice A n c] w fun e w' => (∃ x y z : Int, (-1 ≤ x ∧ x ≤ 5) ∧ (-9223372036854775808 ≤ y ∧ y ≤ 9223372036854775807) ∧ (-9223372036854775808 ≤ z ∧ z ≤ 9223372036854775807) ∧ e = .returned (.tuple #[.int .i64 x, .int .i64 y, .int .i64 z])) ∧ Below w.heap.size w w' := by
  have C1 := Lib.hid (spec_l1New A n c xs w hn hx)
  clear hx
  go_enter Try.func13, Try.ntmps13
  go_wp2_with fail
  refine C1.out.mono ?_
  rintro e w1 ⟨rfl, hc1, _⟩
  have hc1 := Lib.hid hc1
  obtain ⟨g, hg⟩ : ∃ g, w.heap.size = g := ⟨_, rfl⟩
  rw [hg] at hc1 ⊢
  go_wp2_with fail
  refine (spec_l1Below 6 w g _ hc1.out (by omega) (by omega)).mono ?_
  rintro e w2 ⟨⟨m, hm, _, rfl⟩, hc2, hg2⟩
  have hc2 := Lib.hid hc2
  go_wp2_with fail
  refine (spec_l5Bits w g _ hc2.out).mono ?_
  rintro e w3 ⟨⟨y, hy, rfl⟩, hc3, _⟩
  have hc3 := Lib.hid hc3
  go_wp2_with fail
  refine (spec_l5Bits w g _ hc3.out).mono ?_
  rintro e w4 ⟨⟨z, hz, rfl⟩, hc4, hb4⟩
  have hc4 := Lib.hid hc4
  have hb4 := Lib.hid hb4
  go_wp2_with fail
  go_ret3
  exact ⟨⟨_, y, z, ⟨by omega, by omega⟩, hy, hz, rfl⟩, hg ▸ hb4.out⟩

end Go.Proofs.Ytgdebejmcfcpgaa
