/-
  Walks: what each function returns, and that it leaves what lay in memory as it was.
-/
import Derived.Test.YtgdebejmcfcpgaaDoorProg
import Derived.Test.YtgdebejmcfcpgaaDoorPlain
import Derived.Test.YtgdebejmcfcpgaaDoorBase2
import Derived.Test.YtgdebejmcfcpgaaDoorOpen2
import Derived.Test.YtgdebejmcfcpgaaDoorShelf
import Derived.WalkKit
import Derived.WalkSpells
import Derived.WalkLawsBesides
import Derived.Lib.Hide
import Derived.Deep.LoopGhost
import Derived.Deep.QuietTactic
import Derived.BigQuiet
import Derived.Handy
import Derived.Deep.RegionHeld3
import Derived.StillTailTactics
import Derived.OpenShut
import Derived.ChangeSame
import Derived.Laws.StructEq

import Derived.Test.YtgdebejmcfcpgaaDoorPlainT

import Derived.Test.YtgdebejmcfcpgaaDoorW1

import Derived.Test.YtgdebejmcfcpgaaDoorW2

import Derived.Test.YtgdebejmcfcpgaaDoorW3

import Derived.Test.YtgdebejmcfcpgaaDoorW9

import Derived.Test.YtgdebejmcfcpgaaDoorW10

namespace Go.Proofs.YtgdebejmcfcpgaaDoor
open Go.ChangeShapes Go.WideShapes Go.ChangeAt Go.RowKit Go.Deep
set_option linter.unusedVariables false
set_option linter.unusedSimpArgs false

set_option maxRecDepth 20000

theorem quote_len (s : Str) : (quote s).length ≤ 2 * s.length + 2 := by
  unfold quote
  split
  · have := esc_len s
    simp; omega
  · simp
set_option maxHeartbeats 3200000 in
theorem spec_DrawUnquote (A : Option Addr) (n c : Nat) (xs : List UInt8) (w : World) (hn : n ≤ 1048576) (hx : Rd encB 1 w A n xs) :
    Calls Tryd.prog 25 #[.slice A n c] w fun e w' => (∃ (s : ByteArray) (x : Int), s.size ≤ 1000 ∧ (-9223372036854775808 ≤ x ∧ x ≤ 9223372036854775807) ∧ e = .returned (.tuple #[.string s, .int .i64 x])) ∧ Below w.heap.size w w' := by
  have C1 := Lib.hid (spec_l1New A n c xs w hn hx)
  clear hx
  go_enter Tryd.func25, Tryd.ntmps25
  go_wp2_with fail
  refine C1.out.mono ?_
  rintro e w1 ⟨rfl, hc1, _⟩
  have hc1 := Lib.hid hc1
  obtain ⟨g, hg⟩ : ∃ g, w.heap.size = g := ⟨_, rfl⟩
  rw [hg] at hc1 ⊢
  go_wp2_with fail
  refine (spec_l1Pick (fun s => s.size ≤ 100) _ 3 3 w g _ (hc1.out.below (by go_grown)) (by omega) (by omega) (by have := hc1.out.lt; omega) _ (Holds.new _ _ _) rfl ?_).mono ?_
  · intro v hv
    simp at hv
    rcases hv with rfl | rfl | rfl <;> exact ⟨_, by decide, rfl⟩
  rintro e w2 ⟨⟨h, hh, rfl⟩, hc2, _⟩
  have hc2 := Lib.hid hc2
  go_wp2_with fail
  refine (spec_l2Any w g _ hc2.out).mono ?_
  rintro e w3 ⟨⟨y, hy, rfl⟩, hc3, _⟩
  have hc3 := Lib.hid hc3
  go_wp2_with fail
  refine (spec_Quote y _ (by unfold maxLen; omega)).mono ?_
  rintro e w4 ⟨rfl, hb4⟩
  have hc4 := Lib.hid (hc3.out.below hb4)
  obtain ⟨Q, hQ⟩ : ∃ Q : ByteArray, (⟨(quote y.data.toList).toArray⟩ : ByteArray) = Q := ⟨_, rfl⟩
  have hQs : Q.size ≤ 202 := by
    have h1 := quote_len y.data.toList
    rw [← size_len] at h1
    rw [← hQ, size_len]; simp only [List.toList_toArray]; omega
  rw [hQ]
  clear hQ hb4
  go_wp2_with fail
  refine (spec_l1Turned Q _ 4 4 w g _ (by omega) (hc4.out.below (by go_grown)) (by omega) (by omega) (by have := hc4.out.lt; omega) _ (Holds.new _ _ _) rfl ?_).mono ?_
  · intro v hv
    simp at hv
    rcases hv with rfl | rfl | rfl | rfl <;> exact ⟨_, by decide, rfl⟩
  rintro e w5 ⟨⟨t, ht, rfl⟩, hc5, _⟩
  have hc5 := Lib.hid hc5
  go_wp2_with fail
  refine (spec_l1Pick (fun s => s.size ≤ 100) _ 2 2 w g _ (hc5.out.below (by go_grown)) (by omega) (by omega) (by have := hc5.out.lt; omega) _ (Holds.new _ _ _) rfl ?_).mono ?_
  · intro v hv
    simp at hv
    rcases hv with rfl | rfl <;> exact ⟨_, by decide, rfl⟩
  rintro e w6 ⟨⟨z, hz, rfl⟩, hc6, _⟩
  have hc6 := Lib.hid hc6
  obtain ⟨T, hT⟩ : ∃ T : ByteArray, h ++ t ++ z = T := ⟨_, rfl⟩
  have hTs : T.size ≤ 1000 := by
    have h1 := ba_size_app (h ++ t) z
    have h2 := ba_size_app h t
    rw [hT] at h1
    omega
  have HT := Lib.hid hT
  go_wp2_with fail
  refine (spec_l1PickInt (fun x => -9223372036854775808 ≤ x ∧ x ≤ 9223372036854775807) _ 7 7 w g _ (hc6.out.below (by go_grown)) (by omega) (by omega) (by have := hc6.out.lt; omega) _ (Holds.new _ _ _) rfl ?_).mono ?_
  · intro v hv
    simp only [List.mem_cons, List.not_mem_nil, or_false] at hv
    rcases hv with rfl | rfl | rfl | rfl | rfl | rfl | rfl <;> exact ⟨_, by omega, rfl⟩
  rintro e w7 ⟨⟨x, hx, rfl⟩, hc7, _⟩
  have hb7 := Lib.hid hc7.bel
  clear hc7
  go_wp2_with fail
  go_ret2
  exact ⟨⟨T, x, hTs, hx, rfl⟩, hg ▸ hb7.out⟩

end Go.Proofs.YtgdebejmcfcpgaaDoor
