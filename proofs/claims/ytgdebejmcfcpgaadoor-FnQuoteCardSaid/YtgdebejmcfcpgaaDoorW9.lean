/-
  Walks: what each function returns, and that it leaves what lay in memory as it was.
-/
import Derived.Test.YtgdebejmcfcpgaaDoorProg
import Derived.Test.YtgdebejmcfcpgaaDoorPlain
import Derived.Test.YtgdebejmcfcpgaaDoorBase2
import Derived.Test.YtgdebejmcfcpgaaDoorOpen2
import Derived.Test.YtgdebejmcfcpgaaDoorShelf
import Derived.WalkKit
import Derived.WalkSpells
import Derived.WalkLawsBesides
import Derived.Lib.Hide
import Derived.Deep.LoopGhost
import Derived.Deep.QuietTactic
import Derived.BigQuiet
import Derived.Handy
import Derived.Deep.RegionHeld3
import Derived.StillTailTactics
import Derived.OpenShut
import Derived.ChangeSame
import Derived.Laws.StructEq

import Derived.Test.YtgdebejmcfcpgaaDoorPlainT

import Derived.Test.YtgdebejmcfcpgaaDoorW1

import Derived.Test.YtgdebejmcfcpgaaDoorW2

import Derived.Test.YtgdebejmcfcpgaaDoorW3

namespace Go.Proofs.YtgdebejmcfcpgaaDoor
open Go.ChangeShapes Go.WideShapes Go.ChangeAt Go.RowKit Go.Deep
set_option linter.unusedVariables false
set_option linter.unusedSimpArgs false

set_option maxRecDepth 20000

set_option maxHeartbeats 1600000 in
theorem spec_l2Name (w0 : World) (g : Nat) (w : World) (hc : Cur w0 g w) :
    Calls Tryd.prog 60 #[.pointer (some ⟨g, 0, none⟩)] w fun e w' => (∃ s : ByteArray, s.size ≤ 100 ∧ e = .returned (.string s)) ∧ Cur w0 g w' ∧ Below w0.heap.size w0 w' := by
  have hc1 := Lib.hid hc
  clear hc
  go_enter Tryd.func60, Tryd.ntmps60
  go_wp2_with fail
  refine (spec_l1Pick (fun s => s.size ≤ 100) _ 7 7 w0 g _ (hc1.out.below (by go_grown)) (by omega) (by omega) (by have := hc1.out.lt; omega) _ (Holds.new _ _ _) rfl ?_).mono ?_
  · intro v hv
    simp at hv
    rcases hv with rfl | rfl | rfl | rfl | rfl | rfl | rfl <;> exact ⟨_, by decide, rfl⟩
  rintro e w3 ⟨⟨s, hs, rfl⟩, hc3, _⟩
  have hc3 := Lib.hid hc3
  go_wp2_with fail
  go_ret
  exact ⟨⟨s, hs, rfl⟩, hc3.out, hc3.out.bel⟩
set_option maxHeartbeats 3200000 in
theorem spec_l2Any (w0 : World) (g : Nat) (w : World) (hc : Cur w0 g w) :
    Calls Tryd.prog 40 #[.pointer (some ⟨g, 0, none⟩)] w fun e w' => (∃ s : ByteArray, s.size ≤ 100 ∧ e = .returned (.string s)) ∧ Cur w0 g w' ∧ Below w0.heap.size w0 w' := by
  have C1 := Lib.hid (spec_l1Below 4 w0 g w hc (by omega) (by omega))
  clear hc
  go_enter Tryd.func40, Tryd.ntmps40
  go_wp2_with fail
  refine C1.out.mono ?_
  rintro e w1 ⟨⟨m, hm, _, rfl⟩, hc1, _⟩
  have hc1 := Lib.hid hc1
  by_cases h0 : m = 0
  · subst h0
    go_wp2_with fail
    refine (spec_l1Pick (fun s => s.size ≤ 100) _ 17 17 w0 g _ (hc1.out.below (by go_grown)) (by omega) (by omega) (by have := hc1.out.lt; omega) _ (Holds.new _ _ _) rfl ?_).mono ?_
    · intro v hv
      simp only [List.mem_cons, List.not_mem_nil, or_false] at hv
      rcases hv with rfl | rfl | rfl | rfl | rfl | rfl | rfl | rfl | rfl | rfl | rfl | rfl | rfl | rfl | rfl | rfl | rfl <;> exact ⟨_, by decide, rfl⟩
    rintro e w3 ⟨⟨s, hs, rfl⟩, hc3, _⟩
    have hc3 := Lib.hid hc3
    go_wp2_with fail
    go_ret
    exact ⟨⟨s, hs, rfl⟩, hc3.out, hc3.out.bel⟩
  · by_cases h1 : m = 1
    · subst h1
      go_wp2_with fail
      refine (spec_l1Below 4 w0 g _ hc1.out (by omega) (by omega)).mono ?_
      rintro e w3 ⟨⟨k, hk, _, rfl⟩, hc3, hg3⟩
      have hc3 := Lib.hid hc3
      clear hg3
      go_wp2_with fail
      refine (spec_l1Bytes k w0 g _ hc3.out (by omega)).mono ?_
      rintro e w4 ⟨⟨A4, c4, l, hl, rfl, ho⟩, hc4, _⟩
      have hc4 := Lib.hid hc4
      have hrd := Rd.of_own (enc := encB) (k := 1) (fun _ => rfl) ho rfl
      have HR := Lib.hid (fun (c : Nat) => run_ofBytes (P := Tryd.prog) 22 9 5 Tryd.underlying22 Tryd.underlying5 Tryd.underlying9 hrd c)
      have HLL := Lib.hid hl
      clear hrd ho hl
      obtain ⟨Z, hZ⟩ : ∃ Z : ByteArray, (⟨l.toArray⟩ : ByteArray) = Z := ⟨_, rfl⟩
      rw [hZ] at HR
      have HZ := Lib.hid hZ
      clear hZ
      have hr := HR.out c4
      go_wp2_with fail
      go_ret
      refine ⟨⟨Z, ?_, rfl⟩, hc4.out, hc4.out.bel⟩
      rw [← HZ.out, size_len]
      simp only [List.toList_toArray]
      have := HLL.out
      omega
    · go_wp2_with fail
      refine (spec_l2Name w0 g _ hc1.out).mono ?_
      rintro e w2 ⟨⟨x, hx, rfl⟩, hc2, _⟩
      have hc2 := Lib.hid hc2
      go_wp2_with fail
      go_ret
      exact ⟨⟨_, hx, rfl⟩, hc2.out, hc2.out.bel⟩
theorem spec_DrawQuote (A : Option Addr) (n c : Nat) (xs : List UInt8) (w : World) (hn : n ≤ 1048576) (hx : Rd encB 1 w A n xs) :
    Calls Tryd.prog 21 #[.slice A n c] w fun e w' => (∃ s : ByteArray, s.size ≤ 100 ∧ e = .returned (.string s)) ∧ Below w.heap.size w w' := by
  have C1 := Lib.hid (spec_l1New A n c xs w hn hx)
  clear hx
  go_enter Tryd.func21, Tryd.ntmps21
  go_wp2_with fail
  refine C1.out.mono ?_
  rintro e w1 ⟨rfl, hc1, _⟩
  have hc1 := Lib.hid hc1
  obtain ⟨g, hg⟩ : ∃ g, w.heap.size = g := ⟨_, rfl⟩
  rw [hg] at hc1 ⊢
  go_wp2_with fail
  refine (spec_l2Any w g _ hc1.out).mono ?_
  rintro e w3 ⟨⟨x, hx, rfl⟩, _, hb⟩
  have hb := Lib.hid hb
  go_wp2_with fail
  go_ret
  exact ⟨⟨x, hx, rfl⟩, hg ▸ hb.out⟩
set_option maxHeartbeats 1600000 in
theorem spec_DrawUnder (A : Option Addr) (n c : Nat) (xs : List UInt8) (w : World) (hn : n ≤ 1048576) (hx : Rd encB 1 w A n xs) :
    Calls Tryd.prog 13 #[.slice A n c] w fun e w' => (∃ s t : ByteArray, s.size ≤ 100 ∧ t.size ≤ 100 ∧ e = .returned (.tuple #[.string s, .string t])) ∧ Below w.heap.size w w' := by
  have C1 := Lib.hid (spec_l1New A n c xs w hn hx)
  clear hx
  go_enter Tryd.func13, Tryd.ntmps13
  go_wp2_with fail
  refine C1.out.mono ?_
  rintro e w1 ⟨rfl, hc1, _⟩
  have hc1 := Lib.hid hc1
  obtain ⟨g, hg⟩ : ∃ g, w.heap.size = g := ⟨_, rfl⟩
  rw [hg] at hc1 ⊢
  go_wp2_with fail
  refine (spec_l2Any w g _ hc1.out).mono ?_
  rintro e w3 ⟨⟨x, hx, rfl⟩, hc3, _⟩
  have hc3 := Lib.hid hc3
  go_wp2_with fail
  refine (spec_l2Any w g _ hc3.out).mono ?_
  rintro e w4 ⟨⟨y, hy, rfl⟩, _, hb⟩
  have hb := Lib.hid hb
  go_wp2_with fail
  go_ret2
  exact ⟨⟨x, y, hx, hy, rfl⟩, hg ▸ hb.out⟩
theorem laws_tail (A : Option Addr) (n c : Nat) (xs : List UInt8) (w : World) (hn : n ≤ 1048576) (hcap : n ≤ c) (hx : Rd encB 1 w A n xs) :
    Calls Tryd.prog 14 #[.slice A n c] w fun e w' => (∃ (A' : Option Addr) (n' : Nat), n' ≤ 1048576 ∧ (∃ ys, Rd encB 1 w A' n' ys) ∧ ∃ c', e = .returned (.slice A' n' c')) ∧ w = w' := by
  by_cases h0 : n = 0
  · subst h0
    have H := Lib.hid hx
    clear hx
    go_enter Tryd.func14, Tryd.ntmps14
    go_wp2
    go_ret
    exact ⟨⟨_, _, by omega, ⟨_, H.out⟩, ⟨_, rfl⟩⟩, rfl⟩
  · obtain ⟨b, off, rfl, hb, hc⟩ := hx.2 (by omega)
    have hl := hx.1
    have H : Rd encB 1 w (some ⟨b, off + 1, none⟩) (n - 1) (xs.drop 1) := by
      refine ⟨by simp; omega, fun _ => ⟨b, off + 1, rfl, hb, fun j x hj i v hv => ?_⟩⟩
      have h1 : xs[j + 1]? = some x := by rw [List.getElem?_drop] at hj; rw [← hj, Nat.add_comm]
      have := hc (j + 1) x h1 i v hv
      rw [← this]
      congr 2
      omega
    have H := Lib.hid H
    clear hx hc hl
    by_cases hc1 : c = 1
    · subst hc1
      obtain rfl : n = 1 := by omega
      clear H
      go_enter Tryd.func14, Tryd.ntmps14
      go_wp2
      go_ret
      exact ⟨⟨_, 0, by omega, ⟨_, Rd.none_ _ _ _ _⟩, ⟨_, rfl⟩⟩, rfl⟩
    · go_enter Tryd.func14, Tryd.ntmps14
      go_wp2
      go_ret
      exact ⟨⟨_, _, by omega, ⟨_, H.out⟩, ⟨_, rfl⟩⟩, rfl⟩

end Go.Proofs.YtgdebejmcfcpgaaDoor
