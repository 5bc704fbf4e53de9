/-
  Walks: what each function returns, and that it leaves what lay in memory as it was.
-/
import Derived.Test.YtgdebejmcfcpgaaProg
import Derived.Test.YtgdebejmcfcpgaaPlain
import Derived.Test.YtgdebejmcfcpgaaBase2
import Derived.Test.YtgdebejmcfcpgaaOpen2
import Derived.Test.YtgdebejmcfcpgaaShelf
import Derived.WalkKit
import Derived.WalkSpells
import Derived.WalkLawsBesides
import Derived.Lib.Hide
import Derived.Deep.LoopGhost
import Derived.Deep.QuietTactic
import Derived.BigQuiet
import Derived.Handy
import Derived.Deep.RegionHeld3
import Derived.StillTailTactics
import Derived.OpenShut
import Derived.ChangeSame
import Derived.Laws.StructEq

import Derived.Test.YtgdebejmcfcpgaaPlainT

import Derived.Test.YtgdebejmcfcpgaaW1

import Derived.Test.YtgdebejmcfcpgaaW2

namespace Go.Proofs.Ytgdebejmcfcpgaa
open Go.ChangeShapes Go.WideShapes Go.ChangeAt Go.RowKit Go.Deep
set_option linter.unusedVariables false
set_option linter.unusedSimpArgs false

set_option maxHeartbeats 1600000 in
set_option maxRecDepth 20000 in
theorem spec_l1Bytes (m : Nat) (w0 : World) (g : Nat) (w : World) (hc : Cur w0 g w) (hm : m ≤ 1000) :
    Calls Try.prog 23 #[.pointer (some ⟨g, 0, none⟩), .int .i64 m] w fun e w' => (∃ (A : Option Addr) (c : Nat) (l : Str), l.length = m ∧ e = .returned (.slice A l.length c) ∧ w'.ownsRow w.heap.size 5 1 (.slice A l.length c) l.length (l.flatMap encB)) ∧ Cur w0 g w' ∧ w.grownBy w' (some g) := by
  have hnew := World.ownsRow_made (base := w.heap.size) (e := 5) (size := 1) w #[] 0 (Nat.le_refl _) (by unfold maxLen; omega) rfl
  have HC := Lib.hid hc
  have hgl := hc.lt
  clear hc
  go_enter Try.func23, Try.ntmps23
  go_wp2_with fail
  go_loopw [5, 6] (fun o i wr => ∃ (k : Nat) (l : Str), k ≤ m ∧ i = .int .i64 k ∧ l.length = k ∧ wr.ownsRow w.heap.size 5 1 o l.length (l.flatMap encB) ∧ Cur w0 g wr ∧ w.grownBy wr (some g)) (fun _ i _ => m - (intOf i).toNat)
  case atStart => exact ⟨0, [], by omega, rfl, rfl, hnew, HC.out.below (by go_grown), gb_below _ (by go_grown)⟩
  case round =>
    obtain ⟨k, l, hk, rfl, hl, ho, hc, hg⟩ := hrel
    have HO := Lib.hid ho
    have HCC := Lib.hid hc
    have HG := Lib.hid hg
    clear ho hc hg hnew
    by_cases hlt : k < m
    · go_wp2_with fail
      refine (spec_l1Byte w0 g wr HCC.out).mono ?_
      rintro e w1 ⟨⟨x, hx, rfl⟩, hc1, hg1⟩
      have hbw := byte_wrap x hx
      have ho1 := HO.out.kept hg1 (by
        rcases HO.out.2 with ⟨rfl, _⟩ | ⟨g', cap, cur, rfl, hg', _⟩
        · exact .inl rfl
        · refine .inr fun e => ?_
          have e2 : g' = g := by injection e
          omega)
      have hown2 := ho1.alloc (.cells #[.int .u8 ((UInt8.ofNat x).toNat : Int)] 5)
      have hrd := Rd.new (enc := encB) (k := 1) (fun _ => rfl) w1 #[.int .u8 ((UInt8.ofNat x).toNat : Int)] 5 (n := 1) [UInt8.ofNat x] (by rfl) rfl
      have HC2 := Lib.hid (hc1.below ((Below.refl _ _).alloc (Nat.le_refl _) (.cells #[.int .u8 ((UInt8.ofNat x).toNat : Int)] 5)))
      have HG2 := Lib.hid (gb_trans HG.out (gb_trans hg1 (gb_below _ ((Below.refl _ _).alloc (Nat.le_refl _) (.cells #[.int .u8 ((UInt8.ofNat x).toNat : Int)] 5)))))
      have Hown2 := Lib.hid hown2
      have Hrd := Lib.hid hrd
      have HZ := Lib.hid (Nat.le_trans HG.out.size hg1.size)
      clear ho1 hown2 hrd hc1 hg1
      go_wp2_with (at_builtin; refine wpList_app (enc := encB) (k := 1) (fun _ => rfl) (fun _ u hu => by simp at hu; subst hu; rfl) (by omega) rfl _ _ 22 5 rfl (.int .u8 0) 1 Try.underlying22 (by kernel_rfl) rfl w.heap.size _ l rfl Hown2.out _ _ _ _ rfl Hrd.out (by omega) (by omega) (by have := HZ.out; simp; omega) ?_; intro v' w' hown' hbel')
      go_roundw
      case rel => exact ⟨k + 1, l ++ [UInt8.ofNat x], by omega, by go_num, by simp; omega, hown', HC2.out.belowB hbel' (by omega), gb_belowB HG2.out hbel' (Nat.le_refl _)⟩
      case measure => simp [intOf]; omega
    · have hke : k = m := by omega
      subst hke
      go_wp2_with fail
      go_ret
      rcases own_form HO.out with ⟨A, c, rfl⟩
      exact ⟨⟨A, c, l, hl, rfl, HO.out⟩, HCC.out, HG.out⟩
set_option maxHeartbeats 1600000 in
set_option maxRecDepth 20000 in
theorem spec_DrawUpper (A : Option Addr) (n c : Nat) (xs : List UInt8) (w : World) (hn : n ≤ 1048576) (hx : Rd encB 1 w A n xs) :
    Calls Try.prog 7 #[.slice A n c] w fun e w' => (∃ s : ByteArray, s.size ≤ 100 ∧ e = .returned (.string s)) ∧ Below w.heap.size w w' := by
  have C1 := Lib.hid (spec_l1New A n c xs w hn hx)
  clear hx
  go_enter Try.func7, Try.ntmps7
  go_wp2_with fail
  refine C1.out.mono ?_
  rintro e w1 ⟨rfl, hc1, _⟩
  have hc1 := Lib.hid hc1
  obtain ⟨g, hg⟩ : ∃ g, w.heap.size = g := ⟨_, rfl⟩
  rw [hg] at hc1 ⊢
  go_wp2_with fail
  refine (spec_l1Once 2 w g _ hc1.out (by omega) (by omega)).mono ?_
  rintro e w2 ⟨⟨b, rfl⟩, hc2, _⟩
  have hc2 := Lib.hid hc2
  cases b with
  | true =>
    go_wp2_with fail
    refine (spec_l1Pick (fun s => s.size ≤ 100) _ 5 5 w g _ (hc2.out.below (by go_grown)) (by omega) (by omega) (by have := hc2.out.lt; omega) _ (Holds.new _ _ _) rfl ?_).mono ?_
    · intro v hv
      simp at hv
      rcases hv with rfl | rfl | rfl | rfl | rfl <;> exact ⟨_, by decide, rfl⟩
    rintro e w3 ⟨⟨s, hs, rfl⟩, hc3, _⟩
    have hb3 := Lib.hid hc3.bel
    clear hc3
    go_wp2_with fail
    go_ret
    exact ⟨⟨s, hs, rfl⟩, hg ▸ hb3.out⟩
  | false =>
    go_wp2_with fail
    refine (spec_l1Below 6 w g _ hc2.out (by omega) (by omega)).mono ?_
    rintro e w3 ⟨⟨m, hm, _, rfl⟩, hc3, hg3⟩
    have hc3 := Lib.hid hc3
    clear hg3
    go_wp2_with fail
    refine (spec_l1Bytes m w g _ hc3.out (by omega)).mono ?_
    rintro e w4 ⟨⟨A4, c4, l, hl, rfl, ho⟩, hc4, _⟩
    have hb4 := Lib.hid hc4.bel
    have hrd := Rd.of_own (enc := encB) (k := 1) (fun _ => rfl) ho rfl
    have HR := Lib.hid (fun (c : Nat) => run_ofBytes (P := Try.prog) 22 9 5 Try.underlying22 Try.underlying5 Try.underlying9 hrd c)
    have HLL := Lib.hid hl
    clear hc4 hrd ho hl
    obtain ⟨Z, hZ⟩ : ∃ Z : ByteArray, (⟨l.toArray⟩ : ByteArray) = Z := ⟨_, rfl⟩
    rw [hZ] at HR
    have HZ := Lib.hid hZ
    clear hZ
    have hr := HR.out c4
    go_wp2_with fail
    go_ret
    refine ⟨⟨Z, ?_, rfl⟩, hg ▸ hb4.out⟩
    rw [← HZ.out, size_len]
    simp only [List.toList_toArray]
    have := HLL.out
    omega
set_option maxHeartbeats 1600000 in
set_option maxRecDepth 20000 in
theorem spec_DrawParts (A : Option Addr) (n c : Nat) (xs : List UInt8) (w : World) (hn : n ≤ 1048576) (hx : Rd encB 1 w A n xs) :
    Calls Try.prog 6 #[.slice A n c] w fun e w' => (∃ (s : ByteArray) (b : UInt8), s.size ≤ 100 ∧ e = .returned (.tuple #[.string s, .int .u8 (b.toNat : Int)])) ∧ Below w.heap.size w w' := by
  have C1 := Lib.hid (spec_l1New A n c xs w hn hx)
  clear hx
  go_enter Try.func6, Try.ntmps6
  go_wp2_with fail
  refine C1.out.mono ?_
  rintro e w1 ⟨rfl, hc1, _⟩
  have hc1 := Lib.hid hc1
  obtain ⟨g, hg⟩ : ∃ g, w.heap.size = g := ⟨_, rfl⟩
  rw [hg] at hc1 ⊢
  go_wp2_with fail
  refine (spec_l1Pick (fun s => s.size ≤ 100) _ 6 6 w g _ (hc1.out.below (by go_grown)) (by omega) (by omega) (by have := hc1.out.lt; omega) _ (Holds.new _ _ _) rfl ?_).mono ?_
  · intro v hv
    simp at hv
    rcases hv with rfl | rfl | rfl | rfl | rfl | rfl <;> exact ⟨_, by decide, rfl⟩
  rintro e w3 ⟨⟨s, hs, rfl⟩, hc3, _⟩
  have hc3 := Lib.hid hc3
  go_wp2_with fail
  refine (spec_l1PickInt (fun x => x = 44 ∨ x = 10) _ 2 2 w g _ (hc3.out.below (by go_grown)) (by omega) (by omega) (by have := hc3.out.lt; omega) _ (Holds.new _ _ _) rfl ?_).mono ?_
  · intro v hv
    simp at hv
    rcases hv with rfl | rfl <;> exact ⟨_, by omega, rfl⟩
  rintro e w4 ⟨⟨x, hx, rfl⟩, hc4, _⟩
  have hb4 := Lib.hid hc4.bel
  clear hc4
  rcases hx with rfl | rfl
  · go_wp2_with fail
    go_ret2
    exact ⟨⟨s, 44, hs, rfl⟩, hg ▸ hb4.out⟩
  · go_wp2_with fail
    go_ret2
    exact ⟨⟨s, 10, hs, rfl⟩, hg ▸ hb4.out⟩

end Go.Proofs.Ytgdebejmcfcpgaa
