/-
  Walks: what each function returns, and that it leaves what lay in memory as it was.
-/
import Derived.Test.YtlehpgnhfpegoaaDoorProg
import Derived.Test.YtlehpgnhfpegoaaDoorPlain
import Derived.Test.YtlehpgnhfpegoaaDoorBase2
import Derived.Test.YtlehpgnhfpegoaaDoorOpen2
import Derived.Test.YtlehpgnhfpegoaaDoorShelf
import Derived.WalkKit
import Derived.WalkSpells
import Derived.WalkLawsBesides
import Derived.Lib.Hide
import Derived.Deep.LoopGhost
import Derived.Deep.QuietTactic
import Derived.BigQuiet
import Derived.Handy
import Derived.Deep.RegionHeld3
import Derived.StillTailTactics
import Derived.OpenShut
import Derived.ChangeSame
import Derived.Laws.StructEq

import Derived.Test.YtlehpgnhfpegoaaDoorPlainT

import Derived.Test.YtlehpgnhfpegoaaDoorW1

import Derived.Test.YtlehpgnhfpegoaaDoorW2

import Derived.Test.YtlehpgnhfpegoaaDoorW3

import Derived.Test.YtlehpgnhfpegoaaDoorW4

import Derived.Test.YtlehpgnhfpegoaaDoorW5

import Derived.Test.YtlehpgnhfpegoaaDoorW6

import Derived.Test.YtlehpgnhfpegoaaDoorBase3

import Derived.Lib.ItoaMem
import Derived.Lib.ItoaLen
import Derived.Lib.LaidTab

import Derived.Lib.AtoiTie
import Derived.Lib.AtoiBound
import Derived.Lib.ConvBytes

import Derived.Test.YtlehpgnhfpegoaaDoorW13

import Derived.Test.YtlehpgnhfpegoaaDoorW18

import Derived.Test.YtlehpgnhfpegoaaDoorW19

import Derived.Test.YtlehpgnhfpegoaaDoorW20

import Derived.Test.YtlehpgnhfpegoaaDoorW21

namespace Go.Proofs.YtlehpgnhfpegoaaDoor
open Go.ChangeShapes Go.WideShapes Go.ChangeAt Go.RowKit Go.Deep
set_option linter.unusedVariables false
set_option linter.unusedSimpArgs false

set_option maxRecDepth 20000

set_option maxHeartbeats 3200000 in
theorem spec_l3List (w0 : World) (g : Nat) (w : World) (hc : Cur w0 g w) :
    Calls Tryd.prog 24 #[.pointer (some ⟨g, 0, none⟩)] w fun e w' => (∃ (A : Option Addr) (c : Nat) (l : List Token), l.length ≤ 5 ∧ (∀ t ∈ l, t.text.size ≤ 200) ∧ e = .returned (.slice A l.length c) ∧ w'.ownsRow w.heap.size 34 2 (.slice A l.length c) l.length (l.flatMap encToken)) ∧ Cur w0 g w' ∧ w.grownBy w' (some g) := by
  have hnew := World.ownsRow_made (base := w.heap.size) (e := 34) (size := 2) w #[] 0 (Nat.le_refl _) (by unfold maxLen; omega) rfl
  have hgl := hc.lt
  have hA : Below w.heap.size w (w.alloc (.cells #[] 34)) := (Below.refl _ _).alloc (Nat.le_refl _) _
  have HC0 := Lib.hid (hc.below hA)
  have HG0 := Lib.hid (gb_below (some g) hA)
  have Hnew := Lib.hid hnew
  clear hc hA hnew
  go_enter Tryd.func24, Tryd.ntmps24
  go_wp2_with fail
  refine (spec_l1Below 6 w0 g _ HC0.out (by omega) (by omega)).mono ?_
  rintro e w1 ⟨⟨m, hm, _, rfl⟩, hc1, hg1⟩
  have Hown1 := Lib.hid (own_gb Hnew.out hg1 hgl.2)
  have HC1 := Lib.hid hc1
  have HG1 := Lib.hid (gb_trans HG0.out hg1)
  clear hc1 hg1 HC0 HG0
  go_wp2_with fail
  go_loopw [3, 5] (fun o i wr => ∃ (k : Nat) (l : List Token), k ≤ m ∧ i = .int .i64 k ∧ l.length = k ∧ Hid (∀ t ∈ l, t.text.size ≤ 200) ∧ wr.ownsRow w.heap.size 34 2 o l.length (l.flatMap encToken) ∧ Cur w0 g wr ∧ w.grownBy wr (some g)) (fun _ i _ => m - (intOf i).toNat)
  case atStart => exact ⟨0, [], by omega, rfl, rfl, Lib.hid (by simp), Hown1.out, HC1.out, HG1.out⟩
  case round =>
    obtain ⟨k, l, hk, rfl, hl, hs, ho, hc, hg⟩ := hrel
    have HO := Lib.hid ho
    have HCC := Lib.hid hc
    have HG := Lib.hid hg
    have hsz := hg.size
    clear ho hc hg
    by_cases hlt : k < m
    · go_wp2_with fail
      refine (spec_l3Token w0 g _ HCC.out).mono ?_
      rintro e w2 ⟨⟨t, ht, rfl⟩, hc2, hg2⟩
      have HO2 := Lib.hid (own_gb HO.out hg2 hgl.2)
      have HC2 := Lib.hid hc2
      have HG2 := Lib.hid (gb_trans HG.out hg2)
      have hsz2 := HG2.out.size
      have HS := Lib.hid (show ∀ x ∈ l ++ [t], x.text.size ≤ 200 by
        intro x hx
        rcases List.mem_append.1 hx with h | h
        · exact hs.out x h
        · simp at h; rw [h]; omega)
      clear hc2 hg2 hs
      have Hown2 := Lib.hid (HO2.out.alloc (.cells #[.int .i64 t.kind, .string t.text] 34))
      have Hrd2 := Lib.hid (Rd.new (enc := encToken) (k := 2) (fun _ => rfl) w2 #[.int .i64 t.kind, .string t.text] 34 (n := 1) [t] rfl rfl)
      have hal : Below w2.heap.size w2 (w2.alloc (.cells #[.int .i64 t.kind, .string t.text] 34)) := (Below.refl _ _).alloc (Nat.le_refl _) _
      have HC7 := Lib.hid (HC2.out.below hal)
      have HG7 := Lib.hid (gb_trans HG2.out (gb_below (some g) hal))
      clear hal
      go_wp2_with (at_builtin; refine wpList_app (enc := encToken) (k := 2) (fun _ => rfl) (fun _ u hu => by simp at hu; rcases hu with rfl | rfl <;> rfl) (by omega) rfl _ _ 22 34 rfl (.agg #[.int .i64 0, .string ByteArray.empty]) 24 Tryd.underlying22 (by kernel_rfl) rfl w.heap.size _ l rfl Hown2.out _ _ _ _ rfl Hrd2.out (by first | omega | (simp; omega)) (by omega) (by first | omega | (simp; omega)) ?_; intro v2 w7 hown2 hbel2)
      go_roundw
      case rel => exact ⟨k + 1, l ++ [t], by omega, by go_num, by simp; omega, HS, hown2, HC7.out.belowB hbel2 hgl.2, gb_belowB HG7.out hbel2 (Nat.le_refl _)⟩
      case measure => simp [intOf]; omega
    · have hke : k = m := by omega
      go_wp2_with fail
      go_ret
      rcases own_form HO.out with ⟨A, c, rfl⟩
      exact ⟨⟨A, c, l, by omega, hs.out, rfl, HO.out⟩, HCC.out, HG.out⟩
set_option maxHeartbeats 3200000 in
theorem spec_DrawLineOf (A : Option Addr) (n c : Nat) (xs : List UInt8) (w : World) (hn : n ≤ 1048576) (hx : Rd encB 1 w A n xs) :
    Calls Tryd.prog 12 #[.slice A n c] w fun e w' => (∃ (A : Option Addr) (c : Nat) (l : List Token), l.length ≤ 6 ∧ (∀ t ∈ l, t.text.size ≤ 200) ∧ e = .returned (.slice A l.length c) ∧ w'.ownsRow w.heap.size 34 2 (.slice A l.length c) l.length (l.flatMap encToken)) ∧ Below w.heap.size w w' := by
  have C1 := Lib.hid (spec_l1New A n c xs w hn hx)
  clear hx
  go_enter Tryd.func12, Tryd.ntmps12
  go_wp2_with fail
  refine C1.out.mono ?_
  rintro e w1 ⟨rfl, hc1, _⟩
  have hc1 := Lib.hid hc1
  obtain ⟨g, hg⟩ : ∃ g, w.heap.size = g := ⟨_, rfl⟩
  rw [hg] at hc1 ⊢
  have hlt1 := hc1.out.lt
  go_wp2_with fail
  refine (spec_l3List w g _ hc1.out).mono ?_
  rintro e w2 ⟨⟨A2, c2, l, hl, hs, rfl, ho⟩, hc2, hg2⟩
  have HO := Lib.hid ho
  have HC2 := Lib.hid hc2
  have HS := Lib.hid hs
  have hsz2 := hg2.size
  clear ho hc2 hs hg2
  go_wp2_with fail
  refine (spec_l1Once 5 w g _ HC2.out (by omega) (by omega)).mono ?_
  rintro e w3 ⟨⟨b, rfl⟩, hc3, hg3⟩
  have HO3 := Lib.hid (own_gb HO.out hg3 hlt1.2)
  have HC3 := Lib.hid hc3
  have hsz3 := hg3.size
  clear hc3 hg3 HC2 HO
  cases b with
  | false =>
    have HO4 := Lib.hid (own_mono HO3.out (show w.heap.size ≤ w1.heap.size by omega))
    have hb4 := Lib.hid HC3.out.bel
    go_wp2_with fail
    go_ret
    exact ⟨⟨A2, c2, l, by omega, HS.out, rfl, hg ▸ HO4.out⟩, hg ▸ hb4.out⟩
  | true =>
    go_wp2_with fail
    refine (spec_l3Bent w g _ HC3.out).mono ?_
    rintro e w4 ⟨⟨t, ht, rfl⟩, hc4, hg4⟩
    have HO4 := Lib.hid (own_gb HO3.out hg4 hlt1.2)
    have HC4 := Lib.hid hc4
    have hsz4 := hg4.size
    have HS4 := Lib.hid (show ∀ x ∈ l ++ [t], x.text.size ≤ 200 by
      intro x hx
      rcases List.mem_append.1 hx with h | h
      · exact HS.out x h
      · simp at h; rw [h]; omega)
    clear hc4 hg4
    have Hown2 := Lib.hid (HO4.out.alloc (.cells #[.int .i64 t.kind, .string t.text] 34))
    have Hrd2 := Lib.hid (Rd.new (enc := encToken) (k := 2) (fun _ => rfl) w4 #[.int .i64 t.kind, .string t.text] 34 (n := 1) [t] rfl rfl)
    have HC5 := Lib.hid (HC4.out.below ((Below.refl w4.heap.size w4).alloc (Nat.le_refl _) (.cells #[.int .i64 t.kind, .string t.text] 34)))
    go_wp2_with (at_builtin; refine wpList_app (enc := encToken) (k := 2) (fun _ => rfl) (fun _ u hu => by simp at hu; rcases hu with rfl | rfl <;> rfl) (by omega) rfl _ _ 22 34 rfl (.agg #[.int .i64 0, .string ByteArray.empty]) 24 Tryd.underlying22 (by kernel_rfl) rfl w1.heap.size _ l rfl Hown2.out _ _ _ _ rfl Hrd2.out (by first | omega | (simp; omega)) (by omega) (by first | omega | (simp; omega)) ?_; intro v2 w7 hown2 hbel2)
    go_ret
    rcases own_form hown2 with ⟨A3, c3, rfl⟩
    have hlen : (l ++ [t]).length = l.length + 1 := by simp
    have HC7 := HC5.out.belowB hbel2 hlt1.2
    have hO7 := own_mono hown2 (show w.heap.size ≤ w1.heap.size by omega)
    exact ⟨⟨A3, c3, l ++ [t], by omega, HS4.out, by rw [hlen]; rfl, hg ▸ hO7⟩, hg ▸ HC7.bel⟩
set_option maxHeartbeats 3200000 in
theorem spec_DrawLex (A : Option Addr) (n c : Nat) (xs : List UInt8) (w : World) (hn : n ≤ 1048576) (hx : Rd encB 1 w A n xs) :
    Calls Tryd.prog 16 #[.slice A n c] w fun e w' => (∃ s : ByteArray, s.size ≤ 5000 ∧ e = .returned (.string s)) ∧ Below w.heap.size w w' := by
  have C1 := Lib.hid (spec_l1New A n c xs w hn hx)
  clear hx
  go_enter Tryd.func16, Tryd.ntmps16
  go_wp2_with fail
  refine C1.out.mono ?_
  rintro e w1 ⟨rfl, hc1, _⟩
  have hc1 := Lib.hid hc1
  obtain ⟨g, hg⟩ : ∃ g, w.heap.size = g := ⟨_, rfl⟩
  rw [hg] at hc1 ⊢
  go_wp2_with fail
  refine (spec_l3List w g _ hc1.out).mono ?_
  rintro e w2 ⟨⟨A2, c2, l, hl, hs, rfl, ho⟩, hc2, _⟩
  have HR := Lib.hid (Rd.of_own (enc := encToken) (k := 2) (fun _ => rfl) ho rfl)
  have HF := Lib.hid (show ∀ y ∈ l, y.Fit from fun y hy => Nat.le_trans (hs y hy) (by omega))
  have hc2 := Lib.hid hc2
  clear ho hs
  go_wp2_with fail
  refine (spec_LineOf A2 l.length c2 l _ (by omega) HR.out HF.out).mono ?_
  rintro e w3 ⟨rfl, hb3⟩
  obtain ⟨Y, hY⟩ : ∃ Y : ByteArray, (⟨(lineOf l).toArray⟩ : ByteArray) = Y := ⟨_, rfl⟩
  have hY2 : Y.size ≤ 505 := by
    rw [← hY, size_len]
    have h1 := lineTo_len l l.length
    show (lineOf l).length ≤ 505
    unfold lineOf
    split
    · omega
    · simp
  rw [hY]
  have hc3 := Lib.hid (hc2.out.below hb3)
  clear hY hb3
  go_wp2_with fail
  refine (spec_l1Turned Y _ 10 10 w g _ (by omega) (hc3.out.below (by go_grown)) (by omega) (by omega) (by have := hc3.out.lt; omega) _ (Holds.new _ _ _) rfl ?_).mono ?_
  · intro v hv
    simp at hv
    rcases hv with rfl | rfl | rfl | rfl | rfl | rfl | rfl | rfl | rfl | rfl <;> exact ⟨_, by decide, rfl⟩
  rintro e w6 ⟨⟨x, hx, rfl⟩, hc6, _⟩
  have hb6 := Lib.hid hc6.bel
  have hx2 : x.size ≤ 5000 := by omega
  clear hc6 hx hY2
  go_wp2_with fail
  go_ret
  exact ⟨⟨x, hx2, rfl⟩, hg ▸ hb6.out⟩

end Go.Proofs.YtlehpgnhfpegoaaDoor
