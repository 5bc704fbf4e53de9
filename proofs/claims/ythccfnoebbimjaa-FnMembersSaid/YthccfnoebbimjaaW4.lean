/-
  Walks: what each function returns, and that it leaves what lay in memory as it was.
-/
import Derived.Test.YthccfnoebbimjaaProg
import Derived.Test.YthccfnoebbimjaaPlain
import Derived.Test.YthccfnoebbimjaaBase2
import Derived.Test.YthccfnoebbimjaaOpen2
import Derived.Test.YthccfnoebbimjaaShelf
import Derived.WalkKit
import Derived.WalkSpells
import Derived.WalkLawsBesides
import Derived.Lib.Hide
import Derived.Deep.LoopGhost
import Derived.Deep.QuietTactic
import Derived.BigQuiet
import Derived.Handy
import Derived.Deep.RegionHeld3
import Derived.StillTailTactics
import Derived.OpenShut
import Derived.ChangeSame
import Derived.Laws.StructEq

import Derived.Test.YthccfnoebbimjaaPlainT

import Derived.Test.YthccfnoebbimjaaW1

import Derived.Test.YthccfnoebbimjaaW2

namespace Go.Proofs.Ythccfnoebbimjaa
open Go.ChangeShapes Go.WideShapes Go.ChangeAt Go.RowKit Go.Deep
set_option linter.unusedVariables false
set_option linter.unusedSimpArgs false

set_option maxRecDepth 20000

set_option maxHeartbeats 1600000 in
theorem spec_l1Whole (w0 : World) (g : Nat) (w : World) (hc : Cur w0 g w) :
    Calls Try.prog 61 #[.pointer (some ⟨g, 0, none⟩)] w fun e w' => (∃ x : Int, (-9223372036854775808 ≤ x ∧ x ≤ 9223372036854775807) ∧ e = .returned (.int .i64 x)) ∧ Cur w0 g w' ∧ w.grownBy w' (some g) := by
  have C1 := Lib.hid (spec_l1Below 3 w0 g w hc (by omega) (by omega))
  clear hc
  go_enter Try.func61, Try.ntmps61
  go_wp2_with fail
  refine C1.out.mono ?_
  rintro e w1 ⟨⟨m, hm, _, rfl⟩, hc1, hg1⟩
  have hc1 := Lib.hid hc1
  have hg1 := Lib.hid hg1
  by_cases h0 : m = 0
  · subst h0
    go_wp2_with fail
    refine (spec_l1PickInt (fun x => -9223372036854775808 ≤ x ∧ x ≤ 9223372036854775807) _ 9 9 w0 g _ (hc1.out.below (by go_grown)) (by omega) (by omega) (by have := hc1.out.lt; omega) _ (Holds.new _ _ _) rfl ?_).mono ?_
    · intro v hv
      simp at hv
      rcases hv with rfl | rfl | rfl | rfl | rfl | rfl | rfl | rfl | rfl <;> exact ⟨_, by omega, rfl⟩
    rintro e w2 ⟨⟨x, hx, rfl⟩, hc2, hg2⟩
    have hc2 := Lib.hid hc2
    have hg3 := Lib.hid (gb_trans hg1.out (gb_trans (gb_below (some g) (by go_grown)) hg2))
    clear hg2
    go_wp2_with fail
    go_ret
    exact ⟨⟨_, hx, rfl⟩, hc2.out, hg3.out⟩
  · by_cases h1 : m = 1
    · subst h1
      go_wp2_with fail
      refine (spec_l1Below 1000000 w0 g _ hc1.out (by omega) (by omega)).mono ?_
      rintro e w2 ⟨⟨x, hx, _, rfl⟩, hc2, hg2⟩
      have hc2 := Lib.hid hc2
      have hg3 := Lib.hid (gb_trans hg1.out hg2)
      clear hg2
      go_wp2_with fail
      go_ret
      exact ⟨⟨_, ⟨by omega, by omega⟩, rfl⟩, hc2.out, hg3.out⟩
    · go_wp2_with fail
      refine (spec_l1Below 20 w0 g _ hc1.out (by omega) (by omega)).mono ?_
      rintro e w2 ⟨⟨x, hx, _, rfl⟩, hc2, hg2⟩
      have hc2 := Lib.hid hc2
      have hg3 := Lib.hid (gb_trans hg1.out hg2)
      clear hg2
      go_wp2_with fail
      go_ret
      exact ⟨⟨_, ⟨by omega, by omega⟩, rfl⟩, hc2.out, hg3.out⟩

set_option maxHeartbeats 3200000 in
theorem spec_l4Set (w0 : World) (g : Nat) (w : World) (hc : Cur w0 g w) :
    Calls Try.prog 59 #[.pointer (some ⟨g, 0, none⟩)] w fun e w' => (∃ (A : Option Addr) (c : Nat) (l : List Span), 1 ≤ l.length ∧ l.length ≤ 3 ∧ e = .returned (.slice A l.length c) ∧ w'.ownsRow w.heap.size 86 2 (.slice A l.length c) l.length (l.flatMap encSpan)) ∧ Cur w0 g w' ∧ w.grownBy w' (some g) := by
  have hnew := World.ownsRow_made (base := w.heap.size) (e := 86) (size := 2) w #[] 0 (Nat.le_refl _) (by unfold maxLen; omega) rfl
  have HC := Lib.hid hc
  have hgl := hc.lt
  have hA : Below w.heap.size w (w.alloc (.cells #[] 86)) := (Below.refl _ _).alloc (Nat.le_refl _) _
  have HC0 := Lib.hid (hc.below hA)
  have HG0 := Lib.hid (gb_below (some g) hA)
  have Hnew := Lib.hid hnew
  clear hc hA hnew
  go_enter Try.func59, Try.ntmps59
  go_wp2_with fail
  refine (spec_l1Below 3 w0 g _ HC0.out (by omega) (by omega)).mono ?_
  rintro e w1 ⟨⟨m, hm, _, rfl⟩, hc1, hg1⟩
  have Hown1 := Lib.hid (own_gb Hnew.out hg1 hgl.2)
  have HC1 := Lib.hid hc1
  have HG1 := Lib.hid (gb_trans HG0.out hg1)
  clear hc1 hg1 HC0 HG0
  go_wp2_with fail
  go_loopw [3, 5] (fun o i wr => ∃ (k : Nat) (l : List Span), k ≤ 1 + m ∧ i = .int .i64 k ∧ l.length = k ∧ wr.ownsRow w.heap.size 86 2 o l.length (l.flatMap encSpan) ∧ Cur w0 g wr ∧ w.grownBy wr (some g)) (fun _ i _ => 1 + m - (intOf i).toNat)
  case atStart => exact ⟨0, [], by omega, rfl, rfl, Hown1.out, HC1.out, HG1.out⟩
  case round =>
    obtain ⟨k, l, hk, rfl, hl, ho, hc, hg⟩ := hrel
    have HO := Lib.hid ho
    have HCC := Lib.hid hc
    have HG := Lib.hid hg
    clear ho hc hg
    by_cases hlt : k < 1 + m
    · go_wp2_with fail
      refine (spec_l1Below 6 w0 g _ HCC.out (by omega) (by omega)).mono ?_
      rintro e w2 ⟨⟨x, hx, _, rfl⟩, hc2, hg2⟩
      have HO2 := Lib.hid (HO.out.kept hg2 (by
        rcases HO.out.2 with ⟨rfl, _⟩ | ⟨g', cap, cur, rfl, hg', _⟩
        · exact .inl rfl
        · refine .inr fun e => ?_
          have e2 : g' = g := by injection e
          omega))
      have HC2 := Lib.hid hc2
      have HG2 := Lib.hid (gb_trans HG.out hg2)
      clear hc2 hg2
      go_wp2_with fail
      refine (spec_l1Below 8 w0 g _ HC2.out (by omega) (by omega)).mono ?_
      rintro e w3 ⟨⟨y, hy, _, rfl⟩, hc3, hg3⟩
      have HO3 := Lib.hid (HO2.out.kept hg3 (by
        rcases HO2.out.2 with ⟨rfl, _⟩ | ⟨g', cap, cur, rfl, hg', _⟩
        · exact .inl rfl
        · refine .inr fun e => ?_
          have e2 : g' = g := by injection e
          omega))
      have HC3 := Lib.hid hc3
      have HG3 := Lib.hid (gb_trans HG2.out hg3)
      clear hc3 hg3
      go_wp2_with fail
      have hOl := HO3.out.lt
      obtain ⟨p, hp⟩ : ∃ p, w3.heap.size = p := ⟨_, rfl⟩
      have hgp : g < p := by rw [← hp]; exact HC3.out.lt.2
      have hwp : w.heap.size ≤ p := by rw [← hp]; exact HG3.out.size
      have hal : Below w3.heap.size w3 (w3.alloc (.cells #[.int .i64 x, .int .i64 y] 86)) := (Below.refl _ _).alloc (Nat.le_refl _) _
      have HP := Lib.hid (World.ownsRow_lit (base := p) (e := 86) (size := 2) w3 #[.int .i64 x, .int .i64 y] 1 (by omega) (by unfold maxLen; omega) rfl)
      have HC4 := Lib.hid (HC3.out.below hal)
      have HG4 := Lib.hid (gb_trans HG3.out (gb_below (some g) hal))
      have HO4 := Lib.hid (own_below HO3.out hal)
      clear hal
      have HOl := Lib.hid hOl
      clear hOl
      generalize hw4 : w3.alloc (.cells #[.int .i64 x, .int .i64 y] 86) = w4 at *
      rw [hp] at HP HOl ⊢
      refine (spec_l1Once 2 w0 g w4 HC4.out (by omega) (by omega)).mono ?_
      rintro e w5 ⟨⟨b, rfl⟩, hc5, hg5⟩
      have HP5 := Lib.hid (own_gb HP.out hg5 hgp)
      have HO5 := Lib.hid (HO4.out.kept hg5 (by
        rcases HO4.out.2 with ⟨rfl, _⟩ | ⟨g', cap, cur, rfl, hg', _⟩
        · exact .inl rfl
        · refine .inr fun e => ?_
          have e2 : g' = g := by injection e
          omega))
      have HC5 := Lib.hid hc5
      have HG5 := Lib.hid (gb_trans HG4.out hg5)
      have hsz5 : p < w5.heap.size := (HP5.out.lt p rfl).2
      clear hc5 hg5
      cases b with
      | true =>
        have c0 := HP5.out.cellAt 0 (by omega)
        have c1 := HP5.out.cellAt 1 (by omega)
        have f1 := HP5.out.frozenAt 1
        have s1 := HP5.out.stored 1 (.int .i64 x)
        simp only [List.getElem?_cons_zero, List.getElem?_cons_succ] at c0 c1
        have hbl : Below p w5 (w5.setCell ⟨p, 1, none⟩ (.int .i64 x)) := gb_to_below s1.2 (by omega) (by intro k hk; injection hk with e; omega)
        have HC6 := Lib.hid (HC5.out.belowB hbl hgp)
        have HG6 := Lib.hid (gb_belowB HG5.out hbl hwp)
        have HO6 := Lib.hid (HO5.out.kept s1.2 (by
          rcases HO5.out.2 with ⟨rfl, _⟩ | ⟨g', cap, cur, rfl, hg', _⟩
          · exact .inl rfl
          · refine .inr fun e => ?_
            have e2 : g' = p := by injection e
            have h2 := (HOl.out g' rfl).2
            omega))
        have d0 := s1.1.cellAt 0 (by omega)
        have d1 := s1.1.cellAt 1 (by omega)
        simp only [List.set_cons_succ, List.set_cons_zero, List.getElem?_cons_zero, List.getElem?_cons_succ] at d0 d1
        have hsz6 := Lib.hid (show w5.heap.size ≤ (w5.setCell ⟨p, 1, none⟩ (.int .i64 x)).heap.size by simp)
        generalize hw6 : w5.setCell ⟨p, 1, none⟩ (.int .i64 x) = w6 at *
        have Hown2 := Lib.hid (HO6.out.alloc (.cells #[.int .i64 x, .int .i64 x] 86))
        have Hrd2 := Lib.hid (Rd.new (enc := encSpan) (k := 2) (fun _ => rfl) w6 #[.int .i64 x, .int .i64 x] 86 (n := 1) [((x : Int), (x : Int))] rfl rfl)
        have hal : Below w6.heap.size w6 (w6.alloc (.cells #[.int .i64 x, .int .i64 x] 86)) := (Below.refl _ _).alloc (Nat.le_refl _) _
        have HC7 := Lib.hid (HC6.out.below hal)
        have HG7 := Lib.hid (gb_trans HG6.out (gb_below (some g) hal))
        have hws6 : w.heap.size ≤ w6.heap.size := by have := hsz6.out; omega
        clear s1 hbl hal
        go_wp2_with (at_builtin; refine wpList_app (enc := encSpan) (k := 2) (fun _ => rfl) (fun _ u hu => by simp at hu; rcases hu with rfl | rfl <;> rfl) (by omega) rfl _ _ 24 86 rfl (.agg #[.int .i64 0, .int .i64 0]) 16 Try.underlying24 (by kernel_rfl) rfl w.heap.size _ l rfl Hown2.out _ _ _ _ rfl Hrd2.out (by first | omega | (simp; omega)) (by omega) (by first | omega | (simp; omega)) ?_; intro v2 w7 hown2 hbel2)
        go_roundw
        case rel => exact ⟨k + 1, l ++ [((x : Int), (x : Int))], by omega, by go_num, by simp; omega, hown2, HC7.out.belowB hbel2 (by omega), gb_belowB HG7.out hbel2 (Nat.le_refl _)⟩
        case measure => simp [intOf]; omega
      | false =>
        have c0 := HP5.out.cellAt 0 (by omega)
        have c1 := HP5.out.cellAt 1 (by omega)
        simp only [List.getElem?_cons_zero, List.getElem?_cons_succ] at c0 c1
        have Hown2 := Lib.hid (HO5.out.alloc (.cells #[.int .i64 x, .int .i64 y] 86))
        have Hrd2 := Lib.hid (Rd.new (enc := encSpan) (k := 2) (fun _ => rfl) w5 #[.int .i64 x, .int .i64 y] 86 (n := 1) [((x : Int), (y : Int))] rfl rfl)
        have hal : Below w5.heap.size w5 (w5.alloc (.cells #[.int .i64 x, .int .i64 y] 86)) := (Below.refl _ _).alloc (Nat.le_refl _) _
        have HC7 := Lib.hid (HC5.out.below hal)
        have HG7 := Lib.hid (gb_trans HG5.out (gb_below (some g) hal))
        clear hal
        go_wp2_with (at_builtin; refine wpList_app (enc := encSpan) (k := 2) (fun _ => rfl) (fun _ u hu => by simp at hu; rcases hu with rfl | rfl <;> rfl) (by omega) rfl _ _ 24 86 rfl (.agg #[.int .i64 0, .int .i64 0]) 16 Try.underlying24 (by kernel_rfl) rfl w.heap.size _ l rfl Hown2.out _ _ _ _ rfl Hrd2.out (by first | omega | (simp; omega)) (by omega) (by first | omega | (simp; omega)) ?_; intro v2 w7 hown2 hbel2)
        go_roundw
        case rel => exact ⟨k + 1, l ++ [((x : Int), (y : Int))], by omega, by go_num, by simp; omega, hown2, HC7.out.belowB hbel2 (by omega), gb_belowB HG7.out hbel2 (Nat.le_refl _)⟩
        case measure => simp [intOf]; omega
    · have hke : k = 1 + m := by omega
      go_wp2_with fail
      go_ret
      rcases own_form HO.out with ⟨A, c, rfl⟩
      exact ⟨⟨A, c, l, by omega, by omega, rfl, HO.out⟩, HCC.out, HG.out⟩

def sLen : Value → Nat
  | .slice _ n _ => n
  | _ => 0
set_option maxHeartbeats 3200000 in
theorem spec_l4Bent (w0 : World) (g : Nat) (w : World) (hc : Cur w0 g w) :
    Calls Try.prog 29 #[.pointer (some ⟨g, 0, none⟩)] w fun e w' => (∃ (A : Option Addr) (c : Nat) (l : List Span), l.length ≤ 6 ∧ e = .returned (.slice A l.length c) ∧ w'.ownsRow w.heap.size 86 2 (.slice A l.length c) l.length (l.flatMap encSpan)) ∧ Cur w0 g w' ∧ w.grownBy w' (some g) := by
  have hgl := hc.lt
  have HC0 := Lib.hid hc
  clear hc
  go_enter Try.func29, Try.ntmps29
  go_wp2_with fail
  refine (spec_l4Set w0 g _ HC0.out).mono ?_
  rintro e w1 ⟨⟨A, c, l, hl1, hl3, rfl, ho⟩, hc1, hg1⟩
  have HO1 := Lib.hid ho
  have HC1 := Lib.hid hc1
  have HG1 := Lib.hid hg1
  clear ho hc1 hg1 HC0
  go_wp2_with fail
  refine (spec_l1Below 6 w0 g _ HC1.out (by omega) (by omega)).mono ?_
  rintro e w2 ⟨⟨m, hm, _, rfl⟩, hc2, hg2⟩
  have HO2 := Lib.hid (own_gb HO1.out hg2 hgl.2)
  have HC2 := Lib.hid hc2
  have HG2 := Lib.hid (gb_trans HG1.out hg2)
  clear hc2 hg2 HO1 HC1 HG1
  by_cases h0 : m = 0
  · subst h0
    clear hm
    go_wp2_with fail
    refine (spec_l1Whole w0 g _ HC2.out).mono ?_
    rintro e w3 ⟨⟨x, hx, rfl⟩, hc3, hg3⟩
    have HO3 := Lib.hid (own_gb HO2.out hg3 hgl.2)
    have HC3 := Lib.hid hc3
    have HG3 := Lib.hid (gb_trans HG2.out hg3)
    clear hc3 hg3 HO2 HC2 HG2
    go_wp2_with fail
    refine (spec_l1Whole w0 g _ HC3.out).mono ?_
    rintro e w4 ⟨⟨y, hy, rfl⟩, hc4, hg4⟩
    have HO4 := Lib.hid (own_gb HO3.out hg4 hgl.2)
    have HC4 := Lib.hid hc4
    have HG4 := Lib.hid (gb_trans HG3.out hg4)
    clear hc4 hg4 HO3 HC3 HG3
    have hsz := HG4.out.size
    have Hown2 := Lib.hid (HO4.out.alloc (.cells #[.int .i64 x, .int .i64 y] 86))
    have Hrd2 := Lib.hid (Rd.new (enc := encSpan) (k := 2) (fun _ => rfl) w4 #[.int .i64 x, .int .i64 y] 86 (n := 1) [(x, y)] rfl rfl)
    have hal : Below w4.heap.size w4 (w4.alloc (.cells #[.int .i64 x, .int .i64 y] 86)) := (Below.refl _ _).alloc (Nat.le_refl _) _
    have HC5 := Lib.hid (HC4.out.below hal)
    have HG5 := Lib.hid (gb_trans HG4.out (gb_below (some g) hal))
    clear hal
    go_wp2_with (at_builtin; refine wpList_app (enc := encSpan) (k := 2) (fun _ => rfl) (fun _ u hu => by simp at hu; rcases hu with rfl | rfl <;> rfl) (by omega) rfl _ _ 24 86 rfl (.agg #[.int .i64 0, .int .i64 0]) 16 Try.underlying24 (by kernel_rfl) rfl w.heap.size _ l rfl Hown2.out _ _ _ _ rfl Hrd2.out (by first | omega | (simp; omega)) (by omega) (by first | omega | (simp; omega)) ?_; intro v2 w7 hown2 hbel2)
    go_ret
    rcases own_form hown2 with ⟨A2, c2, rfl⟩
    have hlen : (l ++ [(x, y)]).length = l.length + 1 := by simp
    exact ⟨⟨A2, c2, l ++ [(x, y)], by omega, by rw [hlen]; rfl, hown2⟩, HC5.out.belowB hbel2 hgl.2, gb_belowB HG5.out hbel2 (Nat.le_refl _)⟩
  · by_cases h1 : m = 1
    · subst h1
      clear hm h0
      go_wp2_with fail
      go_loopw [3] (fun o wr => ∃ (A : Option Addr) (c : Nat) (l : List Span), o = .slice A l.length c ∧ l.length ≤ 6 ∧ wr.ownsRow w.heap.size 86 2 (.slice A l.length c) l.length (l.flatMap encSpan) ∧ Cur w0 g wr ∧ w.grownBy wr (some g)) (fun o _ => 7 - sLen o)
      case atStart => exact ⟨A, c, l, rfl, by omega, HO2.out, HC2.out, HG2.out⟩
      case round =>
        clear HO2 HC2 HG2
        obtain ⟨A, c, l, rfl, hl, ho, hc, hg⟩ := hrel
        have HO := Lib.hid ho
        have HC := Lib.hid hc
        have HG := Lib.hid hg
        clear ho hc hg
        go_wp2_with fail
        refine (spec_l1Below 2 w0 g _ HC.out (by omega) (by omega)).mono ?_
        rintro e w3 ⟨⟨x, hx, _, rfl⟩, hc3, hg3⟩
        have HO3 := Lib.hid (own_gb HO.out hg3 hgl.2)
        have HC3 := Lib.hid hc3
        have HG3 := Lib.hid (gb_trans HG.out hg3)
        clear hc3 hg3 HO HC HG
        by_cases hlt : l.length < 5 + x
        · have hsz := HG3.out.size
          have Hown2 := Lib.hid (HO3.out.alloc (.cells #[.int .i64 7, .int .i64 7] 86))
          have Hrd2 := Lib.hid (Rd.new (enc := encSpan) (k := 2) (fun _ => rfl) w3 #[.int .i64 7, .int .i64 7] 86 (n := 1) [((7 : Int), (7 : Int))] rfl rfl)
          have hal : Below w3.heap.size w3 (w3.alloc (.cells #[.int .i64 7, .int .i64 7] 86)) := (Below.refl _ _).alloc (Nat.le_refl _) _
          have HC5 := Lib.hid (HC3.out.below hal)
          have HG5 := Lib.hid (gb_trans HG3.out (gb_below (some g) hal))
          clear hal
          go_wp2_with (at_builtin; refine wpList_app (enc := encSpan) (k := 2) (fun _ => rfl) (fun _ u hu => by simp at hu; rcases hu with rfl | rfl <;> rfl) (by omega) rfl _ _ 24 86 rfl (.agg #[.int .i64 0, .int .i64 0]) 16 Try.underlying24 (by kernel_rfl) rfl w.heap.size _ l rfl Hown2.out _ _ _ _ rfl Hrd2.out (by first | omega | (simp; omega)) (by omega) (by first | omega | (simp; omega)) ?_; intro v2 w7 hown2 hbel2)
          rcases own_form hown2 with ⟨A2, c2, rfl⟩
          have hlen : (l ++ [((7 : Int), (7 : Int))]).length = l.length + 1 := by simp
          go_roundw
          case rel => exact ⟨A2, c2, l ++ [((7 : Int), (7 : Int))], rfl, by omega, hown2, HC5.out.belowB hbel2 hgl.2, gb_belowB HG5.out hbel2 (Nat.le_refl _)⟩
          case measure => rw [show sLen (.slice A2 (l ++ [((7 : Int), (7 : Int))]).length c2) = l.length + 1 from hlen, show sLen (.slice A l.length c) = l.length from rfl]; omega
        · go_wp2_with fail
          go_ret
          exact ⟨⟨A, c, l, hl, rfl, HO3.out⟩, HC3.out, HG3.out⟩
    · by_cases h2 : m = 2
      · subst h2
        clear hm h0 h1
        have hsz := HG2.out.size
        have hnew := Lib.hid (own_mono (World.ownsRow_made (base := w2.heap.size) (e := 86) (size := 2) w2 #[] 0 (Nat.le_refl _) (by unfold maxLen; omega) rfl) hsz)
        have hal : Below w2.heap.size w2 (w2.alloc (.cells #[] 86)) := (Below.refl _ _).alloc (Nat.le_refl _) _
        have HC5 := Lib.hid (HC2.out.below hal)
        have HG5 := Lib.hid (gb_trans HG2.out (gb_below (some g) hal))
        clear hal
        go_wp2_with fail
        go_ret
        exact ⟨⟨_, _, [], by simp, rfl, hnew.out⟩, HC5.out, HG5.out⟩
      · go_wp2_with fail
        go_ret
        exact ⟨⟨A, c, l, by omega, rfl, HO2.out⟩, HC2.out, HG2.out⟩
set_option maxHeartbeats 1600000 in
theorem spec_DrawMembers (A : Option Addr) (n c : Nat) (xs : List UInt8) (w : World) (hn : n ≤ 1048576) (hx : Rd encB 1 w A n xs) :
    Calls Try.prog 8 #[.slice A n c] w fun e w' => (∃ (A : Option Addr) (c : Nat) (l : List Span) (x : Int), l.length ≤ 6 ∧ (-9223372036854775808 ≤ x ∧ x ≤ 9223372036854775807) ∧ e = .returned (.tuple #[.slice A l.length c, .int .i64 x]) ∧ w'.ownsRow w.heap.size 86 2 (.slice A l.length c) l.length (l.flatMap encSpan)) ∧ Below w.heap.size w w' := by
  have C1 := Lib.hid (spec_l1New A n c xs w hn hx)
  clear hx
  go_enter Try.func8, Try.ntmps8
  go_wp2_with fail
  refine C1.out.mono ?_
  rintro e w1 ⟨rfl, hc1, _⟩
  have hc1 := Lib.hid hc1
  obtain ⟨g, hg⟩ : ∃ g, w.heap.size = g := ⟨_, rfl⟩
  rw [hg] at hc1 ⊢
  go_wp2_with fail
  refine (spec_l4Bent w g _ hc1.out).mono ?_
  rintro e w2 ⟨⟨A2, c2, l, hl, rfl, ho⟩, hc2, _⟩
  have hc2 := Lib.hid hc2
  have hlt1 := hc1.out.lt
  have HO := Lib.hid ho
  clear ho
  go_wp2_with fail
  refine (spec_l1PickInt (fun x => -9223372036854775808 ≤ x ∧ x ≤ 9223372036854775807) _ 8 8 w g _ (hc2.out.below (by go_grown)) (by omega) (by omega) (by have := hc2.out.lt; omega) _ (Holds.new _ _ _) rfl ?_).mono ?_
  · intro v hv
    simp at hv
    rcases hv with rfl | rfl | rfl | rfl | rfl | rfl | rfl | rfl <;> exact ⟨_, by omega, rfl⟩
  rintro e w4 ⟨⟨x, hx, rfl⟩, hc4, hg4⟩
  have HO4 := Lib.hid (own_mono (own_gb (own_below HO.out (by go_grown)) hg4 hlt1.2) (show w.heap.size ≤ w1.heap.size by omega))
  have hb4 := Lib.hid hc4.bel
  clear hc4 hg4
  go_wp2_with fail
  go_ret2
  exact ⟨⟨A2, c2, l, x, hl, hx, rfl, HO4.out⟩, hg ▸ hb4.out⟩

end Go.Proofs.Ythccfnoebbimjaa
