/-
  Walks: what each function returns, and that it leaves what lay in memory as it was.
-/
import Derived.Test.YthccfnoebbimjaaDoorProg
import Derived.Test.YthccfnoebbimjaaDoorPlain
import Derived.Test.YthccfnoebbimjaaDoorBase2
import Derived.Test.YthccfnoebbimjaaDoorOpen2
import Derived.Test.YthccfnoebbimjaaDoorShelf
import Derived.WalkKit
import Derived.WalkSpells
import Derived.WalkLawsBesides
import Derived.Lib.Hide
import Derived.Deep.LoopGhost
import Derived.Deep.QuietTactic
import Derived.BigQuiet
import Derived.Handy
import Derived.Deep.RegionHeld3
import Derived.StillTailTactics
import Derived.OpenShut
import Derived.ChangeSame
import Derived.Laws.StructEq

import Derived.Test.YthccfnoebbimjaaDoorPlainT

import Derived.Test.YthccfnoebbimjaaDoorW1

import Derived.Test.YthccfnoebbimjaaDoorW2

import Derived.Test.YthccfnoebbimjaaDoorW3

import Derived.Test.YthccfnoebbimjaaDoorW4

import Derived.Test.YthccfnoebbimjaaDoorW5

import Derived.Test.YthccfnoebbimjaaDoorW6

import Derived.Test.YthccfnoebbimjaaDoorW7

import Derived.Test.YthccfnoebbimjaaDoorW8

import Derived.Test.YthccfnoebbimjaaDoorW10

import Derived.Test.YthccfnoebbimjaaDoorBase3

import Derived.Lib.ItoaMem
import Derived.Lib.ItoaLen
import Derived.Lib.LaidTab

import Derived.Lib.AtoiTie
import Derived.Lib.AtoiBound
import Derived.Lib.ConvBytes

namespace Go.Proofs.YthccfnoebbimjaaDoor
open Go.ChangeShapes Go.WideShapes Go.ChangeAt Go.RowKit Go.Deep
set_option linter.unusedVariables false
set_option linter.unusedSimpArgs false

set_option maxRecDepth 20000

set_option maxHeartbeats 1600000 in
theorem spec_DrawSetText (A : Option Addr) (n c : Nat) (xs : List UInt8) (w : World) (hn : n ≤ 1048576) (hx : Rd encB 1 w A n xs) :
    Calls Tryd.prog 11 #[.slice A n c] w fun e w' => (∃ (A : Option Addr) (c : Nat) (l : List Span), l.length ≤ 6 ∧ e = .returned (.slice A l.length c) ∧ w'.ownsRow w.heap.size 38 2 (.slice A l.length c) l.length (l.flatMap encSpan)) ∧ Below w.heap.size w w' := by
  have C1 := Lib.hid (spec_l1New A n c xs w hn hx)
  clear hx
  go_enter Tryd.func11, Tryd.ntmps11
  go_wp2_with fail
  refine C1.out.mono ?_
  rintro e w1 ⟨rfl, hc1, _⟩
  have hc1 := Lib.hid hc1
  obtain ⟨g, hg⟩ : ∃ g, w.heap.size = g := ⟨_, rfl⟩
  rw [hg] at hc1 ⊢
  go_wp2_with fail
  refine (spec_l4Bent w g _ hc1.out).mono ?_
  rintro e w2 ⟨⟨A2, c2, l, hl, rfl, ho⟩, hc2, _⟩
  have hlt1 := hc1.out.lt
  have HO := Lib.hid (own_mono ho (show w.heap.size ≤ w1.heap.size by omega))
  have hb4 := Lib.hid hc2.bel
  clear ho hc2
  go_wp2_with fail
  go_ret
  exact ⟨⟨A2, c2, l, hl, rfl, HO.out⟩, hg ▸ hb4.out⟩
set_option maxHeartbeats 1600000 in
theorem spec_DrawReadSet (A : Option Addr) (n c : Nat) (xs : List UInt8) (w : World) (hn : n ≤ 1048576) (hx : Rd encB 1 w A n xs) :
    Calls Tryd.prog 13 #[.slice A n c] w fun e w' => (∃ s : ByteArray, s.size ≤ 1000 ∧ e = .returned (.string s)) ∧ Below w.heap.size w w' := by
  have C1 := Lib.hid (spec_l1New A n c xs w hn hx)
  clear hx
  go_enter Tryd.func13, Tryd.ntmps13
  go_wp2_with fail
  refine C1.out.mono ?_
  rintro e w1 ⟨rfl, hc1, _⟩
  have hc1 := Lib.hid hc1
  obtain ⟨g, hg⟩ : ∃ g, w.heap.size = g := ⟨_, rfl⟩
  rw [hg] at hc1 ⊢
  go_wp2_with fail
  refine (spec_l4Bent w g _ hc1.out).mono ?_
  rintro e w2 ⟨⟨A2, c2, l, hl, rfl, ho⟩, hc2, _⟩
  have HR := Lib.hid (Rd.of_own (enc := encSpan) (k := 2) (fun _ => rfl) ho rfl)
  have hc2 := Lib.hid hc2
  clear ho
  go_wp2_with fail
  refine (spec_SetText A2 l.length c2 l _ (by omega) HR.out).mono ?_
  rintro e w3 ⟨rfl, hb3⟩
  obtain ⟨Y, hY⟩ : ∃ Y : ByteArray, (⟨(setText l).toArray⟩ : ByteArray) = Y := ⟨_, rfl⟩
  have hY2 : Y.size ≤ 300 := by rw [← hY, size_len]; simpa using setText_len l
  rw [hY]
  have hc3 := Lib.hid (hc2.out.below hb3)
  clear hY hb3
  go_wp2_with fail
  refine (spec_l1Turned Y _ 8 8 w g _ (by omega) (hc3.out.below (by go_grown)) (by omega) (by omega) (by have := hc3.out.lt; omega) _ (Holds.new _ _ _) rfl ?_).mono ?_
  · intro v hv
    simp at hv
    rcases hv with rfl | rfl | rfl | rfl | rfl | rfl | rfl | rfl <;> exact ⟨_, by decide, rfl⟩
  rintro e w6 ⟨⟨x, hx, rfl⟩, hc6, _⟩
  have hb6 := Lib.hid hc6.bel
  have hx2 : x.size ≤ 1000 := by omega
  clear hc6 hx hY2
  go_wp2_with fail
  go_ret
  exact ⟨⟨x, hx2, rfl⟩, hg ▸ hb6.out⟩

theorem dec_Byte {H : Type} {enc0 : TypeId × Value → H} {w : World} {base : Nat} {spare : Nat → Bool} {held : Bool} (n : Nat) (cs : List Value) (x : DataW H × List MemPlace)
    (h : DataW.trod enc0 Tryd.prog w base spare held n 5 cs = some x) : ∃ y : UInt8, cs = encB y ∧ True := by
  obtain ⟨a, h1, _, hw⟩ := DataW.trod_int Tryd.underlying5 h
  have h : 0 ≤ a ∧ a < 256 := by simp [Lit.wf, IntKind.min, IntKind.max, IntKind.signed, IntKind.bits] at hw; omega
  refine ⟨UInt8.ofNat a.toNat, ?_, trivial⟩
  rw [h1]
  have h2 : (UInt8.ofNat a.toNat).toNat = a.toNat := UInt8.toNat_ofNat_of_lt' (by show a.toNat < 256; omega)
  show [Value.int .u8 a] = [Value.int .u8 ((UInt8.ofNat a.toNat).toNat : Int)]
  rw [h2, Int.toNat_of_nonneg h.1]
set_option maxRecDepth 20000 in
/-- Bytes that came in. -/
theorem open_Bytes {H : Type} {enc0 : TypeId × Value → H} {w : World} {base b0 : Nat} {r : Reach} {spare : Nat → Bool} {held : Bool} {v : Value} {d : DataW H} {p : List MemPlace}
    (o : Value.okWide Tryd.prog w r b0 28 v) (h : DataW.Trod enc0 Tryd.prog w base spare held 28 v d p) :
    ∃ (A : Option Addr) (n c : Nat) (xs : List UInt8), v = .slice A n c ∧ Rd encB 1 w A n xs ∧ n ≤ 9223372036854775807 := by
  obtain ⟨A, n, c, xs, rfl, h, hc, hm, hN⟩ := open_rd encB (fun _ => True) 1 Tryd.underlying28 o h (by kernel_rfl) (by omega) (fun _ => rfl) (fun n cs x hx => dec_Byte n cs x hx)
  exact ⟨A, n, c, xs, rfl, h, by unfold maxLen at hm; omega⟩
theorem laws_big (A : Option Addr) (n c : Nat) (w : World) (hn : n ≤ 9223372036854775807) :
    Calls Tryd.prog 10 #[.slice A n c] w fun e w' => e = .returned (.bool (decide (1048576 < n))) ∧ w = w' := by
  by_cases h : 1048576 < n
  · go_enter Tryd.func10, Tryd.ntmps10
    go_wp2
    go_ret
    exact ⟨by simp [h]; try omega, rfl⟩
  · go_enter Tryd.func10, Tryd.ntmps10
    go_wp2
    go_ret
    exact ⟨by simp [h]; try omega, rfl⟩

set_option maxHeartbeats 800000 in
theorem laws_sameSpans (A1 A2 : Option Addr) (n c1 c2 : Nat) (xs : List Span) (w : World) (hn : n ≤ 4611686018427387904) (h1 : Rd encSpan 2 w A1 n xs) (h2 : Rd encSpan 2 w A2 n xs) :
    Calls Tryd.prog 15 #[.slice A1 n c1, .slice A2 n c2] w fun e w' => e = .returned (.bool true) ∧ Below w.heap.size w w' := by
  have H1 := Lib.hid h1
  have H2 := Lib.hid h2
  clear h1 h2
  go_enter Tryd.func15, Tryd.ntmps15
  go_wp2_with fail
  go_loopw [5] (fun i wr => ∃ k : Nat, k ≤ n ∧ i = .int .i64 k ∧ Below w.heap.size w wr) (fun i _ => n - (intOf i).toNat)
  case atStart => exact ⟨0, Nat.zero_le _, rfl, Below.refl _ _⟩
  case round =>
    obtain ⟨k, hk, rfl, hW⟩ := hrel
    by_cases hlt : k < n
    · obtain ⟨b1, o1, x, rfl, _, hx, hc1⟩ := (H1.out.below hW).elem hlt
      obtain ⟨b2, o2, x', rfl, _, hx', hc2⟩ := (H2.out.below hW).elem hlt
      have hxx : x' = x := by rw [hx] at hx'; exact (Option.some.inj hx').symm
      subst hxx
      obtain ⟨xa, xb⟩ := x'
      have g10 : wr.cell? ⟨b1, o1 + k * 2, none⟩ = some (.int .i64 xa) := by simpa using hc1 0 _ rfl
      have g11 : wr.cell? ⟨b1, o1 + k * 2 + 1, none⟩ = some (.int .i64 xb) := hc1 1 _ rfl
      have g20 : wr.cell? ⟨b2, o2 + k * 2, none⟩ = some (.int .i64 xa) := by simpa using hc2 0 _ rfl
      have g21 : wr.cell? ⟨b2, o2 + k * 2 + 1, none⟩ = some (.int .i64 xb) := hc2 1 _ rfl
      have HW := Lib.hid hW
      clear hc1 hc2 hx hx' hW H1 H2
      go_wp2
      go_quiet (fail)
      go_wp2
      go_roundw
      case rel => exact ⟨k + 1, by omega, by go_num, below_drewN HW.out _⟩
      case measure => simp [intOf]; omega
    · go_wp2
      go_ret
      exact ⟨rfl, hW⟩
set_option maxHeartbeats 3200000 in
set_option maxRecDepth 20000 in
theorem walk_FnSet {H : Type} {enc0 : TypeId × Value → H} {base : Nat} {d0 : DataW H} {p0 : List MemPlace} (v0 : Value) (w : World) (o0 : Value.okWide Tryd.prog w .any base 28 v0) (k0 : DataW.Trod enc0 Tryd.prog w 0 (fun _ => true) true 28 v0 d0 p0) (htab : Lib.TabIs Tryd.prog w "internal/strconv.uint64pow10" .u64 Lib.pow10Tab)
    (hE2 : ∃ pp, w.var? Tryd.prog "strconv.ErrRange" = some #[.iface 95 pp]) (hE1 : ∃ pp, w.var? Tryd.prog "strconv.ErrSyntax" = some #[.iface 95 pp]) :
    Calls Tryd.prog 4 #[v0] w fun e w' => e = .returned (.bool true) ∧ Below w.heap.size w w' := by
  obtain ⟨A0, n0, c0, ys0, rfl, h0, hn0⟩ := open_Bytes o0 k0
  clear o0 k0
  have HT := Lib.hid htab
  have HE1 := Lib.hid hE1
  have HE2 := Lib.hid hE2
  clear htab hE1 hE2
  by_cases hbig : 1048576 < n0
  · have hd : decide (1048576 < n0) = true := by simpa using hbig
    have C := Lib.hid (laws_big A0 n0 c0 w hn0)
    rw [hd] at C
    clear h0
    go_enter Tryd.func4, Tryd.ntmps4
    go_wp2_with fail
    refine C.out.mono ?_
    rintro e z ⟨rfl, rfl⟩
    go_wp2
    go_ret
    exact ⟨rfl, Below.refl _ _⟩
  have hd : decide (1048576 < n0) = false := by simpa using hbig
  have C := Lib.hid (laws_big A0 n0 c0 w hn0)
  rw [hd] at C
  have D := Lib.hid (spec_DrawSetText A0 n0 c0 ys0 w (by omega) h0)
  have H0 := Lib.hid h0
  clear h0
  go_enter Tryd.func4, Tryd.ntmps4
  go_wp2_with fail
  refine C.out.mono ?_
  rintro e z ⟨rfl, rfl⟩
  go_wp2_with fail
  refine D.out.mono ?_
  rintro e w1 ⟨⟨A, c, l, hl, rfl, ho⟩, hb1⟩
  have HB1 := Lib.hid hb1
  have HR1 := Lib.hid (Rd.of_own (enc := encSpan) (k := 2) (fun _ => rfl) ho rfl)
  clear hb1 ho C D
  obtain ⟨S, hS⟩ : ∃ S : ByteArray, (⟨(setText l).toArray⟩ : ByteArray) = S := ⟨_, rfl⟩
  have hSl : S.size ≤ 300 := by rw [← hS, size_len]; simpa using setText_len l
  have HSd := Lib.hid (show S.data.toList = setText l by rw [← hS])
  obtain ⟨ok, hok⟩ : ∃ ok, setOk l = ok := ⟨_, rfl⟩
  go_wp2_with fail
  refine (impl_SetText A l.length c l w1 (by omega) HR1.out (tab_below HT.out HB1.out)).mono ?_
  rw [hS]
  rintro e w2 ⟨rfl, hb2⟩
  have HB2 := Lib.hid (HB1.out.trans (hb2.mono HB1.out.size))
  have HR2 := Lib.hid (HR1.out.below hb2)
  clear hb2 HB1 HR1 hS
  obtain ⟨L3, hL3, hL3s, hL3l⟩ : ∃ L3, readSet S.data.toList = (L3, ok) ∧ (ok = true → L3 = l) ∧ L3.length ≤ 6 := by
    rw [HSd.out, ← hok]
    cases h : setOk l with
    | true => exact ⟨l, readSet_setText h, fun _ => rfl, hl⟩
    | false => exact ⟨[], by rw [show setText l = [] by unfold setText; rw [h]; rfl, readSet_nil], fun h => by (cases h), by simp⟩
  have HRS := Lib.hid hL3
  have HL3 := Lib.hid hL3s
  have HOk := Lib.hid hok
  clear hL3 hL3s hok
  go_wp2_with fail
  refine (impl_ReadSet S w2 (by omega) (tab_below HT.out HB2.out) (by obtain ⟨p, hp⟩ := HE1.out; exact ⟨p, var_below hp HB2.out⟩) (by obtain ⟨p, hp⟩ := HE2.out; exact ⟨p, var_below hp HB2.out⟩)).mono ?_
  rw [HRS.out]
  rintro e w3 ⟨⟨A3, c3, rfl, ho3⟩, hb3⟩
  have HO3 := Lib.hid (Rd.of_own (enc := encSpan) (k := 2) (fun _ => rfl) ho3 rfl)
  have HB3 := Lib.hid (HB2.out.trans (hb3.mono HB2.out.size))
  have HR3 := Lib.hid (HR2.out.below hb3)
  clear hb3 ho3 HB2 HR2 HRS
  go_wp2_with fail
  refine (spec_DrawReadSet A0 n0 c0 ys0 w3 (by omega) (H0.out.below HB3.out)).mono ?_
  rintro e w4 ⟨⟨T, hTs, rfl⟩, hb4⟩
  have HB4 := Lib.hid (HB3.out.trans (hb4.mono HB3.out.size))
  have HR4 := Lib.hid (HR3.out.below hb4)
  have HO4 := Lib.hid (HO3.out.below hb4)
  clear hb4 HB3 HR3 HO3
  obtain ⟨R, hR⟩ : ∃ R, (readSet T.data.toList).1 = R := ⟨_, rfl⟩
  obtain ⟨b, hb⟩ : ∃ b, (readSet T.data.toList).2 = b := ⟨_, rfl⟩
  have HFin := Lib.hid (show b = true → (⟨(setText R).toArray⟩ : ByteArray) = T ∧ setOk R = true from fun h => by
    have h2 := readSet_ok (hb.trans h)
    rw [← hR]
    exact ⟨by rw [h2.1], h2.2⟩)
  have hRl : R.length ≤ 5 := by
    cases h : b with
    | true => exact setOk_n (HFin.out h).2
    | false => rw [← hR, readSet_no (hb.trans h)]; simp
  go_wp2_with fail
  refine (impl_ReadSet T w4 (by omega) (tab_below HT.out HB4.out) (by obtain ⟨p, hp⟩ := HE1.out; exact ⟨p, var_below hp HB4.out⟩) (by obtain ⟨p, hp⟩ := HE2.out; exact ⟨p, var_below hp HB4.out⟩)).mono ?_
  rw [hR, hb]
  rintro e w5 ⟨⟨A5, c5, rfl, ho5⟩, hb5⟩
  have HY5 := Lib.hid (Rd.of_own (enc := encSpan) (k := 2) (fun _ => rfl) ho5 rfl)
  have HB5 := Lib.hid (HB4.out.trans (hb5.mono HB4.out.size))
  have HR5 := Lib.hid (HR4.out.below hb5)
  have HO5 := Lib.hid (HO4.out.below hb5)
  clear hb5 ho5 HB4 HR4 HO4
  go_wp2_with fail
  refine (spec_ReadSet T w5 (by omega)).mono ?_
  rw [hb]
  rintro e w6 ⟨⟨A6, c6, rfl, ho6⟩, hb6⟩
  have HY6 := Lib.hid (HY5.out.below hb6)
  have HB6 := Lib.hid (HB5.out.trans (hb6.mono HB5.out.size))
  have HR6 := Lib.hid (HR5.out.below hb6)
  have HO6 := Lib.hid (HO5.out.below hb6)
  clear hb6 ho6 HB5 HR5 HO5 HY5 hR hb
  go_wp2_with fail
  refine (spec_SetOk A l.length c l w6 (by omega) HR6.out).mono ?_
  rw [HOk.out]
  rintro e w7 ⟨rfl, hb7⟩
  have HY7 := Lib.hid (hb7 ▸ HY6.out)
  have HB7 := Lib.hid (hb7 ▸ HB6.out)
  have HR7 := Lib.hid (hb7 ▸ HR6.out)
  have HO7 := Lib.hid (hb7 ▸ HO6.out)
  clear HB6 HR6 HO6 HY6
  clear hb7
  cases ok with
  | true =>
    obtain rfl := HL3.out rfl
    go_wp2_with fail
    refine (laws_sameSpans A3 A L3.length c3 c L3 w7 (by omega) HO7.out HR7.out).mono ?_
    rintro e w8 ⟨rfl, hb8⟩
    have HY8 := Lib.hid (HY7.out.below hb8)
    have HB8 := Lib.hid (HB7.out.trans (hb8.mono HB7.out.size))
    clear hb8
    cases b with
    | false =>
      go_wp2
      go_ret
      exact ⟨rfl, HB8.out⟩
    | true =>
      have hT := (HFin.out rfl).1
      have hTk := Lib.hid (HFin.out rfl).2
      go_wp2_with fail
      refine (impl_SetText A5 R.length c5 R w8 (by omega) HY8.out (tab_below HT.out HB8.out)).mono ?_
      rw [hT]
      rintro e w9 ⟨rfl, hb9⟩
      have HY9 := Lib.hid (HY8.out.below hb9)
      have HB9 := Lib.hid (HB8.out.trans (hb9.mono HB8.out.size))
      clear hb9 hT
      go_wp2_with fail
      refine (impl_SetOk A5 R.length c5 R w9 (by omega) HY9.out).mono ?_
      rw [hTk.out]
      rintro e w10 ⟨rfl, hb10⟩
      have HB10 := Lib.hid (HB9.out.trans (hb10.mono HB9.out.size))
      clear hb10
      go_wp2
      go_ret
      exact ⟨rfl, HB10.out⟩
  | false =>
    cases b with
    | false =>
      go_wp2
      go_ret
      exact ⟨rfl, HB7.out⟩
    | true =>
      have hT := (HFin.out rfl).1
      have hTk := Lib.hid (HFin.out rfl).2
      go_wp2_with fail
      refine (impl_SetText A5 R.length c5 R w7 (by omega) HY7.out (tab_below HT.out HB7.out)).mono ?_
      rw [hT]
      rintro e w9 ⟨rfl, hb9⟩
      have HY9 := Lib.hid (HY7.out.below hb9)
      have HB9 := Lib.hid (HB7.out.trans (hb9.mono HB7.out.size))
      clear hb9 hT
      go_wp2_with fail
      refine (impl_SetOk A5 R.length c5 R w9 (by omega) HY9.out).mono ?_
      rw [hTk.out]
      rintro e w10 ⟨rfl, hb10⟩
      have HB10 := Lib.hid (HB9.out.trans (hb10.mono HB9.out.size))
      clear hb10
      go_wp2
      go_ret
      exact ⟨rfl, HB10.out⟩

end Go.Proofs.YthccfnoebbimjaaDoor
