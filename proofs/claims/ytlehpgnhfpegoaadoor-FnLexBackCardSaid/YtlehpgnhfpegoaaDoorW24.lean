/-
  Walks: what each function returns, and that it leaves what lay in memory as it was.
-/
import Derived.Test.YtlehpgnhfpegoaaDoorProg
import Derived.Test.YtlehpgnhfpegoaaDoorPlain
import Derived.Test.YtlehpgnhfpegoaaDoorBase2
import Derived.Test.YtlehpgnhfpegoaaDoorOpen2
import Derived.Test.YtlehpgnhfpegoaaDoorShelf
import Derived.WalkKit
import Derived.WalkSpells
import Derived.WalkLawsBesides
import Derived.Lib.Hide
import Derived.Deep.LoopGhost
import Derived.Deep.QuietTactic
import Derived.BigQuiet
import Derived.Handy
import Derived.Deep.RegionHeld3
import Derived.StillTailTactics
import Derived.OpenShut
import Derived.ChangeSame
import Derived.Laws.StructEq

import Derived.Test.YtlehpgnhfpegoaaDoorPlainT

import Derived.Test.YtlehpgnhfpegoaaDoorW1

import Derived.Test.YtlehpgnhfpegoaaDoorW2

import Derived.Test.YtlehpgnhfpegoaaDoorW3

import Derived.Test.YtlehpgnhfpegoaaDoorW4

import Derived.Test.YtlehpgnhfpegoaaDoorW5

import Derived.Test.YtlehpgnhfpegoaaDoorW6

import Derived.Test.YtlehpgnhfpegoaaDoorBase3

import Derived.Lib.ItoaMem
import Derived.Lib.ItoaLen
import Derived.Lib.LaidTab

import Derived.Lib.AtoiTie
import Derived.Lib.AtoiBound
import Derived.Lib.ConvBytes

import Derived.Test.YtlehpgnhfpegoaaDoorW7

import Derived.Test.YtlehpgnhfpegoaaDoorW8

import Derived.Test.YtlehpgnhfpegoaaDoorW10

import Derived.Test.YtlehpgnhfpegoaaDoorW13

import Derived.Test.YtlehpgnhfpegoaaDoorW14

import Derived.Test.YtlehpgnhfpegoaaDoorW18

import Derived.Test.YtlehpgnhfpegoaaDoorW19

import Derived.Test.YtlehpgnhfpegoaaDoorW20

import Derived.Test.YtlehpgnhfpegoaaDoorW21

import Derived.Test.YtlehpgnhfpegoaaDoorW22

import Derived.Test.YtlehpgnhfpegoaaDoorW23

namespace Go.Proofs.YtlehpgnhfpegoaaDoor
open Go.ChangeShapes Go.WideShapes Go.ChangeAt Go.RowKit Go.Deep
set_option linter.unusedVariables false
set_option linter.unusedSimpArgs false

set_option maxRecDepth 20000

theorem dec_Byte {H : Type} {enc0 : TypeId × Value → H} {w : World} {base : Nat} {spare : Nat → Bool} {held : Bool} (n : Nat) (cs : List Value) (x : DataW H × List MemPlace)
    (h : DataW.trod enc0 Tryd.prog w base spare held n 5 cs = some x) : ∃ y : UInt8, cs = encB y ∧ True := by
  obtain ⟨a, h1, _, hw⟩ := DataW.trod_int Tryd.underlying5 h
  have h : 0 ≤ a ∧ a < 256 := by simp [Lit.wf, IntKind.min, IntKind.max, IntKind.signed, IntKind.bits] at hw; omega
  refine ⟨UInt8.ofNat a.toNat, ?_, trivial⟩
  rw [h1]
  have h2 : (UInt8.ofNat a.toNat).toNat = a.toNat := UInt8.toNat_ofNat_of_lt' (by show a.toNat < 256; omega)
  show [Value.int .u8 a] = [Value.int .u8 ((UInt8.ofNat a.toNat).toNat : Int)]
  rw [h2, Int.toNat_of_nonneg h.1]
set_option maxRecDepth 20000 in
/-- Bytes that came in. -/
theorem open_Bytes {H : Type} {enc0 : TypeId × Value → H} {w : World} {base b0 : Nat} {r : Reach} {spare : Nat → Bool} {held : Bool} {v : Value} {d : DataW H} {p : List MemPlace}
    (o : Value.okWide Tryd.prog w r b0 28 v) (h : DataW.Trod enc0 Tryd.prog w base spare held 28 v d p) :
    ∃ (A : Option Addr) (n c : Nat) (xs : List UInt8), v = .slice A n c ∧ Rd encB 1 w A n xs ∧ n ≤ 9223372036854775807 := by
  obtain ⟨A, n, c, xs, rfl, h, hc, hm, hN⟩ := open_rd encB (fun _ => True) 1 Tryd.underlying28 o h (by kernel_rfl) (by omega) (fun _ => rfl) (fun n cs x hx => dec_Byte n cs x hx)
  exact ⟨A, n, c, xs, rfl, h, by unfold maxLen at hm; omega⟩
theorem laws_big (A : Option Addr) (n c : Nat) (w : World) (hn : n ≤ 9223372036854775807) :
    Calls Tryd.prog 11 #[.slice A n c] w fun e w' => e = .returned (.bool (decide (1048576 < n))) ∧ w = w' := by
  by_cases h : 1048576 < n
  · go_enter Tryd.func11, Tryd.ntmps11
    go_wp2
    go_ret
    exact ⟨by simp [h]; try omega, rfl⟩
  · go_enter Tryd.func11, Tryd.ntmps11
    go_wp2
    go_ret
    exact ⟨by simp [h]; try omega, rfl⟩

set_option maxHeartbeats 800000 in
theorem laws_sameTokens (A1 A2 : Option Addr) (n c1 c2 : Nat) (xs : List Token) (w : World) (hn : n ≤ 4611686018427387904) (h1 : Rd encToken 2 w A1 n xs) (h2 : Rd encToken 2 w A2 n xs) :
    Calls Tryd.prog 15 #[.slice A1 n c1, .slice A2 n c2] w fun e w' => e = .returned (.bool true) ∧ Below w.heap.size w w' := by
  have H1 := Lib.hid h1
  have H2 := Lib.hid h2
  clear h1 h2
  go_enter Tryd.func15, Tryd.ntmps15
  go_wp2_with fail
  go_loopw [5] (fun i wr => ∃ k : Nat, k ≤ n ∧ i = .int .i64 k ∧ Below w.heap.size w wr) (fun i _ => n - (intOf i).toNat)
  case atStart => exact ⟨0, Nat.zero_le _, rfl, Below.refl _ _⟩
  case round =>
    obtain ⟨k, hk, rfl, hW⟩ := hrel
    by_cases hlt : k < n
    · obtain ⟨b1, o1, x, rfl, _, hx, hc1⟩ := (H1.out.below hW).elem hlt
      obtain ⟨b2, o2, x', rfl, _, hx', hc2⟩ := (H2.out.below hW).elem hlt
      have hxx : x' = x := by rw [hx] at hx'; exact (Option.some.inj hx').symm
      subst hxx
      obtain ⟨xa, xb⟩ := x'
      have g10 : wr.cell? ⟨b1, o1 + k * 2, none⟩ = some (.int .i64 xa) := by simpa using hc1 0 _ rfl
      have g11 : wr.cell? ⟨b1, o1 + k * 2 + 1, none⟩ = some (.string xb) := hc1 1 _ rfl
      have g20 : wr.cell? ⟨b2, o2 + k * 2, none⟩ = some (.int .i64 xa) := by simpa using hc2 0 _ rfl
      have g21 : wr.cell? ⟨b2, o2 + k * 2 + 1, none⟩ = some (.string xb) := hc2 1 _ rfl
      have HW := Lib.hid hW
      clear hc1 hc2 hx hx' hW H1 H2
      go_wp2
      go_quiet (fail)
      go_wp2
      go_roundw
      case rel => exact ⟨k + 1, by omega, by go_num, below_drewN HW.out _⟩
      case measure => simp [intOf]; omega
    · go_wp2
      go_ret
      exact ⟨rfl, hW⟩

set_option maxHeartbeats 3200000 in
set_option maxRecDepth 20000 in
theorem walk_FnLex {H : Type} {enc0 : TypeId × Value → H} {base : Nat} {d0 : DataW H} {p0 : List MemPlace} (v0 : Value) (w : World) (o0 : Value.okWide Tryd.prog w .any base 28 v0) (k0 : DataW.Trod enc0 Tryd.prog w 0 (fun _ => true) true 28 v0 d0 p0) (htab : Lib.TabIs Tryd.prog w "internal/strconv.uint64pow10" .u64 Lib.pow10Tab)
    (hE2 : ∃ pp, w.var? Tryd.prog "strconv.ErrRange" = some #[.iface 118 pp]) (hE1 : ∃ pp, w.var? Tryd.prog "strconv.ErrSyntax" = some #[.iface 118 pp]) (hS : w.ShapedOpen Tryd.prog) :
    Calls Tryd.prog 4 #[v0] w fun e w' => e = .returned (.bool true) ∧ Below w.heap.size w w' := by
  obtain ⟨A0, n0, c0, ys0, rfl, h0, hn0⟩ := open_Bytes o0 k0
  have HM := Lib.hid (ML.of_shaped hS)
  have HT := Lib.hid htab
  have HE1 := Lib.hid hE1
  have HE2 := Lib.hid hE2
  clear o0 k0 hS htab hE1 hE2
  by_cases hbig : 1048576 < n0
  · have hd : decide (1048576 < n0) = true := by simpa using hbig
    have C := Lib.hid (laws_big A0 n0 c0 w hn0)
    rw [hd] at C
    clear h0
    go_enter Tryd.func4, Tryd.ntmps4
    go_wp2_with fail
    refine C.out.mono ?_
    rintro e z ⟨rfl, rfl⟩
    go_wp2
    go_ret
    exact ⟨rfl, Below.refl _ _⟩
  have hd : decide (1048576 < n0) = false := by simpa using hbig
  have C := Lib.hid (laws_big A0 n0 c0 w hn0)
  rw [hd] at C
  have D := Lib.hid (spec_DrawLineOf A0 n0 c0 ys0 w (by omega) h0)
  clear h0
  go_enter Tryd.func4, Tryd.ntmps4
  go_wp2_with fail
  refine C.out.mono ?_
  rintro e z ⟨rfl, rfl⟩
  go_wp2_with fail
  refine D.out.mono ?_
  rintro e w1 ⟨⟨A, c, l, hl, hs, rfl, ho⟩, hb1⟩
  have HB1 := Lib.hid hb1
  have HR1 := Lib.hid (Rd.of_own (enc := encToken) (k := 2) (fun _ => rfl) ho rfl)
  have HF := Lib.hid (show ∀ y ∈ l, y.Fit from fun y hy => Nat.le_trans (hs y hy) (by omega))
  clear hb1 ho C D hs
  obtain ⟨S, hS⟩ : ∃ S : ByteArray, (⟨(lineOf l).toArray⟩ : ByteArray) = S := ⟨_, rfl⟩
  have hSl : S.size ≤ 1000 := by
    rw [← hS, size_len]
    have h1 := lineTo_len l l.length
    show (lineOf l).length ≤ 1000
    unfold lineOf
    split
    · omega
    · simp
  have HSd := Lib.hid (show S.data.toList = lineOf l by rw [← hS])
  go_wp2_with fail
  refine (impl_LineOf A l.length c l w1 (by omega) HR1.out HF.out (HM.out.below HB1.out)).mono ?_
  rw [hS]
  rintro e w2 ⟨rfl, hb2⟩
  have HB2 := Lib.hid (HB1.out.trans (hb2.mono HB1.out.size))
  have HR2 := Lib.hid (HR1.out.below hb2)
  clear hb2 HB1 HR1
  go_wp2_with fail
  refine (spec_LineOf A l.length c l w2 (by omega) HR2.out HF.out).mono ?_
  rw [hS]
  rintro e w3 ⟨rfl, hb3⟩
  have HB3 := Lib.hid (HB2.out.trans (hb3.mono HB2.out.size))
  have HR3 := Lib.hid (HR2.out.below hb3)
  clear hb3 HB2 HR2 hS
  obtain ⟨L3, hL3, hL0, hL1⟩ : ∃ L3, lex S.data.toList = (L3, true) ∧ (S = ⟨#[]⟩ → L3 = []) ∧ (¬ S = ⟨#[]⟩ → L3 = l) := by
    by_cases he : S = ⟨#[]⟩
    · exact ⟨[], by rw [he]; exact lex_nil, fun _ => rfl, fun h => absurd he h⟩
    · refine ⟨l, ?_, fun h => absurd h he, fun _ => rfl⟩
      rw [HSd.out]
      refine lex_line (lineOf_ne ?_)
      intro e
      apply he
      have := ba_back S
      rw [HSd.out, e] at this
      exact this.symm
  have HL := Lib.hid hL3
  have HL0 := Lib.hid hL0
  have HL1 := Lib.hid hL1
  clear hL3 hL0 hL1
  go_wp2_with fail
  refine (impl_Lex S w3 (by omega) (HM.out.below HB3.out) (tab_below HT.out HB3.out) (by obtain ⟨p, hp⟩ := HE1.out; exact ⟨p, var_below hp HB3.out⟩) (by obtain ⟨p, hp⟩ := HE2.out; exact ⟨p, var_below hp HB3.out⟩)).mono ?_
  rw [HL.out]
  rintro e w4 ⟨⟨A4, c4, rfl, ho4⟩, hb4⟩
  have HO4 := Lib.hid (Rd.of_own (enc := encToken) (k := 2) (fun _ => rfl) ho4 rfl)
  have HB4 := Lib.hid (HB3.out.trans (hb4.mono HB3.out.size))
  have HR4 := Lib.hid (HR3.out.below hb4)
  clear hb4 ho4 HB3 HR3 HL
  by_cases he : S = ⟨#[]⟩
  · obtain rfl := HL0.out he
    subst he
    go_wp2
    go_ret
    exact ⟨rfl, HB4.out⟩
  · obtain rfl := HL1.out he
    have hne := ne_facts he
    go_wp2_with fail
    refine (laws_sameTokens A4 A L3.length c4 c L3 w4 (by omega) HO4.out HR4.out).mono ?_
    rintro e w5 ⟨rfl, hb5⟩
    have HB5 := Lib.hid (HB4.out.trans (hb5.mono HB4.out.size))
    clear hb5
    go_wp2
    go_ret
    exact ⟨rfl, HB5.out⟩

end Go.Proofs.YtlehpgnhfpegoaaDoor
