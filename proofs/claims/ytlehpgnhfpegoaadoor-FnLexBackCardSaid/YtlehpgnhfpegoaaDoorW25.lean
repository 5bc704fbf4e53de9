/-
  Walks: what each function returns, and that it leaves what lay in memory as it was.
-/
import Derived.Test.YtlehpgnhfpegoaaDoorProg
import Derived.Test.YtlehpgnhfpegoaaDoorPlain
import Derived.Test.YtlehpgnhfpegoaaDoorBase2
import Derived.Test.YtlehpgnhfpegoaaDoorOpen2
import Derived.Test.YtlehpgnhfpegoaaDoorShelf
import Derived.WalkKit
import Derived.WalkSpells
import Derived.WalkLawsBesides
import Derived.Lib.Hide
import Derived.Deep.LoopGhost
import Derived.Deep.QuietTactic
import Derived.BigQuiet
import Derived.Handy
import Derived.Deep.RegionHeld3
import Derived.StillTailTactics
import Derived.OpenShut
import Derived.ChangeSame
import Derived.Laws.StructEq

import Derived.Test.YtlehpgnhfpegoaaDoorPlainT

import Derived.Test.YtlehpgnhfpegoaaDoorW1

import Derived.Test.YtlehpgnhfpegoaaDoorW2

import Derived.Test.YtlehpgnhfpegoaaDoorW3

import Derived.Test.YtlehpgnhfpegoaaDoorW4

import Derived.Test.YtlehpgnhfpegoaaDoorW5

import Derived.Test.YtlehpgnhfpegoaaDoorW6

import Derived.Test.YtlehpgnhfpegoaaDoorBase3

import Derived.Lib.ItoaMem
import Derived.Lib.ItoaLen
import Derived.Lib.LaidTab

import Derived.Lib.AtoiTie
import Derived.Lib.AtoiBound
import Derived.Lib.ConvBytes

import Derived.Test.YtlehpgnhfpegoaaDoorW7

import Derived.Test.YtlehpgnhfpegoaaDoorW8

import Derived.Test.YtlehpgnhfpegoaaDoorW10

import Derived.Test.YtlehpgnhfpegoaaDoorW13

import Derived.Test.YtlehpgnhfpegoaaDoorW14

import Derived.Test.YtlehpgnhfpegoaaDoorW9

import Derived.Test.YtlehpgnhfpegoaaDoorW11

import Derived.Test.YtlehpgnhfpegoaaDoorW12

import Derived.Test.YtlehpgnhfpegoaaDoorW15

import Derived.Test.YtlehpgnhfpegoaaDoorW18

import Derived.Test.YtlehpgnhfpegoaaDoorW19

import Derived.Test.YtlehpgnhfpegoaaDoorW20

import Derived.Test.YtlehpgnhfpegoaaDoorW21

import Derived.Test.YtlehpgnhfpegoaaDoorW22

import Derived.Test.YtlehpgnhfpegoaaDoorW23

import Derived.Test.YtlehpgnhfpegoaaDoorW24

namespace Go.Proofs.YtlehpgnhfpegoaaDoor
open Go.ChangeShapes Go.WideShapes Go.ChangeAt Go.RowKit Go.Deep
set_option linter.unusedVariables false
set_option linter.unusedSimpArgs false

set_option maxRecDepth 20000

set_option maxHeartbeats 3200000 in
set_option maxRecDepth 20000 in
theorem walk_FnLexBack {H : Type} {enc0 : TypeId × Value → H} {base : Nat} {d0 : DataW H} {p0 : List MemPlace} (v0 : Value) (w : World) (o0 : Value.okWide Tryd.prog w .any base 28 v0) (k0 : DataW.Trod enc0 Tryd.prog w 0 (fun _ => true) true 28 v0 d0 p0) (htab : Lib.TabIs Tryd.prog w "internal/strconv.uint64pow10" .u64 Lib.pow10Tab)
    (hE2 : ∃ pp, w.var? Tryd.prog "strconv.ErrRange" = some #[.iface 118 pp]) (hE1 : ∃ pp, w.var? Tryd.prog "strconv.ErrSyntax" = some #[.iface 118 pp]) (hS : w.ShapedOpen Tryd.prog) :
    Calls Tryd.prog 5 #[v0] w fun e w' => e = .returned (.bool true) ∧ Below w.heap.size w w' := by
  obtain ⟨A0, n0, c0, ys0, rfl, h0, hn0⟩ := open_Bytes o0 k0
  have HM := Lib.hid (ML.of_shaped hS)
  have HT := Lib.hid htab
  have HE1 := Lib.hid hE1
  have HE2 := Lib.hid hE2
  clear o0 k0 hS htab hE1 hE2
  by_cases hbig : 1048576 < n0
  · have hd : decide (1048576 < n0) = true := by simpa using hbig
    have C := Lib.hid (laws_big A0 n0 c0 w hn0)
    rw [hd] at C
    clear h0
    go_enter Tryd.func5, Tryd.ntmps5
    go_wp2_with fail
    refine C.out.mono ?_
    rintro e z ⟨rfl, rfl⟩
    go_wp2
    go_ret
    exact ⟨rfl, Below.refl _ _⟩
  have hd : decide (1048576 < n0) = false := by simpa using hbig
  have C := Lib.hid (laws_big A0 n0 c0 w hn0)
  rw [hd] at C
  have D := Lib.hid (spec_DrawLex A0 n0 c0 ys0 w (by omega) h0)
  clear h0
  go_enter Tryd.func5, Tryd.ntmps5
  go_wp2_with fail
  refine C.out.mono ?_
  rintro e z ⟨rfl, rfl⟩
  go_wp2_with fail
  refine D.out.mono ?_
  rintro e w1 ⟨⟨S, hSl, rfl⟩, hb1⟩
  have HB1 := Lib.hid hb1
  clear hb1 C D
  obtain ⟨L, hL⟩ : ∃ L, (lex S.data.toList).1 = L := ⟨_, rfl⟩
  obtain ⟨b, hb⟩ : ∃ b, (lex S.data.toList).2 = b := ⟨_, rfl⟩
  have hLl : L.length ≤ 5000 := by have := lex_len S.data.toList; rw [hL, ← size_len] at this; omega
  have HF := Lib.hid (show ∀ y ∈ L, y.Fit from fun y hy => by have h := (lex_ok S.data.toList y (hL ▸ hy)).2; unfold Token.Fit; omega)
  have HBk := Lib.hid (show lex (lineOf L) = (L, true) from hL ▸ lex_back S.data.toList)
  have HBad := Lib.hid (show b = false → L = [] from fun h => by rw [← hL]; exact lex_bad (hb.trans h))
  go_wp2_with fail
  refine (impl_Lex S w1 (by omega) (HM.out.below HB1.out) (tab_below HT.out HB1.out) (by obtain ⟨p, hp⟩ := HE1.out; exact ⟨p, var_below hp HB1.out⟩) (by obtain ⟨p, hp⟩ := HE2.out; exact ⟨p, var_below hp HB1.out⟩)).mono ?_
  rw [hL, hb]
  rintro e w2 ⟨⟨A2, c2, rfl, ho2⟩, hb2⟩
  have HO2 := Lib.hid (Rd.of_own (enc := encToken) (k := 2) (fun _ => rfl) ho2 rfl)
  have HB2 := Lib.hid (HB1.out.trans (hb2.mono HB1.out.size))
  clear hb2 ho2 HB1
  go_wp2_with fail
  refine (spec_Lex S w2 (by omega)).mono ?_
  rw [hL, hb]
  rintro e w3 ⟨⟨A3, c3, rfl, _⟩, hb3⟩
  have HO3 := Lib.hid (HO2.out.below hb3)
  have HB3 := Lib.hid (HB2.out.trans (hb3.mono HB2.out.size))
  clear hb3 HO2 HB2 hL hb
  cases b with
  | false =>
    obtain rfl := HBad.out rfl
    go_wp2
    go_ret
    exact ⟨rfl, HB3.out⟩
  | true =>
    obtain ⟨T, hT⟩ : ∃ T : ByteArray, (⟨(lineOf L).toArray⟩ : ByteArray) = T := ⟨_, rfl⟩
    have hTl : T.size ≤ 600000 := by
      rw [← hT, size_len]
      have h1 := lineTo_len L L.length
      show (lineOf L).length ≤ 600000
      unfold lineOf
      split
      · omega
      · simp
    have HTd := Lib.hid (show S.data.toList = S.data.toList ∧ lex T.data.toList = (L, true) from ⟨rfl, by rw [← hT]; exact HBk.out⟩)
    go_wp2_with fail
    refine (impl_LineOf A2 L.length c2 L w3 (by omega) HO3.out HF.out (HM.out.below HB3.out)).mono ?_
    rw [hT]
    rintro e w4 ⟨rfl, hb4⟩
    have HO4 := Lib.hid (HO3.out.below hb4)
    have HB4 := Lib.hid (HB3.out.trans (hb4.mono HB3.out.size))
    clear hb4 HO3 HB3 hT HBk
    go_wp2_with fail
    refine (impl_Lex T w4 (by omega) (HM.out.below HB4.out) (tab_below HT.out HB4.out) (by obtain ⟨p, hp⟩ := HE1.out; exact ⟨p, var_below hp HB4.out⟩) (by obtain ⟨p, hp⟩ := HE2.out; exact ⟨p, var_below hp HB4.out⟩)).mono ?_
    rw [HTd.out.2]
    rintro e w5 ⟨⟨A5, c5, rfl, ho5⟩, hb5⟩
    have HY5 := Lib.hid (Rd.of_own (enc := encToken) (k := 2) (fun _ => rfl) ho5 rfl)
    have HO5 := Lib.hid (HO4.out.below hb5)
    have HB5 := Lib.hid (HB4.out.trans (hb5.mono HB4.out.size))
    clear hb5 ho5 HO4 HB4
    go_wp2_with fail
    refine (laws_sameTokens A5 A2 L.length c5 c2 L w5 (by omega) HY5.out HO5.out).mono ?_
    rintro e w6 ⟨rfl, hb6⟩
    have HB6 := Lib.hid (HB5.out.trans (hb6.mono HB5.out.size))
    clear hb6
    go_wp2
    go_ret
    exact ⟨rfl, HB6.out⟩

end Go.Proofs.YtlehpgnhfpegoaaDoor
