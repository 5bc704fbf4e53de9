/-
  Walks: what each function returns, and that it leaves what lay in memory as it was.
-/
import Derived.Test.YtlehpgnhfpegoaaDoorProg
import Derived.Test.YtlehpgnhfpegoaaDoorPlain
import Derived.Test.YtlehpgnhfpegoaaDoorBase2
import Derived.Test.YtlehpgnhfpegoaaDoorOpen2
import Derived.Test.YtlehpgnhfpegoaaDoorShelf
import Derived.WalkKit
import Derived.WalkSpells
import Derived.WalkLawsBesides
import Derived.Lib.Hide
import Derived.Deep.LoopGhost
import Derived.Deep.QuietTactic
import Derived.BigQuiet
import Derived.Handy
import Derived.Deep.RegionHeld3
import Derived.StillTailTactics
import Derived.OpenShut
import Derived.ChangeSame
import Derived.Laws.StructEq

import Derived.Test.YtlehpgnhfpegoaaDoorPlainT

import Derived.Test.YtlehpgnhfpegoaaDoorW1

import Derived.Test.YtlehpgnhfpegoaaDoorW2

import Derived.Test.YtlehpgnhfpegoaaDoorW3

import Derived.Test.YtlehpgnhfpegoaaDoorW4

import Derived.Test.YtlehpgnhfpegoaaDoorW5

import Derived.Test.YtlehpgnhfpegoaaDoorW6

import Derived.Test.YtlehpgnhfpegoaaDoorBase3

import Derived.Lib.ItoaMem
import Derived.Lib.ItoaLen
import Derived.Lib.LaidTab

import Derived.Lib.AtoiTie
import Derived.Lib.AtoiBound
import Derived.Lib.ConvBytes

import Derived.Test.YtlehpgnhfpegoaaDoorW7

import Derived.Test.YtlehpgnhfpegoaaDoorW8

import Derived.Test.YtlehpgnhfpegoaaDoorW10

import Derived.Test.YtlehpgnhfpegoaaDoorW13

import Derived.Test.YtlehpgnhfpegoaaDoorW14

import Derived.Test.YtlehpgnhfpegoaaDoorW9

import Derived.Test.YtlehpgnhfpegoaaDoorW11

import Derived.Test.YtlehpgnhfpegoaaDoorW12

import Derived.Test.YtlehpgnhfpegoaaDoorW15

import Derived.Test.YtlehpgnhfpegoaaDoorW16

namespace Go.Proofs.YtlehpgnhfpegoaaDoor
open Go.ChangeShapes Go.WideShapes Go.ChangeAt Go.RowKit Go.Deep
set_option linter.unusedVariables false
set_option linter.unusedSimpArgs false

set_option maxRecDepth 20000

set_option maxHeartbeats 3200000 in
set_option maxRecDepth 20000 in
theorem walk_FnExactLex (a0 : ByteArray) (w : World) (w0 : a0.size ≤ maxLen) (htab : Lib.TabIs Tryd.prog w "internal/strconv.uint64pow10" .u64 Lib.pow10Tab)
    (hE2 : ∃ pp, w.var? Tryd.prog "strconv.ErrRange" = some #[.iface 118 pp]) (hE1 : ∃ pp, w.var? Tryd.prog "strconv.ErrSyntax" = some #[.iface 118 pp]) (hS : w.ShapedOpen Tryd.prog) :
    Calls Tryd.prog 3 #[.string a0] w fun e w' => e = .returned (.bool true) ∧ Below w.heap.size w w' := by
  unfold maxLen at w0
  have HT := Lib.hid htab
  have HE1 := Lib.hid hE1
  have HE2 := Lib.hid hE2
  have HM := Lib.hid (ML.of_shaped hS)
  clear htab hE1 hE2 hS
  by_cases hs : (1048576 : Int) < (a0.size : Int)
  · go_enter Tryd.func3, Tryd.ntmps3
    go_wp2
    go_ret
    exact ⟨rfl, Below.refl _ _⟩
  have hs' : a0.size ≤ 1048576 := by omega
  obtain ⟨R, hR⟩ : ∃ R, (lex a0.data.toList).1 = R := ⟨_, rfl⟩
  obtain ⟨b, hb⟩ : ∃ b, (lex a0.data.toList).2 = b := ⟨_, rfl⟩
  have hRl : R.length ≤ 1048576 := by have := lex_len a0.data.toList; rw [hR, ← size_len] at this; omega
  have HI := Lib.hid (fun w h1 h2 h3 h4 => hR ▸ hb ▸ impl_Lex a0 w hs' h1 h2 h3 h4)
  have HS := Lib.hid (hR ▸ hb ▸ spec_Lex a0 w hs')
  clear hR hb
  go_enter Tryd.func3, Tryd.ntmps3
  go_wp2_with fail
  refine HS.out.mono ?_
  rintro e w1 ⟨⟨Aw, cw, rfl, ho⟩, hb1⟩
  have Ow := Lib.hid ho
  have LW := Lib.hid ho.lt
  have HB1 := Lib.hid hb1
  clear ho hb1 HS
  go_wp2_with fail
  refine (HI.out _ (HM.out.below HB1.out) (tab_below HT.out HB1.out) (by obtain ⟨p, hp⟩ := HE1.out; exact ⟨p, var_below hp HB1.out⟩) (by obtain ⟨p, hp⟩ := HE2.out; exact ⟨p, var_below hp HB1.out⟩)).mono ?_
  rintro e w2 ⟨⟨Ag, cg, rfl, ho⟩, hb2⟩
  have Og := Lib.hid ho
  have LG := Lib.hid ho.lt
  have Ow2 := Lib.hid (own_below Ow.out hb2)
  have HB2 := Lib.hid (HB1.out.trans (hb2.mono HB1.out.size))
  have HK := Lib.hid hb2
  have hK0 : w.heap.size ≤ w1.heap.size := HB1.out.size
  clear ho hb2 Ow
  go_wp2_with fail
  refine (laws_eqTokenS Ag Aw R.length cg cw R w2 (by omega) (Rd.of_own (enc := encToken) (k := 2) (fun _ => rfl) Og.out rfl) (Rd.of_own (enc := encToken) (k := 2) (fun _ => rfl) Ow2.out rfl)).mono ?_
  rintro e w3 ⟨rfl, hb3⟩
  have Og3 := Lib.hid (own_below Og.out hb3)
  have Ow3 := Lib.hid (own_below Ow2.out hb3)
  have HB3 := Lib.hid (HB2.out.trans (hb3.mono HB2.out.size))
  clear hb3 Og Ow2 HB2
  cases b
  all_goals
    go_wp2_with fail
    refine (laws_markTokenS Ag R.length cg w1.heap.size 1 R w3 (by omega) (by omega) rfl Og3.out).mono ?_
    rintro e w4 ⟨rfl, ho4, hg4⟩
    have Og4 := Lib.hid ho4
    have HB4 := Lib.hid (HB3.out.grown hg4 HB3.out.size (fun k hk => by have h1 := LG.out k hk; have h2 := hK0; clear HB3 HK; omega))
    have Ow4 := Lib.hid (Ow3.out.kept hg4 (older (B := w1.heap.size) (fun k hk => (LW.out k hk).2) (fun k hk => (LG.out k hk).1)))
    clear ho4 hg4 Og3 Ow3
    go_wp2_with fail
    refine (laws_heldTokenS Ag R.length cg 1 w4 (by omega) (by omega) (Rd.of_own (enc := encToken) (k := 2) (fun _ => rfl) Og4.out (tmarks_len _ _))).mono ?_
    rintro e w5 ⟨rfl, hb5⟩
    have Og5 := Lib.hid (own_below Og4.out hb5)
    have Ow5 := Lib.hid (own_below Ow4.out hb5)
    have HB5 := Lib.hid (HB4.out.trans (hb5.mono HB4.out.size))
    clear hb5 Og4 Ow4 HB4
    go_wp2_with fail
    refine (HI.out _ (HM.out.below HB5.out) (tab_below HT.out HB5.out) (by obtain ⟨p, hp⟩ := HE1.out; exact ⟨p, var_below hp HB5.out⟩) (by obtain ⟨p, hp⟩ := HE2.out; exact ⟨p, var_below hp HB5.out⟩)).mono ?_
    rintro e w6 ⟨⟨Ah, ch, rfl, ho⟩, hb6⟩
    have Oh := Lib.hid ho
    have Og6 := Lib.hid (own_below Og5.out hb6)
    have Ow6 := Lib.hid (own_below Ow5.out hb6)
    have HB6 := Lib.hid (HB5.out.trans (hb6.mono HB5.out.size))
    clear hb6 Og5 Ow5 ho HB5
    go_wp2_with fail
    refine (laws_eqTokenS Ah Aw R.length ch cw R w6 (by omega) (Rd.of_own (enc := encToken) (k := 2) (fun _ => rfl) Oh.out rfl) (Rd.of_own (enc := encToken) (k := 2) (fun _ => rfl) Ow6.out rfl)).mono ?_
    rintro e w7 ⟨rfl, hb7⟩
    have Og7 := Lib.hid (own_below Og6.out hb7)
    have HB7 := Lib.hid (HB6.out.trans (hb7.mono HB6.out.size))
    clear hb7 Og6 Oh Ow6 HB6
    go_wp2_with fail
    refine (laws_heldTokenS Ag R.length cg 1 w7 (by omega) (by omega) (Rd.of_own (enc := encToken) (k := 2) (fun _ => rfl) Og7.out (tmarks_len _ _))).mono ?_
    rintro e w8 ⟨rfl, hb8⟩
    have HB8 := Lib.hid (HB7.out.trans (hb8.mono HB7.out.size))
    clear hb8 Og7 HB7
    go_wp2
    go_ret
    exact ⟨rfl, HB8.out⟩

end Go.Proofs.YtlehpgnhfpegoaaDoor
