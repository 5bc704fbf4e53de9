/-
  Walks: what each function returns, and that it leaves what lay in memory as it was.
-/
import Derived.Test.YtbelkkfdblklbaaProg
import Derived.Test.YtbelkkfdblklbaaPlain
import Derived.Test.YtbelkkfdblklbaaBase2
import Derived.Test.YtbelkkfdblklbaaOpen2
import Derived.Test.YtbelkkfdblklbaaShelf
import Derived.WalkKit
import Derived.WalkSpells
import Derived.WalkLawsBesides
import Derived.Lib.Hide
import Derived.Deep.LoopGhost
import Derived.Deep.QuietTactic
import Derived.BigQuiet
import Derived.Handy
import Derived.Deep.RegionHeld3
import Derived.StillTailTactics
import Derived.OpenShut
import Derived.ChangeSame
import Derived.Laws.StructEq

import Derived.Test.YtbelkkfdblklbaaPlainT

import Derived.Test.YtbelkkfdblklbaaW1

import Derived.Test.YtbelkkfdblklbaaW5

import Derived.Test.YtbelkkfdblklbaaW6

import Derived.Test.YtbelkkfdblklbaaW7

import Derived.Test.YtbelkkfdblklbaaW8

import Derived.Test.YtbelkkfdblklbaaBase3

namespace Go.Proofs.Ytbelkkfdblklbaa
open Go.ChangeShapes Go.WideShapes Go.ChangeAt Go.RowKit Go.Deep
set_option linter.unusedVariables false
set_option linter.unusedSimpArgs false

set_option maxRecDepth 20000

set_option maxHeartbeats 3200000 in
set_option maxRecDepth 20000 in
theorem walk_FnExactMembersOf {H : Type} {enc0 : TypeId × Value → H} {base : Nat} {d0 : DataW H} {p0 : List MemPlace} {d1 : DataW H} {p1 : List MemPlace} (v0 v1 : Value) (w : World) (o0 : Value.okWide Try.prog w .any base 29 v0) (k0 : DataW.Trod enc0 Try.prog w 0 (fun _ => true) true 29 v0 d0 p0) (o1 : Value.okWide Try.prog w .any base 31 v1) (k1 : DataW.Trod enc0 Try.prog w 0 (fun _ => true) true 31 v1 d1 p1) :
    Calls Try.prog 5 #[v0, v1] w fun e w' => e = .returned (.bool true) ∧ Below w.heap.size w w' := by
  obtain ⟨A0, n0, c0, ys0, rfl, h0, hn0, _⟩ := open_SpanS o0 k0
  have hlen0 : n0 = ys0.length := h0.1.symm
  subst hlen0
  clear o0 k0
  obtain ⟨A1, n1, c1, ys1, rfl, h1, hn1⟩ := open_IntS o1 k1
  have hlen1 : n1 = ys1.length := h1.1.symm
  subst hlen1
  clear o1 k1
  have HH1 := Lib.hid h1
  clear h1
  have HH0 := Lib.hid h0
  clear h0
  have HB := Lib.hid (Below.refl w.heap.size w)
  by_cases hbig : (1048576 : Int) < (ys1.length : Int)
  · go_enter Try.func5, Try.ntmps5
    go_wp2
    go_ret
    exact ⟨rfl, HB.out⟩
  go_enter Try.func5, Try.ntmps5
  go_wp2_with fail
  refine (laws_szSpanS A0 ys0.length c0 ys0 1048576 w (by omega) (by omega) hn0 HH0.out).mono ?_
  rintro e z1 ⟨⟨v0, rfl, hv01, hv02, hfit0⟩, hb⟩
  have n' := HB.out.trans (hb.mono HB.out.size)
  clear HB
  have HB := Lib.hid n'
  clear n'
  clear hb
  by_cases hneg0 : v0 < 0
  · clear hfit0
    go_wp2
    go_ret
    exact ⟨rfl, HB.out⟩
  have hl0 := hfit0 (by omega)
  clear hfit0
  have hl1 : ys1.length ≤ 1048576 := by omega
  obtain ⟨R, hR⟩ : ∃ R, membersOf ys0 ys1 = R := ⟨_, rfl⟩
  have hRl : R.length ≤ 1048576 := by rw [← hR]; exact Nat.le_trans (List.length_filter_le _ _) hl1
  have HR := Lib.hid hR
  clear hR
  go_wp2_with fail
  refine (laws_toSpanS A0 ys0.length c0 ys0 z1 hl0 (HH0.out.below HB.out)).mono ?_
  rintro e u2 ⟨As, cs, rfl, ho, hb⟩
  have n' := HB.out.trans (hb.mono HB.out.size)
  clear HB
  have HB := Lib.hid n'
  clear n'
  clear hb
  have Os := Lib.hid ho
  clear ho
  go_wp2_with fail
  refine (laws_toIntS A1 ys1.length c1 ys1 u2 hl1 (HH1.out.below HB.out)).mono ?_
  rintro e u3 ⟨Asi, csi, rfl, ho, hb⟩
  have n' := HB.out.trans (hb.mono HB.out.size)
  clear HB
  have HB := Lib.hid n'
  clear n'
  have n' := own_below Os.out hb
  clear Os
  have Os := Lib.hid n'
  clear n'
  clear hb
  have Osi := Lib.hid ho
  clear ho
  go_wp2_with fail
  have HC := Lib.hid (spec_MembersOf As Asi ys0.length cs ys1.length csi ys0 ys1 u3 (by omega) hl1 (Rd.of_own (enc := encSpan) (k := 2) (fun _ => rfl) Os.out rfl) (Rd.of_own (enc := encI) (k := 1) (fun _ => rfl) Osi.out rfl))
  rw [HR.out] at HC
  refine HC.out.mono ?_
  rintro e m4 ⟨Aw0, cw0, rfl, ho, hb⟩
  clear HC
  have n' := HB.out.trans (hb.mono HB.out.size)
  clear HB
  have HB := Lib.hid n'
  clear n'
  have n' := own_below Os.out hb
  clear Os
  have Os := Lib.hid n'
  clear n'
  have n' := own_below Osi.out hb
  clear Osi
  have Osi := Lib.hid n'
  clear n'
  clear hb
  have Ow0 := Lib.hid ho
  clear ho
  have LW := Lib.hid Ow0.out.lt
  have HK := Lib.hid (Below.refl m4.heap.size m4)
  have hK0 : w.heap.size ≤ m4.heap.size := HB.out.size
  go_wp2_with fail
  refine (laws_toSpanS A0 ys0.length c0 ys0 m4 hl0 (HH0.out.below HB.out)).mono ?_
  rintro e u5 ⟨Ax, cx, rfl, ho, hb⟩
  have n' := HB.out.trans (hb.mono HB.out.size)
  clear HB
  have HB := Lib.hid n'
  clear n'
  have n' := HK.out.trans (hb.mono HK.out.size)
  clear HK
  have HK := Lib.hid n'
  clear n'
  have n' := own_below Ow0.out hb
  clear Ow0
  have Ow0 := Lib.hid n'
  clear n'
  clear hb
  have Ox := Lib.hid ho
  clear ho
  have LX := Lib.hid Ox.out.lt
  have hsx : m4.heap.size ≤ u5.heap.size := HK.out.size
  have HXX := Lib.hid (Below.refl u5.heap.size u5)
  go_wp2_with fail
  refine (laws_toIntS A1 ys1.length c1 ys1 u5 hl1 (HH1.out.below HB.out)).mono ?_
  rintro e u6 ⟨Ay, cy, rfl, ho, hb⟩
  have n' := HB.out.trans (hb.mono HB.out.size)
  clear HB
  have HB := Lib.hid n'
  clear n'
  have n' := HK.out.trans (hb.mono HK.out.size)
  clear HK
  have HK := Lib.hid n'
  clear n'
  have n' := HXX.out.trans (hb.mono HXX.out.size)
  clear HXX
  have HXX := Lib.hid n'
  clear n'
  have n' := own_below Ow0.out hb
  clear Ow0
  have Ow0 := Lib.hid n'
  clear n'
  have n' := own_below Ox.out hb
  clear Ox
  have Ox := Lib.hid n'
  clear n'
  clear hb
  have Oy := Lib.hid ho
  clear ho
  have LY := Lib.hid Oy.out.lt
  have hxy : u5.heap.size ≤ u6.heap.size := HXX.out.size
  clear HXX
  go_wp2_with fail
  have HC := Lib.hid (impl_MembersOf Ax Ay ys0.length cx ys1.length cy ys0 ys1 u6 (by omega) hl1 (Rd.of_own (enc := encSpan) (k := 2) (fun _ => rfl) Ox.out rfl) (Rd.of_own (enc := encI) (k := 1) (fun _ => rfl) Oy.out rfl))
  rw [HR.out] at HC
  refine HC.out.mono ?_
  rintro e m7 ⟨Ag, cg, rfl, ho, hb⟩
  clear HC
  have n' := HB.out.trans (hb.mono HB.out.size)
  clear HB
  have HB := Lib.hid n'
  clear n'
  have n' := HK.out.trans (hb.mono HK.out.size)
  clear HK
  have HK := Lib.hid n'
  clear n'
  have n' := own_below Ow0.out hb
  clear Ow0
  have Ow0 := Lib.hid n'
  clear n'
  have n' := own_below Ox.out hb
  clear Ox
  have Ox := Lib.hid n'
  clear n'
  have n' := own_below Oy.out hb
  clear Oy
  have Oy := Lib.hid n'
  clear n'
  clear hb
  have Og := Lib.hid ho
  clear ho
  have LG := Lib.hid Og.out.lt
  go_wp2_with fail
  have HC := Lib.hid (laws_eqIntS Ag Aw0 R.length cg cw0 R m7 (by omega) (Rd.of_own (enc := encI) (k := 1) (fun _ => rfl) Og.out rfl) (Rd.of_own (enc := encI) (k := 1) (fun _ => rfl) Ow0.out rfl))
  refine HC.out.mono ?_
  rintro e q8 ⟨rfl, hb⟩
  clear HC
  have n' := HB.out.trans (hb.mono HB.out.size)
  clear HB
  have HB := Lib.hid n'
  clear n'
  have n' := HK.out.trans (hb.mono HK.out.size)
  clear HK
  have HK := Lib.hid n'
  clear n'
  have n' := own_below Ow0.out hb
  clear Ow0
  have Ow0 := Lib.hid n'
  clear n'
  have n' := own_below Ox.out hb
  clear Ox
  have Ox := Lib.hid n'
  clear n'
  have n' := own_below Oy.out hb
  clear Oy
  have Oy := Lib.hid n'
  clear n'
  have n' := own_below Og.out hb
  clear Og
  have Og := Lib.hid n'
  clear n'
  clear hb
  go_wp2_with fail
  refine (laws_toSpanS A0 ys0.length c0 ys0 q8 hl0 (HH0.out.below HB.out)).mono ?_
  rintro e u9 ⟨Ae, ce, rfl, ho, hb⟩
  have n' := HB.out.trans (hb.mono HB.out.size)
  clear HB
  have HB := Lib.hid n'
  clear n'
  have n' := HK.out.trans (hb.mono HK.out.size)
  clear HK
  have HK := Lib.hid n'
  clear n'
  have n' := own_below Ow0.out hb
  clear Ow0
  have Ow0 := Lib.hid n'
  clear n'
  have n' := own_below Ox.out hb
  clear Ox
  have Ox := Lib.hid n'
  clear n'
  have n' := own_below Oy.out hb
  clear Oy
  have Oy := Lib.hid n'
  clear n'
  have n' := own_below Og.out hb
  clear Og
  have Og := Lib.hid n'
  clear n'
  clear hb
  have Oe := Lib.hid ho
  clear ho
  go_wp2_with fail
  have HC := Lib.hid (laws_eqSpanS Ax Ae ys0.length cx ce ys0 u9 (by omega) (Rd.of_own (enc := encSpan) (k := 2) (fun _ => rfl) Ox.out rfl) (Rd.of_own (enc := encSpan) (k := 2) (fun _ => rfl) Oe.out rfl))
  refine HC.out.mono ?_
  rintro e q10 ⟨rfl, hb⟩
  clear HC
  have n' := HB.out.trans (hb.mono HB.out.size)
  clear HB
  have HB := Lib.hid n'
  clear n'
  have n' := HK.out.trans (hb.mono HK.out.size)
  clear HK
  have HK := Lib.hid n'
  clear n'
  have n' := own_below Ow0.out hb
  clear Ow0
  have Ow0 := Lib.hid n'
  clear n'
  have n' := own_below Ox.out hb
  clear Ox
  have Ox := Lib.hid n'
  clear n'
  have n' := own_below Oy.out hb
  clear Oy
  have Oy := Lib.hid n'
  clear n'
  have n' := own_below Og.out hb
  clear Og
  have Og := Lib.hid n'
  clear n'
  have n' := own_below Oe.out hb
  clear Oe
  have Oe := Lib.hid n'
  clear n'
  clear hb
  go_wp2_with fail
  refine (laws_toIntS A1 ys1.length c1 ys1 q10 hl1 (HH1.out.below HB.out)).mono ?_
  rintro e u11 ⟨Af, cf, rfl, ho, hb⟩
  have n' := HB.out.trans (hb.mono HB.out.size)
  clear HB
  have HB := Lib.hid n'
  clear n'
  have n' := HK.out.trans (hb.mono HK.out.size)
  clear HK
  have HK := Lib.hid n'
  clear n'
  have n' := own_below Ow0.out hb
  clear Ow0
  have Ow0 := Lib.hid n'
  clear n'
  have n' := own_below Ox.out hb
  clear Ox
  have Ox := Lib.hid n'
  clear n'
  have n' := own_below Oy.out hb
  clear Oy
  have Oy := Lib.hid n'
  clear n'
  have n' := own_below Og.out hb
  clear Og
  have Og := Lib.hid n'
  clear n'
  clear hb
  have Of := Lib.hid ho
  clear ho
  go_wp2_with fail
  have HC := Lib.hid (laws_eqIntS Ay Af ys1.length cy cf ys1 u11 (by omega) (Rd.of_own (enc := encI) (k := 1) (fun _ => rfl) Oy.out rfl) (Rd.of_own (enc := encI) (k := 1) (fun _ => rfl) Of.out rfl))
  refine HC.out.mono ?_
  rintro e q12 ⟨rfl, hb⟩
  clear HC
  have n' := HB.out.trans (hb.mono HB.out.size)
  clear HB
  have HB := Lib.hid n'
  clear n'
  have n' := HK.out.trans (hb.mono HK.out.size)
  clear HK
  have HK := Lib.hid n'
  clear n'
  have n' := own_below Ow0.out hb
  clear Ow0
  have Ow0 := Lib.hid n'
  clear n'
  have n' := own_below Ox.out hb
  clear Ox
  have Ox := Lib.hid n'
  clear n'
  have n' := own_below Oy.out hb
  clear Oy
  have Oy := Lib.hid n'
  clear n'
  have n' := own_below Og.out hb
  clear Og
  have Og := Lib.hid n'
  clear n'
  have n' := own_below Of.out hb
  clear Of
  have Of := Lib.hid n'
  clear n'
  clear hb
  -- marks
  have elder : ∀ (v u : Value) (B : Nat), (∀ k, v.ownBlock = some k → k < B) → (∀ k, u.ownBlock = some k → B ≤ k) → (v.ownBlock = none ∨ v.ownBlock ≠ u.ownBlock) := by
    intro v u B h1 h2
    cases he : v.ownBlock with
    | none => exact .inl rfl
    | some k =>
      refine .inr fun e => ?_
      have h3 := h1 k he
      have h4 := h2 k e.symm
      omega
  have HEl := Lib.hid elder
  clear elder
  go_wp2_with fail
  have HC := Lib.hid (laws_markSpanS Ax ys0.length cx _ 1 ys0 q12 (by omega) (by omega) rfl Ox.out)
  refine HC.out.mono ?_
  rintro e t13 ⟨rfl, hg⟩
  clear HC
  have n' := HB.out.grown hg HB.out.size (fun k hk => by have h1 := LX.out k hk; have h2 := hK0; clear HB HK; omega)
  clear HB
  have HB := Lib.hid n'
  clear n'
  have n' := HK.out.grown hg HK.out.size (fun k hk => by have h1 := LX.out k hk; have h2 := hK0; clear HB HK; omega)
  clear HK
  have HK := Lib.hid n'
  clear n'
  have n' := Ow0.out.kept hg (HEl.out _ _ m4.heap.size (fun k hk => (LW.out k hk).2) (fun k hk => (LX.out k hk).1))
  clear Ow0
  have Ow0 := Lib.hid n'
  clear n'
  have n' := Oy.out.kept hg (own_ne (B := u5.heap.size) (fun k hk => (LY.out k hk).1) (fun k hk => (LX.out k hk).2))
  clear Oy
  have Oy := Lib.hid n'
  clear n'
  have n' := Og.out.kept hg (own_ne (B := u5.heap.size) (fun k hk => Nat.le_trans hxy (LG.out k hk).1) (fun k hk => (LX.out k hk).2))
  clear Og
  have Og := Lib.hid n'
  clear n'
  clear Ox
  clear hg
  go_wp2_with fail
  have HC := Lib.hid (laws_markIntS Ay ys1.length cy _ (1 + 2 * (ys0.length : Int)) ys1 t13 (by omega) (by omega) rfl Oy.out)
  refine HC.out.mono ?_
  rintro e t14 ⟨rfl, ho, hg⟩
  clear HC
  have n' := HB.out.grown hg HB.out.size (fun k hk => by have h1 := LY.out k hk; have h2 := hK0; have h3 := hsx; clear HB HK; omega)
  clear HB
  have HB := Lib.hid n'
  clear n'
  have n' := HK.out.grown hg HK.out.size (fun k hk => by have h1 := LY.out k hk; have h2 := hK0; have h3 := hsx; clear HB HK; omega)
  clear HK
  have HK := Lib.hid n'
  clear n'
  have n' := Ow0.out.kept hg (HEl.out _ _ m4.heap.size (fun k hk => (LW.out k hk).2) (fun k hk => Nat.le_trans hsx (LY.out k hk).1))
  clear Ow0
  have Ow0 := Lib.hid n'
  clear n'
  have n' := Og.out.kept hg (own_ne (B := u6.heap.size) (fun k hk => (LG.out k hk).1) (fun k hk => (LY.out k hk).2))
  clear Og
  have Og := Lib.hid n'
  clear n'
  clear Oy
  have Oy := Lib.hid ho
  clear ho
  clear hg
  go_wp2_with fail
  have HC := Lib.hid (laws_eqIntS Ag Aw0 R.length cg cw0 R t14 (by omega) (Rd.of_own (enc := encI) (k := 1) (fun _ => rfl) Og.out rfl) (Rd.of_own (enc := encI) (k := 1) (fun _ => rfl) Ow0.out rfl))
  refine HC.out.mono ?_
  rintro e q15 ⟨rfl, hb⟩
  clear HC
  have n' := HB.out.trans (hb.mono HB.out.size)
  clear HB
  have HB := Lib.hid n'
  clear n'
  have n' := HK.out.trans (hb.mono HK.out.size)
  clear HK
  have HK := Lib.hid n'
  clear n'
  have n' := own_below Ow0.out hb
  clear Ow0
  have Ow0 := Lib.hid n'
  clear n'
  have n' := own_below Og.out hb
  clear Og
  have Og := Lib.hid n'
  clear n'
  clear hb
  go_wp2_with fail
  have HC := Lib.hid (laws_markIntS Ag R.length cg _ 1 R q15 (by omega) (by omega) rfl Og.out)
  refine HC.out.mono ?_
  rintro e t16 ⟨rfl, ho, hg⟩
  clear HC
  have n' := HB.out.grown hg HB.out.size (fun k hk => by have h1 := LG.out k hk; have h2 := hK0; have h3 := hsx; have h4 := hxy; clear HB HK; omega)
  clear HB
  have HB := Lib.hid n'
  clear n'
  have n' := HK.out.grown hg HK.out.size (fun k hk => by have h1 := LG.out k hk; have h2 := hK0; have h3 := hsx; have h4 := hxy; clear HB HK; omega)
  clear HK
  have HK := Lib.hid n'
  clear n'
  have n' := Ow0.out.kept hg (HEl.out _ _ m4.heap.size (fun k hk => (LW.out k hk).2) (fun k hk => Nat.le_trans (Nat.le_trans hsx hxy) (LG.out k hk).1))
  clear Ow0
  have Ow0 := Lib.hid n'
  clear n'
  clear Og
  have Og := Lib.hid ho
  clear ho
  clear hg
  go_wp2_with fail
  have HC := Lib.hid (laws_heldIntS Ag R.length cg 1 t16 (by omega) (by omega) (Rd.of_own (enc := encI) (k := 1) (fun _ => rfl) Og.out (imarks_len _ _)))
  refine HC.out.mono ?_
  rintro e h17 ⟨rfl, hb⟩
  clear HC
  have n' := HB.out.trans (hb.mono HB.out.size)
  clear HB
  have HB := Lib.hid n'
  clear n'
  have n' := HK.out.trans (hb.mono HK.out.size)
  clear HK
  have HK := Lib.hid n'
  clear n'
  have n' := own_below Ow0.out hb
  clear Ow0
  have Ow0 := Lib.hid n'
  clear n'
  have n' := own_below Og.out hb
  clear Og
  have Og := Lib.hid n'
  clear n'
  clear hb
  go_wp2_with fail
  refine (laws_toSpanS A0 ys0.length c0 ys0 h17 hl0 (HH0.out.below HB.out)).mono ?_
  rintro e u18 ⟨Aa, ca, rfl, ho, hb⟩
  have n' := HB.out.trans (hb.mono HB.out.size)
  clear HB
  have HB := Lib.hid n'
  clear n'
  have n' := HK.out.trans (hb.mono HK.out.size)
  clear HK
  have HK := Lib.hid n'
  clear n'
  have n' := own_below Ow0.out hb
  clear Ow0
  have Ow0 := Lib.hid n'
  clear n'
  have n' := own_below Og.out hb
  clear Og
  have Og := Lib.hid n'
  clear n'
  clear hb
  have Oa := Lib.hid ho
  clear ho
  go_wp2_with fail
  refine (laws_toIntS A1 ys1.length c1 ys1 u18 hl1 (HH1.out.below HB.out)).mono ?_
  rintro e u19 ⟨Ab, cb, rfl, ho, hb⟩
  have n' := HB.out.trans (hb.mono HB.out.size)
  clear HB
  have HB := Lib.hid n'
  clear n'
  have n' := HK.out.trans (hb.mono HK.out.size)
  clear HK
  have HK := Lib.hid n'
  clear n'
  have n' := own_below Ow0.out hb
  clear Ow0
  have Ow0 := Lib.hid n'
  clear n'
  have n' := own_below Og.out hb
  clear Og
  have Og := Lib.hid n'
  clear n'
  have n' := own_below Oa.out hb
  clear Oa
  have Oa := Lib.hid n'
  clear n'
  clear hb
  have Ob := Lib.hid ho
  clear ho
  go_wp2_with fail
  have HC := Lib.hid (impl_MembersOf Aa Ab ys0.length ca ys1.length cb ys0 ys1 u19 (by omega) hl1 (Rd.of_own (enc := encSpan) (k := 2) (fun _ => rfl) Oa.out rfl) (Rd.of_own (enc := encI) (k := 1) (fun _ => rfl) Ob.out rfl))
  rw [HR.out] at HC
  refine HC.out.mono ?_
  rintro e m20 ⟨Ah, ch, rfl, ho, hb⟩
  clear HC
  have n' := HB.out.trans (hb.mono HB.out.size)
  clear HB
  have HB := Lib.hid n'
  clear n'
  have n' := HK.out.trans (hb.mono HK.out.size)
  clear HK
  have HK := Lib.hid n'
  clear n'
  have n' := own_below Ow0.out hb
  clear Ow0
  have Ow0 := Lib.hid n'
  clear n'
  have n' := own_below Og.out hb
  clear Og
  have Og := Lib.hid n'
  clear n'
  have n' := own_below Oa.out hb
  clear Oa
  have Oa := Lib.hid n'
  clear n'
  have n' := own_below Ob.out hb
  clear Ob
  have Ob := Lib.hid n'
  clear n'
  clear hb
  have Oh := Lib.hid ho
  clear ho
  go_wp2_with fail
  have HC := Lib.hid (laws_eqIntS Ah Aw0 R.length ch cw0 R m20 (by omega) (Rd.of_own (enc := encI) (k := 1) (fun _ => rfl) Oh.out rfl) (Rd.of_own (enc := encI) (k := 1) (fun _ => rfl) Ow0.out rfl))
  refine HC.out.mono ?_
  rintro e q21 ⟨rfl, hb⟩
  clear HC
  have n' := HB.out.trans (hb.mono HB.out.size)
  clear HB
  have HB := Lib.hid n'
  clear n'
  have n' := HK.out.trans (hb.mono HK.out.size)
  clear HK
  have HK := Lib.hid n'
  clear n'
  have n' := own_below Ow0.out hb
  clear Ow0
  have Ow0 := Lib.hid n'
  clear n'
  have n' := own_below Og.out hb
  clear Og
  have Og := Lib.hid n'
  clear n'
  have n' := own_below Oh.out hb
  clear Oh
  have Oh := Lib.hid n'
  clear n'
  clear hb
  go_wp2_with fail
  have HC := Lib.hid (laws_heldIntS Ag R.length cg 1 q21 (by omega) (by omega) (Rd.of_own (enc := encI) (k := 1) (fun _ => rfl) Og.out (imarks_len _ _)))
  refine HC.out.mono ?_
  rintro e h22 ⟨rfl, hb⟩
  clear HC
  have n' := HB.out.trans (hb.mono HB.out.size)
  clear HB
  have HB := Lib.hid n'
  clear n'
  have n' := HK.out.trans (hb.mono HK.out.size)
  clear HK
  have HK := Lib.hid n'
  clear n'
  have n' := own_below Ow0.out hb
  clear Ow0
  have Ow0 := Lib.hid n'
  clear n'
  have n' := own_below Og.out hb
  clear Og
  have Og := Lib.hid n'
  clear n'
  have n' := own_below Oh.out hb
  clear Oh
  have Oh := Lib.hid n'
  clear n'
  clear hb
  go_wp2
  go_ret
  exact ⟨rfl, HB.out⟩

end Go.Proofs.Ytbelkkfdblklbaa
