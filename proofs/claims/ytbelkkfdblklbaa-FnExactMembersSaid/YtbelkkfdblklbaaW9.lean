/-
  Walks: what each function returns, and that it leaves what lay in memory as it was.
-/
import Derived.Test.YtbelkkfdblklbaaProg
import Derived.Test.YtbelkkfdblklbaaPlain
import Derived.Test.YtbelkkfdblklbaaBase2
import Derived.Test.YtbelkkfdblklbaaOpen2
import Derived.Test.YtbelkkfdblklbaaShelf
import Derived.WalkKit
import Derived.WalkSpells
import Derived.WalkLawsBesides
import Derived.Lib.Hide
import Derived.Deep.LoopGhost
import Derived.Deep.QuietTactic
import Derived.BigQuiet
import Derived.Handy
import Derived.Deep.RegionHeld3
import Derived.StillTailTactics
import Derived.OpenShut
import Derived.ChangeSame
import Derived.Laws.StructEq

import Derived.Test.YtbelkkfdblklbaaPlainT

import Derived.Test.YtbelkkfdblklbaaW1

import Derived.Test.YtbelkkfdblklbaaW5

import Derived.Test.YtbelkkfdblklbaaW6

import Derived.Test.YtbelkkfdblklbaaW7

import Derived.Test.YtbelkkfdblklbaaW8

import Derived.Test.YtbelkkfdblklbaaBase3

namespace Go.Proofs.Ytbelkkfdblklbaa
open Go.ChangeShapes Go.WideShapes Go.ChangeAt Go.RowKit Go.Deep
set_option linter.unusedVariables false
set_option linter.unusedSimpArgs false

set_option maxRecDepth 20000

set_option maxHeartbeats 3200000 in
set_option maxRecDepth 20000 in
theorem walk_FnExactMembers {H : Type} {enc0 : TypeId × Value → H} {base : Nat} {d0 : DataW H} {p0 : List MemPlace} (v0 : Value) (a1 : Int) (w : World) (o0 : Value.okWide Try.prog w .any base 29 v0) (k0 : DataW.Trod enc0 Try.prog w 0 (fun _ => true) true 29 v0 d0 p0) (w1 : (Lit.int .i64 a1).wf = true) :
    Calls Try.prog 4 #[v0, .int .i64 a1] w fun e w' => e = .returned (.bool true) ∧ Below w.heap.size w w' := by
  obtain ⟨A0, n0, c0, ys0, rfl, h0, hn0, _⟩ := open_SpanS o0 k0
  have hlen0 : n0 = ys0.length := h0.1.symm
  subst hlen0
  clear o0 k0
  have hr : -9223372036854775808 ≤ a1 ∧ a1 ≤ 9223372036854775807 := by simpa [Lit.wf, IntKind.min, IntKind.max, IntKind.bits, IntKind.signed] using w1
  clear w1
  have HH0 := Lib.hid h0
  clear h0
  have HB := Lib.hid (Below.refl w.heap.size w)
  go_enter Try.func4, Try.ntmps4
  go_wp2_with fail
  refine (laws_szSpanS A0 ys0.length c0 ys0 1048576 w (by omega) (by omega) hn0 HH0.out).mono ?_
  rintro e z1 ⟨⟨v0, rfl, hv01, hv02, hfit0⟩, hb⟩
  have n' := HB.out.trans (hb.mono HB.out.size)
  clear HB
  have HB := Lib.hid n'
  clear n'
  clear hb
  by_cases hneg0 : v0 < 0
  · clear hfit0
    go_wp2
    go_ret
    exact ⟨rfl, HB.out⟩
  have hl0 := hfit0 (by omega)
  clear hfit0
  obtain ⟨R, hR⟩ : ∃ R, members ys0 a1 = R := ⟨_, rfl⟩
  have hRl : R.length ≤ 1048576 := by rw [← hR]; have := members_len ys0 a1; omega
  have HR := Lib.hid hR
  clear hR
  go_wp2_with fail
  refine (laws_toSpanS A0 ys0.length c0 ys0 z1 hl0 (HH0.out.below HB.out)).mono ?_
  rintro e u2 ⟨As, cs, rfl, ho, hb⟩
  have n' := HB.out.trans (hb.mono HB.out.size)
  clear HB
  have HB := Lib.hid n'
  clear n'
  clear hb
  have Os := Lib.hid ho
  clear ho
  go_wp2_with fail
  have HC := Lib.hid (spec_Members As ys0.length cs ys0 a1 u2 (by omega) hr.1 (Rd.of_own (enc := encSpan) (k := 2) (fun _ => rfl) Os.out rfl))
  rw [HR.out] at HC
  refine HC.out.mono ?_
  rintro e m3 ⟨Aw0, cw0, rfl, ho, hb⟩
  clear HC
  have n' := HB.out.trans (hb.mono HB.out.size)
  clear HB
  have HB := Lib.hid n'
  clear n'
  have n' := own_below Os.out hb
  clear Os
  have Os := Lib.hid n'
  clear n'
  clear hb
  have Ow0 := Lib.hid ho
  clear ho
  have LW := Lib.hid Ow0.out.lt
  have HK := Lib.hid (Below.refl m3.heap.size m3)
  have hK0 : w.heap.size ≤ m3.heap.size := HB.out.size
  go_wp2_with fail
  refine (laws_toSpanS A0 ys0.length c0 ys0 m3 hl0 (HH0.out.below HB.out)).mono ?_
  rintro e u4 ⟨Ax, cx, rfl, ho, hb⟩
  have n' := HB.out.trans (hb.mono HB.out.size)
  clear HB
  have HB := Lib.hid n'
  clear n'
  have n' := HK.out.trans (hb.mono HK.out.size)
  clear HK
  have HK := Lib.hid n'
  clear n'
  have n' := own_below Ow0.out hb
  clear Ow0
  have Ow0 := Lib.hid n'
  clear n'
  clear hb
  have Ox := Lib.hid ho
  clear ho
  have LX := Lib.hid Ox.out.lt
  have hsx : m3.heap.size ≤ u4.heap.size := HK.out.size
  go_wp2_with fail
  have HC := Lib.hid (impl_Members Ax ys0.length cx ys0 a1 u4 (by omega) hr.1 (Rd.of_own (enc := encSpan) (k := 2) (fun _ => rfl) Ox.out rfl))
  rw [HR.out] at HC
  refine HC.out.mono ?_
  rintro e m5 ⟨Ag, cg, rfl, ho, hb⟩
  clear HC
  have n' := HB.out.trans (hb.mono HB.out.size)
  clear HB
  have HB := Lib.hid n'
  clear n'
  have n' := HK.out.trans (hb.mono HK.out.size)
  clear HK
  have HK := Lib.hid n'
  clear n'
  have n' := own_below Ow0.out hb
  clear Ow0
  have Ow0 := Lib.hid n'
  clear n'
  have n' := own_below Ox.out hb
  clear Ox
  have Ox := Lib.hid n'
  clear n'
  clear hb
  have Og := Lib.hid ho
  clear ho
  have LG := Lib.hid Og.out.lt
  go_wp2_with fail
  have HC := Lib.hid (laws_eqIntS Ag Aw0 R.length cg cw0 R m5 (by omega) (Rd.of_own (enc := encI) (k := 1) (fun _ => rfl) Og.out rfl) (Rd.of_own (enc := encI) (k := 1) (fun _ => rfl) Ow0.out rfl))
  refine HC.out.mono ?_
  rintro e q6 ⟨rfl, hb⟩
  clear HC
  have n' := HB.out.trans (hb.mono HB.out.size)
  clear HB
  have HB := Lib.hid n'
  clear n'
  have n' := HK.out.trans (hb.mono HK.out.size)
  clear HK
  have HK := Lib.hid n'
  clear n'
  have n' := own_below Ow0.out hb
  clear Ow0
  have Ow0 := Lib.hid n'
  clear n'
  have n' := own_below Ox.out hb
  clear Ox
  have Ox := Lib.hid n'
  clear n'
  have n' := own_below Og.out hb
  clear Og
  have Og := Lib.hid n'
  clear n'
  clear hb
  go_wp2_with fail
  refine (laws_toSpanS A0 ys0.length c0 ys0 q6 hl0 (HH0.out.below HB.out)).mono ?_
  rintro e u7 ⟨Ae, ce, rfl, ho, hb⟩
  have n' := HB.out.trans (hb.mono HB.out.size)
  clear HB
  have HB := Lib.hid n'
  clear n'
  have n' := HK.out.trans (hb.mono HK.out.size)
  clear HK
  have HK := Lib.hid n'
  clear n'
  have n' := own_below Ow0.out hb
  clear Ow0
  have Ow0 := Lib.hid n'
  clear n'
  have n' := own_below Ox.out hb
  clear Ox
  have Ox := Lib.hid n'
  clear n'
  have n' := own_below Og.out hb
  clear Og
  have Og := Lib.hid n'
  clear n'
  clear hb
  have Oe := Lib.hid ho
  clear ho
  go_wp2_with fail
  have HC := Lib.hid (laws_eqSpanS Ax Ae ys0.length cx ce ys0 u7 (by omega) (Rd.of_own (enc := encSpan) (k := 2) (fun _ => rfl) Ox.out rfl) (Rd.of_own (enc := encSpan) (k := 2) (fun _ => rfl) Oe.out rfl))
  refine HC.out.mono ?_
  rintro e q8 ⟨rfl, hb⟩
  clear HC
  have n' := HB.out.trans (hb.mono HB.out.size)
  clear HB
  have HB := Lib.hid n'
  clear n'
  have n' := HK.out.trans (hb.mono HK.out.size)
  clear HK
  have HK := Lib.hid n'
  clear n'
  have n' := own_below Ow0.out hb
  clear Ow0
  have Ow0 := Lib.hid n'
  clear n'
  have n' := own_below Ox.out hb
  clear Ox
  have Ox := Lib.hid n'
  clear n'
  have n' := own_below Og.out hb
  clear Og
  have Og := Lib.hid n'
  clear n'
  have n' := own_below Oe.out hb
  clear Oe
  have Oe := Lib.hid n'
  clear n'
  clear hb
  -- marks
  have elder : ∀ (v u : Value) (B : Nat), (∀ k, v.ownBlock = some k → k < B) → (∀ k, u.ownBlock = some k → B ≤ k) → (v.ownBlock = none ∨ v.ownBlock ≠ u.ownBlock) := by
    intro v u B h1 h2
    cases he : v.ownBlock with
    | none => exact .inl rfl
    | some k =>
      refine .inr fun e => ?_
      have h3 := h1 k he
      have h4 := h2 k e.symm
      omega
  have HEl := Lib.hid elder
  clear elder
  go_wp2_with fail
  have HC := Lib.hid (laws_markSpanS Ax ys0.length cx _ 1 ys0 q8 (by omega) (by omega) rfl Ox.out)
  refine HC.out.mono ?_
  rintro e t9 ⟨rfl, hg⟩
  clear HC
  have n' := HB.out.grown hg HB.out.size (fun k hk => by have h1 := LX.out k hk; have h2 := hK0; clear HB HK; omega)
  clear HB
  have HB := Lib.hid n'
  clear n'
  have n' := HK.out.grown hg HK.out.size (fun k hk => by have h1 := LX.out k hk; have h2 := hK0; clear HB HK; omega)
  clear HK
  have HK := Lib.hid n'
  clear n'
  have n' := Ow0.out.kept hg (HEl.out _ _ m3.heap.size (fun k hk => (LW.out k hk).2) (fun k hk => (LX.out k hk).1))
  clear Ow0
  have Ow0 := Lib.hid n'
  clear n'
  have n' := Og.out.kept hg (own_ne (B := u4.heap.size) (fun k hk => (LG.out k hk).1) (fun k hk => (LX.out k hk).2))
  clear Og
  have Og := Lib.hid n'
  clear n'
  clear Ox
  clear hg
  go_wp2_with fail
  have HC := Lib.hid (laws_eqIntS Ag Aw0 R.length cg cw0 R t9 (by omega) (Rd.of_own (enc := encI) (k := 1) (fun _ => rfl) Og.out rfl) (Rd.of_own (enc := encI) (k := 1) (fun _ => rfl) Ow0.out rfl))
  refine HC.out.mono ?_
  rintro e q10 ⟨rfl, hb⟩
  clear HC
  have n' := HB.out.trans (hb.mono HB.out.size)
  clear HB
  have HB := Lib.hid n'
  clear n'
  have n' := HK.out.trans (hb.mono HK.out.size)
  clear HK
  have HK := Lib.hid n'
  clear n'
  have n' := own_below Ow0.out hb
  clear Ow0
  have Ow0 := Lib.hid n'
  clear n'
  have n' := own_below Og.out hb
  clear Og
  have Og := Lib.hid n'
  clear n'
  clear hb
  go_wp2_with fail
  have HC := Lib.hid (laws_markIntS Ag R.length cg _ 1 R q10 (by omega) (by omega) rfl Og.out)
  refine HC.out.mono ?_
  rintro e t11 ⟨rfl, ho, hg⟩
  clear HC
  have n' := HB.out.grown hg HB.out.size (fun k hk => by have h1 := LG.out k hk; have h2 := hK0; have h3 := hsx; clear HB HK; omega)
  clear HB
  have HB := Lib.hid n'
  clear n'
  have n' := HK.out.grown hg HK.out.size (fun k hk => by have h1 := LG.out k hk; have h2 := hK0; have h3 := hsx; clear HB HK; omega)
  clear HK
  have HK := Lib.hid n'
  clear n'
  have n' := Ow0.out.kept hg (HEl.out _ _ m3.heap.size (fun k hk => (LW.out k hk).2) (fun k hk => Nat.le_trans hsx (LG.out k hk).1))
  clear Ow0
  have Ow0 := Lib.hid n'
  clear n'
  clear Og
  have Og := Lib.hid ho
  clear ho
  clear hg
  go_wp2_with fail
  have HC := Lib.hid (laws_heldIntS Ag R.length cg 1 t11 (by omega) (by omega) (Rd.of_own (enc := encI) (k := 1) (fun _ => rfl) Og.out (imarks_len _ _)))
  refine HC.out.mono ?_
  rintro e h12 ⟨rfl, hb⟩
  clear HC
  have n' := HB.out.trans (hb.mono HB.out.size)
  clear HB
  have HB := Lib.hid n'
  clear n'
  have n' := HK.out.trans (hb.mono HK.out.size)
  clear HK
  have HK := Lib.hid n'
  clear n'
  have n' := own_below Ow0.out hb
  clear Ow0
  have Ow0 := Lib.hid n'
  clear n'
  have n' := own_below Og.out hb
  clear Og
  have Og := Lib.hid n'
  clear n'
  clear hb
  go_wp2_with fail
  refine (laws_toSpanS A0 ys0.length c0 ys0 h12 hl0 (HH0.out.below HB.out)).mono ?_
  rintro e u13 ⟨Aa, ca, rfl, ho, hb⟩
  have n' := HB.out.trans (hb.mono HB.out.size)
  clear HB
  have HB := Lib.hid n'
  clear n'
  have n' := HK.out.trans (hb.mono HK.out.size)
  clear HK
  have HK := Lib.hid n'
  clear n'
  have n' := own_below Ow0.out hb
  clear Ow0
  have Ow0 := Lib.hid n'
  clear n'
  have n' := own_below Og.out hb
  clear Og
  have Og := Lib.hid n'
  clear n'
  clear hb
  have Oa := Lib.hid ho
  clear ho
  go_wp2_with fail
  have HC := Lib.hid (impl_Members Aa ys0.length ca ys0 a1 u13 (by omega) hr.1 (Rd.of_own (enc := encSpan) (k := 2) (fun _ => rfl) Oa.out rfl))
  rw [HR.out] at HC
  refine HC.out.mono ?_
  rintro e m14 ⟨Ah, ch, rfl, ho, hb⟩
  clear HC
  have n' := HB.out.trans (hb.mono HB.out.size)
  clear HB
  have HB := Lib.hid n'
  clear n'
  have n' := HK.out.trans (hb.mono HK.out.size)
  clear HK
  have HK := Lib.hid n'
  clear n'
  have n' := own_below Ow0.out hb
  clear Ow0
  have Ow0 := Lib.hid n'
  clear n'
  have n' := own_below Og.out hb
  clear Og
  have Og := Lib.hid n'
  clear n'
  have n' := own_below Oa.out hb
  clear Oa
  have Oa := Lib.hid n'
  clear n'
  clear hb
  have Oh := Lib.hid ho
  clear ho
  go_wp2_with fail
  have HC := Lib.hid (laws_eqIntS Ah Aw0 R.length ch cw0 R m14 (by omega) (Rd.of_own (enc := encI) (k := 1) (fun _ => rfl) Oh.out rfl) (Rd.of_own (enc := encI) (k := 1) (fun _ => rfl) Ow0.out rfl))
  refine HC.out.mono ?_
  rintro e q15 ⟨rfl, hb⟩
  clear HC
  have n' := HB.out.trans (hb.mono HB.out.size)
  clear HB
  have HB := Lib.hid n'
  clear n'
  have n' := HK.out.trans (hb.mono HK.out.size)
  clear HK
  have HK := Lib.hid n'
  clear n'
  have n' := own_below Ow0.out hb
  clear Ow0
  have Ow0 := Lib.hid n'
  clear n'
  have n' := own_below Og.out hb
  clear Og
  have Og := Lib.hid n'
  clear n'
  have n' := own_below Oh.out hb
  clear Oh
  have Oh := Lib.hid n'
  clear n'
  clear hb
  go_wp2_with fail
  have HC := Lib.hid (laws_heldIntS Ag R.length cg 1 q15 (by omega) (by omega) (Rd.of_own (enc := encI) (k := 1) (fun _ => rfl) Og.out (imarks_len _ _)))
  refine HC.out.mono ?_
  rintro e h16 ⟨rfl, hb⟩
  clear HC
  have n' := HB.out.trans (hb.mono HB.out.size)
  clear HB
  have HB := Lib.hid n'
  clear n'
  have n' := HK.out.trans (hb.mono HK.out.size)
  clear HK
  have HK := Lib.hid n'
  clear n'
  have n' := own_below Ow0.out hb
  clear Ow0
  have Ow0 := Lib.hid n'
  clear n'
  have n' := own_below Og.out hb
  clear Og
  have Og := Lib.hid n'
  clear n'
  have n' := own_below Oh.out hb
  clear Oh
  have Oh := Lib.hid n'
  clear n'
  clear hb
  go_wp2
  go_ret
  exact ⟨rfl, HB.out⟩

end Go.Proofs.Ytbelkkfdblklbaa
