/-
  Walks: what each function returns, and that it leaves what lay in memory as it was.
-/
import Derived.Test.YtjiboekeeafpoaaProg
import Derived.Test.YtjiboekeeafpoaaPlain
import Derived.Test.YtjiboekeeafpoaaBase2
import Derived.Test.YtjiboekeeafpoaaOpen2
import Derived.Test.YtjiboekeeafpoaaShelf
import Derived.WalkKit
import Derived.WalkSpells
import Derived.WalkLawsBesides
import Derived.Lib.Hide
import Derived.Deep.LoopGhost
import Derived.Deep.QuietTactic
import Derived.BigQuiet
import Derived.Handy
import Derived.Deep.RegionHeld3
import Derived.StillTailTactics
import Derived.OpenShut
import Derived.ChangeSame
import Derived.Laws.StructEq

import Derived.Test.YtjiboekeeafpoaaPlainT

import Derived.Test.YtjiboekeeafpoaaW1

import Derived.Test.YtjiboekeeafpoaaW2

import Derived.Test.YtjiboekeeafpoaaW3

import Derived.Test.YtjiboekeeafpoaaW4

import Derived.Test.YtjiboekeeafpoaaW5

import Derived.Test.YtjiboekeeafpoaaW9

namespace Go.Proofs.Ytjiboekeeafpoaa
open Go.ChangeShapes Go.WideShapes Go.ChangeAt Go.RowKit Go.Deep
set_option linter.unusedVariables false
set_option linter.unusedSimpArgs false

set_option maxHeartbeats 3200000 in
set_option maxRecDepth 20000 in
theorem walk_FnExactFilterOk {H : Type} {enc0 : TypeId × Value → H} {base : Nat} {d0 : DataW H} {p0 : List MemPlace} (v0 : Value) (w : World) (o0 : Value.okWide Try.prog w .any base 25 v0) (k0 : DataW.Trod enc0 Try.prog w 0 (fun _ => true) true 25 v0 d0 p0) (hS : w.ShapedOpen Try.prog) :
    Calls Try.prog 7 #[v0] w fun e w' => e = .returned (.bool true) ∧ Below w.heap.size w w' := by
  obtain ⟨x0, h0, rfl, hi0⟩ := open_Filter o0 k0
  clear o0 k0
  have HM := Lib.hid (ML.of_shaped hS)
  clear hS
  obtain ⟨R, hR⟩ : ∃ R, filterOk x0 = R := ⟨_, rfl⟩
  have HR := Lib.hid hR
  clear hR
  go_enter Try.func7, Try.ntmps7
  go_wp2_with fail
  have nB : Below w.heap.size w (w.alloc (.cells #[.bool x0.on, .slice h0.A h0.n h0.c] 25)) := by go_grown
  have nP0 : Holds (w.alloc (.cells #[.bool x0.on, .slice h0.A h0.n h0.c] 25)) (w.heap.size) [.bool x0.on, .slice h0.A h0.n h0.c] := by
    have h := Holds.new w [.bool x0.on, .slice h0.A h0.n h0.c] 25
    first | exact h | exact h.below (by go_grown)
  have nI0 := hi0.below nB
  have nM := HM.out.below nB
  clear HM
  clear hi0
  generalize (w.alloc (.cells #[.bool x0.on, .slice h0.A h0.n h0.c] 25)) = W0 at *
  have HP0 := Lib.hid nP0
  have HI0 := Lib.hid nI0
  have HM := Lib.hid nM
  have HB := Lib.hid nB
  clear nB nP0 nI0 nM
  refine (laws_szFilter x0 h0 1048576 W0 (by omega) (by omega) HI0.out).mono ?_
  rintro e u0 ⟨⟨v0, rfl, hv01, hv02, hfit0⟩, hb⟩
  have nP0 := HP0.out.below hb
  have nI0 := HI0.out.below hb
  have nM := HM.out.below hb
  have nB := HB.out.trans (hb.mono HB.out.size)
  clear HB HP0 HI0 HM
  clear hb
  have HP0 := Lib.hid nP0
  have HI0 := Lib.hid nI0
  have HM := Lib.hid nM
  have HB := Lib.hid nB
  clear nB nP0 nI0 nM
  by_cases hneg0 : v0 < 0
  · clear hfit0
    go_wp2
    go_ret
    exact ⟨rfl, HB.out⟩
  have HF0 := Lib.hid (hfit0 (by omega))
  clear hfit0
  have p0_0 := HP0.out.2 0 (.bool x0.on) rfl
  have p0_1 := HP0.out.2 1 (.slice h0.A h0.n h0.c) rfl
  go_wp2_with fail
  refine (laws_toFilter x0 h0 u0 HI0.out HF0.out).mono ?_
  rintro e s1 ⟨⟨hs, rfl, os⟩, hb⟩
  clear p0_0 p0_1
  have nP0 := HP0.out.below hb
  have nI0 := HI0.out.below hb
  have nM := HM.out.below hb
  have nB := HB.out.trans (hb.mono HB.out.size)
  clear HB HP0 HI0 HM
  clear hb
  have HP0 := Lib.hid nP0
  have HI0 := Lib.hid nI0
  have HM := Lib.hid nM
  have HB := Lib.hid nB
  clear nB nP0 nI0 nM
  have Hos := Lib.hid os.is
  clear os
  go_wp2_with fail
  refine (spec_FilterOk x0 hs s1 Hos.out HF0.out).mono ?_
  rintro e s2 ⟨rfl, hb0⟩
  rw [HR.out]
  have hb : Below s1.heap.size s1 s2 := hb0
  clear hb0 Hos
  have nP0 := HP0.out.below hb
  have nI0 := HI0.out.below hb
  have nM := HM.out.below hb
  have nB := HB.out.trans (hb.mono HB.out.size)
  clear HB HP0 HI0 HM
  clear hb
  have HP0 := Lib.hid nP0
  have HI0 := Lib.hid nI0
  have HM := Lib.hid nM
  have HB := Lib.hid nB
  clear nB nP0 nI0 nM
  have p0_0 := HP0.out.2 0 (.bool x0.on) rfl
  have p0_1 := HP0.out.2 1 (.slice h0.A h0.n h0.c) rfl
  go_wp2_with fail
  refine (laws_toFilter x0 h0 _ HI0.out HF0.out).mono ?_
  rintro e a0 ⟨⟨hx0, rfl, ox⟩, hb⟩
  clear p0_0 p0_1
  have nP0 := HP0.out.below hb
  have nI0 := HI0.out.below hb
  have nM := HM.out.below hb
  have nB := HB.out.trans (hb.mono HB.out.size)
  clear HB HP0 HI0 HM
  clear hb
  have nO0 := ox.is
  clear ox
  have HP0 := Lib.hid nP0
  have HI0 := Lib.hid nI0
  have HM := Lib.hid nM
  have HO0 := Lib.hid nO0
  have HB := Lib.hid nB
  clear nB nP0 nI0 nM nO0
  have hA : Below a0.heap.size a0 (a0.alloc (.cells #[.bool x0.on, .slice hx0.A hx0.n hx0.c] 33)) := by go_grown
  have nP0 := HP0.out.below hA
  have nI0 := HI0.out.below hA
  have nM := HM.out.below hA
  have nO0 := HO0.out.below hA
  have nB := HB.out.trans (hA.mono HB.out.size)
  clear HB HP0 HI0 HM HO0
  have nQ0 : Holds (a0.alloc (.cells #[.bool x0.on, .slice hx0.A hx0.n hx0.c] 33)) a0.heap.size [.bool x0.on, .slice hx0.A hx0.n hx0.c] := Holds.new a0 _ _
  clear hA
  have HP0 := Lib.hid nP0
  have HI0 := Lib.hid nI0
  have HM := Lib.hid nM
  have HO0 := Lib.hid nO0
  have HQ0 := Lib.hid nQ0
  have HB := Lib.hid nB
  clear nB nP0 nI0 nM nO0 nQ0
  have q0_0 := HQ0.out.2 0 (.bool x0.on) rfl
  have q0_1 := HQ0.out.2 1 (.slice hx0.A hx0.n hx0.c) rfl
  go_wp2_with fail
  clear q0_0 q0_1
  generalize a0.alloc (.cells #[.bool x0.on, .slice hx0.A hx0.n hx0.c] 33) = b0 at *
  generalize a0.heap.size = G0 at *
  refine (impl_FilterOk x0 hx0 b0 HO0.out HF0.out HM.out).mono ?_
  rintro e c1 ⟨rfl, hb⟩
  rw [HR.out]
  have hb : Below b0.heap.size b0 c1 := hb
  have nP0 := HP0.out.below hb
  have nI0 := HI0.out.below hb
  have nM := HM.out.below hb
  have nO0 := HO0.out.below hb
  have nQ0 := HQ0.out.below hb
  have nB := HB.out.trans (hb.mono HB.out.size)
  clear HB HP0 HI0 HM HO0 HQ0
  clear hb
  have HP0 := Lib.hid nP0
  have HI0 := Lib.hid nI0
  have HM := Lib.hid nM
  have HO0 := Lib.hid nO0
  have HQ0 := Lib.hid nQ0
  have HB := Lib.hid nB
  clear nB nP0 nI0 nM nO0 nQ0
  have p0_0 := HP0.out.2 0 (.bool x0.on) rfl
  have p0_1 := HP0.out.2 1 (.slice h0.A h0.n h0.c) rfl
  have q0_0 := HQ0.out.2 0 (.bool x0.on) rfl
  have q0_1 := HQ0.out.2 1 (.slice hx0.A hx0.n hx0.c) rfl
  have hS : c1.cell? ⟨w.heap.size, 0, none⟩ = some (.bool x0.on) ∧ c1.cell? ⟨w.heap.size, 1, none⟩ = some (.slice h0.A h0.n h0.c) ∧ c1.cell? ⟨G0, 0, none⟩ = some (.bool x0.on) ∧ c1.cell? ⟨G0, 1, none⟩ = some (.slice hx0.A hx0.n hx0.c) := ⟨p0_0, p0_1, q0_0, q0_1⟩
  go_wp2
  go_region_held3 (fun w' => w'.cell? ⟨w.heap.size, 0, none⟩ = some (.bool x0.on) ∧ w'.cell? ⟨w.heap.size, 1, none⟩ = some (.slice h0.A h0.n h0.c) ∧ w'.cell? ⟨G0, 0, none⟩ = some (.bool x0.on) ∧ w'.cell? ⟨G0, 1, none⟩ = some (.slice hx0.A hx0.n hx0.c)) (first | exact hS | assumption)
    ((first
      | (go_at_call 19; refine (laws_toFilter x0 h0 _ (HI0.out.below (by go_grown)) HF0.out).mono ?_; rintro e w7 ⟨⟨h7, rfl, o7⟩, hb7⟩
         have hb7' : Below c1.heap.size c1 w7 := (Below.refl _ c1).drew.trans hb7
         have hS7 : w7.cell? ⟨w.heap.size, 0, none⟩ = some (.bool x0.on) ∧ w7.cell? ⟨w.heap.size, 1, none⟩ = some (.slice h0.A h0.n h0.c) ∧ w7.cell? ⟨G0, 0, none⟩ = some (.bool x0.on) ∧ w7.cell? ⟨G0, 1, none⟩ = some (.slice hx0.A hx0.n hx0.c) := ⟨(HP0.out.below hb7').2 0 _ rfl, (HP0.out.below hb7').2 1 _ rfl, (HQ0.out.below hb7').2 0 _ rfl, (HQ0.out.below hb7').2 1 _ rfl⟩)
      | (go_at_call 22; refine (laws_eqFilter x0 hx0 h7 _ (HO0.out.below hb7') o7.is HF0.out).mono ?_; rintro e w8 ⟨rfl, hb8⟩
         have hb8' := hb7'.trans (hb8.mono hb7'.size)
         have hS8 : w8.cell? ⟨w.heap.size, 0, none⟩ = some (.bool x0.on) ∧ w8.cell? ⟨w.heap.size, 1, none⟩ = some (.slice h0.A h0.n h0.c) ∧ w8.cell? ⟨G0, 0, none⟩ = some (.bool x0.on) ∧ w8.cell? ⟨G0, 1, none⟩ = some (.slice hx0.A hx0.n hx0.c) := ⟨(HP0.out.below hb8').2 0 _ rfl, (HP0.out.below hb8').2 1 _ rfl, (HQ0.out.below hb8').2 0 _ rfl, (HQ0.out.below hb8').2 1 _ rfl⟩)))
  clear hb7 hb8 hb7' hS hS7 hS8 o7
  clear p0_0 p0_1 q0_0 q0_1
  have nP0 := HP0.out.below hb8'
  have nI0 := HI0.out.below hb8'
  have nM := HM.out.below hb8'
  have nO0 := HO0.out.below hb8'
  have nQ0 := HQ0.out.below hb8'
  have nB := HB.out.trans (hb8'.mono HB.out.size)
  clear HB HP0 HI0 HM HO0 HQ0
  clear hb8'
  have HP0 := Lib.hid nP0
  have HI0 := Lib.hid nI0
  have HM := Lib.hid nM
  have HO0 := Lib.hid nO0
  have HQ0 := Lib.hid nQ0
  have HB := Lib.hid nB
  clear nB nP0 nI0 nM nO0 nQ0
  go_wp2
  go_ret
  exact ⟨rfl, HB.out⟩

end Go.Proofs.Ytjiboekeeafpoaa
