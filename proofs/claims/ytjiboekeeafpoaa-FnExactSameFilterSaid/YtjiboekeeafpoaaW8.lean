/-
  Walks: what each function returns, and that it leaves what lay in memory as it was.
-/
import Derived.Test.YtjiboekeeafpoaaProg
import Derived.Test.YtjiboekeeafpoaaPlain
import Derived.Test.YtjiboekeeafpoaaBase2
import Derived.Test.YtjiboekeeafpoaaOpen2
import Derived.Test.YtjiboekeeafpoaaShelf
import Derived.WalkKit
import Derived.WalkSpells
import Derived.WalkLawsBesides
import Derived.Lib.Hide
import Derived.Deep.LoopGhost
import Derived.Deep.QuietTactic
import Derived.BigQuiet
import Derived.Handy
import Derived.Deep.RegionHeld3
import Derived.StillTailTactics
import Derived.OpenShut
import Derived.ChangeSame
import Derived.Laws.StructEq

import Derived.Test.YtjiboekeeafpoaaPlainT

import Derived.Test.YtjiboekeeafpoaaW1

import Derived.Test.YtjiboekeeafpoaaW3

import Derived.Test.YtjiboekeeafpoaaW5

import Derived.Test.YtjiboekeeafpoaaW7

namespace Go.Proofs.Ytjiboekeeafpoaa
open Go.ChangeShapes Go.WideShapes Go.ChangeAt Go.RowKit Go.Deep
set_option linter.unusedVariables false
set_option linter.unusedSimpArgs false

set_option maxHeartbeats 3200000 in
set_option maxRecDepth 20000 in
theorem walk_FnExactSameFilter {H : Type} {enc0 : TypeId × Value → H} {base : Nat} {d0 : DataW H} {p0 : List MemPlace} {d1 : DataW H} {p1 : List MemPlace} (v0 : Value) (v1 : Value) (w : World) (o0 : Value.okWide Try.prog w .any base 25 v0) (k0 : DataW.Trod enc0 Try.prog w 0 (fun _ => true) true 25 v0 d0 p0) (o1 : Value.okWide Try.prog w .any base 25 v1) (k1 : DataW.Trod enc0 Try.prog w 0 (fun _ => true) true 25 v1 d1 p1) :
    Calls Try.prog 6 #[v0, v1] w fun e w' => e = .returned (.bool true) ∧ Below w.heap.size w w' := by
  obtain ⟨x0, h0, rfl, hi0⟩ := open_Filter o0 k0
  obtain ⟨x1, h1, rfl, hi1⟩ := open_Filter o1 k1
  clear o0 k0 o1 k1
  obtain ⟨R, hR⟩ : ∃ R, sameFilter x0 x1 = R := ⟨_, rfl⟩
  have HR := Lib.hid hR
  clear hR
  go_enter Try.func6, Try.ntmps6
  go_wp2_with fail
  have nB : Below w.heap.size w ((w.alloc (.cells #[.bool x0.on, .slice h0.A h0.n h0.c] 25)).alloc (.cells #[.bool x1.on, .slice h1.A h1.n h1.c] 25)) := by go_grown
  have nP0 : Holds ((w.alloc (.cells #[.bool x0.on, .slice h0.A h0.n h0.c] 25)).alloc (.cells #[.bool x1.on, .slice h1.A h1.n h1.c] 25)) (w.heap.size) [.bool x0.on, .slice h0.A h0.n h0.c] := by
    have h := Holds.new w [.bool x0.on, .slice h0.A h0.n h0.c] 25
    first | exact h | exact h.below (by go_grown)
  have nP1 : Holds ((w.alloc (.cells #[.bool x0.on, .slice h0.A h0.n h0.c] 25)).alloc (.cells #[.bool x1.on, .slice h1.A h1.n h1.c] 25)) (w.heap.size + 1) [.bool x1.on, .slice h1.A h1.n h1.c] := by
    have h := Holds.new (w.alloc (.cells #[.bool x0.on, .slice h0.A h0.n h0.c] 25)) [.bool x1.on, .slice h1.A h1.n h1.c] 25
    rw [show (w.alloc (.cells #[.bool x0.on, .slice h0.A h0.n h0.c] 25)).heap.size = w.heap.size + 1 from by simp] at h
    first | exact h | exact h.below (by go_grown)
  have nI0 := hi0.below nB
  have nI1 := hi1.below nB
  clear hi0 hi1
  generalize ((w.alloc (.cells #[.bool x0.on, .slice h0.A h0.n h0.c] 25)).alloc (.cells #[.bool x1.on, .slice h1.A h1.n h1.c] 25)) = W0 at *
  have HP0 := Lib.hid nP0
  have HP1 := Lib.hid nP1
  have HI0 := Lib.hid nI0
  have HI1 := Lib.hid nI1
  have HB := Lib.hid nB
  clear nB nP0 nP1 nI0 nI1
  refine (laws_szFilter x0 h0 1048576 W0 (by omega) (by omega) HI0.out).mono ?_
  rintro e u0 ⟨⟨v0, rfl, hv01, hv02, hfit0⟩, hb⟩
  have nP0 := HP0.out.below hb
  have nP1 := HP1.out.below hb
  have nI0 := HI0.out.below hb
  have nI1 := HI1.out.below hb
  have nB := HB.out.trans (hb.mono HB.out.size)
  clear HB HP0 HP1 HI0 HI1
  clear hb
  have HP0 := Lib.hid nP0
  have HP1 := Lib.hid nP1
  have HI0 := Lib.hid nI0
  have HI1 := Lib.hid nI1
  have HB := Lib.hid nB
  clear nB nP0 nP1 nI0 nI1
  by_cases hneg0 : v0 < 0
  · clear hfit0
    go_wp2
    go_ret
    exact ⟨rfl, HB.out⟩
  have HF0 := Lib.hid (hfit0 (by omega))
  clear hfit0
  have p1_0 := HP1.out.2 0 (.bool x1.on) rfl
  have p1_1 := HP1.out.2 1 (.slice h1.A h1.n h1.c) rfl
  go_wp2_with fail
  refine (laws_szFilter x1 h1 v0 u0 (by omega) (by omega) HI1.out).mono ?_
  rintro e u1 ⟨⟨v1, rfl, hv11, hv12, hfit1⟩, hb⟩
  clear p1_0 p1_1
  have nP0 := HP0.out.below hb
  have nP1 := HP1.out.below hb
  have nI0 := HI0.out.below hb
  have nI1 := HI1.out.below hb
  have nB := HB.out.trans (hb.mono HB.out.size)
  clear HB HP0 HP1 HI0 HI1
  clear hb
  have HP0 := Lib.hid nP0
  have HP1 := Lib.hid nP1
  have HI0 := Lib.hid nI0
  have HI1 := Lib.hid nI1
  have HB := Lib.hid nB
  clear nB nP0 nP1 nI0 nI1
  by_cases hneg1 : v1 < 0
  · clear hfit1
    go_wp2
    go_ret
    exact ⟨rfl, HB.out⟩
  have HF1 := Lib.hid (hfit1 (by omega))
  clear hfit1
  have p0_0 := HP0.out.2 0 (.bool x0.on) rfl
  have p0_1 := HP0.out.2 1 (.slice h0.A h0.n h0.c) rfl
  have p1_0 := HP1.out.2 0 (.bool x1.on) rfl
  have p1_1 := HP1.out.2 1 (.slice h1.A h1.n h1.c) rfl
  have hS0 : u1.cell? ⟨w.heap.size, 0, none⟩ = some (.bool x0.on) ∧ u1.cell? ⟨w.heap.size, 1, none⟩ = some (.slice h0.A h0.n h0.c) ∧ u1.cell? ⟨w.heap.size + 1, 0, none⟩ = some (.bool x1.on) ∧ u1.cell? ⟨w.heap.size + 1, 1, none⟩ = some (.slice h1.A h1.n h1.c) := ⟨p0_0, p0_1, p1_0, p1_1⟩
  go_wp2
  go_region_held3 (fun w' => w'.cell? ⟨w.heap.size, 0, none⟩ = some (.bool x0.on) ∧ w'.cell? ⟨w.heap.size, 1, none⟩ = some (.slice h0.A h0.n h0.c) ∧ w'.cell? ⟨w.heap.size + 1, 0, none⟩ = some (.bool x1.on) ∧ w'.cell? ⟨w.heap.size + 1, 1, none⟩ = some (.slice h1.A h1.n h1.c)) (first | exact hS0 | assumption)
    ((first
      | (go_at_call 19; refine (laws_toFilter _ _ _ (by first | exact HI0.out.below hb7' | exact HI1.out.below hb7') (by first | exact HF0.out | exact HF1.out)).mono ?_; rintro e w8 ⟨⟨h8, rfl, o8⟩, hb8⟩
         have hb8' := hb7'.trans (hb8.mono hb7'.size)
         have hS8 : w8.cell? ⟨w.heap.size, 0, none⟩ = some (.bool x0.on) ∧ w8.cell? ⟨w.heap.size, 1, none⟩ = some (.slice h0.A h0.n h0.c) ∧ w8.cell? ⟨w.heap.size + 1, 0, none⟩ = some (.bool x1.on) ∧ w8.cell? ⟨w.heap.size + 1, 1, none⟩ = some (.slice h1.A h1.n h1.c) := ⟨(HP0.out.below hb8').2 0 _ rfl, (HP0.out.below hb8').2 1 _ rfl, (HP1.out.below hb8').2 0 _ rfl, (HP1.out.below hb8').2 1 _ rfl⟩)
      | (go_at_call 19; refine (laws_toFilter _ _ _ (by first | exact HI0.out.below (by go_grown) | exact HI1.out.below (by go_grown)) (by first | exact HF0.out | exact HF1.out)).mono ?_; rintro e w7 ⟨⟨h7, rfl, o7⟩, hb7⟩
         have hb7' : Below u1.heap.size u1 w7 := (Below.refl _ u1).drew.trans hb7
         have hS7 : w7.cell? ⟨w.heap.size, 0, none⟩ = some (.bool x0.on) ∧ w7.cell? ⟨w.heap.size, 1, none⟩ = some (.slice h0.A h0.n h0.c) ∧ w7.cell? ⟨w.heap.size + 1, 0, none⟩ = some (.bool x1.on) ∧ w7.cell? ⟨w.heap.size + 1, 1, none⟩ = some (.slice h1.A h1.n h1.c) := ⟨(HP0.out.below hb7').2 0 _ rfl, (HP0.out.below hb7').2 1 _ rfl, (HP1.out.below hb7').2 0 _ rfl, (HP1.out.below hb7').2 1 _ rfl⟩)
      | (go_at_call 28; refine (spec_SameFilter _ _ _ _ _ (by first | exact o7.is.below hb8 | exact o8.is) (by first | exact o7.is.below hb8 | exact o8.is) HF0.out HF1.out).mono ?_; rintro e w9 ⟨rfl, hb9⟩; rw [HR.out]
         have hb9' := hb8'.trans (hb9.mono hb8'.size)
         have hS9 : w9.cell? ⟨w.heap.size, 0, none⟩ = some (.bool x0.on) ∧ w9.cell? ⟨w.heap.size, 1, none⟩ = some (.slice h0.A h0.n h0.c) ∧ w9.cell? ⟨w.heap.size + 1, 0, none⟩ = some (.bool x1.on) ∧ w9.cell? ⟨w.heap.size + 1, 1, none⟩ = some (.slice h1.A h1.n h1.c) := ⟨(HP0.out.below hb9').2 0 _ rfl, (HP0.out.below hb9').2 1 _ rfl, (HP1.out.below hb9').2 0 _ rfl, (HP1.out.below hb9').2 1 _ rfl⟩)))
  all_goals
    clear hb7 hb8 hb9 hb7' hb8' hS0 hS7 hS8 hS9 o7 o8
    clear p0_0 p0_1 p1_0 p1_1
    have nP0 := HP0.out.below hb9'
    have nP1 := HP1.out.below hb9'
    have nI0 := HI0.out.below hb9'
    have nI1 := HI1.out.below hb9'
    have nB := HB.out.trans (hb9'.mono HB.out.size)
    clear HB HP0 HP1 HI0 HI1
    clear hb9'
    have HP0 := Lib.hid nP0
    have HP1 := Lib.hid nP1
    have HI0 := Lib.hid nI0
    have HI1 := Lib.hid nI1
    have HB := Lib.hid nB
    clear nB nP0 nP1 nI0 nI1
    have p0_0 := HP0.out.2 0 (.bool x0.on) rfl
    have p0_1 := HP0.out.2 1 (.slice h0.A h0.n h0.c) rfl
    go_wp2_with fail
    refine (laws_toFilter x0 h0 _ HI0.out HF0.out).mono ?_
    rintro e a0 ⟨⟨hx0, rfl, ox⟩, hb⟩
    clear p0_0 p0_1
    have nP0 := HP0.out.below hb
    have nP1 := HP1.out.below hb
    have nI0 := HI0.out.below hb
    have nI1 := HI1.out.below hb
    have nB := HB.out.trans (hb.mono HB.out.size)
    clear HB HP0 HP1 HI0 HI1
    clear hb
    have nO0 := ox.is
    clear ox
    have HP0 := Lib.hid nP0
    have HP1 := Lib.hid nP1
    have HI0 := Lib.hid nI0
    have HI1 := Lib.hid nI1
    have HO0 := Lib.hid nO0
    have HB := Lib.hid nB
    clear nB nP0 nP1 nI0 nI1 nO0
    have hA : Below a0.heap.size a0 (a0.alloc (.cells #[.bool x0.on, .slice hx0.A hx0.n hx0.c] 33)) := by go_grown
    have nP0 := HP0.out.below hA
    have nP1 := HP1.out.below hA
    have nI0 := HI0.out.below hA
    have nI1 := HI1.out.below hA
    have nO0 := HO0.out.below hA
    have nB := HB.out.trans (hA.mono HB.out.size)
    clear HB HP0 HP1 HI0 HI1 HO0
    have nQ0 : Holds (a0.alloc (.cells #[.bool x0.on, .slice hx0.A hx0.n hx0.c] 33)) a0.heap.size [.bool x0.on, .slice hx0.A hx0.n hx0.c] := Holds.new a0 _ _
    clear hA
    have HP0 := Lib.hid nP0
    have HP1 := Lib.hid nP1
    have HI0 := Lib.hid nI0
    have HI1 := Lib.hid nI1
    have HO0 := Lib.hid nO0
    have HQ0 := Lib.hid nQ0
    have HB := Lib.hid nB
    clear nB nP0 nP1 nI0 nI1 nO0 nQ0
    have p1_0 := HP1.out.2 0 (.bool x1.on) rfl
    have p1_1 := HP1.out.2 1 (.slice h1.A h1.n h1.c) rfl
    go_wp2_with fail
    clear p1_0 p1_1
    generalize a0.alloc (.cells #[.bool x0.on, .slice hx0.A hx0.n hx0.c] 33) = b0 at *
    generalize a0.heap.size = G0 at *
    have p1_0 := HP1.out.2 0 (.bool x1.on) rfl
    have p1_1 := HP1.out.2 1 (.slice h1.A h1.n h1.c) rfl
    go_wp2_with fail
    refine (laws_toFilter x1 h1 _ HI1.out HF1.out).mono ?_
    rintro e a1 ⟨⟨hx1, rfl, ox⟩, hb⟩
    clear p1_0 p1_1
    have nP0 := HP0.out.below hb
    have nP1 := HP1.out.below hb
    have nI0 := HI0.out.below hb
    have nI1 := HI1.out.below hb
    have nO0 := HO0.out.below hb
    have nQ0 := HQ0.out.below hb
    have nB := HB.out.trans (hb.mono HB.out.size)
    clear HB HP0 HP1 HI0 HI1 HO0 HQ0
    clear hb
    have nO1 := ox.is
    clear ox
    have HP0 := Lib.hid nP0
    have HP1 := Lib.hid nP1
    have HI0 := Lib.hid nI0
    have HI1 := Lib.hid nI1
    have HO0 := Lib.hid nO0
    have HQ0 := Lib.hid nQ0
    have HO1 := Lib.hid nO1
    have HB := Lib.hid nB
    clear nB nP0 nP1 nI0 nI1 nO0 nQ0 nO1
    have hA : Below a1.heap.size a1 (a1.alloc (.cells #[.bool x1.on, .slice hx1.A hx1.n hx1.c] 33)) := by go_grown
    have nP0 := HP0.out.below hA
    have nP1 := HP1.out.below hA
    have nI0 := HI0.out.below hA
    have nI1 := HI1.out.below hA
    have nO0 := HO0.out.below hA
    have nQ0 := HQ0.out.below hA
    have nO1 := HO1.out.below hA
    have nB := HB.out.trans (hA.mono HB.out.size)
    clear HB HP0 HP1 HI0 HI1 HO0 HQ0 HO1
    have nQ1 : Holds (a1.alloc (.cells #[.bool x1.on, .slice hx1.A hx1.n hx1.c] 33)) a1.heap.size [.bool x1.on, .slice hx1.A hx1.n hx1.c] := Holds.new a1 _ _
    clear hA
    have HP0 := Lib.hid nP0
    have HP1 := Lib.hid nP1
    have HI0 := Lib.hid nI0
    have HI1 := Lib.hid nI1
    have HO0 := Lib.hid nO0
    have HQ0 := Lib.hid nQ0
    have HO1 := Lib.hid nO1
    have HQ1 := Lib.hid nQ1
    have HB := Lib.hid nB
    clear nB nP0 nP1 nI0 nI1 nO0 nQ0 nO1 nQ1
    have q0_0 := HQ0.out.2 0 (.bool x0.on) rfl
    have q0_1 := HQ0.out.2 1 (.slice hx0.A hx0.n hx0.c) rfl
    have q1_0 := HQ1.out.2 0 (.bool x1.on) rfl
    have q1_1 := HQ1.out.2 1 (.slice hx1.A hx1.n hx1.c) rfl
    go_wp2_with fail
    clear q0_0 q0_1 q1_0 q1_1
    generalize a1.alloc (.cells #[.bool x1.on, .slice hx1.A hx1.n hx1.c] 33) = b1 at *
    generalize a1.heap.size = G1 at *
    refine (impl_SameFilter x0 x1 hx0 hx1 b1 HO0.out HO1.out HF0.out HF1.out).mono ?_
    rintro e c1 ⟨rfl, hb⟩
    rw [HR.out]
    have hb : Below b1.heap.size b1 c1 := hb
    have nP0 := HP0.out.below hb
    have nP1 := HP1.out.below hb
    have nI0 := HI0.out.below hb
    have nI1 := HI1.out.below hb
    have nO0 := HO0.out.below hb
    have nQ0 := HQ0.out.below hb
    have nO1 := HO1.out.below hb
    have nQ1 := HQ1.out.below hb
    have nB := HB.out.trans (hb.mono HB.out.size)
    clear HB HP0 HP1 HI0 HI1 HO0 HQ0 HO1 HQ1
    clear hb
    have HP0 := Lib.hid nP0
    have HP1 := Lib.hid nP1
    have HI0 := Lib.hid nI0
    have HI1 := Lib.hid nI1
    have HO0 := Lib.hid nO0
    have HQ0 := Lib.hid nQ0
    have HO1 := Lib.hid nO1
    have HQ1 := Lib.hid nQ1
    have HB := Lib.hid nB
    clear nB nP0 nP1 nI0 nI1 nO0 nQ0 nO1 nQ1
    have p0_0 := HP0.out.2 0 (.bool x0.on) rfl
    have p0_1 := HP0.out.2 1 (.slice h0.A h0.n h0.c) rfl
    have q0_0 := HQ0.out.2 0 (.bool x0.on) rfl
    have q0_1 := HQ0.out.2 1 (.slice hx0.A hx0.n hx0.c) rfl
    have hS : c1.cell? ⟨w.heap.size, 0, none⟩ = some (.bool x0.on) ∧ c1.cell? ⟨w.heap.size, 1, none⟩ = some (.slice h0.A h0.n h0.c) ∧ c1.cell? ⟨G0, 0, none⟩ = some (.bool x0.on) ∧ c1.cell? ⟨G0, 1, none⟩ = some (.slice hx0.A hx0.n hx0.c) := ⟨p0_0, p0_1, q0_0, q0_1⟩
    go_wp2
    go_region_held3 (fun w' => w'.cell? ⟨w.heap.size, 0, none⟩ = some (.bool x0.on) ∧ w'.cell? ⟨w.heap.size, 1, none⟩ = some (.slice h0.A h0.n h0.c) ∧ w'.cell? ⟨G0, 0, none⟩ = some (.bool x0.on) ∧ w'.cell? ⟨G0, 1, none⟩ = some (.slice hx0.A hx0.n hx0.c)) (first | exact hS | assumption)
      ((first
        | (go_at_call 19; refine (laws_toFilter x0 h0 _ (HI0.out.below (by go_grown)) HF0.out).mono ?_; rintro e w7 ⟨⟨h7, rfl, o7⟩, hb7⟩
           have hb7' : Below c1.heap.size c1 w7 := (Below.refl _ c1).drew.trans hb7
           have hS7 : w7.cell? ⟨w.heap.size, 0, none⟩ = some (.bool x0.on) ∧ w7.cell? ⟨w.heap.size, 1, none⟩ = some (.slice h0.A h0.n h0.c) ∧ w7.cell? ⟨G0, 0, none⟩ = some (.bool x0.on) ∧ w7.cell? ⟨G0, 1, none⟩ = some (.slice hx0.A hx0.n hx0.c) := ⟨(HP0.out.below hb7').2 0 _ rfl, (HP0.out.below hb7').2 1 _ rfl, (HQ0.out.below hb7').2 0 _ rfl, (HQ0.out.below hb7').2 1 _ rfl⟩)
        | (go_at_call 22; refine (laws_eqFilter x0 hx0 h7 _ (HO0.out.below hb7') o7.is HF0.out).mono ?_; rintro e w8 ⟨rfl, hb8⟩
           have hb8' := hb7'.trans (hb8.mono hb7'.size)
           have hS8 : w8.cell? ⟨w.heap.size, 0, none⟩ = some (.bool x0.on) ∧ w8.cell? ⟨w.heap.size, 1, none⟩ = some (.slice h0.A h0.n h0.c) ∧ w8.cell? ⟨G0, 0, none⟩ = some (.bool x0.on) ∧ w8.cell? ⟨G0, 1, none⟩ = some (.slice hx0.A hx0.n hx0.c) := ⟨(HP0.out.below hb8').2 0 _ rfl, (HP0.out.below hb8').2 1 _ rfl, (HQ0.out.below hb8').2 0 _ rfl, (HQ0.out.below hb8').2 1 _ rfl⟩)))
    clear hb7 hb8 hb7' hS hS7 hS8 o7
    clear p0_0 p0_1 q0_0 q0_1
    have nP0 := HP0.out.below hb8'
    have nP1 := HP1.out.below hb8'
    have nI0 := HI0.out.below hb8'
    have nI1 := HI1.out.below hb8'
    have nO0 := HO0.out.below hb8'
    have nQ0 := HQ0.out.below hb8'
    have nO1 := HO1.out.below hb8'
    have nQ1 := HQ1.out.below hb8'
    have nB := HB.out.trans (hb8'.mono HB.out.size)
    clear HB HP0 HP1 HI0 HI1 HO0 HQ0 HO1 HQ1
    clear hb8'
    have HP0 := Lib.hid nP0
    have HP1 := Lib.hid nP1
    have HI0 := Lib.hid nI0
    have HI1 := Lib.hid nI1
    have HO0 := Lib.hid nO0
    have HQ0 := Lib.hid nQ0
    have HO1 := Lib.hid nO1
    have HQ1 := Lib.hid nQ1
    have HB := Lib.hid nB
    clear nB nP0 nP1 nI0 nI1 nO0 nQ0 nO1 nQ1
    generalize w8 = e0 at *
    have p1_0 := HP1.out.2 0 (.bool x1.on) rfl
    have p1_1 := HP1.out.2 1 (.slice h1.A h1.n h1.c) rfl
    have q1_0 := HQ1.out.2 0 (.bool x1.on) rfl
    have q1_1 := HQ1.out.2 1 (.slice hx1.A hx1.n hx1.c) rfl
    have hS : e0.cell? ⟨w.heap.size + 1, 0, none⟩ = some (.bool x1.on) ∧ e0.cell? ⟨w.heap.size + 1, 1, none⟩ = some (.slice h1.A h1.n h1.c) ∧ e0.cell? ⟨G1, 0, none⟩ = some (.bool x1.on) ∧ e0.cell? ⟨G1, 1, none⟩ = some (.slice hx1.A hx1.n hx1.c) := ⟨p1_0, p1_1, q1_0, q1_1⟩
    go_wp2
    go_region_held3 (fun w' => w'.cell? ⟨w.heap.size + 1, 0, none⟩ = some (.bool x1.on) ∧ w'.cell? ⟨w.heap.size + 1, 1, none⟩ = some (.slice h1.A h1.n h1.c) ∧ w'.cell? ⟨G1, 0, none⟩ = some (.bool x1.on) ∧ w'.cell? ⟨G1, 1, none⟩ = some (.slice hx1.A hx1.n hx1.c)) (first | exact hS | assumption)
      ((first
        | (go_at_call 19; refine (laws_toFilter x1 h1 _ (HI1.out.below (by go_grown)) HF1.out).mono ?_; rintro e w7 ⟨⟨h7, rfl, o7⟩, hb7⟩
           have hb7' : Below e0.heap.size e0 w7 := (Below.refl _ e0).drew.trans hb7
           have hS7 : w7.cell? ⟨w.heap.size + 1, 0, none⟩ = some (.bool x1.on) ∧ w7.cell? ⟨w.heap.size + 1, 1, none⟩ = some (.slice h1.A h1.n h1.c) ∧ w7.cell? ⟨G1, 0, none⟩ = some (.bool x1.on) ∧ w7.cell? ⟨G1, 1, none⟩ = some (.slice hx1.A hx1.n hx1.c) := ⟨(HP1.out.below hb7').2 0 _ rfl, (HP1.out.below hb7').2 1 _ rfl, (HQ1.out.below hb7').2 0 _ rfl, (HQ1.out.below hb7').2 1 _ rfl⟩)
        | (go_at_call 22; refine (laws_eqFilter x1 hx1 h7 _ (HO1.out.below hb7') o7.is HF1.out).mono ?_; rintro e w8 ⟨rfl, hb8⟩
           have hb8' := hb7'.trans (hb8.mono hb7'.size)
           have hS8 : w8.cell? ⟨w.heap.size + 1, 0, none⟩ = some (.bool x1.on) ∧ w8.cell? ⟨w.heap.size + 1, 1, none⟩ = some (.slice h1.A h1.n h1.c) ∧ w8.cell? ⟨G1, 0, none⟩ = some (.bool x1.on) ∧ w8.cell? ⟨G1, 1, none⟩ = some (.slice hx1.A hx1.n hx1.c) := ⟨(HP1.out.below hb8').2 0 _ rfl, (HP1.out.below hb8').2 1 _ rfl, (HQ1.out.below hb8').2 0 _ rfl, (HQ1.out.below hb8').2 1 _ rfl⟩)))
    clear hb7 hb8 hb7' hS hS7 hS8 o7
    clear p1_0 p1_1 q1_0 q1_1
    have nP0 := HP0.out.below hb8'
    have nP1 := HP1.out.below hb8'
    have nI0 := HI0.out.below hb8'
    have nI1 := HI1.out.below hb8'
    have nO0 := HO0.out.below hb8'
    have nQ0 := HQ0.out.below hb8'
    have nO1 := HO1.out.below hb8'
    have nQ1 := HQ1.out.below hb8'
    have nB := HB.out.trans (hb8'.mono HB.out.size)
    clear HB HP0 HP1 HI0 HI1 HO0 HQ0 HO1 HQ1
    clear hb8'
    have HP0 := Lib.hid nP0
    have HP1 := Lib.hid nP1
    have HI0 := Lib.hid nI0
    have HI1 := Lib.hid nI1
    have HO0 := Lib.hid nO0
    have HQ0 := Lib.hid nQ0
    have HO1 := Lib.hid nO1
    have HQ1 := Lib.hid nQ1
    have HB := Lib.hid nB
    clear nB nP0 nP1 nI0 nI1 nO0 nQ0 nO1 nQ1
    go_wp2
    go_ret
    exact ⟨rfl, HB.out⟩

end Go.Proofs.Ytjiboekeeafpoaa
