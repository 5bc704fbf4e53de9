/-
  Walks: what each function returns, and that it leaves what lay in memory as it was.
-/
import Derived.Test.YtjpkceimokkpgaaProg
import Derived.Test.YtjpkceimokkpgaaPlain
import Derived.Test.YtjpkceimokkpgaaBase2
import Derived.Test.YtjpkceimokkpgaaOpen2
import Derived.Test.YtjpkceimokkpgaaShelf
import Derived.WalkKit
import Derived.WalkSpells
import Derived.WalkLawsBesides
import Derived.Lib.Hide
import Derived.Deep.LoopGhost
import Derived.Deep.QuietTactic
import Derived.BigQuiet
import Derived.Handy
import Derived.Deep.RegionHeld3
import Derived.StillTailTactics
import Derived.OpenShut
import Derived.ChangeSame
import Derived.Laws.StructEq

import Derived.Test.YtjpkceimokkpgaaPlainT

import Derived.Test.YtjpkceimokkpgaaBase3

import Derived.Test.YtjpkceimokkpgaaW1

import Derived.Test.YtjpkceimokkpgaaW3

import Derived.Test.YtjpkceimokkpgaaW5

import Derived.Test.YtjpkceimokkpgaaW30

import Derived.Test.YtjpkceimokkpgaaW31

import Derived.Test.YtjpkceimokkpgaaW32

import Derived.Test.YtjpkceimokkpgaaW33

namespace Go.Proofs.Ytjpkceimokkpgaa
open Go.ChangeShapes Go.WideShapes Go.ChangeAt Go.RowKit Go.Deep
set_option linter.unusedVariables false
set_option linter.unusedSimpArgs false

set_option maxRecDepth 20000

set_option maxHeartbeats 6400000 in
set_option maxRecDepth 20000 in
theorem walk_FnExactFilterTokens {H : Type} {enc0 : TypeId × Value → H} {base : Nat} {d0 : DataW H} {p0 : List MemPlace} (v0 : Value) (w : World) (o0 : Value.okWide Try.prog w .any base 24 v0) (k0 : DataW.Trod enc0 Try.prog w 0 (fun _ => true) true 24 v0 d0 p0) (hS : w.ShapedOpen Try.prog) :
    Calls Try.prog 3 #[v0] w fun e w' => e = .returned (.bool true) ∧ Below w.heap.size w w' := by
  obtain ⟨x0, h0, rfl, hi0⟩ := open_Filter o0 k0
  clear o0 k0
  have HM := Lib.hid (ML.of_shaped hS)
  clear hS
  obtain ⟨R, hR⟩ : ∃ R, filterT x0 = R := ⟨_, rfl⟩
  have hRl : R.length ≤ 61 := by rw [← hR]; exact filterT_len x0
  have HR := Lib.hid hR
  clear hR
  go_enter Try.func3, Try.ntmps3
  go_wp2_with fail
  have nB : Below w.heap.size w (w.alloc (.cells #[.bool x0.on, .slice h0.A h0.n h0.c] 24)) := by go_grown
  have nP : Holds (w.alloc (.cells #[.bool x0.on, .slice h0.A h0.n h0.c] 24)) w.heap.size [.bool x0.on, .slice h0.A h0.n h0.c] := Holds.new w _ _
  have nI := hi0.below nB
  clear hi0
  generalize (w.alloc (.cells #[.bool x0.on, .slice h0.A h0.n h0.c] 24)) = W0 at *
  refine (laws_szFilter x0 h0 1048576 W0 (by omega) (by omega) nI).mono ?_
  rintro e u0 ⟨⟨v0, rfl, hv1, hv2, hfit⟩, hb⟩
  have HI := Lib.hid (nI.below hb)
  have HP := Lib.hid (nP.below hb)
  have HB := Lib.hid (nB.trans (hb.mono nB.size))
  clear nI nP nB hb
  by_cases hneg : v0 < 0
  · clear hfit
    go_wp2
    go_ret
    exact ⟨rfl, HB.out⟩
  have HF := Lib.hid (hfit (by omega))
  clear hfit
  have p0 := (HP.out).2 0 (.bool x0.on) rfl
  have p1 := (HP.out).2 1 (.slice h0.A h0.n h0.c) rfl
  go_wp2_with fail
  refine (laws_toFilter x0 h0 u0 HI.out HF.out).mono ?_
  rintro e s1 ⟨⟨hs, rfl, os⟩, hb⟩
  clear p0 p1
  have hsp := spec_FilterTokens x0 hs s1 os.is HF.out
  rw [HR.out] at hsp
  have HS := Lib.hid hsp
  have HB1 := Lib.hid (HB.out.trans (hb.mono HB.out.size))
  have HI1 := Lib.hid (HI.out.below hb)
  have HP1 := Lib.hid (HP.out.below hb)
  clear hsp hb os HB HI HP
  go_wp2_with fail
  refine HS.out.mono ?_
  rintro e a ⟨A1, c1, rfl, o1, b1⟩
  have HB := Lib.hid (HB1.out.trans (b1.mono HB1.out.size))
  have HI := Lib.hid (HI1.out.below b1)
  have HP := Lib.hid (HP1.out.below b1)
  have HO := Lib.hid (Rd.of_own (enc := encToken) (k := 2) (fun _ => rfl) o1 rfl)
  clear HS HB1 HI1 HP1 o1 b1
  have p0 := (HP.out).2 0 (.bool x0.on) rfl
  have p1 := (HP.out).2 1 (.slice h0.A h0.n h0.c) rfl
  go_wp2_with fail
  refine (laws_toFilter x0 h0 a HI.out HF.out).mono ?_
  rintro e a0 ⟨⟨hx, rfl, ox⟩, hb⟩
  clear p0 p1
  have hA : Below a0.heap.size a0 (a0.alloc (.cells #[.bool x0.on, .slice hx.A hx.n hx.c] 30)) := by go_grown
  have nQ : Holds (a0.alloc (.cells #[.bool x0.on, .slice hx.A hx.n hx.c] 30)) a0.heap.size [.bool x0.on, .slice hx.A hx.n hx.c] := Holds.new a0 _ _
  have nX := ox.below hA
  have nA := hb.trans (hA.mono hb.size)
  have hG0 := hb.size
  have hG1 : a0.heap.size < (a0.alloc (.cells #[.bool x0.on, .slice hx.A hx.n hx.c] 30)).heap.size := by simp
  clear ox hA hb
  go_wp2_with fail
  generalize (a0.alloc (.cells #[.bool x0.on, .slice hx.A hx.n hx.c] 30)) = b0 at *
  generalize a0.heap.size = G0 at *
  have HQ := Lib.hid nQ
  have HX := Lib.hid nX
  have HA := Lib.hid nA
  have HA0 := Lib.hid nA.size
  have HBk := Lib.hid nX.blk
  have him := impl_FilterTokens x0 hx b0 nX.is HF.out (HM.out.below (HB.out.trans (nA.mono HB.out.size)))
  rw [HR.out] at him
  refine him.mono ?_
  clear him nQ nX nA
  rintro e c1w ⟨A2, c2, rfl, o2, b2⟩
  have nQ := HQ.out.below b2
  have nX := HX.out.below b2
  have nA := HA.out.trans (b2.mono HA.out.size)
  have hGb := HQ.out.1
  clear HQ HX HA
  have R2 := (Rd.of_own (enc := encToken) (k := 2) (fun _ => rfl) o2 rfl)
  have HQ := Lib.hid nQ
  have HX := Lib.hid nX
  have HA := Lib.hid nA
  have HO2 := Lib.hid o2
  clear nQ nX nA
  go_wp2_with fail
  refine (laws_eqTokenS A2 A1 R.length c2 c1 R c1w (by omega) R2 (HO.out.below HA.out)).mono ?_
  clear R2 o2 b2
  rintro e c2w ⟨rfl, hb⟩
  have n1 := HQ.out.below hb
  have n2 := HX.out.below hb
  have n3 := own_below HO2.out hb
  have n4 := HA.out.trans (hb.mono HA.out.size)
  clear HQ HX HO2 HA
  have HQ := Lib.hid n1
  have HX := Lib.hid n2
  have HO2 := Lib.hid n3
  have HA := Lib.hid n4
  clear n1 n2 n3 n4
  clear hb
  have HPc := Lib.hid (HP.out.below HA.out)
  have HIc := Lib.hid (HI.out.below HA.out)
  have p0 := HPc.out.2 0 (.bool x0.on) rfl
  have p1 := HPc.out.2 1 (.slice h0.A h0.n h0.c) rfl
  have q0 := HQ.out.2 0 (.bool x0.on) rfl
  have q1 := HQ.out.2 1 (.slice hx.A hx.n hx.c) rfl
  have hS : c2w.cell? ⟨w.heap.size, 0, none⟩ = some (.bool x0.on) ∧ c2w.cell? ⟨w.heap.size, 1, none⟩ = some (.slice h0.A h0.n h0.c) ∧ c2w.cell? ⟨G0, 0, none⟩ = some (.bool x0.on) ∧ c2w.cell? ⟨G0, 1, none⟩ = some (.slice hx.A hx.n hx.c) := ⟨p0, p1, q0, q1⟩
  go_wp2
  go_region_held3 (fun w' => w'.cell? ⟨w.heap.size, 0, none⟩ = some (.bool x0.on) ∧ w'.cell? ⟨w.heap.size, 1, none⟩ = some (.slice h0.A h0.n h0.c) ∧ w'.cell? ⟨G0, 0, none⟩ = some (.bool x0.on) ∧ w'.cell? ⟨G0, 1, none⟩ = some (.slice hx.A hx.n hx.c)) (first | exact hS | assumption)
    ((first
      | (go_at_call 6; refine (laws_toFilter x0 h0 _ (HIc.out.below (by go_grown)) HF.out).mono ?_; rintro e w7 ⟨⟨h7, rfl, o7⟩, hb7⟩
         have hb7' : Below c2w.heap.size c2w w7 := (Below.refl _ c2w).drew.trans hb7
         have hS7 : w7.cell? ⟨w.heap.size, 0, none⟩ = some (.bool x0.on) ∧ w7.cell? ⟨w.heap.size, 1, none⟩ = some (.slice h0.A h0.n h0.c) ∧ w7.cell? ⟨G0, 0, none⟩ = some (.bool x0.on) ∧ w7.cell? ⟨G0, 1, none⟩ = some (.slice hx.A hx.n hx.c) := ⟨(HPc.out.below hb7').2 0 _ rfl, (HPc.out.below hb7').2 1 _ rfl, (HQ.out.below hb7').2 0 _ rfl, (HQ.out.below hb7').2 1 _ rfl⟩)
      | (go_at_call 9; refine (laws_eqFilter x0 hx h7 _ (HX.out.is.below hb7') o7.is HF.out).mono ?_; rintro e w8 ⟨rfl, hb8⟩
         have hb8' := hb7'.trans (hb8.mono hb7'.size)
         have hS8 : w8.cell? ⟨w.heap.size, 0, none⟩ = some (.bool x0.on) ∧ w8.cell? ⟨w.heap.size, 1, none⟩ = some (.slice h0.A h0.n h0.c) ∧ w8.cell? ⟨G0, 0, none⟩ = some (.bool x0.on) ∧ w8.cell? ⟨G0, 1, none⟩ = some (.slice hx.A hx.n hx.c) := ⟨(HPc.out.below hb8').2 0 _ rfl, (HPc.out.below hb8').2 1 _ rfl, (HQ.out.below hb8').2 0 _ rfl, (HQ.out.below hb8').2 1 _ rfl⟩)))
  clear hb7 hb8 hb7' hS hS7 hS8 o7 HPc HIc
  clear p0 q0 p1 q1
  have n1 := HQ.out.below hb8'
  have n2 := HX.out.below hb8'
  have n3 := own_below HO2.out hb8'
  have n4 := HA.out.trans (hb8'.mono HA.out.size)
  clear HQ HX HO2 HA
  have HQ := Lib.hid n1
  have HX := Lib.hid n2
  have HO2 := Lib.hid n3
  have HA := Lib.hid n4
  clear n1 n2 n3 n4
  clear hb8'
  have q0 := HQ.out.2 0 (.bool x0.on) rfl
  have q1 := HQ.out.2 1 (.slice hx.A hx.n hx.c) rfl
  go_wp2_with fail
  refine (laws_markFilter x0 hx a.heap.size 1 w8 (by omega) (by omega) HX.out).mono ?_
  rintro e w9 ⟨⟨K, rfl, hK0⟩, hgX⟩
  clear q0 q1
  have n1 := hgX.own HO2.out (fun i hi => (HBk.out i hi).2)
  have n2 := HA.out.trans (hgX.bel (fun i hi => (HBk.out i hi).1) HA.out.size)
  clear HO2 HA HX HQ hgX
  have HO2 := Lib.hid n1
  have HA := Lib.hid n2
  clear n1 n2
  have hKn : decide (K < 0) = false := decide_eq_false (by omega)
  have hKm : ¬ K < 0 := by omega
  go_wp2_with fail
  refine (laws_eqTokenS A2 A1 R.length c2 c1 R _ (by omega) (Rd.of_own (enc := encToken) (k := 2) (fun _ => rfl) HO2.out rfl) (HO.out.below HA.out)).mono ?_
  rintro e w10 ⟨rfl, hb⟩
  have n3 := own_below HO2.out hb
  have n4 := HA.out.trans (hb.mono HA.out.size)
  clear HO2 HA
  have HO2 := Lib.hid n3
  have HA := Lib.hid n4
  clear n3 n4
  clear hb
  go_wp2_with fail
  refine (laws_markTokenS A2 _ c2 _ 1 R w10 (by omega) (by omega) rfl HO2.out).mono ?_
  rintro e w11 ⟨rfl, o3, g3⟩
  have n2 := HA.out.trans (gb_to_below g3 HA.out.size (fun k hk => Nat.le_trans HA0.out (HO2.out.lt k hk).1))
  clear HA HO2 g3
  have HA := Lib.hid n2
  have HO3 := Lib.hid o3
  clear n2 o3
  go_wp2_with fail
  refine (laws_heldTokenS A2 _ c2 1 w11 (by omega) (by omega) (Rd.of_own (enc := encToken) (k := 2) (fun _ => rfl) HO3.out (tmarks_len _ _))).mono ?_
  rintro e w12 ⟨rfl, hb⟩
  have n3 := own_below HO3.out hb
  have n4 := HA.out.trans (hb.mono HA.out.size)
  clear HO3 HA
  have HO3 := Lib.hid n3
  have HA := Lib.hid n4
  clear n3 n4
  clear hb
  have p0 := (HP.out.below HA.out).2 0 (.bool x0.on) rfl
  have p1 := (HP.out.below HA.out).2 1 (.slice h0.A h0.n h0.c) rfl
  go_wp2_with fail
  refine (laws_toFilter x0 h0 _ (HI.out.below HA.out) HF.out).mono ?_
  rintro e w13 ⟨⟨hy, rfl, oy⟩, hb⟩
  clear p0 p1
  have n3 := own_below HO3.out hb
  have n4 := HA.out.trans (hb.mono HA.out.size)
  clear HO3 HA
  have HO3 := Lib.hid n3
  have HA := Lib.hid n4
  clear n3 n4
  clear hb
  have him := impl_FilterTokens x0 hy w13 oy.is HF.out (HM.out.below (HB.out.trans (HA.out.mono HB.out.size)))
  rw [HR.out] at him
  have HS := Lib.hid him
  clear him oy
  go_wp2_with fail
  refine HS.out.mono ?_
  rintro e w14 ⟨A6, c6, rfl, o6, hb⟩
  have n3 := own_below HO3.out hb
  have n4 := HA.out.trans (hb.mono HA.out.size)
  clear HO3 HA
  have HO3 := Lib.hid n3
  have HA := Lib.hid n4
  clear n3 n4
  clear hb HS
  go_wp2_with fail
  refine (laws_eqTokenS A6 A1 _ c6 c1 R w14 (by omega) (Rd.of_own (enc := encToken) (k := 2) (fun _ => rfl) o6 rfl) (HO.out.below HA.out)).mono ?_
  clear o6
  rintro e w15 ⟨rfl, hb⟩
  have n3 := own_below HO3.out hb
  have n4 := HA.out.trans (hb.mono HA.out.size)
  clear HO3 HA
  have HO3 := Lib.hid n3
  have HA := Lib.hid n4
  clear n3 n4
  clear hb
  go_wp2_with fail
  refine (laws_heldTokenS A2 _ c2 1 w15 (by omega) (by omega) (Rd.of_own (enc := encToken) (k := 2) (fun _ => rfl) HO3.out (tmarks_len _ _))).mono ?_
  rintro e w16 ⟨rfl, hb⟩
  have hfin := HB.out.trans ((HA.out.trans (hb.mono HA.out.size)).mono HB.out.size)
  clear HA HB HO3 HO HI HP HF HR hb
  go_wp2
  go_ret
  exact ⟨rfl, hfin⟩

end Go.Proofs.Ytjpkceimokkpgaa
