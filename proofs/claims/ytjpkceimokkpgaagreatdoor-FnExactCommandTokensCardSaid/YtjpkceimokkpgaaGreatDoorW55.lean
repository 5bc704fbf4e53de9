/-
  Walks: what each function returns, and that it leaves what lay in memory as it was.
-/
import Derived.Test.YtjpkceimokkpgaaGreatDoorProg
import Derived.Test.YtjpkceimokkpgaaGreatDoorPlain
import Derived.Test.YtjpkceimokkpgaaGreatDoorBase2
import Derived.Test.YtjpkceimokkpgaaGreatDoorOpen2
import Derived.Test.YtjpkceimokkpgaaGreatDoorShelf
import Derived.WalkKit
import Derived.WalkSpells
import Derived.WalkLawsBesides
import Derived.Lib.Hide
import Derived.Deep.LoopGhost
import Derived.Deep.QuietTactic
import Derived.BigQuiet
import Derived.Handy
import Derived.Deep.RegionHeld3
import Derived.StillTailTactics
import Derived.OpenShut
import Derived.ChangeSame
import Derived.Laws.StructEq

import Derived.Test.YtjpkceimokkpgaaGreatDoorPlainT

import Derived.Test.YtjpkceimokkpgaaGreatDoorBase3

import Derived.Test.YtjpkceimokkpgaaGreatDoorW1

import Derived.Test.YtjpkceimokkpgaaGreatDoorW2

import Derived.Test.YtjpkceimokkpgaaGreatDoorW3

import Derived.Test.YtjpkceimokkpgaaGreatDoorW4

import Derived.Test.YtjpkceimokkpgaaGreatDoorW5

import Derived.Test.YtjpkceimokkpgaaGreatDoorW7

import Derived.Test.YtjpkceimokkpgaaGreatDoorW9

import Derived.Test.YtjpkceimokkpgaaGreatDoorW14

import Derived.Test.YtjpkceimokkpgaaGreatDoorW15

import Derived.Test.YtjpkceimokkpgaaGreatDoorW17

import Derived.Test.YtjpkceimokkpgaaGreatDoorW18

import Derived.Test.YtjpkceimokkpgaaGreatDoorW19

import Derived.Test.YtjpkceimokkpgaaGreatDoorW20

import Derived.Test.YtjpkceimokkpgaaGreatDoorW30

import Derived.Test.YtjpkceimokkpgaaGreatDoorW31

import Derived.Test.YtjpkceimokkpgaaGreatDoorW32

import Derived.Test.YtjpkceimokkpgaaGreatDoorW33

import Derived.Test.YtjpkceimokkpgaaGreatDoorW41

import Derived.Test.YtjpkceimokkpgaaGreatDoorW42

import Derived.Test.YtjpkceimokkpgaaGreatDoorW50

import Derived.Test.YtjpkceimokkpgaaGreatDoorW51

import Derived.Test.YtjpkceimokkpgaaGreatDoorW52

import Derived.Test.YtjpkceimokkpgaaGreatDoorW54

namespace Go.Proofs.YtjpkceimokkpgaaGreatDoor
open Go.ChangeShapes Go.WideShapes Go.ChangeAt Go.RowKit Go.Deep
set_option linter.unusedVariables false
set_option linter.unusedSimpArgs false

set_option maxRecDepth 20000

set_option maxHeartbeats 6400000 in
set_option maxRecDepth 20000 in
theorem walk_FnExactCommandTokens {H : Type} {enc0 : TypeId × Value → H} {base : Nat} {d0 : DataW H} {p0 : List MemPlace} (v0 : Value) (w : World) (o0 : Value.okWide Tryz.prog w .any base 27 v0) (k0 : DataW.Trod enc0 Tryz.prog w 0 (fun _ => true) true 27 v0 d0 p0) (htab : Lib.TabIs Tryz.prog w "internal/strconv.uint64pow10" .u64 Lib.pow10Tab) (hS : w.ShapedOpen Tryz.prog) :
    Calls Tryz.prog 3 #[v0] w fun e w' => e = .returned (.bool true) ∧ Below w.heap.size w w' := by
  obtain ⟨x0, h0, rfl, hi0⟩ := open_Command o0 k0
  clear o0 k0
  have HM := Lib.hid (ML.of_shaped hS)
  have HT := Lib.hid htab
  clear hS htab
  obtain ⟨R, hR⟩ : ∃ R, commandT x0 = R := ⟨_, rfl⟩
  have hRl : R.length ≤ 76 := by rw [← hR]; exact commandT_len x0
  have HR := Lib.hid hR
  clear hR
  go_enter Tryz.func3, Tryz.ntmps3
  go_wp2_with fail
  have nB : Below w.heap.size w (w.alloc (.cells #[.string x0.tag, .int .i64 x0.kind, .string x0.box, .string x0.dest, .bool x0.uid, .slice h0.s.A h0.s.n h0.s.c, .int .i64 x0.op, .int .i64 x0.flags, .string x0.text, .bool x0.filter.on, .slice h0.f.A h0.f.n h0.f.c] 27)) := by go_grown
  have nP : Holds (w.alloc (.cells #[.string x0.tag, .int .i64 x0.kind, .string x0.box, .string x0.dest, .bool x0.uid, .slice h0.s.A h0.s.n h0.s.c, .int .i64 x0.op, .int .i64 x0.flags, .string x0.text, .bool x0.filter.on, .slice h0.f.A h0.f.n h0.f.c] 27)) w.heap.size [.string x0.tag, .int .i64 x0.kind, .string x0.box, .string x0.dest, .bool x0.uid, .slice h0.s.A h0.s.n h0.s.c, .int .i64 x0.op, .int .i64 x0.flags, .string x0.text, .bool x0.filter.on, .slice h0.f.A h0.f.n h0.f.c] := Holds.new w _ _
  have nI := hi0.below nB
  clear hi0
  generalize (w.alloc (.cells #[.string x0.tag, .int .i64 x0.kind, .string x0.box, .string x0.dest, .bool x0.uid, .slice h0.s.A h0.s.n h0.s.c, .int .i64 x0.op, .int .i64 x0.flags, .string x0.text, .bool x0.filter.on, .slice h0.f.A h0.f.n h0.f.c] 27)) = W0 at *
  refine (laws_szCommand x0 h0 1048576 W0 (by omega) (by omega) nI).mono ?_
  rintro e u0 ⟨⟨v0, rfl, hv1, hv2, hfit⟩, hb⟩
  have HI := Lib.hid (nI.below hb)
  have HP := Lib.hid (nP.below hb)
  have HB := Lib.hid (nB.trans (hb.mono nB.size))
  clear nI nP nB hb
  by_cases hneg : v0 < 0
  · clear hfit
    go_wp2
    go_ret
    exact ⟨rfl, HB.out⟩
  have HF := Lib.hid (hfit (by omega))
  clear hfit
  have p0 := (HP.out).2 0 (.string x0.tag) rfl
  have p1 := (HP.out).2 1 (.int .i64 x0.kind) rfl
  have p2 := (HP.out).2 2 (.string x0.box) rfl
  have p3 := (HP.out).2 3 (.string x0.dest) rfl
  have p4 := (HP.out).2 4 (.bool x0.uid) rfl
  have p5 := (HP.out).2 5 (.slice h0.s.A h0.s.n h0.s.c) rfl
  have p6 := (HP.out).2 6 (.int .i64 x0.op) rfl
  have p7 := (HP.out).2 7 (.int .i64 x0.flags) rfl
  have p8 := (HP.out).2 8 (.string x0.text) rfl
  have p9 := (HP.out).2 9 (.bool x0.filter.on) rfl
  have p10 := (HP.out).2 10 (.slice h0.f.A h0.f.n h0.f.c) rfl
  go_wp2_with fail
  refine (laws_toCommand x0 h0 u0 HI.out HF.out).mono ?_
  rintro e s1 ⟨⟨hs, rfl, os⟩, hb⟩
  clear p0 p1 p2 p3 p4 p5 p6 p7 p8 p9 p10
  have hsp := spec_CommandTokens x0 hs s1 os.is HF.out
  rw [HR.out] at hsp
  have HS := Lib.hid hsp
  have HB1 := Lib.hid (HB.out.trans (hb.mono HB.out.size))
  have HI1 := Lib.hid (HI.out.below hb)
  have HP1 := Lib.hid (HP.out.below hb)
  clear hsp hb os HB HI HP
  go_wp2_with fail
  refine HS.out.mono ?_
  rintro e a ⟨A1, c1, rfl, o1, b1⟩
  have HB := Lib.hid (HB1.out.trans (b1.mono HB1.out.size))
  have HI := Lib.hid (HI1.out.below b1)
  have HP := Lib.hid (HP1.out.below b1)
  have HO := Lib.hid (Rd.of_own (enc := encToken) (k := 2) (fun _ => rfl) o1 rfl)
  clear HS HB1 HI1 HP1 o1 b1
  have p0 := (HP.out).2 0 (.string x0.tag) rfl
  have p1 := (HP.out).2 1 (.int .i64 x0.kind) rfl
  have p2 := (HP.out).2 2 (.string x0.box) rfl
  have p3 := (HP.out).2 3 (.string x0.dest) rfl
  have p4 := (HP.out).2 4 (.bool x0.uid) rfl
  have p5 := (HP.out).2 5 (.slice h0.s.A h0.s.n h0.s.c) rfl
  have p6 := (HP.out).2 6 (.int .i64 x0.op) rfl
  have p7 := (HP.out).2 7 (.int .i64 x0.flags) rfl
  have p8 := (HP.out).2 8 (.string x0.text) rfl
  have p9 := (HP.out).2 9 (.bool x0.filter.on) rfl
  have p10 := (HP.out).2 10 (.slice h0.f.A h0.f.n h0.f.c) rfl
  go_wp2_with fail
  refine (laws_toCommand x0 h0 a HI.out HF.out).mono ?_
  rintro e a0 ⟨⟨hx, rfl, ox⟩, hb⟩
  clear p0 p1 p2 p3 p4 p5 p6 p7 p8 p9 p10
  have hA : Below a0.heap.size a0 (a0.alloc (.cells #[.string x0.tag, .int .i64 x0.kind, .string x0.box, .string x0.dest, .bool x0.uid, .slice hx.s.A hx.s.n hx.s.c, .int .i64 x0.op, .int .i64 x0.flags, .string x0.text, .bool x0.filter.on, .slice hx.f.A hx.f.n hx.f.c] 36)) := by go_grown
  have nQ : Holds (a0.alloc (.cells #[.string x0.tag, .int .i64 x0.kind, .string x0.box, .string x0.dest, .bool x0.uid, .slice hx.s.A hx.s.n hx.s.c, .int .i64 x0.op, .int .i64 x0.flags, .string x0.text, .bool x0.filter.on, .slice hx.f.A hx.f.n hx.f.c] 36)) a0.heap.size [.string x0.tag, .int .i64 x0.kind, .string x0.box, .string x0.dest, .bool x0.uid, .slice hx.s.A hx.s.n hx.s.c, .int .i64 x0.op, .int .i64 x0.flags, .string x0.text, .bool x0.filter.on, .slice hx.f.A hx.f.n hx.f.c] := Holds.new a0 _ _
  have nX := ox.below hA
  have nA := hb.trans (hA.mono hb.size)
  have hG0 := hb.size
  have hG1 : a0.heap.size < (a0.alloc (.cells #[.string x0.tag, .int .i64 x0.kind, .string x0.box, .string x0.dest, .bool x0.uid, .slice hx.s.A hx.s.n hx.s.c, .int .i64 x0.op, .int .i64 x0.flags, .string x0.text, .bool x0.filter.on, .slice hx.f.A hx.f.n hx.f.c] 36)).heap.size := by simp
  clear ox hA hb
  go_wp2_with fail
  generalize (a0.alloc (.cells #[.string x0.tag, .int .i64 x0.kind, .string x0.box, .string x0.dest, .bool x0.uid, .slice hx.s.A hx.s.n hx.s.c, .int .i64 x0.op, .int .i64 x0.flags, .string x0.text, .bool x0.filter.on, .slice hx.f.A hx.f.n hx.f.c] 36)) = b0 at *
  generalize a0.heap.size = G0 at *
  have HQ := Lib.hid nQ
  have HX := Lib.hid nX
  have HA := Lib.hid nA
  have HA0 := Lib.hid nA.size
  have HBk := Lib.hid nX.blk
  have him := impl_CommandTokens x0 hx b0 nX.is HF.out (HM.out.below (HB.out.trans (nA.mono HB.out.size))) (tab_below HT.out (HB.out.trans (nA.mono HB.out.size)))
  rw [HR.out] at him
  refine him.mono ?_
  clear him nQ nX nA
  rintro e c1w ⟨A2, c2, rfl, o2, b2⟩
  have nQ := HQ.out.below b2
  have nX := HX.out.below b2
  have nA := HA.out.trans (b2.mono HA.out.size)
  have hGb := HQ.out.1
  clear HQ HX HA
  have R2 := (Rd.of_own (enc := encToken) (k := 2) (fun _ => rfl) o2 rfl)
  have HQ := Lib.hid nQ
  have HX := Lib.hid nX
  have HA := Lib.hid nA
  have HO2 := Lib.hid o2
  clear nQ nX nA
  go_wp2_with fail
  refine (laws_eqTokenS A2 A1 R.length c2 c1 R c1w (by omega) R2 (HO.out.below HA.out)).mono ?_
  clear R2 o2 b2
  rintro e c2w ⟨rfl, hb⟩
  have n1 := HQ.out.below hb
  have n2 := HX.out.below hb
  have n3 := own_below HO2.out hb
  have n4 := HA.out.trans (hb.mono HA.out.size)
  clear HQ HX HO2 HA
  have HQ := Lib.hid n1
  have HX := Lib.hid n2
  have HO2 := Lib.hid n3
  have HA := Lib.hid n4
  clear n1 n2 n3 n4
  clear hb
  have HPc := Lib.hid (HP.out.below HA.out)
  have HIc := Lib.hid (HI.out.below HA.out)
  have p0 := HPc.out.2 0 (.string x0.tag) rfl
  have p1 := HPc.out.2 1 (.int .i64 x0.kind) rfl
  have p2 := HPc.out.2 2 (.string x0.box) rfl
  have p3 := HPc.out.2 3 (.string x0.dest) rfl
  have p4 := HPc.out.2 4 (.bool x0.uid) rfl
  have p5 := HPc.out.2 5 (.slice h0.s.A h0.s.n h0.s.c) rfl
  have p6 := HPc.out.2 6 (.int .i64 x0.op) rfl
  have p7 := HPc.out.2 7 (.int .i64 x0.flags) rfl
  have p8 := HPc.out.2 8 (.string x0.text) rfl
  have p9 := HPc.out.2 9 (.bool x0.filter.on) rfl
  have p10 := HPc.out.2 10 (.slice h0.f.A h0.f.n h0.f.c) rfl
  have q0 := HQ.out.2 0 (.string x0.tag) rfl
  have q1 := HQ.out.2 1 (.int .i64 x0.kind) rfl
  have q2 := HQ.out.2 2 (.string x0.box) rfl
  have q3 := HQ.out.2 3 (.string x0.dest) rfl
  have q4 := HQ.out.2 4 (.bool x0.uid) rfl
  have q5 := HQ.out.2 5 (.slice hx.s.A hx.s.n hx.s.c) rfl
  have q6 := HQ.out.2 6 (.int .i64 x0.op) rfl
  have q7 := HQ.out.2 7 (.int .i64 x0.flags) rfl
  have q8 := HQ.out.2 8 (.string x0.text) rfl
  have q9 := HQ.out.2 9 (.bool x0.filter.on) rfl
  have q10 := HQ.out.2 10 (.slice hx.f.A hx.f.n hx.f.c) rfl
  have hS : c2w.cell? ⟨w.heap.size, 0, none⟩ = some (.string x0.tag) ∧ c2w.cell? ⟨w.heap.size, 1, none⟩ = some (.int .i64 x0.kind) ∧ c2w.cell? ⟨w.heap.size, 2, none⟩ = some (.string x0.box) ∧ c2w.cell? ⟨w.heap.size, 3, none⟩ = some (.string x0.dest) ∧ c2w.cell? ⟨w.heap.size, 4, none⟩ = some (.bool x0.uid) ∧ c2w.cell? ⟨w.heap.size, 5, none⟩ = some (.slice h0.s.A h0.s.n h0.s.c) ∧ c2w.cell? ⟨w.heap.size, 6, none⟩ = some (.int .i64 x0.op) ∧ c2w.cell? ⟨w.heap.size, 7, none⟩ = some (.int .i64 x0.flags) ∧ c2w.cell? ⟨w.heap.size, 8, none⟩ = some (.string x0.text) ∧ c2w.cell? ⟨w.heap.size, 9, none⟩ = some (.bool x0.filter.on) ∧ c2w.cell? ⟨w.heap.size, 10, none⟩ = some (.slice h0.f.A h0.f.n h0.f.c) ∧ c2w.cell? ⟨G0, 0, none⟩ = some (.string x0.tag) ∧ c2w.cell? ⟨G0, 1, none⟩ = some (.int .i64 x0.kind) ∧ c2w.cell? ⟨G0, 2, none⟩ = some (.string x0.box) ∧ c2w.cell? ⟨G0, 3, none⟩ = some (.string x0.dest) ∧ c2w.cell? ⟨G0, 4, none⟩ = some (.bool x0.uid) ∧ c2w.cell? ⟨G0, 5, none⟩ = some (.slice hx.s.A hx.s.n hx.s.c) ∧ c2w.cell? ⟨G0, 6, none⟩ = some (.int .i64 x0.op) ∧ c2w.cell? ⟨G0, 7, none⟩ = some (.int .i64 x0.flags) ∧ c2w.cell? ⟨G0, 8, none⟩ = some (.string x0.text) ∧ c2w.cell? ⟨G0, 9, none⟩ = some (.bool x0.filter.on) ∧ c2w.cell? ⟨G0, 10, none⟩ = some (.slice hx.f.A hx.f.n hx.f.c) := ⟨p0, p1, p2, p3, p4, p5, p6, p7, p8, p9, p10, q0, q1, q2, q3, q4, q5, q6, q7, q8, q9, q10⟩
  go_wp2
  go_region_held3 (fun w' => w'.cell? ⟨w.heap.size, 0, none⟩ = some (.string x0.tag) ∧ w'.cell? ⟨w.heap.size, 1, none⟩ = some (.int .i64 x0.kind) ∧ w'.cell? ⟨w.heap.size, 2, none⟩ = some (.string x0.box) ∧ w'.cell? ⟨w.heap.size, 3, none⟩ = some (.string x0.dest) ∧ w'.cell? ⟨w.heap.size, 4, none⟩ = some (.bool x0.uid) ∧ w'.cell? ⟨w.heap.size, 5, none⟩ = some (.slice h0.s.A h0.s.n h0.s.c) ∧ w'.cell? ⟨w.heap.size, 6, none⟩ = some (.int .i64 x0.op) ∧ w'.cell? ⟨w.heap.size, 7, none⟩ = some (.int .i64 x0.flags) ∧ w'.cell? ⟨w.heap.size, 8, none⟩ = some (.string x0.text) ∧ w'.cell? ⟨w.heap.size, 9, none⟩ = some (.bool x0.filter.on) ∧ w'.cell? ⟨w.heap.size, 10, none⟩ = some (.slice h0.f.A h0.f.n h0.f.c) ∧ w'.cell? ⟨G0, 0, none⟩ = some (.string x0.tag) ∧ w'.cell? ⟨G0, 1, none⟩ = some (.int .i64 x0.kind) ∧ w'.cell? ⟨G0, 2, none⟩ = some (.string x0.box) ∧ w'.cell? ⟨G0, 3, none⟩ = some (.string x0.dest) ∧ w'.cell? ⟨G0, 4, none⟩ = some (.bool x0.uid) ∧ w'.cell? ⟨G0, 5, none⟩ = some (.slice hx.s.A hx.s.n hx.s.c) ∧ w'.cell? ⟨G0, 6, none⟩ = some (.int .i64 x0.op) ∧ w'.cell? ⟨G0, 7, none⟩ = some (.int .i64 x0.flags) ∧ w'.cell? ⟨G0, 8, none⟩ = some (.string x0.text) ∧ w'.cell? ⟨G0, 9, none⟩ = some (.bool x0.filter.on) ∧ w'.cell? ⟨G0, 10, none⟩ = some (.slice hx.f.A hx.f.n hx.f.c)) (first | exact hS | assumption)
    ((first
      | (go_at_call 7; refine (laws_toCommand x0 h0 _ (HIc.out.below (by go_grown)) HF.out).mono ?_; rintro e w7 ⟨⟨h7, rfl, o7⟩, hb7⟩
         have hb7' : Below c2w.heap.size c2w w7 := (Below.refl _ c2w).drew.trans hb7
         have hS7 : w7.cell? ⟨w.heap.size, 0, none⟩ = some (.string x0.tag) ∧ w7.cell? ⟨w.heap.size, 1, none⟩ = some (.int .i64 x0.kind) ∧ w7.cell? ⟨w.heap.size, 2, none⟩ = some (.string x0.box) ∧ w7.cell? ⟨w.heap.size, 3, none⟩ = some (.string x0.dest) ∧ w7.cell? ⟨w.heap.size, 4, none⟩ = some (.bool x0.uid) ∧ w7.cell? ⟨w.heap.size, 5, none⟩ = some (.slice h0.s.A h0.s.n h0.s.c) ∧ w7.cell? ⟨w.heap.size, 6, none⟩ = some (.int .i64 x0.op) ∧ w7.cell? ⟨w.heap.size, 7, none⟩ = some (.int .i64 x0.flags) ∧ w7.cell? ⟨w.heap.size, 8, none⟩ = some (.string x0.text) ∧ w7.cell? ⟨w.heap.size, 9, none⟩ = some (.bool x0.filter.on) ∧ w7.cell? ⟨w.heap.size, 10, none⟩ = some (.slice h0.f.A h0.f.n h0.f.c) ∧ w7.cell? ⟨G0, 0, none⟩ = some (.string x0.tag) ∧ w7.cell? ⟨G0, 1, none⟩ = some (.int .i64 x0.kind) ∧ w7.cell? ⟨G0, 2, none⟩ = some (.string x0.box) ∧ w7.cell? ⟨G0, 3, none⟩ = some (.string x0.dest) ∧ w7.cell? ⟨G0, 4, none⟩ = some (.bool x0.uid) ∧ w7.cell? ⟨G0, 5, none⟩ = some (.slice hx.s.A hx.s.n hx.s.c) ∧ w7.cell? ⟨G0, 6, none⟩ = some (.int .i64 x0.op) ∧ w7.cell? ⟨G0, 7, none⟩ = some (.int .i64 x0.flags) ∧ w7.cell? ⟨G0, 8, none⟩ = some (.string x0.text) ∧ w7.cell? ⟨G0, 9, none⟩ = some (.bool x0.filter.on) ∧ w7.cell? ⟨G0, 10, none⟩ = some (.slice hx.f.A hx.f.n hx.f.c) := ⟨(HPc.out.below hb7').2 0 _ rfl, (HPc.out.below hb7').2 1 _ rfl, (HPc.out.below hb7').2 2 _ rfl, (HPc.out.below hb7').2 3 _ rfl, (HPc.out.below hb7').2 4 _ rfl, (HPc.out.below hb7').2 5 _ rfl, (HPc.out.below hb7').2 6 _ rfl, (HPc.out.below hb7').2 7 _ rfl, (HPc.out.below hb7').2 8 _ rfl, (HPc.out.below hb7').2 9 _ rfl, (HPc.out.below hb7').2 10 _ rfl, (HQ.out.below hb7').2 0 _ rfl, (HQ.out.below hb7').2 1 _ rfl, (HQ.out.below hb7').2 2 _ rfl, (HQ.out.below hb7').2 3 _ rfl, (HQ.out.below hb7').2 4 _ rfl, (HQ.out.below hb7').2 5 _ rfl, (HQ.out.below hb7').2 6 _ rfl, (HQ.out.below hb7').2 7 _ rfl, (HQ.out.below hb7').2 8 _ rfl, (HQ.out.below hb7').2 9 _ rfl, (HQ.out.below hb7').2 10 _ rfl⟩)
      | (go_at_call 10; refine (laws_eqCommand x0 hx h7 _ (HX.out.is.below hb7') o7.is HF.out).mono ?_; rintro e w8 ⟨rfl, hb8⟩
         have hb8' := hb7'.trans (hb8.mono hb7'.size)
         have hS8 : w8.cell? ⟨w.heap.size, 0, none⟩ = some (.string x0.tag) ∧ w8.cell? ⟨w.heap.size, 1, none⟩ = some (.int .i64 x0.kind) ∧ w8.cell? ⟨w.heap.size, 2, none⟩ = some (.string x0.box) ∧ w8.cell? ⟨w.heap.size, 3, none⟩ = some (.string x0.dest) ∧ w8.cell? ⟨w.heap.size, 4, none⟩ = some (.bool x0.uid) ∧ w8.cell? ⟨w.heap.size, 5, none⟩ = some (.slice h0.s.A h0.s.n h0.s.c) ∧ w8.cell? ⟨w.heap.size, 6, none⟩ = some (.int .i64 x0.op) ∧ w8.cell? ⟨w.heap.size, 7, none⟩ = some (.int .i64 x0.flags) ∧ w8.cell? ⟨w.heap.size, 8, none⟩ = some (.string x0.text) ∧ w8.cell? ⟨w.heap.size, 9, none⟩ = some (.bool x0.filter.on) ∧ w8.cell? ⟨w.heap.size, 10, none⟩ = some (.slice h0.f.A h0.f.n h0.f.c) ∧ w8.cell? ⟨G0, 0, none⟩ = some (.string x0.tag) ∧ w8.cell? ⟨G0, 1, none⟩ = some (.int .i64 x0.kind) ∧ w8.cell? ⟨G0, 2, none⟩ = some (.string x0.box) ∧ w8.cell? ⟨G0, 3, none⟩ = some (.string x0.dest) ∧ w8.cell? ⟨G0, 4, none⟩ = some (.bool x0.uid) ∧ w8.cell? ⟨G0, 5, none⟩ = some (.slice hx.s.A hx.s.n hx.s.c) ∧ w8.cell? ⟨G0, 6, none⟩ = some (.int .i64 x0.op) ∧ w8.cell? ⟨G0, 7, none⟩ = some (.int .i64 x0.flags) ∧ w8.cell? ⟨G0, 8, none⟩ = some (.string x0.text) ∧ w8.cell? ⟨G0, 9, none⟩ = some (.bool x0.filter.on) ∧ w8.cell? ⟨G0, 10, none⟩ = some (.slice hx.f.A hx.f.n hx.f.c) := ⟨(HPc.out.below hb8').2 0 _ rfl, (HPc.out.below hb8').2 1 _ rfl, (HPc.out.below hb8').2 2 _ rfl, (HPc.out.below hb8').2 3 _ rfl, (HPc.out.below hb8').2 4 _ rfl, (HPc.out.below hb8').2 5 _ rfl, (HPc.out.below hb8').2 6 _ rfl, (HPc.out.below hb8').2 7 _ rfl, (HPc.out.below hb8').2 8 _ rfl, (HPc.out.below hb8').2 9 _ rfl, (HPc.out.below hb8').2 10 _ rfl, (HQ.out.below hb8').2 0 _ rfl, (HQ.out.below hb8').2 1 _ rfl, (HQ.out.below hb8').2 2 _ rfl, (HQ.out.below hb8').2 3 _ rfl, (HQ.out.below hb8').2 4 _ rfl, (HQ.out.below hb8').2 5 _ rfl, (HQ.out.below hb8').2 6 _ rfl, (HQ.out.below hb8').2 7 _ rfl, (HQ.out.below hb8').2 8 _ rfl, (HQ.out.below hb8').2 9 _ rfl, (HQ.out.below hb8').2 10 _ rfl⟩)))
  clear hb7 hb8 hb7' hS hS7 hS8 o7 HPc HIc
  clear p0 q0 p1 q1 p2 q2 p3 q3 p4 q4 p5 q5 p6 q6 p7 q7 p8 q8 p9 q9 p10 q10
  have n1 := HQ.out.below hb8'
  have n2 := HX.out.below hb8'
  have n3 := own_below HO2.out hb8'
  have n4 := HA.out.trans (hb8'.mono HA.out.size)
  clear HQ HX HO2 HA
  have HQ := Lib.hid n1
  have HX := Lib.hid n2
  have HO2 := Lib.hid n3
  have HA := Lib.hid n4
  clear n1 n2 n3 n4
  clear hb8'
  have q0 := HQ.out.2 0 (.string x0.tag) rfl
  have q1 := HQ.out.2 1 (.int .i64 x0.kind) rfl
  have q2 := HQ.out.2 2 (.string x0.box) rfl
  have q3 := HQ.out.2 3 (.string x0.dest) rfl
  have q4 := HQ.out.2 4 (.bool x0.uid) rfl
  have q5 := HQ.out.2 5 (.slice hx.s.A hx.s.n hx.s.c) rfl
  have q6 := HQ.out.2 6 (.int .i64 x0.op) rfl
  have q7 := HQ.out.2 7 (.int .i64 x0.flags) rfl
  have q8 := HQ.out.2 8 (.string x0.text) rfl
  have q9 := HQ.out.2 9 (.bool x0.filter.on) rfl
  have q10 := HQ.out.2 10 (.slice hx.f.A hx.f.n hx.f.c) rfl
  go_wp2_with fail
  refine (laws_markCommand x0 hx a.heap.size 1 w8 (by omega) (by omega) HX.out).mono ?_
  rintro e w9 ⟨⟨K, rfl, hK0⟩, hgX⟩
  clear q0 q1 q2 q3 q4 q5 q6 q7 q8 q9 q10
  have n1 := hgX.own HO2.out (fun i hi => (HBk.out i hi).2)
  have n2 := HA.out.trans (hgX.bel (fun i hi => (HBk.out i hi).1) HA.out.size)
  clear HO2 HA HX HQ hgX
  have HO2 := Lib.hid n1
  have HA := Lib.hid n2
  clear n1 n2
  have hKn : decide (K < 0) = false := decide_eq_false (by omega)
  have hKm : ¬ K < 0 := by omega
  go_wp2_with fail
  refine (laws_eqTokenS A2 A1 R.length c2 c1 R _ (by omega) (Rd.of_own (enc := encToken) (k := 2) (fun _ => rfl) HO2.out rfl) (HO.out.below HA.out)).mono ?_
  rintro e w10 ⟨rfl, hb⟩
  have n3 := own_below HO2.out hb
  have n4 := HA.out.trans (hb.mono HA.out.size)
  clear HO2 HA
  have HO2 := Lib.hid n3
  have HA := Lib.hid n4
  clear n3 n4
  clear hb
  go_wp2_with fail
  refine (laws_markTokenS A2 _ c2 _ 1 R w10 (by omega) (by omega) rfl HO2.out).mono ?_
  rintro e w11 ⟨rfl, o3, g3⟩
  have n2 := HA.out.trans (gb_to_below g3 HA.out.size (fun k hk => Nat.le_trans HA0.out (HO2.out.lt k hk).1))
  clear HA HO2 g3
  have HA := Lib.hid n2
  have HO3 := Lib.hid o3
  clear n2 o3
  go_wp2_with fail
  refine (laws_heldTokenS A2 _ c2 1 w11 (by omega) (by omega) (Rd.of_own (enc := encToken) (k := 2) (fun _ => rfl) HO3.out (tmarks_len _ _))).mono ?_
  rintro e w12 ⟨rfl, hb⟩
  have n3 := own_below HO3.out hb
  have n4 := HA.out.trans (hb.mono HA.out.size)
  clear HO3 HA
  have HO3 := Lib.hid n3
  have HA := Lib.hid n4
  clear n3 n4
  clear hb
  have p0 := (HP.out.below HA.out).2 0 (.string x0.tag) rfl
  have p1 := (HP.out.below HA.out).2 1 (.int .i64 x0.kind) rfl
  have p2 := (HP.out.below HA.out).2 2 (.string x0.box) rfl
  have p3 := (HP.out.below HA.out).2 3 (.string x0.dest) rfl
  have p4 := (HP.out.below HA.out).2 4 (.bool x0.uid) rfl
  have p5 := (HP.out.below HA.out).2 5 (.slice h0.s.A h0.s.n h0.s.c) rfl
  have p6 := (HP.out.below HA.out).2 6 (.int .i64 x0.op) rfl
  have p7 := (HP.out.below HA.out).2 7 (.int .i64 x0.flags) rfl
  have p8 := (HP.out.below HA.out).2 8 (.string x0.text) rfl
  have p9 := (HP.out.below HA.out).2 9 (.bool x0.filter.on) rfl
  have p10 := (HP.out.below HA.out).2 10 (.slice h0.f.A h0.f.n h0.f.c) rfl
  go_wp2_with fail
  refine (laws_toCommand x0 h0 _ (HI.out.below HA.out) HF.out).mono ?_
  rintro e w13 ⟨⟨hy, rfl, oy⟩, hb⟩
  clear p0 p1 p2 p3 p4 p5 p6 p7 p8 p9 p10
  have n3 := own_below HO3.out hb
  have n4 := HA.out.trans (hb.mono HA.out.size)
  clear HO3 HA
  have HO3 := Lib.hid n3
  have HA := Lib.hid n4
  clear n3 n4
  clear hb
  have him := impl_CommandTokens x0 hy w13 oy.is HF.out (HM.out.below (HB.out.trans (HA.out.mono HB.out.size))) (tab_below HT.out (HB.out.trans (HA.out.mono HB.out.size)))
  rw [HR.out] at him
  have HS := Lib.hid him
  clear him oy
  go_wp2_with fail
  refine HS.out.mono ?_
  rintro e w14 ⟨A6, c6, rfl, o6, hb⟩
  have n3 := own_below HO3.out hb
  have n4 := HA.out.trans (hb.mono HA.out.size)
  clear HO3 HA
  have HO3 := Lib.hid n3
  have HA := Lib.hid n4
  clear n3 n4
  clear hb HS
  go_wp2_with fail
  refine (laws_eqTokenS A6 A1 _ c6 c1 R w14 (by omega) (Rd.of_own (enc := encToken) (k := 2) (fun _ => rfl) o6 rfl) (HO.out.below HA.out)).mono ?_
  clear o6
  rintro e w15 ⟨rfl, hb⟩
  have n3 := own_below HO3.out hb
  have n4 := HA.out.trans (hb.mono HA.out.size)
  clear HO3 HA
  have HO3 := Lib.hid n3
  have HA := Lib.hid n4
  clear n3 n4
  clear hb
  go_wp2_with fail
  refine (laws_heldTokenS A2 _ c2 1 w15 (by omega) (by omega) (Rd.of_own (enc := encToken) (k := 2) (fun _ => rfl) HO3.out (tmarks_len _ _))).mono ?_
  rintro e w16 ⟨rfl, hb⟩
  have hfin := HB.out.trans ((HA.out.trans (hb.mono HA.out.size)).mono HB.out.size)
  clear HA HB HO3 HO HI HP HF HR hb
  go_wp2
  go_ret
  exact ⟨rfl, hfin⟩

end Go.Proofs.YtjpkceimokkpgaaGreatDoor
