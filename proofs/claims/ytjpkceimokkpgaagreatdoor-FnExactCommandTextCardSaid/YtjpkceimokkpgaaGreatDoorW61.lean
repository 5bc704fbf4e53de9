/-
  Walks: what each function returns, and that it leaves what lay in memory as it was.
-/
import Derived.Test.YtjpkceimokkpgaaGreatDoorProg
import Derived.Test.YtjpkceimokkpgaaGreatDoorPlain
import Derived.Test.YtjpkceimokkpgaaGreatDoorBase2
import Derived.Test.YtjpkceimokkpgaaGreatDoorOpen2
import Derived.Test.YtjpkceimokkpgaaGreatDoorShelf
import Derived.WalkKit
import Derived.WalkSpells
import Derived.WalkLawsBesides
import Derived.Lib.Hide
import Derived.Deep.LoopGhost
import Derived.Deep.QuietTactic
import Derived.BigQuiet
import Derived.Handy
import Derived.Deep.RegionHeld3
import Derived.StillTailTactics
import Derived.OpenShut
import Derived.ChangeSame
import Derived.Laws.StructEq

import Derived.Test.YtjpkceimokkpgaaGreatDoorPlainT

import Derived.Test.YtjpkceimokkpgaaGreatDoorBase3

import Derived.Test.YtjpkceimokkpgaaGreatDoorW1

import Derived.Test.YtjpkceimokkpgaaGreatDoorW2

import Derived.Test.YtjpkceimokkpgaaGreatDoorW3

import Derived.Test.YtjpkceimokkpgaaGreatDoorW4

import Derived.Test.YtjpkceimokkpgaaGreatDoorW5

import Derived.Test.YtjpkceimokkpgaaGreatDoorW7

import Derived.Test.YtjpkceimokkpgaaGreatDoorW9

import Derived.Test.YtjpkceimokkpgaaGreatDoorW14

import Derived.Test.YtjpkceimokkpgaaGreatDoorW15

import Derived.Test.YtjpkceimokkpgaaGreatDoorW17

import Derived.Test.YtjpkceimokkpgaaGreatDoorW18

import Derived.Test.YtjpkceimokkpgaaGreatDoorW19

import Derived.Test.YtjpkceimokkpgaaGreatDoorW20

import Derived.Test.YtjpkceimokkpgaaGreatDoorW30

import Derived.Test.YtjpkceimokkpgaaGreatDoorW31

import Derived.Test.YtjpkceimokkpgaaGreatDoorW32

import Derived.Test.YtjpkceimokkpgaaGreatDoorW33

import Derived.Test.YtjpkceimokkpgaaGreatDoorW41

import Derived.Test.YtjpkceimokkpgaaGreatDoorW42

import Derived.Test.YtjpkceimokkpgaaGreatDoorW50

import Derived.Test.YtjpkceimokkpgaaGreatDoorW51

import Derived.Test.YtjpkceimokkpgaaGreatDoorW52

import Derived.Test.YtjpkceimokkpgaaGreatDoorW56

import Derived.Test.YtjpkceimokkpgaaGreatDoorW57

import Derived.Test.YtjpkceimokkpgaaGreatDoorW58

import Derived.Test.YtjpkceimokkpgaaGreatDoorW59

import Derived.Test.YtjpkceimokkpgaaGreatDoorW60

namespace Go.Proofs.YtjpkceimokkpgaaGreatDoor
open Go.ChangeShapes Go.WideShapes Go.ChangeAt Go.RowKit Go.Deep
set_option linter.unusedVariables false
set_option linter.unusedSimpArgs false

set_option maxRecDepth 20000

set_option maxHeartbeats 3200000 in
set_option maxRecDepth 20000 in
theorem walk_FnExactCommandText {H : Type} {enc0 : TypeId × Value → H} {base : Nat} {d0 : DataW H} {p0 : List MemPlace} (v0 : Value) (w : World) (o0 : Value.okWide Tryz.prog w .any base 27 v0) (k0 : DataW.Trod enc0 Tryz.prog w 0 (fun _ => true) true 27 v0 d0 p0) (htab : Lib.TabIs Tryz.prog w "internal/strconv.uint64pow10" .u64 Lib.pow10Tab) (hS : w.ShapedOpen Tryz.prog) :
    Calls Tryz.prog 4 #[v0] w fun e w' => e = .returned (.bool true) ∧ Below w.heap.size w w' := by
  obtain ⟨x0, h0, rfl, hi0⟩ := open_Command o0 k0
  clear o0 k0
  have HM := Lib.hid (ML.of_shaped hS)
  clear hS
  have HT := Lib.hid htab
  clear htab
  obtain ⟨R, hR⟩ : ∃ R, (⟨(lineOf (commandT x0)).toArray⟩ : ByteArray) = R := ⟨_, rfl⟩
  have HR := Lib.hid hR
  clear hR
  go_enter Tryz.func4, Tryz.ntmps4
  go_wp2_with fail
  have nB : Below w.heap.size w (w.alloc (.cells #[.string x0.tag, .int .i64 x0.kind, .string x0.box, .string x0.dest, .bool x0.uid, .slice h0.s.A h0.s.n h0.s.c, .int .i64 x0.op, .int .i64 x0.flags, .string x0.text, .bool x0.filter.on, .slice h0.f.A h0.f.n h0.f.c] 27)) := by go_grown
  have nP0 : Holds (w.alloc (.cells #[.string x0.tag, .int .i64 x0.kind, .string x0.box, .string x0.dest, .bool x0.uid, .slice h0.s.A h0.s.n h0.s.c, .int .i64 x0.op, .int .i64 x0.flags, .string x0.text, .bool x0.filter.on, .slice h0.f.A h0.f.n h0.f.c] 27)) (w.heap.size) [.string x0.tag, .int .i64 x0.kind, .string x0.box, .string x0.dest, .bool x0.uid, .slice h0.s.A h0.s.n h0.s.c, .int .i64 x0.op, .int .i64 x0.flags, .string x0.text, .bool x0.filter.on, .slice h0.f.A h0.f.n h0.f.c] := by
    have h := Holds.new w [.string x0.tag, .int .i64 x0.kind, .string x0.box, .string x0.dest, .bool x0.uid, .slice h0.s.A h0.s.n h0.s.c, .int .i64 x0.op, .int .i64 x0.flags, .string x0.text, .bool x0.filter.on, .slice h0.f.A h0.f.n h0.f.c] 27
    first | exact h | exact h.below (by go_grown)
  have nI0 := hi0.below nB
  have nM := HM.out.below nB
  clear HM
  clear hi0
  generalize (w.alloc (.cells #[.string x0.tag, .int .i64 x0.kind, .string x0.box, .string x0.dest, .bool x0.uid, .slice h0.s.A h0.s.n h0.s.c, .int .i64 x0.op, .int .i64 x0.flags, .string x0.text, .bool x0.filter.on, .slice h0.f.A h0.f.n h0.f.c] 27)) = W0 at *
  have HP0 := Lib.hid nP0
  have HI0 := Lib.hid nI0
  have HM := Lib.hid nM
  have HB := Lib.hid nB
  clear nB nP0 nI0 nM
  refine (laws_szCommand x0 h0 1048576 W0 (by omega) (by omega) HI0.out).mono ?_
  rintro e u0 ⟨⟨v0, rfl, hv01, hv02, hfit0⟩, hb⟩
  have nP0 := HP0.out.below hb
  have nI0 := HI0.out.below hb
  have nM := HM.out.below hb
  have nB := HB.out.trans (hb.mono HB.out.size)
  clear HB HP0 HI0 HM
  clear hb
  have HP0 := Lib.hid nP0
  have HI0 := Lib.hid nI0
  have HM := Lib.hid nM
  have HB := Lib.hid nB
  clear nB nP0 nI0 nM
  by_cases hneg0 : v0 < 0
  · clear hfit0
    go_wp2
    go_ret
    exact ⟨rfl, HB.out⟩
  have HF0 := Lib.hid (hfit0 (by omega))
  clear hfit0
  have p0_0 := HP0.out.2 0 (.string x0.tag) rfl
  have p0_1 := HP0.out.2 1 (.int .i64 x0.kind) rfl
  have p0_2 := HP0.out.2 2 (.string x0.box) rfl
  have p0_3 := HP0.out.2 3 (.string x0.dest) rfl
  have p0_4 := HP0.out.2 4 (.bool x0.uid) rfl
  have p0_5 := HP0.out.2 5 (.slice h0.s.A h0.s.n h0.s.c) rfl
  have p0_6 := HP0.out.2 6 (.int .i64 x0.op) rfl
  have p0_7 := HP0.out.2 7 (.int .i64 x0.flags) rfl
  have p0_8 := HP0.out.2 8 (.string x0.text) rfl
  have p0_9 := HP0.out.2 9 (.bool x0.filter.on) rfl
  have p0_10 := HP0.out.2 10 (.slice h0.f.A h0.f.n h0.f.c) rfl
  go_wp2_with fail
  refine (laws_toCommand x0 h0 u0 HI0.out HF0.out).mono ?_
  rintro e s1 ⟨⟨hs, rfl, os⟩, hb⟩
  clear p0_0 p0_1 p0_2 p0_3 p0_4 p0_5 p0_6 p0_7 p0_8 p0_9 p0_10
  have nP0 := HP0.out.below hb
  have nI0 := HI0.out.below hb
  have nM := HM.out.below hb
  have nB := HB.out.trans (hb.mono HB.out.size)
  clear HB HP0 HI0 HM
  clear hb
  have HP0 := Lib.hid nP0
  have HI0 := Lib.hid nI0
  have HM := Lib.hid nM
  have HB := Lib.hid nB
  clear nB nP0 nI0 nM
  have Hos := Lib.hid os.is
  clear os
  go_wp2_with fail
  refine (spec_CommandText x0 hs s1 Hos.out HF0.out).mono ?_
  rintro e s2 ⟨rfl, hb0⟩
  rw [HR.out]
  have hb : Below s1.heap.size s1 s2 := hb0
  clear hb0 Hos
  have nP0 := HP0.out.below hb
  have nI0 := HI0.out.below hb
  have nM := HM.out.below hb
  have nB := HB.out.trans (hb.mono HB.out.size)
  clear HB HP0 HI0 HM
  clear hb
  have HP0 := Lib.hid nP0
  have HI0 := Lib.hid nI0
  have HM := Lib.hid nM
  have HB := Lib.hid nB
  clear nB nP0 nI0 nM
  have p0_0 := HP0.out.2 0 (.string x0.tag) rfl
  have p0_1 := HP0.out.2 1 (.int .i64 x0.kind) rfl
  have p0_2 := HP0.out.2 2 (.string x0.box) rfl
  have p0_3 := HP0.out.2 3 (.string x0.dest) rfl
  have p0_4 := HP0.out.2 4 (.bool x0.uid) rfl
  have p0_5 := HP0.out.2 5 (.slice h0.s.A h0.s.n h0.s.c) rfl
  have p0_6 := HP0.out.2 6 (.int .i64 x0.op) rfl
  have p0_7 := HP0.out.2 7 (.int .i64 x0.flags) rfl
  have p0_8 := HP0.out.2 8 (.string x0.text) rfl
  have p0_9 := HP0.out.2 9 (.bool x0.filter.on) rfl
  have p0_10 := HP0.out.2 10 (.slice h0.f.A h0.f.n h0.f.c) rfl
  go_wp2_with fail
  refine (laws_toCommand x0 h0 _ HI0.out HF0.out).mono ?_
  rintro e a0 ⟨⟨hx0, rfl, ox⟩, hb⟩
  clear p0_0 p0_1 p0_2 p0_3 p0_4 p0_5 p0_6 p0_7 p0_8 p0_9 p0_10
  have nP0 := HP0.out.below hb
  have nI0 := HI0.out.below hb
  have nM := HM.out.below hb
  have nB := HB.out.trans (hb.mono HB.out.size)
  clear HB HP0 HI0 HM
  clear hb
  have nO0 := ox.is
  clear ox
  have HP0 := Lib.hid nP0
  have HI0 := Lib.hid nI0
  have HM := Lib.hid nM
  have HO0 := Lib.hid nO0
  have HB := Lib.hid nB
  clear nB nP0 nI0 nM nO0
  have hA : Below a0.heap.size a0 (a0.alloc (.cells #[.string x0.tag, .int .i64 x0.kind, .string x0.box, .string x0.dest, .bool x0.uid, .slice hx0.s.A hx0.s.n hx0.s.c, .int .i64 x0.op, .int .i64 x0.flags, .string x0.text, .bool x0.filter.on, .slice hx0.f.A hx0.f.n hx0.f.c] 36)) := by go_grown
  have nP0 := HP0.out.below hA
  have nI0 := HI0.out.below hA
  have nM := HM.out.below hA
  have nO0 := HO0.out.below hA
  have nB := HB.out.trans (hA.mono HB.out.size)
  clear HB HP0 HI0 HM HO0
  have nQ0 : Holds (a0.alloc (.cells #[.string x0.tag, .int .i64 x0.kind, .string x0.box, .string x0.dest, .bool x0.uid, .slice hx0.s.A hx0.s.n hx0.s.c, .int .i64 x0.op, .int .i64 x0.flags, .string x0.text, .bool x0.filter.on, .slice hx0.f.A hx0.f.n hx0.f.c] 36)) a0.heap.size [.string x0.tag, .int .i64 x0.kind, .string x0.box, .string x0.dest, .bool x0.uid, .slice hx0.s.A hx0.s.n hx0.s.c, .int .i64 x0.op, .int .i64 x0.flags, .string x0.text, .bool x0.filter.on, .slice hx0.f.A hx0.f.n hx0.f.c] := Holds.new a0 _ _
  clear hA
  have HP0 := Lib.hid nP0
  have HI0 := Lib.hid nI0
  have HM := Lib.hid nM
  have HO0 := Lib.hid nO0
  have HQ0 := Lib.hid nQ0
  have HB := Lib.hid nB
  clear nB nP0 nI0 nM nO0 nQ0
  have q0_0 := HQ0.out.2 0 (.string x0.tag) rfl
  have q0_1 := HQ0.out.2 1 (.int .i64 x0.kind) rfl
  have q0_2 := HQ0.out.2 2 (.string x0.box) rfl
  have q0_3 := HQ0.out.2 3 (.string x0.dest) rfl
  have q0_4 := HQ0.out.2 4 (.bool x0.uid) rfl
  have q0_5 := HQ0.out.2 5 (.slice hx0.s.A hx0.s.n hx0.s.c) rfl
  have q0_6 := HQ0.out.2 6 (.int .i64 x0.op) rfl
  have q0_7 := HQ0.out.2 7 (.int .i64 x0.flags) rfl
  have q0_8 := HQ0.out.2 8 (.string x0.text) rfl
  have q0_9 := HQ0.out.2 9 (.bool x0.filter.on) rfl
  have q0_10 := HQ0.out.2 10 (.slice hx0.f.A hx0.f.n hx0.f.c) rfl
  go_wp2_with fail
  clear q0_0 q0_1 q0_2 q0_3 q0_4 q0_5 q0_6 q0_7 q0_8 q0_9 q0_10
  generalize a0.alloc (.cells #[.string x0.tag, .int .i64 x0.kind, .string x0.box, .string x0.dest, .bool x0.uid, .slice hx0.s.A hx0.s.n hx0.s.c, .int .i64 x0.op, .int .i64 x0.flags, .string x0.text, .bool x0.filter.on, .slice hx0.f.A hx0.f.n hx0.f.c] 36) = b0 at *
  generalize a0.heap.size = G0 at *
  refine (impl_CommandText x0 hx0 b0 HO0.out HF0.out HM.out (tab_below HT.out HB.out)).mono ?_
  rintro e c1 ⟨rfl, hb⟩
  rw [HR.out]
  have hb : Below b0.heap.size b0 c1 := hb
  have nP0 := HP0.out.below hb
  have nI0 := HI0.out.below hb
  have nM := HM.out.below hb
  have nO0 := HO0.out.below hb
  have nQ0 := HQ0.out.below hb
  have nB := HB.out.trans (hb.mono HB.out.size)
  clear HB HP0 HI0 HM HO0 HQ0
  clear hb
  have HP0 := Lib.hid nP0
  have HI0 := Lib.hid nI0
  have HM := Lib.hid nM
  have HO0 := Lib.hid nO0
  have HQ0 := Lib.hid nQ0
  have HB := Lib.hid nB
  clear nB nP0 nI0 nM nO0 nQ0
  have p0_0 := HP0.out.2 0 (.string x0.tag) rfl
  have p0_1 := HP0.out.2 1 (.int .i64 x0.kind) rfl
  have p0_2 := HP0.out.2 2 (.string x0.box) rfl
  have p0_3 := HP0.out.2 3 (.string x0.dest) rfl
  have p0_4 := HP0.out.2 4 (.bool x0.uid) rfl
  have p0_5 := HP0.out.2 5 (.slice h0.s.A h0.s.n h0.s.c) rfl
  have p0_6 := HP0.out.2 6 (.int .i64 x0.op) rfl
  have p0_7 := HP0.out.2 7 (.int .i64 x0.flags) rfl
  have p0_8 := HP0.out.2 8 (.string x0.text) rfl
  have p0_9 := HP0.out.2 9 (.bool x0.filter.on) rfl
  have p0_10 := HP0.out.2 10 (.slice h0.f.A h0.f.n h0.f.c) rfl
  have q0_0 := HQ0.out.2 0 (.string x0.tag) rfl
  have q0_1 := HQ0.out.2 1 (.int .i64 x0.kind) rfl
  have q0_2 := HQ0.out.2 2 (.string x0.box) rfl
  have q0_3 := HQ0.out.2 3 (.string x0.dest) rfl
  have q0_4 := HQ0.out.2 4 (.bool x0.uid) rfl
  have q0_5 := HQ0.out.2 5 (.slice hx0.s.A hx0.s.n hx0.s.c) rfl
  have q0_6 := HQ0.out.2 6 (.int .i64 x0.op) rfl
  have q0_7 := HQ0.out.2 7 (.int .i64 x0.flags) rfl
  have q0_8 := HQ0.out.2 8 (.string x0.text) rfl
  have q0_9 := HQ0.out.2 9 (.bool x0.filter.on) rfl
  have q0_10 := HQ0.out.2 10 (.slice hx0.f.A hx0.f.n hx0.f.c) rfl
  have hS : c1.cell? ⟨w.heap.size, 0, none⟩ = some (.string x0.tag) ∧ c1.cell? ⟨w.heap.size, 1, none⟩ = some (.int .i64 x0.kind) ∧ c1.cell? ⟨w.heap.size, 2, none⟩ = some (.string x0.box) ∧ c1.cell? ⟨w.heap.size, 3, none⟩ = some (.string x0.dest) ∧ c1.cell? ⟨w.heap.size, 4, none⟩ = some (.bool x0.uid) ∧ c1.cell? ⟨w.heap.size, 5, none⟩ = some (.slice h0.s.A h0.s.n h0.s.c) ∧ c1.cell? ⟨w.heap.size, 6, none⟩ = some (.int .i64 x0.op) ∧ c1.cell? ⟨w.heap.size, 7, none⟩ = some (.int .i64 x0.flags) ∧ c1.cell? ⟨w.heap.size, 8, none⟩ = some (.string x0.text) ∧ c1.cell? ⟨w.heap.size, 9, none⟩ = some (.bool x0.filter.on) ∧ c1.cell? ⟨w.heap.size, 10, none⟩ = some (.slice h0.f.A h0.f.n h0.f.c) ∧ c1.cell? ⟨G0, 0, none⟩ = some (.string x0.tag) ∧ c1.cell? ⟨G0, 1, none⟩ = some (.int .i64 x0.kind) ∧ c1.cell? ⟨G0, 2, none⟩ = some (.string x0.box) ∧ c1.cell? ⟨G0, 3, none⟩ = some (.string x0.dest) ∧ c1.cell? ⟨G0, 4, none⟩ = some (.bool x0.uid) ∧ c1.cell? ⟨G0, 5, none⟩ = some (.slice hx0.s.A hx0.s.n hx0.s.c) ∧ c1.cell? ⟨G0, 6, none⟩ = some (.int .i64 x0.op) ∧ c1.cell? ⟨G0, 7, none⟩ = some (.int .i64 x0.flags) ∧ c1.cell? ⟨G0, 8, none⟩ = some (.string x0.text) ∧ c1.cell? ⟨G0, 9, none⟩ = some (.bool x0.filter.on) ∧ c1.cell? ⟨G0, 10, none⟩ = some (.slice hx0.f.A hx0.f.n hx0.f.c) := ⟨p0_0, p0_1, p0_2, p0_3, p0_4, p0_5, p0_6, p0_7, p0_8, p0_9, p0_10, q0_0, q0_1, q0_2, q0_3, q0_4, q0_5, q0_6, q0_7, q0_8, q0_9, q0_10⟩
  go_wp2
  go_region_held3 (fun w' => w'.cell? ⟨w.heap.size, 0, none⟩ = some (.string x0.tag) ∧ w'.cell? ⟨w.heap.size, 1, none⟩ = some (.int .i64 x0.kind) ∧ w'.cell? ⟨w.heap.size, 2, none⟩ = some (.string x0.box) ∧ w'.cell? ⟨w.heap.size, 3, none⟩ = some (.string x0.dest) ∧ w'.cell? ⟨w.heap.size, 4, none⟩ = some (.bool x0.uid) ∧ w'.cell? ⟨w.heap.size, 5, none⟩ = some (.slice h0.s.A h0.s.n h0.s.c) ∧ w'.cell? ⟨w.heap.size, 6, none⟩ = some (.int .i64 x0.op) ∧ w'.cell? ⟨w.heap.size, 7, none⟩ = some (.int .i64 x0.flags) ∧ w'.cell? ⟨w.heap.size, 8, none⟩ = some (.string x0.text) ∧ w'.cell? ⟨w.heap.size, 9, none⟩ = some (.bool x0.filter.on) ∧ w'.cell? ⟨w.heap.size, 10, none⟩ = some (.slice h0.f.A h0.f.n h0.f.c) ∧ w'.cell? ⟨G0, 0, none⟩ = some (.string x0.tag) ∧ w'.cell? ⟨G0, 1, none⟩ = some (.int .i64 x0.kind) ∧ w'.cell? ⟨G0, 2, none⟩ = some (.string x0.box) ∧ w'.cell? ⟨G0, 3, none⟩ = some (.string x0.dest) ∧ w'.cell? ⟨G0, 4, none⟩ = some (.bool x0.uid) ∧ w'.cell? ⟨G0, 5, none⟩ = some (.slice hx0.s.A hx0.s.n hx0.s.c) ∧ w'.cell? ⟨G0, 6, none⟩ = some (.int .i64 x0.op) ∧ w'.cell? ⟨G0, 7, none⟩ = some (.int .i64 x0.flags) ∧ w'.cell? ⟨G0, 8, none⟩ = some (.string x0.text) ∧ w'.cell? ⟨G0, 9, none⟩ = some (.bool x0.filter.on) ∧ w'.cell? ⟨G0, 10, none⟩ = some (.slice hx0.f.A hx0.f.n hx0.f.c)) (first | exact hS | assumption)
    ((first
      | (go_at_call 7; refine (laws_toCommand x0 h0 _ (HI0.out.below (by go_grown)) HF0.out).mono ?_; rintro e w7 ⟨⟨h7, rfl, o7⟩, hb7⟩
         have hb7' : Below c1.heap.size c1 w7 := (Below.refl _ c1).drew.trans hb7
         have hS7 : w7.cell? ⟨w.heap.size, 0, none⟩ = some (.string x0.tag) ∧ w7.cell? ⟨w.heap.size, 1, none⟩ = some (.int .i64 x0.kind) ∧ w7.cell? ⟨w.heap.size, 2, none⟩ = some (.string x0.box) ∧ w7.cell? ⟨w.heap.size, 3, none⟩ = some (.string x0.dest) ∧ w7.cell? ⟨w.heap.size, 4, none⟩ = some (.bool x0.uid) ∧ w7.cell? ⟨w.heap.size, 5, none⟩ = some (.slice h0.s.A h0.s.n h0.s.c) ∧ w7.cell? ⟨w.heap.size, 6, none⟩ = some (.int .i64 x0.op) ∧ w7.cell? ⟨w.heap.size, 7, none⟩ = some (.int .i64 x0.flags) ∧ w7.cell? ⟨w.heap.size, 8, none⟩ = some (.string x0.text) ∧ w7.cell? ⟨w.heap.size, 9, none⟩ = some (.bool x0.filter.on) ∧ w7.cell? ⟨w.heap.size, 10, none⟩ = some (.slice h0.f.A h0.f.n h0.f.c) ∧ w7.cell? ⟨G0, 0, none⟩ = some (.string x0.tag) ∧ w7.cell? ⟨G0, 1, none⟩ = some (.int .i64 x0.kind) ∧ w7.cell? ⟨G0, 2, none⟩ = some (.string x0.box) ∧ w7.cell? ⟨G0, 3, none⟩ = some (.string x0.dest) ∧ w7.cell? ⟨G0, 4, none⟩ = some (.bool x0.uid) ∧ w7.cell? ⟨G0, 5, none⟩ = some (.slice hx0.s.A hx0.s.n hx0.s.c) ∧ w7.cell? ⟨G0, 6, none⟩ = some (.int .i64 x0.op) ∧ w7.cell? ⟨G0, 7, none⟩ = some (.int .i64 x0.flags) ∧ w7.cell? ⟨G0, 8, none⟩ = some (.string x0.text) ∧ w7.cell? ⟨G0, 9, none⟩ = some (.bool x0.filter.on) ∧ w7.cell? ⟨G0, 10, none⟩ = some (.slice hx0.f.A hx0.f.n hx0.f.c) := ⟨(HP0.out.below hb7').2 0 _ rfl, (HP0.out.below hb7').2 1 _ rfl, (HP0.out.below hb7').2 2 _ rfl, (HP0.out.below hb7').2 3 _ rfl, (HP0.out.below hb7').2 4 _ rfl, (HP0.out.below hb7').2 5 _ rfl, (HP0.out.below hb7').2 6 _ rfl, (HP0.out.below hb7').2 7 _ rfl, (HP0.out.below hb7').2 8 _ rfl, (HP0.out.below hb7').2 9 _ rfl, (HP0.out.below hb7').2 10 _ rfl, (HQ0.out.below hb7').2 0 _ rfl, (HQ0.out.below hb7').2 1 _ rfl, (HQ0.out.below hb7').2 2 _ rfl, (HQ0.out.below hb7').2 3 _ rfl, (HQ0.out.below hb7').2 4 _ rfl, (HQ0.out.below hb7').2 5 _ rfl, (HQ0.out.below hb7').2 6 _ rfl, (HQ0.out.below hb7').2 7 _ rfl, (HQ0.out.below hb7').2 8 _ rfl, (HQ0.out.below hb7').2 9 _ rfl, (HQ0.out.below hb7').2 10 _ rfl⟩)
      | (go_at_call 10; refine (laws_eqCommand x0 hx0 h7 _ (HO0.out.below hb7') o7.is HF0.out).mono ?_; rintro e w8 ⟨rfl, hb8⟩
         have hb8' := hb7'.trans (hb8.mono hb7'.size)
         have hS8 : w8.cell? ⟨w.heap.size, 0, none⟩ = some (.string x0.tag) ∧ w8.cell? ⟨w.heap.size, 1, none⟩ = some (.int .i64 x0.kind) ∧ w8.cell? ⟨w.heap.size, 2, none⟩ = some (.string x0.box) ∧ w8.cell? ⟨w.heap.size, 3, none⟩ = some (.string x0.dest) ∧ w8.cell? ⟨w.heap.size, 4, none⟩ = some (.bool x0.uid) ∧ w8.cell? ⟨w.heap.size, 5, none⟩ = some (.slice h0.s.A h0.s.n h0.s.c) ∧ w8.cell? ⟨w.heap.size, 6, none⟩ = some (.int .i64 x0.op) ∧ w8.cell? ⟨w.heap.size, 7, none⟩ = some (.int .i64 x0.flags) ∧ w8.cell? ⟨w.heap.size, 8, none⟩ = some (.string x0.text) ∧ w8.cell? ⟨w.heap.size, 9, none⟩ = some (.bool x0.filter.on) ∧ w8.cell? ⟨w.heap.size, 10, none⟩ = some (.slice h0.f.A h0.f.n h0.f.c) ∧ w8.cell? ⟨G0, 0, none⟩ = some (.string x0.tag) ∧ w8.cell? ⟨G0, 1, none⟩ = some (.int .i64 x0.kind) ∧ w8.cell? ⟨G0, 2, none⟩ = some (.string x0.box) ∧ w8.cell? ⟨G0, 3, none⟩ = some (.string x0.dest) ∧ w8.cell? ⟨G0, 4, none⟩ = some (.bool x0.uid) ∧ w8.cell? ⟨G0, 5, none⟩ = some (.slice hx0.s.A hx0.s.n hx0.s.c) ∧ w8.cell? ⟨G0, 6, none⟩ = some (.int .i64 x0.op) ∧ w8.cell? ⟨G0, 7, none⟩ = some (.int .i64 x0.flags) ∧ w8.cell? ⟨G0, 8, none⟩ = some (.string x0.text) ∧ w8.cell? ⟨G0, 9, none⟩ = some (.bool x0.filter.on) ∧ w8.cell? ⟨G0, 10, none⟩ = some (.slice hx0.f.A hx0.f.n hx0.f.c) := ⟨(HP0.out.below hb8').2 0 _ rfl, (HP0.out.below hb8').2 1 _ rfl, (HP0.out.below hb8').2 2 _ rfl, (HP0.out.below hb8').2 3 _ rfl, (HP0.out.below hb8').2 4 _ rfl, (HP0.out.below hb8').2 5 _ rfl, (HP0.out.below hb8').2 6 _ rfl, (HP0.out.below hb8').2 7 _ rfl, (HP0.out.below hb8').2 8 _ rfl, (HP0.out.below hb8').2 9 _ rfl, (HP0.out.below hb8').2 10 _ rfl, (HQ0.out.below hb8').2 0 _ rfl, (HQ0.out.below hb8').2 1 _ rfl, (HQ0.out.below hb8').2 2 _ rfl, (HQ0.out.below hb8').2 3 _ rfl, (HQ0.out.below hb8').2 4 _ rfl, (HQ0.out.below hb8').2 5 _ rfl, (HQ0.out.below hb8').2 6 _ rfl, (HQ0.out.below hb8').2 7 _ rfl, (HQ0.out.below hb8').2 8 _ rfl, (HQ0.out.below hb8').2 9 _ rfl, (HQ0.out.below hb8').2 10 _ rfl⟩)))
  clear hb7 hb8 hb7' hS hS7 hS8 o7
  clear p0_0 p0_1 p0_2 p0_3 p0_4 p0_5 p0_6 p0_7 p0_8 p0_9 p0_10 q0_0 q0_1 q0_2 q0_3 q0_4 q0_5 q0_6 q0_7 q0_8 q0_9 q0_10
  have nP0 := HP0.out.below hb8'
  have nI0 := HI0.out.below hb8'
  have nM := HM.out.below hb8'
  have nO0 := HO0.out.below hb8'
  have nQ0 := HQ0.out.below hb8'
  have nB := HB.out.trans (hb8'.mono HB.out.size)
  clear HB HP0 HI0 HM HO0 HQ0
  clear hb8'
  have HP0 := Lib.hid nP0
  have HI0 := Lib.hid nI0
  have HM := Lib.hid nM
  have HO0 := Lib.hid nO0
  have HQ0 := Lib.hid nQ0
  have HB := Lib.hid nB
  clear nB nP0 nI0 nM nO0 nQ0
  go_wp2
  go_ret
  exact ⟨rfl, HB.out⟩

end Go.Proofs.YtjpkceimokkpgaaGreatDoor
