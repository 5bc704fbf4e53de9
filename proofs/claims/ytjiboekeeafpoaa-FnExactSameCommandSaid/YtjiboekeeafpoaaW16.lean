/-
  Walks: what each function returns, and that it leaves what lay in memory as it was.
-/
import Derived.Test.YtjiboekeeafpoaaProg
import Derived.Test.YtjiboekeeafpoaaPlain
import Derived.Test.YtjiboekeeafpoaaBase2
import Derived.Test.YtjiboekeeafpoaaOpen2
import Derived.Test.YtjiboekeeafpoaaShelf
import Derived.WalkKit
import Derived.WalkSpells
import Derived.WalkLawsBesides
import Derived.Lib.Hide
import Derived.Deep.LoopGhost
import Derived.Deep.QuietTactic
import Derived.BigQuiet
import Derived.Handy
import Derived.Deep.RegionHeld3
import Derived.StillTailTactics
import Derived.OpenShut
import Derived.ChangeSame
import Derived.Laws.StructEq

import Derived.Test.YtjiboekeeafpoaaPlainT

import Derived.Test.YtjiboekeeafpoaaW1

import Derived.Test.YtjiboekeeafpoaaW3

import Derived.Test.YtjiboekeeafpoaaW5

import Derived.Test.YtjiboekeeafpoaaW7

import Derived.Test.YtjiboekeeafpoaaW14

import Derived.Test.YtjiboekeeafpoaaW15

namespace Go.Proofs.Ytjiboekeeafpoaa
open Go.ChangeShapes Go.WideShapes Go.ChangeAt Go.RowKit Go.Deep
set_option linter.unusedVariables false
set_option linter.unusedSimpArgs false

set_option maxHeartbeats 3200000 in
set_option maxRecDepth 20000 in
theorem walk_FnExactSameCommand {H : Type} {enc0 : TypeId × Value → H} {base : Nat} {d0 : DataW H} {p0 : List MemPlace} {d1 : DataW H} {p1 : List MemPlace} (v0 : Value) (v1 : Value) (w : World) (o0 : Value.okWide Try.prog w .any base 27 v0) (k0 : DataW.Trod enc0 Try.prog w 0 (fun _ => true) true 27 v0 d0 p0) (o1 : Value.okWide Try.prog w .any base 27 v1) (k1 : DataW.Trod enc0 Try.prog w 0 (fun _ => true) true 27 v1 d1 p1) :
    Calls Try.prog 5 #[v0, v1] w fun e w' => e = .returned (.bool true) ∧ Below w.heap.size w w' := by
  obtain ⟨x0, h0, rfl, hi0⟩ := open_Command o0 k0
  obtain ⟨x1, h1, rfl, hi1⟩ := open_Command o1 k1
  clear o0 k0 o1 k1
  obtain ⟨R, hR⟩ : ∃ R, sameCommand x0 x1 = R := ⟨_, rfl⟩
  have HR := Lib.hid hR
  clear hR
  go_enter Try.func5, Try.ntmps5
  go_wp2_with fail
  have nB : Below w.heap.size w ((w.alloc (.cells #[.string x0.tag, .int .i64 x0.kind, .string x0.box, .string x0.to, .bool x0.uid, .slice h0.s.A h0.s.n h0.s.c, .int .i64 x0.op, .int .i64 x0.flags, .string x0.text, .bool x0.filter.on, .slice h0.f.A h0.f.n h0.f.c] 27)).alloc (.cells #[.string x1.tag, .int .i64 x1.kind, .string x1.box, .string x1.to, .bool x1.uid, .slice h1.s.A h1.s.n h1.s.c, .int .i64 x1.op, .int .i64 x1.flags, .string x1.text, .bool x1.filter.on, .slice h1.f.A h1.f.n h1.f.c] 27)) := by go_grown
  have nP0 : Holds ((w.alloc (.cells #[.string x0.tag, .int .i64 x0.kind, .string x0.box, .string x0.to, .bool x0.uid, .slice h0.s.A h0.s.n h0.s.c, .int .i64 x0.op, .int .i64 x0.flags, .string x0.text, .bool x0.filter.on, .slice h0.f.A h0.f.n h0.f.c] 27)).alloc (.cells #[.string x1.tag, .int .i64 x1.kind, .string x1.box, .string x1.to, .bool x1.uid, .slice h1.s.A h1.s.n h1.s.c, .int .i64 x1.op, .int .i64 x1.flags, .string x1.text, .bool x1.filter.on, .slice h1.f.A h1.f.n h1.f.c] 27)) (w.heap.size) [.string x0.tag, .int .i64 x0.kind, .string x0.box, .string x0.to, .bool x0.uid, .slice h0.s.A h0.s.n h0.s.c, .int .i64 x0.op, .int .i64 x0.flags, .string x0.text, .bool x0.filter.on, .slice h0.f.A h0.f.n h0.f.c] := by
    have h := Holds.new w [.string x0.tag, .int .i64 x0.kind, .string x0.box, .string x0.to, .bool x0.uid, .slice h0.s.A h0.s.n h0.s.c, .int .i64 x0.op, .int .i64 x0.flags, .string x0.text, .bool x0.filter.on, .slice h0.f.A h0.f.n h0.f.c] 27
    first | exact h | exact h.below (by go_grown)
  have nP1 : Holds ((w.alloc (.cells #[.string x0.tag, .int .i64 x0.kind, .string x0.box, .string x0.to, .bool x0.uid, .slice h0.s.A h0.s.n h0.s.c, .int .i64 x0.op, .int .i64 x0.flags, .string x0.text, .bool x0.filter.on, .slice h0.f.A h0.f.n h0.f.c] 27)).alloc (.cells #[.string x1.tag, .int .i64 x1.kind, .string x1.box, .string x1.to, .bool x1.uid, .slice h1.s.A h1.s.n h1.s.c, .int .i64 x1.op, .int .i64 x1.flags, .string x1.text, .bool x1.filter.on, .slice h1.f.A h1.f.n h1.f.c] 27)) (w.heap.size + 1) [.string x1.tag, .int .i64 x1.kind, .string x1.box, .string x1.to, .bool x1.uid, .slice h1.s.A h1.s.n h1.s.c, .int .i64 x1.op, .int .i64 x1.flags, .string x1.text, .bool x1.filter.on, .slice h1.f.A h1.f.n h1.f.c] := by
    have h := Holds.new (w.alloc (.cells #[.string x0.tag, .int .i64 x0.kind, .string x0.box, .string x0.to, .bool x0.uid, .slice h0.s.A h0.s.n h0.s.c, .int .i64 x0.op, .int .i64 x0.flags, .string x0.text, .bool x0.filter.on, .slice h0.f.A h0.f.n h0.f.c] 27)) [.string x1.tag, .int .i64 x1.kind, .string x1.box, .string x1.to, .bool x1.uid, .slice h1.s.A h1.s.n h1.s.c, .int .i64 x1.op, .int .i64 x1.flags, .string x1.text, .bool x1.filter.on, .slice h1.f.A h1.f.n h1.f.c] 27
    rw [show (w.alloc (.cells #[.string x0.tag, .int .i64 x0.kind, .string x0.box, .string x0.to, .bool x0.uid, .slice h0.s.A h0.s.n h0.s.c, .int .i64 x0.op, .int .i64 x0.flags, .string x0.text, .bool x0.filter.on, .slice h0.f.A h0.f.n h0.f.c] 27)).heap.size = w.heap.size + 1 from by simp] at h
    first | exact h | exact h.below (by go_grown)
  have nI0 := hi0.below nB
  have nI1 := hi1.below nB
  clear hi0 hi1
  generalize ((w.alloc (.cells #[.string x0.tag, .int .i64 x0.kind, .string x0.box, .string x0.to, .bool x0.uid, .slice h0.s.A h0.s.n h0.s.c, .int .i64 x0.op, .int .i64 x0.flags, .string x0.text, .bool x0.filter.on, .slice h0.f.A h0.f.n h0.f.c] 27)).alloc (.cells #[.string x1.tag, .int .i64 x1.kind, .string x1.box, .string x1.to, .bool x1.uid, .slice h1.s.A h1.s.n h1.s.c, .int .i64 x1.op, .int .i64 x1.flags, .string x1.text, .bool x1.filter.on, .slice h1.f.A h1.f.n h1.f.c] 27)) = W0 at *
  have HP0 := Lib.hid nP0
  have HP1 := Lib.hid nP1
  have HI0 := Lib.hid nI0
  have HI1 := Lib.hid nI1
  have HB := Lib.hid nB
  clear nB nP0 nP1 nI0 nI1
  refine (laws_szCommand x0 h0 1048576 W0 (by omega) (by omega) HI0.out).mono ?_
  rintro e u0 ⟨⟨v0, rfl, hv01, hv02, hfit0⟩, hb⟩
  have nP0 := HP0.out.below hb
  have nP1 := HP1.out.below hb
  have nI0 := HI0.out.below hb
  have nI1 := HI1.out.below hb
  have nB := HB.out.trans (hb.mono HB.out.size)
  clear HB HP0 HP1 HI0 HI1
  clear hb
  have HP0 := Lib.hid nP0
  have HP1 := Lib.hid nP1
  have HI0 := Lib.hid nI0
  have HI1 := Lib.hid nI1
  have HB := Lib.hid nB
  clear nB nP0 nP1 nI0 nI1
  by_cases hneg0 : v0 < 0
  · clear hfit0
    go_wp2
    go_ret
    exact ⟨rfl, HB.out⟩
  have HF0 := Lib.hid (hfit0 (by omega))
  clear hfit0
  have p1_0 := HP1.out.2 0 (.string x1.tag) rfl
  have p1_1 := HP1.out.2 1 (.int .i64 x1.kind) rfl
  have p1_2 := HP1.out.2 2 (.string x1.box) rfl
  have p1_3 := HP1.out.2 3 (.string x1.to) rfl
  have p1_4 := HP1.out.2 4 (.bool x1.uid) rfl
  have p1_5 := HP1.out.2 5 (.slice h1.s.A h1.s.n h1.s.c) rfl
  have p1_6 := HP1.out.2 6 (.int .i64 x1.op) rfl
  have p1_7 := HP1.out.2 7 (.int .i64 x1.flags) rfl
  have p1_8 := HP1.out.2 8 (.string x1.text) rfl
  have p1_9 := HP1.out.2 9 (.bool x1.filter.on) rfl
  have p1_10 := HP1.out.2 10 (.slice h1.f.A h1.f.n h1.f.c) rfl
  go_wp2_with fail
  refine (laws_szCommand x1 h1 v0 u0 (by omega) (by omega) HI1.out).mono ?_
  rintro e u1 ⟨⟨v1, rfl, hv11, hv12, hfit1⟩, hb⟩
  clear p1_0 p1_1 p1_2 p1_3 p1_4 p1_5 p1_6 p1_7 p1_8 p1_9 p1_10
  have nP0 := HP0.out.below hb
  have nP1 := HP1.out.below hb
  have nI0 := HI0.out.below hb
  have nI1 := HI1.out.below hb
  have nB := HB.out.trans (hb.mono HB.out.size)
  clear HB HP0 HP1 HI0 HI1
  clear hb
  have HP0 := Lib.hid nP0
  have HP1 := Lib.hid nP1
  have HI0 := Lib.hid nI0
  have HI1 := Lib.hid nI1
  have HB := Lib.hid nB
  clear nB nP0 nP1 nI0 nI1
  by_cases hneg1 : v1 < 0
  · clear hfit1
    go_wp2
    go_ret
    exact ⟨rfl, HB.out⟩
  have HF1 := Lib.hid (hfit1 (by omega))
  clear hfit1
  have p0_0 := HP0.out.2 0 (.string x0.tag) rfl
  have p0_1 := HP0.out.2 1 (.int .i64 x0.kind) rfl
  have p0_2 := HP0.out.2 2 (.string x0.box) rfl
  have p0_3 := HP0.out.2 3 (.string x0.to) rfl
  have p0_4 := HP0.out.2 4 (.bool x0.uid) rfl
  have p0_5 := HP0.out.2 5 (.slice h0.s.A h0.s.n h0.s.c) rfl
  have p0_6 := HP0.out.2 6 (.int .i64 x0.op) rfl
  have p0_7 := HP0.out.2 7 (.int .i64 x0.flags) rfl
  have p0_8 := HP0.out.2 8 (.string x0.text) rfl
  have p0_9 := HP0.out.2 9 (.bool x0.filter.on) rfl
  have p0_10 := HP0.out.2 10 (.slice h0.f.A h0.f.n h0.f.c) rfl
  have p1_0 := HP1.out.2 0 (.string x1.tag) rfl
  have p1_1 := HP1.out.2 1 (.int .i64 x1.kind) rfl
  have p1_2 := HP1.out.2 2 (.string x1.box) rfl
  have p1_3 := HP1.out.2 3 (.string x1.to) rfl
  have p1_4 := HP1.out.2 4 (.bool x1.uid) rfl
  have p1_5 := HP1.out.2 5 (.slice h1.s.A h1.s.n h1.s.c) rfl
  have p1_6 := HP1.out.2 6 (.int .i64 x1.op) rfl
  have p1_7 := HP1.out.2 7 (.int .i64 x1.flags) rfl
  have p1_8 := HP1.out.2 8 (.string x1.text) rfl
  have p1_9 := HP1.out.2 9 (.bool x1.filter.on) rfl
  have p1_10 := HP1.out.2 10 (.slice h1.f.A h1.f.n h1.f.c) rfl
  have hS0 : u1.cell? ⟨w.heap.size, 0, none⟩ = some (.string x0.tag) ∧ u1.cell? ⟨w.heap.size, 1, none⟩ = some (.int .i64 x0.kind) ∧ u1.cell? ⟨w.heap.size, 2, none⟩ = some (.string x0.box) ∧ u1.cell? ⟨w.heap.size, 3, none⟩ = some (.string x0.to) ∧ u1.cell? ⟨w.heap.size, 4, none⟩ = some (.bool x0.uid) ∧ u1.cell? ⟨w.heap.size, 5, none⟩ = some (.slice h0.s.A h0.s.n h0.s.c) ∧ u1.cell? ⟨w.heap.size, 6, none⟩ = some (.int .i64 x0.op) ∧ u1.cell? ⟨w.heap.size, 7, none⟩ = some (.int .i64 x0.flags) ∧ u1.cell? ⟨w.heap.size, 8, none⟩ = some (.string x0.text) ∧ u1.cell? ⟨w.heap.size, 9, none⟩ = some (.bool x0.filter.on) ∧ u1.cell? ⟨w.heap.size, 10, none⟩ = some (.slice h0.f.A h0.f.n h0.f.c) ∧ u1.cell? ⟨w.heap.size + 1, 0, none⟩ = some (.string x1.tag) ∧ u1.cell? ⟨w.heap.size + 1, 1, none⟩ = some (.int .i64 x1.kind) ∧ u1.cell? ⟨w.heap.size + 1, 2, none⟩ = some (.string x1.box) ∧ u1.cell? ⟨w.heap.size + 1, 3, none⟩ = some (.string x1.to) ∧ u1.cell? ⟨w.heap.size + 1, 4, none⟩ = some (.bool x1.uid) ∧ u1.cell? ⟨w.heap.size + 1, 5, none⟩ = some (.slice h1.s.A h1.s.n h1.s.c) ∧ u1.cell? ⟨w.heap.size + 1, 6, none⟩ = some (.int .i64 x1.op) ∧ u1.cell? ⟨w.heap.size + 1, 7, none⟩ = some (.int .i64 x1.flags) ∧ u1.cell? ⟨w.heap.size + 1, 8, none⟩ = some (.string x1.text) ∧ u1.cell? ⟨w.heap.size + 1, 9, none⟩ = some (.bool x1.filter.on) ∧ u1.cell? ⟨w.heap.size + 1, 10, none⟩ = some (.slice h1.f.A h1.f.n h1.f.c) := ⟨p0_0, p0_1, p0_2, p0_3, p0_4, p0_5, p0_6, p0_7, p0_8, p0_9, p0_10, p1_0, p1_1, p1_2, p1_3, p1_4, p1_5, p1_6, p1_7, p1_8, p1_9, p1_10⟩
  go_wp2
  go_region_held3 (fun w' => w'.cell? ⟨w.heap.size, 0, none⟩ = some (.string x0.tag) ∧ w'.cell? ⟨w.heap.size, 1, none⟩ = some (.int .i64 x0.kind) ∧ w'.cell? ⟨w.heap.size, 2, none⟩ = some (.string x0.box) ∧ w'.cell? ⟨w.heap.size, 3, none⟩ = some (.string x0.to) ∧ w'.cell? ⟨w.heap.size, 4, none⟩ = some (.bool x0.uid) ∧ w'.cell? ⟨w.heap.size, 5, none⟩ = some (.slice h0.s.A h0.s.n h0.s.c) ∧ w'.cell? ⟨w.heap.size, 6, none⟩ = some (.int .i64 x0.op) ∧ w'.cell? ⟨w.heap.size, 7, none⟩ = some (.int .i64 x0.flags) ∧ w'.cell? ⟨w.heap.size, 8, none⟩ = some (.string x0.text) ∧ w'.cell? ⟨w.heap.size, 9, none⟩ = some (.bool x0.filter.on) ∧ w'.cell? ⟨w.heap.size, 10, none⟩ = some (.slice h0.f.A h0.f.n h0.f.c) ∧ w'.cell? ⟨w.heap.size + 1, 0, none⟩ = some (.string x1.tag) ∧ w'.cell? ⟨w.heap.size + 1, 1, none⟩ = some (.int .i64 x1.kind) ∧ w'.cell? ⟨w.heap.size + 1, 2, none⟩ = some (.string x1.box) ∧ w'.cell? ⟨w.heap.size + 1, 3, none⟩ = some (.string x1.to) ∧ w'.cell? ⟨w.heap.size + 1, 4, none⟩ = some (.bool x1.uid) ∧ w'.cell? ⟨w.heap.size + 1, 5, none⟩ = some (.slice h1.s.A h1.s.n h1.s.c) ∧ w'.cell? ⟨w.heap.size + 1, 6, none⟩ = some (.int .i64 x1.op) ∧ w'.cell? ⟨w.heap.size + 1, 7, none⟩ = some (.int .i64 x1.flags) ∧ w'.cell? ⟨w.heap.size + 1, 8, none⟩ = some (.string x1.text) ∧ w'.cell? ⟨w.heap.size + 1, 9, none⟩ = some (.bool x1.filter.on) ∧ w'.cell? ⟨w.heap.size + 1, 10, none⟩ = some (.slice h1.f.A h1.f.n h1.f.c)) (first | exact hS0 | assumption)
    ((first
      | (go_at_call 14; refine (laws_toCommand _ _ _ (by first | exact HI0.out.below hb7' | exact HI1.out.below hb7') (by first | exact HF0.out | exact HF1.out)).mono ?_; rintro e w8 ⟨⟨h8, rfl, o8⟩, hb8⟩
         have hb8' := hb7'.trans (hb8.mono hb7'.size)
         have hS8 : w8.cell? ⟨w.heap.size, 0, none⟩ = some (.string x0.tag) ∧ w8.cell? ⟨w.heap.size, 1, none⟩ = some (.int .i64 x0.kind) ∧ w8.cell? ⟨w.heap.size, 2, none⟩ = some (.string x0.box) ∧ w8.cell? ⟨w.heap.size, 3, none⟩ = some (.string x0.to) ∧ w8.cell? ⟨w.heap.size, 4, none⟩ = some (.bool x0.uid) ∧ w8.cell? ⟨w.heap.size, 5, none⟩ = some (.slice h0.s.A h0.s.n h0.s.c) ∧ w8.cell? ⟨w.heap.size, 6, none⟩ = some (.int .i64 x0.op) ∧ w8.cell? ⟨w.heap.size, 7, none⟩ = some (.int .i64 x0.flags) ∧ w8.cell? ⟨w.heap.size, 8, none⟩ = some (.string x0.text) ∧ w8.cell? ⟨w.heap.size, 9, none⟩ = some (.bool x0.filter.on) ∧ w8.cell? ⟨w.heap.size, 10, none⟩ = some (.slice h0.f.A h0.f.n h0.f.c) ∧ w8.cell? ⟨w.heap.size + 1, 0, none⟩ = some (.string x1.tag) ∧ w8.cell? ⟨w.heap.size + 1, 1, none⟩ = some (.int .i64 x1.kind) ∧ w8.cell? ⟨w.heap.size + 1, 2, none⟩ = some (.string x1.box) ∧ w8.cell? ⟨w.heap.size + 1, 3, none⟩ = some (.string x1.to) ∧ w8.cell? ⟨w.heap.size + 1, 4, none⟩ = some (.bool x1.uid) ∧ w8.cell? ⟨w.heap.size + 1, 5, none⟩ = some (.slice h1.s.A h1.s.n h1.s.c) ∧ w8.cell? ⟨w.heap.size + 1, 6, none⟩ = some (.int .i64 x1.op) ∧ w8.cell? ⟨w.heap.size + 1, 7, none⟩ = some (.int .i64 x1.flags) ∧ w8.cell? ⟨w.heap.size + 1, 8, none⟩ = some (.string x1.text) ∧ w8.cell? ⟨w.heap.size + 1, 9, none⟩ = some (.bool x1.filter.on) ∧ w8.cell? ⟨w.heap.size + 1, 10, none⟩ = some (.slice h1.f.A h1.f.n h1.f.c) := ⟨(HP0.out.below hb8').2 0 _ rfl, (HP0.out.below hb8').2 1 _ rfl, (HP0.out.below hb8').2 2 _ rfl, (HP0.out.below hb8').2 3 _ rfl, (HP0.out.below hb8').2 4 _ rfl, (HP0.out.below hb8').2 5 _ rfl, (HP0.out.below hb8').2 6 _ rfl, (HP0.out.below hb8').2 7 _ rfl, (HP0.out.below hb8').2 8 _ rfl, (HP0.out.below hb8').2 9 _ rfl, (HP0.out.below hb8').2 10 _ rfl, (HP1.out.below hb8').2 0 _ rfl, (HP1.out.below hb8').2 1 _ rfl, (HP1.out.below hb8').2 2 _ rfl, (HP1.out.below hb8').2 3 _ rfl, (HP1.out.below hb8').2 4 _ rfl, (HP1.out.below hb8').2 5 _ rfl, (HP1.out.below hb8').2 6 _ rfl, (HP1.out.below hb8').2 7 _ rfl, (HP1.out.below hb8').2 8 _ rfl, (HP1.out.below hb8').2 9 _ rfl, (HP1.out.below hb8').2 10 _ rfl⟩)
      | (go_at_call 14; refine (laws_toCommand _ _ _ (by first | exact HI0.out.below (by go_grown) | exact HI1.out.below (by go_grown)) (by first | exact HF0.out | exact HF1.out)).mono ?_; rintro e w7 ⟨⟨h7, rfl, o7⟩, hb7⟩
         have hb7' : Below u1.heap.size u1 w7 := (Below.refl _ u1).drew.trans hb7
         have hS7 : w7.cell? ⟨w.heap.size, 0, none⟩ = some (.string x0.tag) ∧ w7.cell? ⟨w.heap.size, 1, none⟩ = some (.int .i64 x0.kind) ∧ w7.cell? ⟨w.heap.size, 2, none⟩ = some (.string x0.box) ∧ w7.cell? ⟨w.heap.size, 3, none⟩ = some (.string x0.to) ∧ w7.cell? ⟨w.heap.size, 4, none⟩ = some (.bool x0.uid) ∧ w7.cell? ⟨w.heap.size, 5, none⟩ = some (.slice h0.s.A h0.s.n h0.s.c) ∧ w7.cell? ⟨w.heap.size, 6, none⟩ = some (.int .i64 x0.op) ∧ w7.cell? ⟨w.heap.size, 7, none⟩ = some (.int .i64 x0.flags) ∧ w7.cell? ⟨w.heap.size, 8, none⟩ = some (.string x0.text) ∧ w7.cell? ⟨w.heap.size, 9, none⟩ = some (.bool x0.filter.on) ∧ w7.cell? ⟨w.heap.size, 10, none⟩ = some (.slice h0.f.A h0.f.n h0.f.c) ∧ w7.cell? ⟨w.heap.size + 1, 0, none⟩ = some (.string x1.tag) ∧ w7.cell? ⟨w.heap.size + 1, 1, none⟩ = some (.int .i64 x1.kind) ∧ w7.cell? ⟨w.heap.size + 1, 2, none⟩ = some (.string x1.box) ∧ w7.cell? ⟨w.heap.size + 1, 3, none⟩ = some (.string x1.to) ∧ w7.cell? ⟨w.heap.size + 1, 4, none⟩ = some (.bool x1.uid) ∧ w7.cell? ⟨w.heap.size + 1, 5, none⟩ = some (.slice h1.s.A h1.s.n h1.s.c) ∧ w7.cell? ⟨w.heap.size + 1, 6, none⟩ = some (.int .i64 x1.op) ∧ w7.cell? ⟨w.heap.size + 1, 7, none⟩ = some (.int .i64 x1.flags) ∧ w7.cell? ⟨w.heap.size + 1, 8, none⟩ = some (.string x1.text) ∧ w7.cell? ⟨w.heap.size + 1, 9, none⟩ = some (.bool x1.filter.on) ∧ w7.cell? ⟨w.heap.size + 1, 10, none⟩ = some (.slice h1.f.A h1.f.n h1.f.c) := ⟨(HP0.out.below hb7').2 0 _ rfl, (HP0.out.below hb7').2 1 _ rfl, (HP0.out.below hb7').2 2 _ rfl, (HP0.out.below hb7').2 3 _ rfl, (HP0.out.below hb7').2 4 _ rfl, (HP0.out.below hb7').2 5 _ rfl, (HP0.out.below hb7').2 6 _ rfl, (HP0.out.below hb7').2 7 _ rfl, (HP0.out.below hb7').2 8 _ rfl, (HP0.out.below hb7').2 9 _ rfl, (HP0.out.below hb7').2 10 _ rfl, (HP1.out.below hb7').2 0 _ rfl, (HP1.out.below hb7').2 1 _ rfl, (HP1.out.below hb7').2 2 _ rfl, (HP1.out.below hb7').2 3 _ rfl, (HP1.out.below hb7').2 4 _ rfl, (HP1.out.below hb7').2 5 _ rfl, (HP1.out.below hb7').2 6 _ rfl, (HP1.out.below hb7').2 7 _ rfl, (HP1.out.below hb7').2 8 _ rfl, (HP1.out.below hb7').2 9 _ rfl, (HP1.out.below hb7').2 10 _ rfl⟩)
      | (go_at_call 26; refine (spec_SameCommand _ _ _ _ _ (by first | exact o7.is.below hb8 | exact o8.is) (by first | exact o7.is.below hb8 | exact o8.is) HF0.out HF1.out).mono ?_; rintro e w9 ⟨rfl, hb9⟩; rw [HR.out]
         have hb9' := hb8'.trans (hb9.mono hb8'.size)
         have hS9 : w9.cell? ⟨w.heap.size, 0, none⟩ = some (.string x0.tag) ∧ w9.cell? ⟨w.heap.size, 1, none⟩ = some (.int .i64 x0.kind) ∧ w9.cell? ⟨w.heap.size, 2, none⟩ = some (.string x0.box) ∧ w9.cell? ⟨w.heap.size, 3, none⟩ = some (.string x0.to) ∧ w9.cell? ⟨w.heap.size, 4, none⟩ = some (.bool x0.uid) ∧ w9.cell? ⟨w.heap.size, 5, none⟩ = some (.slice h0.s.A h0.s.n h0.s.c) ∧ w9.cell? ⟨w.heap.size, 6, none⟩ = some (.int .i64 x0.op) ∧ w9.cell? ⟨w.heap.size, 7, none⟩ = some (.int .i64 x0.flags) ∧ w9.cell? ⟨w.heap.size, 8, none⟩ = some (.string x0.text) ∧ w9.cell? ⟨w.heap.size, 9, none⟩ = some (.bool x0.filter.on) ∧ w9.cell? ⟨w.heap.size, 10, none⟩ = some (.slice h0.f.A h0.f.n h0.f.c) ∧ w9.cell? ⟨w.heap.size + 1, 0, none⟩ = some (.string x1.tag) ∧ w9.cell? ⟨w.heap.size + 1, 1, none⟩ = some (.int .i64 x1.kind) ∧ w9.cell? ⟨w.heap.size + 1, 2, none⟩ = some (.string x1.box) ∧ w9.cell? ⟨w.heap.size + 1, 3, none⟩ = some (.string x1.to) ∧ w9.cell? ⟨w.heap.size + 1, 4, none⟩ = some (.bool x1.uid) ∧ w9.cell? ⟨w.heap.size + 1, 5, none⟩ = some (.slice h1.s.A h1.s.n h1.s.c) ∧ w9.cell? ⟨w.heap.size + 1, 6, none⟩ = some (.int .i64 x1.op) ∧ w9.cell? ⟨w.heap.size + 1, 7, none⟩ = some (.int .i64 x1.flags) ∧ w9.cell? ⟨w.heap.size + 1, 8, none⟩ = some (.string x1.text) ∧ w9.cell? ⟨w.heap.size + 1, 9, none⟩ = some (.bool x1.filter.on) ∧ w9.cell? ⟨w.heap.size + 1, 10, none⟩ = some (.slice h1.f.A h1.f.n h1.f.c) := ⟨(HP0.out.below hb9').2 0 _ rfl, (HP0.out.below hb9').2 1 _ rfl, (HP0.out.below hb9').2 2 _ rfl, (HP0.out.below hb9').2 3 _ rfl, (HP0.out.below hb9').2 4 _ rfl, (HP0.out.below hb9').2 5 _ rfl, (HP0.out.below hb9').2 6 _ rfl, (HP0.out.below hb9').2 7 _ rfl, (HP0.out.below hb9').2 8 _ rfl, (HP0.out.below hb9').2 9 _ rfl, (HP0.out.below hb9').2 10 _ rfl, (HP1.out.below hb9').2 0 _ rfl, (HP1.out.below hb9').2 1 _ rfl, (HP1.out.below hb9').2 2 _ rfl, (HP1.out.below hb9').2 3 _ rfl, (HP1.out.below hb9').2 4 _ rfl, (HP1.out.below hb9').2 5 _ rfl, (HP1.out.below hb9').2 6 _ rfl, (HP1.out.below hb9').2 7 _ rfl, (HP1.out.below hb9').2 8 _ rfl, (HP1.out.below hb9').2 9 _ rfl, (HP1.out.below hb9').2 10 _ rfl⟩)))
  all_goals
    clear hb7 hb8 hb9 hb7' hb8' hS0 hS7 hS8 hS9 o7 o8
    clear p0_0 p0_1 p0_2 p0_3 p0_4 p0_5 p0_6 p0_7 p0_8 p0_9 p0_10 p1_0 p1_1 p1_2 p1_3 p1_4 p1_5 p1_6 p1_7 p1_8 p1_9 p1_10
    have nP0 := HP0.out.below hb9'
    have nP1 := HP1.out.below hb9'
    have nI0 := HI0.out.below hb9'
    have nI1 := HI1.out.below hb9'
    have nB := HB.out.trans (hb9'.mono HB.out.size)
    clear HB HP0 HP1 HI0 HI1
    clear hb9'
    have HP0 := Lib.hid nP0
    have HP1 := Lib.hid nP1
    have HI0 := Lib.hid nI0
    have HI1 := Lib.hid nI1
    have HB := Lib.hid nB
    clear nB nP0 nP1 nI0 nI1
    have p0_0 := HP0.out.2 0 (.string x0.tag) rfl
    have p0_1 := HP0.out.2 1 (.int .i64 x0.kind) rfl
    have p0_2 := HP0.out.2 2 (.string x0.box) rfl
    have p0_3 := HP0.out.2 3 (.string x0.to) rfl
    have p0_4 := HP0.out.2 4 (.bool x0.uid) rfl
    have p0_5 := HP0.out.2 5 (.slice h0.s.A h0.s.n h0.s.c) rfl
    have p0_6 := HP0.out.2 6 (.int .i64 x0.op) rfl
    have p0_7 := HP0.out.2 7 (.int .i64 x0.flags) rfl
    have p0_8 := HP0.out.2 8 (.string x0.text) rfl
    have p0_9 := HP0.out.2 9 (.bool x0.filter.on) rfl
    have p0_10 := HP0.out.2 10 (.slice h0.f.A h0.f.n h0.f.c) rfl
    go_wp2_with fail
    refine (laws_toCommand x0 h0 _ HI0.out HF0.out).mono ?_
    rintro e a0 ⟨⟨hx0, rfl, ox⟩, hb⟩
    clear p0_0 p0_1 p0_2 p0_3 p0_4 p0_5 p0_6 p0_7 p0_8 p0_9 p0_10
    have nP0 := HP0.out.below hb
    have nP1 := HP1.out.below hb
    have nI0 := HI0.out.below hb
    have nI1 := HI1.out.below hb
    have nB := HB.out.trans (hb.mono HB.out.size)
    clear HB HP0 HP1 HI0 HI1
    clear hb
    have nO0 := ox.is
    clear ox
    have HP0 := Lib.hid nP0
    have HP1 := Lib.hid nP1
    have HI0 := Lib.hid nI0
    have HI1 := Lib.hid nI1
    have HO0 := Lib.hid nO0
    have HB := Lib.hid nB
    clear nB nP0 nP1 nI0 nI1 nO0
    have hA : Below a0.heap.size a0 (a0.alloc (.cells #[.string x0.tag, .int .i64 x0.kind, .string x0.box, .string x0.to, .bool x0.uid, .slice hx0.s.A hx0.s.n hx0.s.c, .int .i64 x0.op, .int .i64 x0.flags, .string x0.text, .bool x0.filter.on, .slice hx0.f.A hx0.f.n hx0.f.c] 35)) := by go_grown
    have nP0 := HP0.out.below hA
    have nP1 := HP1.out.below hA
    have nI0 := HI0.out.below hA
    have nI1 := HI1.out.below hA
    have nO0 := HO0.out.below hA
    have nB := HB.out.trans (hA.mono HB.out.size)
    clear HB HP0 HP1 HI0 HI1 HO0
    have nQ0 : Holds (a0.alloc (.cells #[.string x0.tag, .int .i64 x0.kind, .string x0.box, .string x0.to, .bool x0.uid, .slice hx0.s.A hx0.s.n hx0.s.c, .int .i64 x0.op, .int .i64 x0.flags, .string x0.text, .bool x0.filter.on, .slice hx0.f.A hx0.f.n hx0.f.c] 35)) a0.heap.size [.string x0.tag, .int .i64 x0.kind, .string x0.box, .string x0.to, .bool x0.uid, .slice hx0.s.A hx0.s.n hx0.s.c, .int .i64 x0.op, .int .i64 x0.flags, .string x0.text, .bool x0.filter.on, .slice hx0.f.A hx0.f.n hx0.f.c] := Holds.new a0 _ _
    clear hA
    have HP0 := Lib.hid nP0
    have HP1 := Lib.hid nP1
    have HI0 := Lib.hid nI0
    have HI1 := Lib.hid nI1
    have HO0 := Lib.hid nO0
    have HQ0 := Lib.hid nQ0
    have HB := Lib.hid nB
    clear nB nP0 nP1 nI0 nI1 nO0 nQ0
    have p1_0 := HP1.out.2 0 (.string x1.tag) rfl
    have p1_1 := HP1.out.2 1 (.int .i64 x1.kind) rfl
    have p1_2 := HP1.out.2 2 (.string x1.box) rfl
    have p1_3 := HP1.out.2 3 (.string x1.to) rfl
    have p1_4 := HP1.out.2 4 (.bool x1.uid) rfl
    have p1_5 := HP1.out.2 5 (.slice h1.s.A h1.s.n h1.s.c) rfl
    have p1_6 := HP1.out.2 6 (.int .i64 x1.op) rfl
    have p1_7 := HP1.out.2 7 (.int .i64 x1.flags) rfl
    have p1_8 := HP1.out.2 8 (.string x1.text) rfl
    have p1_9 := HP1.out.2 9 (.bool x1.filter.on) rfl
    have p1_10 := HP1.out.2 10 (.slice h1.f.A h1.f.n h1.f.c) rfl
    go_wp2_with fail
    clear p1_0 p1_1 p1_2 p1_3 p1_4 p1_5 p1_6 p1_7 p1_8 p1_9 p1_10
    generalize a0.alloc (.cells #[.string x0.tag, .int .i64 x0.kind, .string x0.box, .string x0.to, .bool x0.uid, .slice hx0.s.A hx0.s.n hx0.s.c, .int .i64 x0.op, .int .i64 x0.flags, .string x0.text, .bool x0.filter.on, .slice hx0.f.A hx0.f.n hx0.f.c] 35) = b0 at *
    generalize a0.heap.size = G0 at *
    have p1_0 := HP1.out.2 0 (.string x1.tag) rfl
    have p1_1 := HP1.out.2 1 (.int .i64 x1.kind) rfl
    have p1_2 := HP1.out.2 2 (.string x1.box) rfl
    have p1_3 := HP1.out.2 3 (.string x1.to) rfl
    have p1_4 := HP1.out.2 4 (.bool x1.uid) rfl
    have p1_5 := HP1.out.2 5 (.slice h1.s.A h1.s.n h1.s.c) rfl
    have p1_6 := HP1.out.2 6 (.int .i64 x1.op) rfl
    have p1_7 := HP1.out.2 7 (.int .i64 x1.flags) rfl
    have p1_8 := HP1.out.2 8 (.string x1.text) rfl
    have p1_9 := HP1.out.2 9 (.bool x1.filter.on) rfl
    have p1_10 := HP1.out.2 10 (.slice h1.f.A h1.f.n h1.f.c) rfl
    go_wp2_with fail
    refine (laws_toCommand x1 h1 _ HI1.out HF1.out).mono ?_
    rintro e a1 ⟨⟨hx1, rfl, ox⟩, hb⟩
    clear p1_0 p1_1 p1_2 p1_3 p1_4 p1_5 p1_6 p1_7 p1_8 p1_9 p1_10
    have nP0 := HP0.out.below hb
    have nP1 := HP1.out.below hb
    have nI0 := HI0.out.below hb
    have nI1 := HI1.out.below hb
    have nO0 := HO0.out.below hb
    have nQ0 := HQ0.out.below hb
    have nB := HB.out.trans (hb.mono HB.out.size)
    clear HB HP0 HP1 HI0 HI1 HO0 HQ0
    clear hb
    have nO1 := ox.is
    clear ox
    have HP0 := Lib.hid nP0
    have HP1 := Lib.hid nP1
    have HI0 := Lib.hid nI0
    have HI1 := Lib.hid nI1
    have HO0 := Lib.hid nO0
    have HQ0 := Lib.hid nQ0
    have HO1 := Lib.hid nO1
    have HB := Lib.hid nB
    clear nB nP0 nP1 nI0 nI1 nO0 nQ0 nO1
    have hA : Below a1.heap.size a1 (a1.alloc (.cells #[.string x1.tag, .int .i64 x1.kind, .string x1.box, .string x1.to, .bool x1.uid, .slice hx1.s.A hx1.s.n hx1.s.c, .int .i64 x1.op, .int .i64 x1.flags, .string x1.text, .bool x1.filter.on, .slice hx1.f.A hx1.f.n hx1.f.c] 35)) := by go_grown
    have nP0 := HP0.out.below hA
    have nP1 := HP1.out.below hA
    have nI0 := HI0.out.below hA
    have nI1 := HI1.out.below hA
    have nO0 := HO0.out.below hA
    have nQ0 := HQ0.out.below hA
    have nO1 := HO1.out.below hA
    have nB := HB.out.trans (hA.mono HB.out.size)
    clear HB HP0 HP1 HI0 HI1 HO0 HQ0 HO1
    have nQ1 : Holds (a1.alloc (.cells #[.string x1.tag, .int .i64 x1.kind, .string x1.box, .string x1.to, .bool x1.uid, .slice hx1.s.A hx1.s.n hx1.s.c, .int .i64 x1.op, .int .i64 x1.flags, .string x1.text, .bool x1.filter.on, .slice hx1.f.A hx1.f.n hx1.f.c] 35)) a1.heap.size [.string x1.tag, .int .i64 x1.kind, .string x1.box, .string x1.to, .bool x1.uid, .slice hx1.s.A hx1.s.n hx1.s.c, .int .i64 x1.op, .int .i64 x1.flags, .string x1.text, .bool x1.filter.on, .slice hx1.f.A hx1.f.n hx1.f.c] := Holds.new a1 _ _
    clear hA
    have HP0 := Lib.hid nP0
    have HP1 := Lib.hid nP1
    have HI0 := Lib.hid nI0
    have HI1 := Lib.hid nI1
    have HO0 := Lib.hid nO0
    have HQ0 := Lib.hid nQ0
    have HO1 := Lib.hid nO1
    have HQ1 := Lib.hid nQ1
    have HB := Lib.hid nB
    clear nB nP0 nP1 nI0 nI1 nO0 nQ0 nO1 nQ1
    have q0_0 := HQ0.out.2 0 (.string x0.tag) rfl
    have q0_1 := HQ0.out.2 1 (.int .i64 x0.kind) rfl
    have q0_2 := HQ0.out.2 2 (.string x0.box) rfl
    have q0_3 := HQ0.out.2 3 (.string x0.to) rfl
    have q0_4 := HQ0.out.2 4 (.bool x0.uid) rfl
    have q0_5 := HQ0.out.2 5 (.slice hx0.s.A hx0.s.n hx0.s.c) rfl
    have q0_6 := HQ0.out.2 6 (.int .i64 x0.op) rfl
    have q0_7 := HQ0.out.2 7 (.int .i64 x0.flags) rfl
    have q0_8 := HQ0.out.2 8 (.string x0.text) rfl
    have q0_9 := HQ0.out.2 9 (.bool x0.filter.on) rfl
    have q0_10 := HQ0.out.2 10 (.slice hx0.f.A hx0.f.n hx0.f.c) rfl
    have q1_0 := HQ1.out.2 0 (.string x1.tag) rfl
    have q1_1 := HQ1.out.2 1 (.int .i64 x1.kind) rfl
    have q1_2 := HQ1.out.2 2 (.string x1.box) rfl
    have q1_3 := HQ1.out.2 3 (.string x1.to) rfl
    have q1_4 := HQ1.out.2 4 (.bool x1.uid) rfl
    have q1_5 := HQ1.out.2 5 (.slice hx1.s.A hx1.s.n hx1.s.c) rfl
    have q1_6 := HQ1.out.2 6 (.int .i64 x1.op) rfl
    have q1_7 := HQ1.out.2 7 (.int .i64 x1.flags) rfl
    have q1_8 := HQ1.out.2 8 (.string x1.text) rfl
    have q1_9 := HQ1.out.2 9 (.bool x1.filter.on) rfl
    have q1_10 := HQ1.out.2 10 (.slice hx1.f.A hx1.f.n hx1.f.c) rfl
    go_wp2_with fail
    clear q0_0 q0_1 q0_2 q0_3 q0_4 q0_5 q0_6 q0_7 q0_8 q0_9 q0_10 q1_0 q1_1 q1_2 q1_3 q1_4 q1_5 q1_6 q1_7 q1_8 q1_9 q1_10
    generalize a1.alloc (.cells #[.string x1.tag, .int .i64 x1.kind, .string x1.box, .string x1.to, .bool x1.uid, .slice hx1.s.A hx1.s.n hx1.s.c, .int .i64 x1.op, .int .i64 x1.flags, .string x1.text, .bool x1.filter.on, .slice hx1.f.A hx1.f.n hx1.f.c] 35) = b1 at *
    generalize a1.heap.size = G1 at *
    refine (impl_SameCommand x0 x1 hx0 hx1 b1 HO0.out HO1.out HF0.out HF1.out).mono ?_
    rintro e c1 ⟨rfl, hb⟩
    rw [HR.out]
    have hb : Below b1.heap.size b1 c1 := hb
    have nP0 := HP0.out.below hb
    have nP1 := HP1.out.below hb
    have nI0 := HI0.out.below hb
    have nI1 := HI1.out.below hb
    have nO0 := HO0.out.below hb
    have nQ0 := HQ0.out.below hb
    have nO1 := HO1.out.below hb
    have nQ1 := HQ1.out.below hb
    have nB := HB.out.trans (hb.mono HB.out.size)
    clear HB HP0 HP1 HI0 HI1 HO0 HQ0 HO1 HQ1
    clear hb
    have HP0 := Lib.hid nP0
    have HP1 := Lib.hid nP1
    have HI0 := Lib.hid nI0
    have HI1 := Lib.hid nI1
    have HO0 := Lib.hid nO0
    have HQ0 := Lib.hid nQ0
    have HO1 := Lib.hid nO1
    have HQ1 := Lib.hid nQ1
    have HB := Lib.hid nB
    clear nB nP0 nP1 nI0 nI1 nO0 nQ0 nO1 nQ1
    have p0_0 := HP0.out.2 0 (.string x0.tag) rfl
    have p0_1 := HP0.out.2 1 (.int .i64 x0.kind) rfl
    have p0_2 := HP0.out.2 2 (.string x0.box) rfl
    have p0_3 := HP0.out.2 3 (.string x0.to) rfl
    have p0_4 := HP0.out.2 4 (.bool x0.uid) rfl
    have p0_5 := HP0.out.2 5 (.slice h0.s.A h0.s.n h0.s.c) rfl
    have p0_6 := HP0.out.2 6 (.int .i64 x0.op) rfl
    have p0_7 := HP0.out.2 7 (.int .i64 x0.flags) rfl
    have p0_8 := HP0.out.2 8 (.string x0.text) rfl
    have p0_9 := HP0.out.2 9 (.bool x0.filter.on) rfl
    have p0_10 := HP0.out.2 10 (.slice h0.f.A h0.f.n h0.f.c) rfl
    have q0_0 := HQ0.out.2 0 (.string x0.tag) rfl
    have q0_1 := HQ0.out.2 1 (.int .i64 x0.kind) rfl
    have q0_2 := HQ0.out.2 2 (.string x0.box) rfl
    have q0_3 := HQ0.out.2 3 (.string x0.to) rfl
    have q0_4 := HQ0.out.2 4 (.bool x0.uid) rfl
    have q0_5 := HQ0.out.2 5 (.slice hx0.s.A hx0.s.n hx0.s.c) rfl
    have q0_6 := HQ0.out.2 6 (.int .i64 x0.op) rfl
    have q0_7 := HQ0.out.2 7 (.int .i64 x0.flags) rfl
    have q0_8 := HQ0.out.2 8 (.string x0.text) rfl
    have q0_9 := HQ0.out.2 9 (.bool x0.filter.on) rfl
    have q0_10 := HQ0.out.2 10 (.slice hx0.f.A hx0.f.n hx0.f.c) rfl
    have hS : c1.cell? ⟨w.heap.size, 0, none⟩ = some (.string x0.tag) ∧ c1.cell? ⟨w.heap.size, 1, none⟩ = some (.int .i64 x0.kind) ∧ c1.cell? ⟨w.heap.size, 2, none⟩ = some (.string x0.box) ∧ c1.cell? ⟨w.heap.size, 3, none⟩ = some (.string x0.to) ∧ c1.cell? ⟨w.heap.size, 4, none⟩ = some (.bool x0.uid) ∧ c1.cell? ⟨w.heap.size, 5, none⟩ = some (.slice h0.s.A h0.s.n h0.s.c) ∧ c1.cell? ⟨w.heap.size, 6, none⟩ = some (.int .i64 x0.op) ∧ c1.cell? ⟨w.heap.size, 7, none⟩ = some (.int .i64 x0.flags) ∧ c1.cell? ⟨w.heap.size, 8, none⟩ = some (.string x0.text) ∧ c1.cell? ⟨w.heap.size, 9, none⟩ = some (.bool x0.filter.on) ∧ c1.cell? ⟨w.heap.size, 10, none⟩ = some (.slice h0.f.A h0.f.n h0.f.c) ∧ c1.cell? ⟨G0, 0, none⟩ = some (.string x0.tag) ∧ c1.cell? ⟨G0, 1, none⟩ = some (.int .i64 x0.kind) ∧ c1.cell? ⟨G0, 2, none⟩ = some (.string x0.box) ∧ c1.cell? ⟨G0, 3, none⟩ = some (.string x0.to) ∧ c1.cell? ⟨G0, 4, none⟩ = some (.bool x0.uid) ∧ c1.cell? ⟨G0, 5, none⟩ = some (.slice hx0.s.A hx0.s.n hx0.s.c) ∧ c1.cell? ⟨G0, 6, none⟩ = some (.int .i64 x0.op) ∧ c1.cell? ⟨G0, 7, none⟩ = some (.int .i64 x0.flags) ∧ c1.cell? ⟨G0, 8, none⟩ = some (.string x0.text) ∧ c1.cell? ⟨G0, 9, none⟩ = some (.bool x0.filter.on) ∧ c1.cell? ⟨G0, 10, none⟩ = some (.slice hx0.f.A hx0.f.n hx0.f.c) := ⟨p0_0, p0_1, p0_2, p0_3, p0_4, p0_5, p0_6, p0_7, p0_8, p0_9, p0_10, q0_0, q0_1, q0_2, q0_3, q0_4, q0_5, q0_6, q0_7, q0_8, q0_9, q0_10⟩
    go_wp2
    go_region_held3 (fun w' => w'.cell? ⟨w.heap.size, 0, none⟩ = some (.string x0.tag) ∧ w'.cell? ⟨w.heap.size, 1, none⟩ = some (.int .i64 x0.kind) ∧ w'.cell? ⟨w.heap.size, 2, none⟩ = some (.string x0.box) ∧ w'.cell? ⟨w.heap.size, 3, none⟩ = some (.string x0.to) ∧ w'.cell? ⟨w.heap.size, 4, none⟩ = some (.bool x0.uid) ∧ w'.cell? ⟨w.heap.size, 5, none⟩ = some (.slice h0.s.A h0.s.n h0.s.c) ∧ w'.cell? ⟨w.heap.size, 6, none⟩ = some (.int .i64 x0.op) ∧ w'.cell? ⟨w.heap.size, 7, none⟩ = some (.int .i64 x0.flags) ∧ w'.cell? ⟨w.heap.size, 8, none⟩ = some (.string x0.text) ∧ w'.cell? ⟨w.heap.size, 9, none⟩ = some (.bool x0.filter.on) ∧ w'.cell? ⟨w.heap.size, 10, none⟩ = some (.slice h0.f.A h0.f.n h0.f.c) ∧ w'.cell? ⟨G0, 0, none⟩ = some (.string x0.tag) ∧ w'.cell? ⟨G0, 1, none⟩ = some (.int .i64 x0.kind) ∧ w'.cell? ⟨G0, 2, none⟩ = some (.string x0.box) ∧ w'.cell? ⟨G0, 3, none⟩ = some (.string x0.to) ∧ w'.cell? ⟨G0, 4, none⟩ = some (.bool x0.uid) ∧ w'.cell? ⟨G0, 5, none⟩ = some (.slice hx0.s.A hx0.s.n hx0.s.c) ∧ w'.cell? ⟨G0, 6, none⟩ = some (.int .i64 x0.op) ∧ w'.cell? ⟨G0, 7, none⟩ = some (.int .i64 x0.flags) ∧ w'.cell? ⟨G0, 8, none⟩ = some (.string x0.text) ∧ w'.cell? ⟨G0, 9, none⟩ = some (.bool x0.filter.on) ∧ w'.cell? ⟨G0, 10, none⟩ = some (.slice hx0.f.A hx0.f.n hx0.f.c)) (first | exact hS | assumption)
      ((first
        | (go_at_call 14; refine (laws_toCommand x0 h0 _ (HI0.out.below (by go_grown)) HF0.out).mono ?_; rintro e w7 ⟨⟨h7, rfl, o7⟩, hb7⟩
           have hb7' : Below c1.heap.size c1 w7 := (Below.refl _ c1).drew.trans hb7
           have hS7 : w7.cell? ⟨w.heap.size, 0, none⟩ = some (.string x0.tag) ∧ w7.cell? ⟨w.heap.size, 1, none⟩ = some (.int .i64 x0.kind) ∧ w7.cell? ⟨w.heap.size, 2, none⟩ = some (.string x0.box) ∧ w7.cell? ⟨w.heap.size, 3, none⟩ = some (.string x0.to) ∧ w7.cell? ⟨w.heap.size, 4, none⟩ = some (.bool x0.uid) ∧ w7.cell? ⟨w.heap.size, 5, none⟩ = some (.slice h0.s.A h0.s.n h0.s.c) ∧ w7.cell? ⟨w.heap.size, 6, none⟩ = some (.int .i64 x0.op) ∧ w7.cell? ⟨w.heap.size, 7, none⟩ = some (.int .i64 x0.flags) ∧ w7.cell? ⟨w.heap.size, 8, none⟩ = some (.string x0.text) ∧ w7.cell? ⟨w.heap.size, 9, none⟩ = some (.bool x0.filter.on) ∧ w7.cell? ⟨w.heap.size, 10, none⟩ = some (.slice h0.f.A h0.f.n h0.f.c) ∧ w7.cell? ⟨G0, 0, none⟩ = some (.string x0.tag) ∧ w7.cell? ⟨G0, 1, none⟩ = some (.int .i64 x0.kind) ∧ w7.cell? ⟨G0, 2, none⟩ = some (.string x0.box) ∧ w7.cell? ⟨G0, 3, none⟩ = some (.string x0.to) ∧ w7.cell? ⟨G0, 4, none⟩ = some (.bool x0.uid) ∧ w7.cell? ⟨G0, 5, none⟩ = some (.slice hx0.s.A hx0.s.n hx0.s.c) ∧ w7.cell? ⟨G0, 6, none⟩ = some (.int .i64 x0.op) ∧ w7.cell? ⟨G0, 7, none⟩ = some (.int .i64 x0.flags) ∧ w7.cell? ⟨G0, 8, none⟩ = some (.string x0.text) ∧ w7.cell? ⟨G0, 9, none⟩ = some (.bool x0.filter.on) ∧ w7.cell? ⟨G0, 10, none⟩ = some (.slice hx0.f.A hx0.f.n hx0.f.c) := ⟨(HP0.out.below hb7').2 0 _ rfl, (HP0.out.below hb7').2 1 _ rfl, (HP0.out.below hb7').2 2 _ rfl, (HP0.out.below hb7').2 3 _ rfl, (HP0.out.below hb7').2 4 _ rfl, (HP0.out.below hb7').2 5 _ rfl, (HP0.out.below hb7').2 6 _ rfl, (HP0.out.below hb7').2 7 _ rfl, (HP0.out.below hb7').2 8 _ rfl, (HP0.out.below hb7').2 9 _ rfl, (HP0.out.below hb7').2 10 _ rfl, (HQ0.out.below hb7').2 0 _ rfl, (HQ0.out.below hb7').2 1 _ rfl, (HQ0.out.below hb7').2 2 _ rfl, (HQ0.out.below hb7').2 3 _ rfl, (HQ0.out.below hb7').2 4 _ rfl, (HQ0.out.below hb7').2 5 _ rfl, (HQ0.out.below hb7').2 6 _ rfl, (HQ0.out.below hb7').2 7 _ rfl, (HQ0.out.below hb7').2 8 _ rfl, (HQ0.out.below hb7').2 9 _ rfl, (HQ0.out.below hb7').2 10 _ rfl⟩)
        | (go_at_call 16; refine (laws_eqCommand x0 hx0 h7 _ (HO0.out.below hb7') o7.is HF0.out).mono ?_; rintro e w8 ⟨rfl, hb8⟩
           have hb8' := hb7'.trans (hb8.mono hb7'.size)
           have hS8 : w8.cell? ⟨w.heap.size, 0, none⟩ = some (.string x0.tag) ∧ w8.cell? ⟨w.heap.size, 1, none⟩ = some (.int .i64 x0.kind) ∧ w8.cell? ⟨w.heap.size, 2, none⟩ = some (.string x0.box) ∧ w8.cell? ⟨w.heap.size, 3, none⟩ = some (.string x0.to) ∧ w8.cell? ⟨w.heap.size, 4, none⟩ = some (.bool x0.uid) ∧ w8.cell? ⟨w.heap.size, 5, none⟩ = some (.slice h0.s.A h0.s.n h0.s.c) ∧ w8.cell? ⟨w.heap.size, 6, none⟩ = some (.int .i64 x0.op) ∧ w8.cell? ⟨w.heap.size, 7, none⟩ = some (.int .i64 x0.flags) ∧ w8.cell? ⟨w.heap.size, 8, none⟩ = some (.string x0.text) ∧ w8.cell? ⟨w.heap.size, 9, none⟩ = some (.bool x0.filter.on) ∧ w8.cell? ⟨w.heap.size, 10, none⟩ = some (.slice h0.f.A h0.f.n h0.f.c) ∧ w8.cell? ⟨G0, 0, none⟩ = some (.string x0.tag) ∧ w8.cell? ⟨G0, 1, none⟩ = some (.int .i64 x0.kind) ∧ w8.cell? ⟨G0, 2, none⟩ = some (.string x0.box) ∧ w8.cell? ⟨G0, 3, none⟩ = some (.string x0.to) ∧ w8.cell? ⟨G0, 4, none⟩ = some (.bool x0.uid) ∧ w8.cell? ⟨G0, 5, none⟩ = some (.slice hx0.s.A hx0.s.n hx0.s.c) ∧ w8.cell? ⟨G0, 6, none⟩ = some (.int .i64 x0.op) ∧ w8.cell? ⟨G0, 7, none⟩ = some (.int .i64 x0.flags) ∧ w8.cell? ⟨G0, 8, none⟩ = some (.string x0.text) ∧ w8.cell? ⟨G0, 9, none⟩ = some (.bool x0.filter.on) ∧ w8.cell? ⟨G0, 10, none⟩ = some (.slice hx0.f.A hx0.f.n hx0.f.c) := ⟨(HP0.out.below hb8').2 0 _ rfl, (HP0.out.below hb8').2 1 _ rfl, (HP0.out.below hb8').2 2 _ rfl, (HP0.out.below hb8').2 3 _ rfl, (HP0.out.below hb8').2 4 _ rfl, (HP0.out.below hb8').2 5 _ rfl, (HP0.out.below hb8').2 6 _ rfl, (HP0.out.below hb8').2 7 _ rfl, (HP0.out.below hb8').2 8 _ rfl, (HP0.out.below hb8').2 9 _ rfl, (HP0.out.below hb8').2 10 _ rfl, (HQ0.out.below hb8').2 0 _ rfl, (HQ0.out.below hb8').2 1 _ rfl, (HQ0.out.below hb8').2 2 _ rfl, (HQ0.out.below hb8').2 3 _ rfl, (HQ0.out.below hb8').2 4 _ rfl, (HQ0.out.below hb8').2 5 _ rfl, (HQ0.out.below hb8').2 6 _ rfl, (HQ0.out.below hb8').2 7 _ rfl, (HQ0.out.below hb8').2 8 _ rfl, (HQ0.out.below hb8').2 9 _ rfl, (HQ0.out.below hb8').2 10 _ rfl⟩)))
    clear hb7 hb8 hb7' hS hS7 hS8 o7
    clear p0_0 p0_1 p0_2 p0_3 p0_4 p0_5 p0_6 p0_7 p0_8 p0_9 p0_10 q0_0 q0_1 q0_2 q0_3 q0_4 q0_5 q0_6 q0_7 q0_8 q0_9 q0_10
    have nP0 := HP0.out.below hb8'
    have nP1 := HP1.out.below hb8'
    have nI0 := HI0.out.below hb8'
    have nI1 := HI1.out.below hb8'
    have nO0 := HO0.out.below hb8'
    have nQ0 := HQ0.out.below hb8'
    have nO1 := HO1.out.below hb8'
    have nQ1 := HQ1.out.below hb8'
    have nB := HB.out.trans (hb8'.mono HB.out.size)
    clear HB HP0 HP1 HI0 HI1 HO0 HQ0 HO1 HQ1
    clear hb8'
    have HP0 := Lib.hid nP0
    have HP1 := Lib.hid nP1
    have HI0 := Lib.hid nI0
    have HI1 := Lib.hid nI1
    have HO0 := Lib.hid nO0
    have HQ0 := Lib.hid nQ0
    have HO1 := Lib.hid nO1
    have HQ1 := Lib.hid nQ1
    have HB := Lib.hid nB
    clear nB nP0 nP1 nI0 nI1 nO0 nQ0 nO1 nQ1
    generalize w8 = e0 at *
    have p1_0 := HP1.out.2 0 (.string x1.tag) rfl
    have p1_1 := HP1.out.2 1 (.int .i64 x1.kind) rfl
    have p1_2 := HP1.out.2 2 (.string x1.box) rfl
    have p1_3 := HP1.out.2 3 (.string x1.to) rfl
    have p1_4 := HP1.out.2 4 (.bool x1.uid) rfl
    have p1_5 := HP1.out.2 5 (.slice h1.s.A h1.s.n h1.s.c) rfl
    have p1_6 := HP1.out.2 6 (.int .i64 x1.op) rfl
    have p1_7 := HP1.out.2 7 (.int .i64 x1.flags) rfl
    have p1_8 := HP1.out.2 8 (.string x1.text) rfl
    have p1_9 := HP1.out.2 9 (.bool x1.filter.on) rfl
    have p1_10 := HP1.out.2 10 (.slice h1.f.A h1.f.n h1.f.c) rfl
    have q1_0 := HQ1.out.2 0 (.string x1.tag) rfl
    have q1_1 := HQ1.out.2 1 (.int .i64 x1.kind) rfl
    have q1_2 := HQ1.out.2 2 (.string x1.box) rfl
    have q1_3 := HQ1.out.2 3 (.string x1.to) rfl
    have q1_4 := HQ1.out.2 4 (.bool x1.uid) rfl
    have q1_5 := HQ1.out.2 5 (.slice hx1.s.A hx1.s.n hx1.s.c) rfl
    have q1_6 := HQ1.out.2 6 (.int .i64 x1.op) rfl
    have q1_7 := HQ1.out.2 7 (.int .i64 x1.flags) rfl
    have q1_8 := HQ1.out.2 8 (.string x1.text) rfl
    have q1_9 := HQ1.out.2 9 (.bool x1.filter.on) rfl
    have q1_10 := HQ1.out.2 10 (.slice hx1.f.A hx1.f.n hx1.f.c) rfl
    have hS : e0.cell? ⟨w.heap.size + 1, 0, none⟩ = some (.string x1.tag) ∧ e0.cell? ⟨w.heap.size + 1, 1, none⟩ = some (.int .i64 x1.kind) ∧ e0.cell? ⟨w.heap.size + 1, 2, none⟩ = some (.string x1.box) ∧ e0.cell? ⟨w.heap.size + 1, 3, none⟩ = some (.string x1.to) ∧ e0.cell? ⟨w.heap.size + 1, 4, none⟩ = some (.bool x1.uid) ∧ e0.cell? ⟨w.heap.size + 1, 5, none⟩ = some (.slice h1.s.A h1.s.n h1.s.c) ∧ e0.cell? ⟨w.heap.size + 1, 6, none⟩ = some (.int .i64 x1.op) ∧ e0.cell? ⟨w.heap.size + 1, 7, none⟩ = some (.int .i64 x1.flags) ∧ e0.cell? ⟨w.heap.size + 1, 8, none⟩ = some (.string x1.text) ∧ e0.cell? ⟨w.heap.size + 1, 9, none⟩ = some (.bool x1.filter.on) ∧ e0.cell? ⟨w.heap.size + 1, 10, none⟩ = some (.slice h1.f.A h1.f.n h1.f.c) ∧ e0.cell? ⟨G1, 0, none⟩ = some (.string x1.tag) ∧ e0.cell? ⟨G1, 1, none⟩ = some (.int .i64 x1.kind) ∧ e0.cell? ⟨G1, 2, none⟩ = some (.string x1.box) ∧ e0.cell? ⟨G1, 3, none⟩ = some (.string x1.to) ∧ e0.cell? ⟨G1, 4, none⟩ = some (.bool x1.uid) ∧ e0.cell? ⟨G1, 5, none⟩ = some (.slice hx1.s.A hx1.s.n hx1.s.c) ∧ e0.cell? ⟨G1, 6, none⟩ = some (.int .i64 x1.op) ∧ e0.cell? ⟨G1, 7, none⟩ = some (.int .i64 x1.flags) ∧ e0.cell? ⟨G1, 8, none⟩ = some (.string x1.text) ∧ e0.cell? ⟨G1, 9, none⟩ = some (.bool x1.filter.on) ∧ e0.cell? ⟨G1, 10, none⟩ = some (.slice hx1.f.A hx1.f.n hx1.f.c) := ⟨p1_0, p1_1, p1_2, p1_3, p1_4, p1_5, p1_6, p1_7, p1_8, p1_9, p1_10, q1_0, q1_1, q1_2, q1_3, q1_4, q1_5, q1_6, q1_7, q1_8, q1_9, q1_10⟩
    go_wp2
    go_region_held3 (fun w' => w'.cell? ⟨w.heap.size + 1, 0, none⟩ = some (.string x1.tag) ∧ w'.cell? ⟨w.heap.size + 1, 1, none⟩ = some (.int .i64 x1.kind) ∧ w'.cell? ⟨w.heap.size + 1, 2, none⟩ = some (.string x1.box) ∧ w'.cell? ⟨w.heap.size + 1, 3, none⟩ = some (.string x1.to) ∧ w'.cell? ⟨w.heap.size + 1, 4, none⟩ = some (.bool x1.uid) ∧ w'.cell? ⟨w.heap.size + 1, 5, none⟩ = some (.slice h1.s.A h1.s.n h1.s.c) ∧ w'.cell? ⟨w.heap.size + 1, 6, none⟩ = some (.int .i64 x1.op) ∧ w'.cell? ⟨w.heap.size + 1, 7, none⟩ = some (.int .i64 x1.flags) ∧ w'.cell? ⟨w.heap.size + 1, 8, none⟩ = some (.string x1.text) ∧ w'.cell? ⟨w.heap.size + 1, 9, none⟩ = some (.bool x1.filter.on) ∧ w'.cell? ⟨w.heap.size + 1, 10, none⟩ = some (.slice h1.f.A h1.f.n h1.f.c) ∧ w'.cell? ⟨G1, 0, none⟩ = some (.string x1.tag) ∧ w'.cell? ⟨G1, 1, none⟩ = some (.int .i64 x1.kind) ∧ w'.cell? ⟨G1, 2, none⟩ = some (.string x1.box) ∧ w'.cell? ⟨G1, 3, none⟩ = some (.string x1.to) ∧ w'.cell? ⟨G1, 4, none⟩ = some (.bool x1.uid) ∧ w'.cell? ⟨G1, 5, none⟩ = some (.slice hx1.s.A hx1.s.n hx1.s.c) ∧ w'.cell? ⟨G1, 6, none⟩ = some (.int .i64 x1.op) ∧ w'.cell? ⟨G1, 7, none⟩ = some (.int .i64 x1.flags) ∧ w'.cell? ⟨G1, 8, none⟩ = some (.string x1.text) ∧ w'.cell? ⟨G1, 9, none⟩ = some (.bool x1.filter.on) ∧ w'.cell? ⟨G1, 10, none⟩ = some (.slice hx1.f.A hx1.f.n hx1.f.c)) (first | exact hS | assumption)
      ((first
        | (go_at_call 14; refine (laws_toCommand x1 h1 _ (HI1.out.below (by go_grown)) HF1.out).mono ?_; rintro e w7 ⟨⟨h7, rfl, o7⟩, hb7⟩
           have hb7' : Below e0.heap.size e0 w7 := (Below.refl _ e0).drew.trans hb7
           have hS7 : w7.cell? ⟨w.heap.size + 1, 0, none⟩ = some (.string x1.tag) ∧ w7.cell? ⟨w.heap.size + 1, 1, none⟩ = some (.int .i64 x1.kind) ∧ w7.cell? ⟨w.heap.size + 1, 2, none⟩ = some (.string x1.box) ∧ w7.cell? ⟨w.heap.size + 1, 3, none⟩ = some (.string x1.to) ∧ w7.cell? ⟨w.heap.size + 1, 4, none⟩ = some (.bool x1.uid) ∧ w7.cell? ⟨w.heap.size + 1, 5, none⟩ = some (.slice h1.s.A h1.s.n h1.s.c) ∧ w7.cell? ⟨w.heap.size + 1, 6, none⟩ = some (.int .i64 x1.op) ∧ w7.cell? ⟨w.heap.size + 1, 7, none⟩ = some (.int .i64 x1.flags) ∧ w7.cell? ⟨w.heap.size + 1, 8, none⟩ = some (.string x1.text) ∧ w7.cell? ⟨w.heap.size + 1, 9, none⟩ = some (.bool x1.filter.on) ∧ w7.cell? ⟨w.heap.size + 1, 10, none⟩ = some (.slice h1.f.A h1.f.n h1.f.c) ∧ w7.cell? ⟨G1, 0, none⟩ = some (.string x1.tag) ∧ w7.cell? ⟨G1, 1, none⟩ = some (.int .i64 x1.kind) ∧ w7.cell? ⟨G1, 2, none⟩ = some (.string x1.box) ∧ w7.cell? ⟨G1, 3, none⟩ = some (.string x1.to) ∧ w7.cell? ⟨G1, 4, none⟩ = some (.bool x1.uid) ∧ w7.cell? ⟨G1, 5, none⟩ = some (.slice hx1.s.A hx1.s.n hx1.s.c) ∧ w7.cell? ⟨G1, 6, none⟩ = some (.int .i64 x1.op) ∧ w7.cell? ⟨G1, 7, none⟩ = some (.int .i64 x1.flags) ∧ w7.cell? ⟨G1, 8, none⟩ = some (.string x1.text) ∧ w7.cell? ⟨G1, 9, none⟩ = some (.bool x1.filter.on) ∧ w7.cell? ⟨G1, 10, none⟩ = some (.slice hx1.f.A hx1.f.n hx1.f.c) := ⟨(HP1.out.below hb7').2 0 _ rfl, (HP1.out.below hb7').2 1 _ rfl, (HP1.out.below hb7').2 2 _ rfl, (HP1.out.below hb7').2 3 _ rfl, (HP1.out.below hb7').2 4 _ rfl, (HP1.out.below hb7').2 5 _ rfl, (HP1.out.below hb7').2 6 _ rfl, (HP1.out.below hb7').2 7 _ rfl, (HP1.out.below hb7').2 8 _ rfl, (HP1.out.below hb7').2 9 _ rfl, (HP1.out.below hb7').2 10 _ rfl, (HQ1.out.below hb7').2 0 _ rfl, (HQ1.out.below hb7').2 1 _ rfl, (HQ1.out.below hb7').2 2 _ rfl, (HQ1.out.below hb7').2 3 _ rfl, (HQ1.out.below hb7').2 4 _ rfl, (HQ1.out.below hb7').2 5 _ rfl, (HQ1.out.below hb7').2 6 _ rfl, (HQ1.out.below hb7').2 7 _ rfl, (HQ1.out.below hb7').2 8 _ rfl, (HQ1.out.below hb7').2 9 _ rfl, (HQ1.out.below hb7').2 10 _ rfl⟩)
        | (go_at_call 16; refine (laws_eqCommand x1 hx1 h7 _ (HO1.out.below hb7') o7.is HF1.out).mono ?_; rintro e w8 ⟨rfl, hb8⟩
           have hb8' := hb7'.trans (hb8.mono hb7'.size)
           have hS8 : w8.cell? ⟨w.heap.size + 1, 0, none⟩ = some (.string x1.tag) ∧ w8.cell? ⟨w.heap.size + 1, 1, none⟩ = some (.int .i64 x1.kind) ∧ w8.cell? ⟨w.heap.size + 1, 2, none⟩ = some (.string x1.box) ∧ w8.cell? ⟨w.heap.size + 1, 3, none⟩ = some (.string x1.to) ∧ w8.cell? ⟨w.heap.size + 1, 4, none⟩ = some (.bool x1.uid) ∧ w8.cell? ⟨w.heap.size + 1, 5, none⟩ = some (.slice h1.s.A h1.s.n h1.s.c) ∧ w8.cell? ⟨w.heap.size + 1, 6, none⟩ = some (.int .i64 x1.op) ∧ w8.cell? ⟨w.heap.size + 1, 7, none⟩ = some (.int .i64 x1.flags) ∧ w8.cell? ⟨w.heap.size + 1, 8, none⟩ = some (.string x1.text) ∧ w8.cell? ⟨w.heap.size + 1, 9, none⟩ = some (.bool x1.filter.on) ∧ w8.cell? ⟨w.heap.size + 1, 10, none⟩ = some (.slice h1.f.A h1.f.n h1.f.c) ∧ w8.cell? ⟨G1, 0, none⟩ = some (.string x1.tag) ∧ w8.cell? ⟨G1, 1, none⟩ = some (.int .i64 x1.kind) ∧ w8.cell? ⟨G1, 2, none⟩ = some (.string x1.box) ∧ w8.cell? ⟨G1, 3, none⟩ = some (.string x1.to) ∧ w8.cell? ⟨G1, 4, none⟩ = some (.bool x1.uid) ∧ w8.cell? ⟨G1, 5, none⟩ = some (.slice hx1.s.A hx1.s.n hx1.s.c) ∧ w8.cell? ⟨G1, 6, none⟩ = some (.int .i64 x1.op) ∧ w8.cell? ⟨G1, 7, none⟩ = some (.int .i64 x1.flags) ∧ w8.cell? ⟨G1, 8, none⟩ = some (.string x1.text) ∧ w8.cell? ⟨G1, 9, none⟩ = some (.bool x1.filter.on) ∧ w8.cell? ⟨G1, 10, none⟩ = some (.slice hx1.f.A hx1.f.n hx1.f.c) := ⟨(HP1.out.below hb8').2 0 _ rfl, (HP1.out.below hb8').2 1 _ rfl, (HP1.out.below hb8').2 2 _ rfl, (HP1.out.below hb8').2 3 _ rfl, (HP1.out.below hb8').2 4 _ rfl, (HP1.out.below hb8').2 5 _ rfl, (HP1.out.below hb8').2 6 _ rfl, (HP1.out.below hb8').2 7 _ rfl, (HP1.out.below hb8').2 8 _ rfl, (HP1.out.below hb8').2 9 _ rfl, (HP1.out.below hb8').2 10 _ rfl, (HQ1.out.below hb8').2 0 _ rfl, (HQ1.out.below hb8').2 1 _ rfl, (HQ1.out.below hb8').2 2 _ rfl, (HQ1.out.below hb8').2 3 _ rfl, (HQ1.out.below hb8').2 4 _ rfl, (HQ1.out.below hb8').2 5 _ rfl, (HQ1.out.below hb8').2 6 _ rfl, (HQ1.out.below hb8').2 7 _ rfl, (HQ1.out.below hb8').2 8 _ rfl, (HQ1.out.below hb8').2 9 _ rfl, (HQ1.out.below hb8').2 10 _ rfl⟩)))
    clear hb7 hb8 hb7' hS hS7 hS8 o7
    clear p1_0 p1_1 p1_2 p1_3 p1_4 p1_5 p1_6 p1_7 p1_8 p1_9 p1_10 q1_0 q1_1 q1_2 q1_3 q1_4 q1_5 q1_6 q1_7 q1_8 q1_9 q1_10
    have nP0 := HP0.out.below hb8'
    have nP1 := HP1.out.below hb8'
    have nI0 := HI0.out.below hb8'
    have nI1 := HI1.out.below hb8'
    have nO0 := HO0.out.below hb8'
    have nQ0 := HQ0.out.below hb8'
    have nO1 := HO1.out.below hb8'
    have nQ1 := HQ1.out.below hb8'
    have nB := HB.out.trans (hb8'.mono HB.out.size)
    clear HB HP0 HP1 HI0 HI1 HO0 HQ0 HO1 HQ1
    clear hb8'
    have HP0 := Lib.hid nP0
    have HP1 := Lib.hid nP1
    have HI0 := Lib.hid nI0
    have HI1 := Lib.hid nI1
    have HO0 := Lib.hid nO0
    have HQ0 := Lib.hid nQ0
    have HO1 := Lib.hid nO1
    have HQ1 := Lib.hid nQ1
    have HB := Lib.hid nB
    clear nB nP0 nP1 nI0 nI1 nO0 nQ0 nO1 nQ1
    go_wp2
    go_ret
    exact ⟨rfl, HB.out⟩

end Go.Proofs.Ytjiboekeeafpoaa
