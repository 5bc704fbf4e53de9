/-
  Walks: what each function returns, and that it leaves what lay in memory as it was.
-/
import Derived.Test.YthccfnoebbimjaaDoorProg
import Derived.Test.YthccfnoebbimjaaDoorPlain
import Derived.Test.YthccfnoebbimjaaDoorBase2
import Derived.Test.YthccfnoebbimjaaDoorOpen2
import Derived.Test.YthccfnoebbimjaaDoorShelf
import Derived.WalkKit
import Derived.WalkSpells
import Derived.WalkLawsBesides
import Derived.Lib.Hide
import Derived.Deep.LoopGhost
import Derived.Deep.QuietTactic
import Derived.BigQuiet
import Derived.Handy
import Derived.Deep.RegionHeld3
import Derived.StillTailTactics
import Derived.OpenShut
import Derived.ChangeSame
import Derived.Laws.StructEq

import Derived.Test.YthccfnoebbimjaaDoorPlainT

import Derived.Test.YthccfnoebbimjaaDoorW1

import Derived.Test.YthccfnoebbimjaaDoorW2

import Derived.Test.YthccfnoebbimjaaDoorW3

import Derived.Test.YthccfnoebbimjaaDoorW4

import Derived.Test.YthccfnoebbimjaaDoorW5

import Derived.Test.YthccfnoebbimjaaDoorBase3

import Derived.Lib.ItoaMem
import Derived.Lib.ItoaLen
import Derived.Lib.LaidTab

import Derived.Lib.AtoiTie
import Derived.Lib.AtoiBound
import Derived.Lib.ConvBytes

namespace Go.Proofs.YthccfnoebbimjaaDoor
open Go.ChangeShapes Go.WideShapes Go.ChangeAt Go.RowKit Go.Deep
set_option linter.unusedVariables false
set_option linter.unusedSimpArgs false

set_option maxRecDepth 20000

set_option maxHeartbeats 1600000 in
set_option maxRecDepth 20000 in
theorem spec_l1New (A : Option Addr) (n c : Nat) (xs : List UInt8) (w : World) (hn : n ≤ 1048576) (hx : Rd encB 1 w A n xs) :
    Calls Tryd.prog 24 #[.slice A n c] w fun e w' => e = .returned (.pointer (some ⟨w.heap.size, 0, none⟩)) ∧ Cur w w.heap.size w' ∧ Below w.heap.size w w' := by
  go_enter Tryd.func24, Tryd.ntmps24
  go_wp2_with fail
  go_loopw [3, 4] (fun h i wr => ∃ (j : Nat) (q : Int), j ≤ n ∧ i = .int .i64 j ∧ h = .int .i64 q ∧ wr = w) (fun _ i _ => n - (intOf i).toNat)
  case atStart => exact ⟨0, _, Nat.zero_le _, rfl, rfl, rfl⟩
  case round =>
    obtain ⟨j, q, hj, rfl, rfl, rfl⟩ := hrel
    by_cases hlt : j < n
    · obtain ⟨b, off, x, rfl, hb, hat, hc⟩ := hx.elem hlt
      have c0 := hc 0 _ rfl
      simp only [Nat.mul_one, Nat.add_zero] at c0
      have hat' := Lib.hid hat
      have hx' := Lib.hid hx
      clear hc hat hx
      by_cases h4 : j < 4000
      · go_wp2
        go_roundw
        case rel => exact ⟨j + 1, _, by omega, by go_num, rfl, trivial⟩
        case measure => simp [intOf]; omega
      · go_wp2
        go_ret
        refine ⟨rfl, ⟨_, n, c, 0, _, xs, hn, Nat.zero_le _, hx'.out, ?_, World.ownsRow_lit _ _ 1 (Nat.le_refl _) (by unfold maxLen; omega) (by rfl)⟩, ?_⟩
        · go_grown
        · go_grown
    · have hx' := Lib.hid hx
      clear hx
      go_wp2
      go_ret
      refine ⟨rfl, ⟨A, n, c, 0, _, xs, hn, Nat.zero_le _, hx'.out, ?_, World.ownsRow_lit _ _ 1 (Nat.le_refl _) (by unfold maxLen; omega) (by rfl)⟩, ?_⟩
      · go_grown
      · go_grown
set_option maxHeartbeats 1600000 in
set_option maxRecDepth 20000 in
theorem spec_l1Byte (w0 : World) (g : Nat) (w : World) (hc : Cur w0 g w) :
    Calls Tryd.prog 46 #[.pointer (some ⟨g, 0, none⟩)] w fun e w' => (∃ m : Nat, m ≤ 255 ∧ e = .returned (.int .i64 m)) ∧ Cur w0 g w' ∧ w.grownBy w' (some g) := by
  obtain ⟨A, n, c, i, h, xs, hn, hi, hx, hb, ho⟩ := hc
  obtain ⟨h2, hh2⟩ : ∃ h2, wrap64 (wrap64 (h * 6364136223846793005) + 1442695040888963407) = h2 := ⟨_, rfl⟩
  have c2 := ho.cellAt 2 (by omega)
  have f2 := ho.frozenAt 2
  have s2 := ho.stored 2 (.int .i64 h2)
  have d0 := s2.1.cellAt 0 (by omega)
  have d1 := s2.1.cellAt 1 (by omega)
  have d2 := s2.1.cellAt 2 (by omega)
  have e1 := s2.1.frozenAt 1
  simp only [List.getElem?_cons_zero, List.getElem?_cons_succ, List.set_cons_zero, List.set_cons_succ] at c2 d0 d1 d2
  have hlt := s2.1.lt g rfl
  have G2 := Lib.hid s2.2
  have O2 := Lib.hid s2.1
  have HB := Lib.hid (hb.grown s2.2 (by have := hb.size; omega) (by intro k hk; injection hk with e; omega))
  obtain ⟨w2, hw2⟩ : ∃ w2, w.setCell ⟨g, 2, none⟩ (.int .i64 h2) = w2 := ⟨_, rfl⟩
  rw [hw2] at d0 d1 d2 e1 G2 O2 HB hlt
  have HX := Lib.hid hx
  clear s2 ho hb hx
  by_cases hlt2 : i < n
  · obtain ⟨b, off, x, rfl, hb, hat, hcc⟩ := HX.out.elem hlt2
    have cx0 := hcc 0 _ rfl
    simp only [Nat.mul_one, Nat.add_zero] at cx0
    have cx : w2.cell? ⟨b, off + i, none⟩ = some (.int .u8 (x.toNat : Int)) := (HB.out.cell (p := ⟨b, off + i, none⟩) hb).trans cx0
    have Hat := Lib.hid hat
    have hg2 : b ≠ g := by omega
    clear hcc cx0 hat hb
    go_enter Tryd.func46, Tryd.ntmps46
    go_wp2_with fail
    clear c2 f2 hw2 hh2
    go_quiet (fail)
    go_wp2_with fail
    go_quiet (fail)
    go_wp2_with fail
    go_quiet (fail)
    go_wp2_with fail
    go_ret
    obtain ⟨m, hm, he⟩ := bits_low (wrap64 (bits BinOp.and IntKind.i64 (bits BinOp.xor IntKind.i64 (h2 / 8589934592) (h2 / 35184372088832)) 255 + wrap64 ↑x.toNat))
    exact ⟨⟨m, hm, by rw [he]; rfl⟩, cur_fin1 hn hlt2 HX.out HB.out O2.out G2.out _⟩
  · go_enter Tryd.func46, Tryd.ntmps46
    go_wp2_with fail
    clear c2 f2 hw2 hh2
    go_quiet (fail)
    go_wp2_with fail
    go_quiet (fail)
    go_wp2_with fail
    go_ret
    obtain ⟨m, hm, he⟩ := bits_low (bits BinOp.xor IntKind.i64 (h2 / 8589934592) (h2 / 35184372088832))
    exact ⟨⟨m, hm, by rw [he]; rfl⟩, cur_fin0 hn hi HX.out HB.out O2.out G2.out _ _⟩
set_option maxHeartbeats 1600000 in
set_option maxRecDepth 20000 in
theorem spec_l1Below (n : Int) (w0 : World) (g : Nat) (w : World) (hc : Cur w0 g w) (hn : n ≤ 1073741824) (hn0 : -1073741824 ≤ n) :
    Calls Tryd.prog 37 #[.pointer (some ⟨g, 0, none⟩), .int .i64 n] w fun e w' => (∃ m : Nat, (0 < n → (m : Int) < n) ∧ (n ≤ 0 → m = 0) ∧ e = .returned (.int .i64 m)) ∧ Cur w0 g w' ∧ w.grownBy w' (some g) := by
  by_cases h0 : n ≤ 0
  · have hc' := Lib.hid hc
    clear hc
    go_enter Tryd.func37, Tryd.ntmps37
    go_wp2_with fail
    go_ret
    exact ⟨⟨0, by omega, by omega, rfl⟩, hc'.out, World.grownBy.refl _ _⟩
  · have hnpos : 0 < n := by omega
    by_cases h1 : n ≤ 256
    · have C1 := Lib.hid (spec_l1Byte w0 g w hc)
      clear hc
      go_enter Tryd.func37, Tryd.ntmps37
      go_wp2_with fail
      refine C1.out.mono ?_
      rintro e w1 ⟨⟨m, hm, rfl⟩, hc1⟩
      have hc1 := Lib.hid hc1
      have e1 : (m : Int).tmod n = (m : Int) % n := Int.tmod_eq_emod_of_nonneg (by omega)
      have e2 : 0 ≤ (m : Int) % n := Int.emod_nonneg _ (by omega)
      have e3 : (m : Int) % n < n := Int.emod_lt_of_pos _ hnpos
      go_wp2_with fail
      go_ret
      refine ⟨⟨((m : Int) % n).toNat, by omega, by omega, ?_⟩, hc1.out⟩
      exact congrArg (fun z => Ending.returned (Value.int .i64 z)) (Int.toNat_of_nonneg e2).symm
    · have hc0 := Lib.hid hc
      clear hc
      go_enter Tryd.func37, Tryd.ntmps37
      go_wp2_with fail
      refine (spec_l1Byte w0 g _ hc0.out).mono ?_
      rintro e w1 ⟨⟨m1, hm1, rfl⟩, hc1, hg1⟩
      have hc1 := Lib.hid hc1
      have hg1 := Lib.hid hg1
      go_wp2_with fail
      refine (spec_l1Byte w0 g _ hc1.out).mono ?_
      rintro e w2 ⟨⟨m2, hm2, rfl⟩, hc2, hg2⟩
      have hc2 := Lib.hid hc2
      have hg2 := Lib.hid hg2
      go_wp2_with fail
      refine (spec_l1Byte w0 g _ hc2.out).mono ?_
      rintro e w3 ⟨⟨m3, hm3, rfl⟩, hc3, hg3⟩
      have hc3 := Lib.hid hc3
      have hg3 := Lib.hid hg3
      go_wp2_with fail
      refine (spec_l1Byte w0 g _ hc3.out).mono ?_
      rintro e w4 ⟨⟨m4, hm4, rfl⟩, hc4, hg4⟩
      have hc4 := Lib.hid hc4
      have HG4 := Lib.hid (gb_trans (gb_trans (gb_trans hg1.out hg2.out) hg3.out) hg4)
      clear hg4
      go_wp2_with fail
      go_ret
      have hs : 0 ≤ (m1 : Int) * 16777216 + m2 * 65536 + m3 * 256 + m4 := by omega
      have e2 : 0 ≤ ((m1 : Int) * 16777216 + m2 * 65536 + m3 * 256 + m4) % n := Int.emod_nonneg _ (by omega)
      have e3 : ((m1 : Int) * 16777216 + m2 * 65536 + m3 * 256 + m4) % n < n := Int.emod_lt_of_pos _ hnpos
      refine ⟨⟨(((m1 : Int) * 16777216 + m2 * 65536 + m3 * 256 + m4) % n).toNat, by omega, by omega, ?_⟩, hc4.out, HG4.out⟩
      exact congrArg (fun z => Ending.returned (Value.int .i64 z)) (Int.toNat_of_nonneg e2).symm
theorem spec_l1Once (n : Int) (w0 : World) (g : Nat) (w : World) (hc : Cur w0 g w) (hn : n ≤ 1073741824) (hn0 : -1073741824 ≤ n) :
    Calls Tryd.prog 45 #[.pointer (some ⟨g, 0, none⟩), .int .i64 n] w fun e w' => (∃ b : Bool, e = .returned (.bool b)) ∧ Cur w0 g w' ∧ w.grownBy w' (some g) := by
  have C1 := Lib.hid (spec_l1Below n w0 g w hc hn hn0)
  clear hc
  go_enter Tryd.func45, Tryd.ntmps45
  go_wp2_with fail
  refine C1.out.mono ?_
  rintro e w1 ⟨⟨m, _, _, rfl⟩, hc1⟩
  have hc1 := Lib.hid hc1
  go_wp2_with fail
  go_ret
  exact ⟨⟨_, rfl⟩, hc1.out⟩
set_option maxHeartbeats 1600000 in
theorem spec_l1PickInt (R : Int → Prop) (b n c : Nat) (w0 : World) (g : Nat) (w : World) (hc : Cur w0 g w) (hn : n ≤ 1000) (hn0 : 0 < n) (hb : b ≠ g) (vs : List Value) (hv : Holds w b vs) (hl : vs.length = n) (hr : ∀ v ∈ vs, ∃ x, R x ∧ v = (.int .i64 x : Value)) :
    Calls Tryd.prog 47 #[.pointer (some ⟨g, 0, none⟩), .slice (some ⟨b, 0, none⟩) n c] w fun e w' => (∃ x : Int, R x ∧ e = .returned (.int .i64 x)) ∧ Cur w0 g w' ∧ w.grownBy w' (some g) := by
  have C1 := Lib.hid (spec_l1Below n w0 g w hc (by omega) (by omega))
  clear hc
  go_enter Tryd.func47, Tryd.ntmps47
  go_wp2_with fail
  refine C1.out.mono ?_
  rintro e w1 ⟨⟨m, hm, _, rfl⟩, hc1, hg1⟩
  have hm' : m < n := by omega
  obtain ⟨x, hx, hcell0⟩ := hr (vs[m]'(by omega)) (List.getElem_mem _)
  have hcell := hv.2 m _ (List.getElem?_eq_getElem (by omega : m < vs.length))
  rw [hcell0] at hcell
  have hcell1 := Cur.pick (w0 := w0) hb hg1 hcell
  have hc1 := Lib.hid hc1
  have hg1 := Lib.hid hg1
  have hR := Lib.hid hx
  clear hr hx hcell hcell0 hv
  go_wp2_with fail
  go_ret
  exact ⟨⟨_, hR.out, rfl⟩, hc1.out, hg1.out⟩
set_option maxHeartbeats 1600000 in
theorem spec_l1Pick (R : ByteArray → Prop) (b n c : Nat) (w0 : World) (g : Nat) (w : World) (hc : Cur w0 g w) (hn : n ≤ 1000) (hn0 : 0 < n) (hb : b ≠ g) (vs : List Value) (hv : Holds w b vs) (hl : vs.length = n) (hr : ∀ v ∈ vs, ∃ x, R x ∧ v = (.string x : Value)) :
    Calls Tryd.prog 41 #[.pointer (some ⟨g, 0, none⟩), .slice (some ⟨b, 0, none⟩) n c] w fun e w' => (∃ x : ByteArray, R x ∧ e = .returned (.string x)) ∧ Cur w0 g w' ∧ w.grownBy w' (some g) := by
  have C1 := Lib.hid (spec_l1Below n w0 g w hc (by omega) (by omega))
  clear hc
  go_enter Tryd.func41, Tryd.ntmps41
  go_wp2_with fail
  refine C1.out.mono ?_
  rintro e w1 ⟨⟨m, hm, _, rfl⟩, hc1, hg1⟩
  have hm' : m < n := by omega
  obtain ⟨x, hx, hcell0⟩ := hr (vs[m]'(by omega)) (List.getElem_mem _)
  have hcell := hv.2 m _ (List.getElem?_eq_getElem (by omega : m < vs.length))
  rw [hcell0] at hcell
  have hcell1 := Cur.pick (w0 := w0) hb hg1 hcell
  have hc1 := Lib.hid hc1
  have hg1 := Lib.hid hg1
  have hR := Lib.hid hx
  clear hr hx hcell hcell0 hv
  go_wp2_with fail
  go_ret
  exact ⟨⟨_, hR.out, rfl⟩, hc1.out, hg1.out⟩

theorem ba_size_app (a b : ByteArray) : (a ++ b).size = a.size + b.size := by simp
theorem ba_size_ext (a : ByteArray) (i j : Nat) : (a.extract i j).size ≤ a.size := by simp; omega
set_option maxHeartbeats 1600000 in
set_option maxRecDepth 20000 in
theorem spec_l1Turned (s : ByteArray) (b n c : Nat) (w0 : World) (g : Nat) (w : World) (hs : s.size ≤ 1048576) (hc : Cur w0 g w) (hn : n ≤ 1000) (hn0 : 0 < n) (hb : b ≠ g) (vs : List Value) (hv : Holds w b vs) (hl : vs.length = n) (hr : ∀ v ∈ vs, ∃ x : ByteArray, x.size ≤ 100 ∧ v = (.string x : Value)) :
    Calls Tryd.prog 27 #[.pointer (some ⟨g, 0, none⟩), .string s, .slice (some ⟨b, 0, none⟩) n c] w fun e w' => (∃ x : ByteArray, x.size ≤ 2 * s.size + 100 ∧ e = .returned (.string x)) ∧ Cur w0 g w' ∧ w.grownBy w' (some g) := by
  have C1 := Lib.hid (spec_l1Below ((s.size : Int) + 1) w0 g w hc (by omega) (by omega))
  have hbs := hv.1
  have HV := Lib.hid hv
  have HR := Lib.hid hr
  have HL := Lib.hid hl
  clear hc hv hr hl
  go_enter Tryd.func27, Tryd.ntmps27
  go_wp2_with fail
  refine C1.out.mono ?_
  rintro e w1 ⟨⟨at0, hat, _, rfl⟩, hc1, hg1⟩
  have hat' : at0 ≤ s.size := by omega
  clear hat C1
  have HC1 := Lib.hid hc1
  have HG1 := Lib.hid hg1
  clear hc1 hg1
  go_wp2_with fail
  refine (spec_l1Below 6 w0 g _ HC1.out (by omega) (by omega)).mono ?_
  rintro e w2 ⟨⟨m, hm, _, rfl⟩, hc2, hg2⟩
  have HC2 := Lib.hid hc2
  have HG2 := Lib.hid (gb_trans HG1.out hg2)
  have HV2 := Lib.hid (show Holds w2 b vs from ⟨Nat.lt_of_lt_of_le hbs (Nat.le_trans HG1.out.size hg2.size), fun i v hi => Cur.pick (w0 := w0) hb hg2 (Cur.pick (w0 := w0) hb HG1.out (HV.out.2 i v hi))⟩)
  clear hc2 hg2
  by_cases h0 : m = 0
  · subst h0
    have PK := Lib.hid (fun W (hW : Cur w0 g W) (hV : Holds W b vs) => spec_l1Pick (fun x => x.size ≤ 100) b n c w0 g W hW hn hn0 hb vs hV HL.out HR.out)
    go_wp2_with fail
    go_region_with (go_at_call 41; refine (PK.out _ (HC2.out.below (by go_grown)) (HV2.out.below (by go_grown))).mono ?_; rintro e w3 ⟨⟨x, hx, rfl⟩, hc3, hg3⟩)
    all_goals go_wp2_with fail
    all_goals go_ret
    all_goals refine ⟨⟨_, ?_, rfl⟩, hc3, gb_trans HG2.out (gb_trans (gb_below _ (by go_grown)) hg3)⟩
    all_goals rw [ba_size_app, ba_size_app]
    all_goals have q1 := ba_size_ext s 0 at0
    all_goals have q2 := ba_size_ext s at0 s.size
    all_goals omega
  · by_cases h1 : m = 1
    · subst h1
      go_wp2_with fail
      go_ret
      refine ⟨⟨_, ?_, rfl⟩, HC2.out, HG2.out⟩
      have := ba_size_ext s 0 at0
      omega
    · go_wp2_with fail
      go_ret
      exact ⟨⟨s, by omega, rfl⟩, HC2.out, HG2.out⟩

set_option maxHeartbeats 1600000 in
theorem spec_l1Whole (w0 : World) (g : Nat) (w : World) (hc : Cur w0 g w) :
    Calls Tryd.prog 38 #[.pointer (some ⟨g, 0, none⟩)] w fun e w' => (∃ x : Int, (-9223372036854775808 ≤ x ∧ x ≤ 9223372036854775807) ∧ e = .returned (.int .i64 x)) ∧ Cur w0 g w' ∧ w.grownBy w' (some g) := by
  have C1 := Lib.hid (spec_l1Below 3 w0 g w hc (by omega) (by omega))
  clear hc
  go_enter Tryd.func38, Tryd.ntmps38
  go_wp2_with fail
  refine C1.out.mono ?_
  rintro e w1 ⟨⟨m, hm, _, rfl⟩, hc1, hg1⟩
  have hc1 := Lib.hid hc1
  have hg1 := Lib.hid hg1
  by_cases h0 : m = 0
  · subst h0
    go_wp2_with fail
    refine (spec_l1PickInt (fun x => -9223372036854775808 ≤ x ∧ x ≤ 9223372036854775807) _ 9 9 w0 g _ (hc1.out.below (by go_grown)) (by omega) (by omega) (by have := hc1.out.lt; omega) _ (Holds.new _ _ _) rfl ?_).mono ?_
    · intro v hv
      simp at hv
      rcases hv with rfl | rfl | rfl | rfl | rfl | rfl | rfl | rfl | rfl <;> exact ⟨_, by omega, rfl⟩
    rintro e w2 ⟨⟨x, hx, rfl⟩, hc2, hg2⟩
    have hc2 := Lib.hid hc2
    have hg3 := Lib.hid (gb_trans hg1.out (gb_trans (gb_below (some g) (by go_grown)) hg2))
    clear hg2
    go_wp2_with fail
    go_ret
    exact ⟨⟨_, hx, rfl⟩, hc2.out, hg3.out⟩
  · by_cases h1 : m = 1
    · subst h1
      go_wp2_with fail
      refine (spec_l1Below 1000000 w0 g _ hc1.out (by omega) (by omega)).mono ?_
      rintro e w2 ⟨⟨x, hx, _, rfl⟩, hc2, hg2⟩
      have hc2 := Lib.hid hc2
      have hg3 := Lib.hid (gb_trans hg1.out hg2)
      clear hg2
      go_wp2_with fail
      go_ret
      exact ⟨⟨_, ⟨by omega, by omega⟩, rfl⟩, hc2.out, hg3.out⟩
    · go_wp2_with fail
      refine (spec_l1Below 20 w0 g _ hc1.out (by omega) (by omega)).mono ?_
      rintro e w2 ⟨⟨x, hx, _, rfl⟩, hc2, hg2⟩
      have hc2 := Lib.hid hc2
      have hg3 := Lib.hid (gb_trans hg1.out hg2)
      clear hg2
      go_wp2_with fail
      go_ret
      exact ⟨⟨_, ⟨by omega, by omega⟩, rfl⟩, hc2.out, hg3.out⟩

set_option maxHeartbeats 3200000 in
theorem spec_l4Set (w0 : World) (g : Nat) (w : World) (hc : Cur w0 g w) :
    Calls Tryd.prog 36 #[.pointer (some ⟨g, 0, none⟩)] w fun e w' => (∃ (A : Option Addr) (c : Nat) (l : List Span), 1 ≤ l.length ∧ l.length ≤ 3 ∧ e = .returned (.slice A l.length c) ∧ w'.ownsRow w.heap.size 38 2 (.slice A l.length c) l.length (l.flatMap encSpan)) ∧ Cur w0 g w' ∧ w.grownBy w' (some g) := by
  have hnew := World.ownsRow_made (base := w.heap.size) (e := 38) (size := 2) w #[] 0 (Nat.le_refl _) (by unfold maxLen; omega) rfl
  have HC := Lib.hid hc
  have hgl := hc.lt
  have hA : Below w.heap.size w (w.alloc (.cells #[] 38)) := (Below.refl _ _).alloc (Nat.le_refl _) _
  have HC0 := Lib.hid (hc.below hA)
  have HG0 := Lib.hid (gb_below (some g) hA)
  have Hnew := Lib.hid hnew
  clear hc hA hnew
  go_enter Tryd.func36, Tryd.ntmps36
  go_wp2_with fail
  refine (spec_l1Below 3 w0 g _ HC0.out (by omega) (by omega)).mono ?_
  rintro e w1 ⟨⟨m, hm, _, rfl⟩, hc1, hg1⟩
  have Hown1 := Lib.hid (own_gb Hnew.out hg1 hgl.2)
  have HC1 := Lib.hid hc1
  have HG1 := Lib.hid (gb_trans HG0.out hg1)
  clear hc1 hg1 HC0 HG0
  go_wp2_with fail
  go_loopw [3, 5] (fun o i wr => ∃ (k : Nat) (l : List Span), k ≤ 1 + m ∧ i = .int .i64 k ∧ l.length = k ∧ wr.ownsRow w.heap.size 38 2 o l.length (l.flatMap encSpan) ∧ Cur w0 g wr ∧ w.grownBy wr (some g)) (fun _ i _ => 1 + m - (intOf i).toNat)
  case atStart => exact ⟨0, [], by omega, rfl, rfl, Hown1.out, HC1.out, HG1.out⟩
  case round =>
    obtain ⟨k, l, hk, rfl, hl, ho, hc, hg⟩ := hrel
    have HO := Lib.hid ho
    have HCC := Lib.hid hc
    have HG := Lib.hid hg
    clear ho hc hg
    by_cases hlt : k < 1 + m
    · go_wp2_with fail
      refine (spec_l1Below 6 w0 g _ HCC.out (by omega) (by omega)).mono ?_
      rintro e w2 ⟨⟨x, hx, _, rfl⟩, hc2, hg2⟩
      have HO2 := Lib.hid (HO.out.kept hg2 (by
        rcases HO.out.2 with ⟨rfl, _⟩ | ⟨g', cap, cur, rfl, hg', _⟩
        · exact .inl rfl
        · refine .inr fun e => ?_
          have e2 : g' = g := by injection e
          omega))
      have HC2 := Lib.hid hc2
      have HG2 := Lib.hid (gb_trans HG.out hg2)
      clear hc2 hg2
      go_wp2_with fail
      refine (spec_l1Below 8 w0 g _ HC2.out (by omega) (by omega)).mono ?_
      rintro e w3 ⟨⟨y, hy, _, rfl⟩, hc3, hg3⟩
      have HO3 := Lib.hid (HO2.out.kept hg3 (by
        rcases HO2.out.2 with ⟨rfl, _⟩ | ⟨g', cap, cur, rfl, hg', _⟩
        · exact .inl rfl
        · refine .inr fun e => ?_
          have e2 : g' = g := by injection e
          omega))
      have HC3 := Lib.hid hc3
      have HG3 := Lib.hid (gb_trans HG2.out hg3)
      clear hc3 hg3
      go_wp2_with fail
      have hOl := HO3.out.lt
      obtain ⟨p, hp⟩ : ∃ p, w3.heap.size = p := ⟨_, rfl⟩
      have hgp : g < p := by rw [← hp]; exact HC3.out.lt.2
      have hwp : w.heap.size ≤ p := by rw [← hp]; exact HG3.out.size
      have hal : Below w3.heap.size w3 (w3.alloc (.cells #[.int .i64 x, .int .i64 y] 38)) := (Below.refl _ _).alloc (Nat.le_refl _) _
      have HP := Lib.hid (World.ownsRow_lit (base := p) (e := 38) (size := 2) w3 #[.int .i64 x, .int .i64 y] 1 (by omega) (by unfold maxLen; omega) rfl)
      have HC4 := Lib.hid (HC3.out.below hal)
      have HG4 := Lib.hid (gb_trans HG3.out (gb_below (some g) hal))
      have HO4 := Lib.hid (own_below HO3.out hal)
      clear hal
      have HOl := Lib.hid hOl
      clear hOl
      generalize hw4 : w3.alloc (.cells #[.int .i64 x, .int .i64 y] 38) = w4 at *
      rw [hp] at HP HOl ⊢
      refine (spec_l1Once 2 w0 g w4 HC4.out (by omega) (by omega)).mono ?_
      rintro e w5 ⟨⟨b, rfl⟩, hc5, hg5⟩
      have HP5 := Lib.hid (own_gb HP.out hg5 hgp)
      have HO5 := Lib.hid (HO4.out.kept hg5 (by
        rcases HO4.out.2 with ⟨rfl, _⟩ | ⟨g', cap, cur, rfl, hg', _⟩
        · exact .inl rfl
        · refine .inr fun e => ?_
          have e2 : g' = g := by injection e
          omega))
      have HC5 := Lib.hid hc5
      have HG5 := Lib.hid (gb_trans HG4.out hg5)
      have hsz5 : p < w5.heap.size := (HP5.out.lt p rfl).2
      clear hc5 hg5
      cases b with
      | true =>
        have c0 := HP5.out.cellAt 0 (by omega)
        have c1 := HP5.out.cellAt 1 (by omega)
        have f1 := HP5.out.frozenAt 1
        have s1 := HP5.out.stored 1 (.int .i64 x)
        simp only [List.getElem?_cons_zero, List.getElem?_cons_succ] at c0 c1
        have hbl : Below p w5 (w5.setCell ⟨p, 1, none⟩ (.int .i64 x)) := gb_to_below s1.2 (by omega) (by intro k hk; injection hk with e; omega)
        have HC6 := Lib.hid (HC5.out.belowB hbl hgp)
        have HG6 := Lib.hid (gb_belowB HG5.out hbl hwp)
        have HO6 := Lib.hid (HO5.out.kept s1.2 (by
          rcases HO5.out.2 with ⟨rfl, _⟩ | ⟨g', cap, cur, rfl, hg', _⟩
          · exact .inl rfl
          · refine .inr fun e => ?_
            have e2 : g' = p := by injection e
            have h2 := (HOl.out g' rfl).2
            omega))
        have d0 := s1.1.cellAt 0 (by omega)
        have d1 := s1.1.cellAt 1 (by omega)
        simp only [List.set_cons_succ, List.set_cons_zero, List.getElem?_cons_zero, List.getElem?_cons_succ] at d0 d1
        have hsz6 := Lib.hid (show w5.heap.size ≤ (w5.setCell ⟨p, 1, none⟩ (.int .i64 x)).heap.size by simp)
        generalize hw6 : w5.setCell ⟨p, 1, none⟩ (.int .i64 x) = w6 at *
        have Hown2 := Lib.hid (HO6.out.alloc (.cells #[.int .i64 x, .int .i64 x] 38))
        have Hrd2 := Lib.hid (Rd.new (enc := encSpan) (k := 2) (fun _ => rfl) w6 #[.int .i64 x, .int .i64 x] 38 (n := 1) [((x : Int), (x : Int))] rfl rfl)
        have hal : Below w6.heap.size w6 (w6.alloc (.cells #[.int .i64 x, .int .i64 x] 38)) := (Below.refl _ _).alloc (Nat.le_refl _) _
        have HC7 := Lib.hid (HC6.out.below hal)
        have HG7 := Lib.hid (gb_trans HG6.out (gb_below (some g) hal))
        have hws6 : w.heap.size ≤ w6.heap.size := by have := hsz6.out; omega
        clear s1 hbl hal
        go_wp2_with (at_builtin; refine wpList_app (enc := encSpan) (k := 2) (fun _ => rfl) (fun _ u hu => by simp at hu; rcases hu with rfl | rfl <;> rfl) (by omega) rfl _ _ 22 38 rfl (.agg #[.int .i64 0, .int .i64 0]) 16 Tryd.underlying22 (by kernel_rfl) rfl w.heap.size _ l rfl Hown2.out _ _ _ _ rfl Hrd2.out (by first | omega | (simp; omega)) (by omega) (by first | omega | (simp; omega)) ?_; intro v2 w7 hown2 hbel2)
        go_roundw
        case rel => exact ⟨k + 1, l ++ [((x : Int), (x : Int))], by omega, by go_num, by simp; omega, hown2, HC7.out.belowB hbel2 (by omega), gb_belowB HG7.out hbel2 (Nat.le_refl _)⟩
        case measure => simp [intOf]; omega
      | false =>
        have c0 := HP5.out.cellAt 0 (by omega)
        have c1 := HP5.out.cellAt 1 (by omega)
        simp only [List.getElem?_cons_zero, List.getElem?_cons_succ] at c0 c1
        have Hown2 := Lib.hid (HO5.out.alloc (.cells #[.int .i64 x, .int .i64 y] 38))
        have Hrd2 := Lib.hid (Rd.new (enc := encSpan) (k := 2) (fun _ => rfl) w5 #[.int .i64 x, .int .i64 y] 38 (n := 1) [((x : Int), (y : Int))] rfl rfl)
        have hal : Below w5.heap.size w5 (w5.alloc (.cells #[.int .i64 x, .int .i64 y] 38)) := (Below.refl _ _).alloc (Nat.le_refl _) _
        have HC7 := Lib.hid (HC5.out.below hal)
        have HG7 := Lib.hid (gb_trans HG5.out (gb_below (some g) hal))
        clear hal
        go_wp2_with (at_builtin; refine wpList_app (enc := encSpan) (k := 2) (fun _ => rfl) (fun _ u hu => by simp at hu; rcases hu with rfl | rfl <;> rfl) (by omega) rfl _ _ 22 38 rfl (.agg #[.int .i64 0, .int .i64 0]) 16 Tryd.underlying22 (by kernel_rfl) rfl w.heap.size _ l rfl Hown2.out _ _ _ _ rfl Hrd2.out (by first | omega | (simp; omega)) (by omega) (by first | omega | (simp; omega)) ?_; intro v2 w7 hown2 hbel2)
        go_roundw
        case rel => exact ⟨k + 1, l ++ [((x : Int), (y : Int))], by omega, by go_num, by simp; omega, hown2, HC7.out.belowB hbel2 (by omega), gb_belowB HG7.out hbel2 (Nat.le_refl _)⟩
        case measure => simp [intOf]; omega
    · have hke : k = 1 + m := by omega
      go_wp2_with fail
      go_ret
      rcases own_form HO.out with ⟨A, c, rfl⟩
      exact ⟨⟨A, c, l, by omega, by omega, rfl, HO.out⟩, HCC.out, HG.out⟩

def sLen : Value → Nat
  | .slice _ n _ => n
  | _ => 0
set_option maxHeartbeats 3200000 in
theorem spec_l4Bent (w0 : World) (g : Nat) (w : World) (hc : Cur w0 g w) :
    Calls Tryd.prog 23 #[.pointer (some ⟨g, 0, none⟩)] w fun e w' => (∃ (A : Option Addr) (c : Nat) (l : List Span), l.length ≤ 6 ∧ e = .returned (.slice A l.length c) ∧ w'.ownsRow w.heap.size 38 2 (.slice A l.length c) l.length (l.flatMap encSpan)) ∧ Cur w0 g w' ∧ w.grownBy w' (some g) := by
  have hgl := hc.lt
  have HC0 := Lib.hid hc
  clear hc
  go_enter Tryd.func23, Tryd.ntmps23
  go_wp2_with fail
  refine (spec_l4Set w0 g _ HC0.out).mono ?_
  rintro e w1 ⟨⟨A, c, l, hl1, hl3, rfl, ho⟩, hc1, hg1⟩
  have HO1 := Lib.hid ho
  have HC1 := Lib.hid hc1
  have HG1 := Lib.hid hg1
  clear ho hc1 hg1 HC0
  go_wp2_with fail
  refine (spec_l1Below 6 w0 g _ HC1.out (by omega) (by omega)).mono ?_
  rintro e w2 ⟨⟨m, hm, _, rfl⟩, hc2, hg2⟩
  have HO2 := Lib.hid (own_gb HO1.out hg2 hgl.2)
  have HC2 := Lib.hid hc2
  have HG2 := Lib.hid (gb_trans HG1.out hg2)
  clear hc2 hg2 HO1 HC1 HG1
  by_cases h0 : m = 0
  · subst h0
    clear hm
    go_wp2_with fail
    refine (spec_l1Whole w0 g _ HC2.out).mono ?_
    rintro e w3 ⟨⟨x, hx, rfl⟩, hc3, hg3⟩
    have HO3 := Lib.hid (own_gb HO2.out hg3 hgl.2)
    have HC3 := Lib.hid hc3
    have HG3 := Lib.hid (gb_trans HG2.out hg3)
    clear hc3 hg3 HO2 HC2 HG2
    go_wp2_with fail
    refine (spec_l1Whole w0 g _ HC3.out).mono ?_
    rintro e w4 ⟨⟨y, hy, rfl⟩, hc4, hg4⟩
    have HO4 := Lib.hid (own_gb HO3.out hg4 hgl.2)
    have HC4 := Lib.hid hc4
    have HG4 := Lib.hid (gb_trans HG3.out hg4)
    clear hc4 hg4 HO3 HC3 HG3
    have hsz := HG4.out.size
    have Hown2 := Lib.hid (HO4.out.alloc (.cells #[.int .i64 x, .int .i64 y] 38))
    have Hrd2 := Lib.hid (Rd.new (enc := encSpan) (k := 2) (fun _ => rfl) w4 #[.int .i64 x, .int .i64 y] 38 (n := 1) [(x, y)] rfl rfl)
    have hal : Below w4.heap.size w4 (w4.alloc (.cells #[.int .i64 x, .int .i64 y] 38)) := (Below.refl _ _).alloc (Nat.le_refl _) _
    have HC5 := Lib.hid (HC4.out.below hal)
    have HG5 := Lib.hid (gb_trans HG4.out (gb_below (some g) hal))
    clear hal
    go_wp2_with (at_builtin; refine wpList_app (enc := encSpan) (k := 2) (fun _ => rfl) (fun _ u hu => by simp at hu; rcases hu with rfl | rfl <;> rfl) (by omega) rfl _ _ 22 38 rfl (.agg #[.int .i64 0, .int .i64 0]) 16 Tryd.underlying22 (by kernel_rfl) rfl w.heap.size _ l rfl Hown2.out _ _ _ _ rfl Hrd2.out (by first | omega | (simp; omega)) (by omega) (by first | omega | (simp; omega)) ?_; intro v2 w7 hown2 hbel2)
    go_ret
    rcases own_form hown2 with ⟨A2, c2, rfl⟩
    have hlen : (l ++ [(x, y)]).length = l.length + 1 := by simp
    exact ⟨⟨A2, c2, l ++ [(x, y)], by omega, by rw [hlen]; rfl, hown2⟩, HC5.out.belowB hbel2 hgl.2, gb_belowB HG5.out hbel2 (Nat.le_refl _)⟩
  · by_cases h1 : m = 1
    · subst h1
      clear hm h0
      go_wp2_with fail
      go_loopw [3] (fun o wr => ∃ (A : Option Addr) (c : Nat) (l : List Span), o = .slice A l.length c ∧ l.length ≤ 6 ∧ wr.ownsRow w.heap.size 38 2 (.slice A l.length c) l.length (l.flatMap encSpan) ∧ Cur w0 g wr ∧ w.grownBy wr (some g)) (fun o _ => 7 - sLen o)
      case atStart => exact ⟨A, c, l, rfl, by omega, HO2.out, HC2.out, HG2.out⟩
      case round =>
        clear HO2 HC2 HG2
        obtain ⟨A, c, l, rfl, hl, ho, hc, hg⟩ := hrel
        have HO := Lib.hid ho
        have HC := Lib.hid hc
        have HG := Lib.hid hg
        clear ho hc hg
        go_wp2_with fail
        refine (spec_l1Below 2 w0 g _ HC.out (by omega) (by omega)).mono ?_
        rintro e w3 ⟨⟨x, hx, _, rfl⟩, hc3, hg3⟩
        have HO3 := Lib.hid (own_gb HO.out hg3 hgl.2)
        have HC3 := Lib.hid hc3
        have HG3 := Lib.hid (gb_trans HG.out hg3)
        clear hc3 hg3 HO HC HG
        by_cases hlt : l.length < 5 + x
        · have hsz := HG3.out.size
          have Hown2 := Lib.hid (HO3.out.alloc (.cells #[.int .i64 7, .int .i64 7] 38))
          have Hrd2 := Lib.hid (Rd.new (enc := encSpan) (k := 2) (fun _ => rfl) w3 #[.int .i64 7, .int .i64 7] 38 (n := 1) [((7 : Int), (7 : Int))] rfl rfl)
          have hal : Below w3.heap.size w3 (w3.alloc (.cells #[.int .i64 7, .int .i64 7] 38)) := (Below.refl _ _).alloc (Nat.le_refl _) _
          have HC5 := Lib.hid (HC3.out.below hal)
          have HG5 := Lib.hid (gb_trans HG3.out (gb_below (some g) hal))
          clear hal
          go_wp2_with (at_builtin; refine wpList_app (enc := encSpan) (k := 2) (fun _ => rfl) (fun _ u hu => by simp at hu; rcases hu with rfl | rfl <;> rfl) (by omega) rfl _ _ 22 38 rfl (.agg #[.int .i64 0, .int .i64 0]) 16 Tryd.underlying22 (by kernel_rfl) rfl w.heap.size _ l rfl Hown2.out _ _ _ _ rfl Hrd2.out (by first | omega | (simp; omega)) (by omega) (by first | omega | (simp; omega)) ?_; intro v2 w7 hown2 hbel2)
          rcases own_form hown2 with ⟨A2, c2, rfl⟩
          have hlen : (l ++ [((7 : Int), (7 : Int))]).length = l.length + 1 := by simp
          go_roundw
          case rel => exact ⟨A2, c2, l ++ [((7 : Int), (7 : Int))], rfl, by omega, hown2, HC5.out.belowB hbel2 hgl.2, gb_belowB HG5.out hbel2 (Nat.le_refl _)⟩
          case measure => rw [show sLen (.slice A2 (l ++ [((7 : Int), (7 : Int))]).length c2) = l.length + 1 from hlen, show sLen (.slice A l.length c) = l.length from rfl]; omega
        · go_wp2_with fail
          go_ret
          exact ⟨⟨A, c, l, hl, rfl, HO3.out⟩, HC3.out, HG3.out⟩
    · by_cases h2 : m = 2
      · subst h2
        clear hm h0 h1
        have hsz := HG2.out.size
        have hnew := Lib.hid (own_mono (World.ownsRow_made (base := w2.heap.size) (e := 38) (size := 2) w2 #[] 0 (Nat.le_refl _) (by unfold maxLen; omega) rfl) hsz)
        have hal : Below w2.heap.size w2 (w2.alloc (.cells #[] 38)) := (Below.refl _ _).alloc (Nat.le_refl _) _
        have HC5 := Lib.hid (HC2.out.below hal)
        have HG5 := Lib.hid (gb_trans HG2.out (gb_below (some g) hal))
        clear hal
        go_wp2_with fail
        go_ret
        exact ⟨⟨_, _, [], by simp, rfl, hnew.out⟩, HC5.out, HG5.out⟩
      · go_wp2_with fail
        go_ret
        exact ⟨⟨A, c, l, by omega, rfl, HO2.out⟩, HC2.out, HG2.out⟩

end Go.Proofs.YthccfnoebbimjaaDoor
