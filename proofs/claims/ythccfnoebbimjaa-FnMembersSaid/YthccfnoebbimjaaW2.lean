/-
  Walks: what each function returns, and that it leaves what lay in memory as it was.
-/
import Derived.Test.YthccfnoebbimjaaProg
import Derived.Test.YthccfnoebbimjaaPlain
import Derived.Test.YthccfnoebbimjaaBase2
import Derived.Test.YthccfnoebbimjaaOpen2
import Derived.Test.YthccfnoebbimjaaShelf
import Derived.WalkKit
import Derived.WalkSpells
import Derived.WalkLawsBesides
import Derived.Lib.Hide
import Derived.Deep.LoopGhost
import Derived.Deep.QuietTactic
import Derived.BigQuiet
import Derived.Handy
import Derived.Deep.RegionHeld3
import Derived.StillTailTactics
import Derived.OpenShut
import Derived.ChangeSame
import Derived.Laws.StructEq

import Derived.Test.YthccfnoebbimjaaPlainT

import Derived.Test.YthccfnoebbimjaaW1

namespace Go.Proofs.Ythccfnoebbimjaa
open Go.ChangeShapes Go.WideShapes Go.ChangeAt Go.RowKit Go.Deep
set_option linter.unusedVariables false
set_option linter.unusedSimpArgs false

set_option maxHeartbeats 1600000 in
set_option maxRecDepth 20000 in
theorem spec_l1New (A : Option Addr) (n c : Nat) (xs : List UInt8) (w : World) (hn : n ≤ 1048576) (hx : Rd encB 1 w A n xs) :
    Calls Try.prog 28 #[.slice A n c] w fun e w' => e = .returned (.pointer (some ⟨w.heap.size, 0, none⟩)) ∧ Cur w w.heap.size w' ∧ Below w.heap.size w w' := by
  go_enter Try.func28, Try.ntmps28
  go_wp2_with fail
  go_loopw [3, 4] (fun h i wr => ∃ (j : Nat) (q : Int), j ≤ n ∧ i = .int .i64 j ∧ h = .int .i64 q ∧ wr = w) (fun _ i _ => n - (intOf i).toNat)
  case atStart => exact ⟨0, _, Nat.zero_le _, rfl, rfl, rfl⟩
  case round =>
    obtain ⟨j, q, hj, rfl, rfl, rfl⟩ := hrel
    by_cases hlt : j < n
    · obtain ⟨b, off, x, rfl, hb, hat, hc⟩ := hx.elem hlt
      have c0 := hc 0 _ rfl
      simp only [Nat.mul_one, Nat.add_zero] at c0
      have hat' := Lib.hid hat
      have hx' := Lib.hid hx
      clear hc hat hx
      by_cases h4 : j < 4000
      · go_wp2
        go_roundw
        case rel => exact ⟨j + 1, _, by omega, by go_num, rfl, trivial⟩
        case measure => simp [intOf]; omega
      · go_wp2
        go_ret
        refine ⟨rfl, ⟨_, n, c, 0, _, xs, hn, Nat.zero_le _, hx'.out, ?_, World.ownsRow_lit _ _ 1 (Nat.le_refl _) (by unfold maxLen; omega) (by rfl)⟩, ?_⟩
        · go_grown
        · go_grown
    · have hx' := Lib.hid hx
      clear hx
      go_wp2
      go_ret
      refine ⟨rfl, ⟨A, n, c, 0, _, xs, hn, Nat.zero_le _, hx'.out, ?_, World.ownsRow_lit _ _ 1 (Nat.le_refl _) (by unfold maxLen; omega) (by rfl)⟩, ?_⟩
      · go_grown
      · go_grown
set_option maxHeartbeats 1600000 in
set_option maxRecDepth 20000 in
theorem spec_l1Byte (w0 : World) (g : Nat) (w : World) (hc : Cur w0 g w) :
    Calls Try.prog 84 #[.pointer (some ⟨g, 0, none⟩)] w fun e w' => (∃ m : Nat, m ≤ 255 ∧ e = .returned (.int .i64 m)) ∧ Cur w0 g w' ∧ w.grownBy w' (some g) := by
  obtain ⟨A, n, c, i, h, xs, hn, hi, hx, hb, ho⟩ := hc
  obtain ⟨h2, hh2⟩ : ∃ h2, wrap64 (wrap64 (h * 6364136223846793005) + 1442695040888963407) = h2 := ⟨_, rfl⟩
  have c2 := ho.cellAt 2 (by omega)
  have f2 := ho.frozenAt 2
  have s2 := ho.stored 2 (.int .i64 h2)
  have d0 := s2.1.cellAt 0 (by omega)
  have d1 := s2.1.cellAt 1 (by omega)
  have d2 := s2.1.cellAt 2 (by omega)
  have e1 := s2.1.frozenAt 1
  simp only [List.getElem?_cons_zero, List.getElem?_cons_succ, List.set_cons_zero, List.set_cons_succ] at c2 d0 d1 d2
  have hlt := s2.1.lt g rfl
  have G2 := Lib.hid s2.2
  have O2 := Lib.hid s2.1
  have HB := Lib.hid (hb.grown s2.2 (by have := hb.size; omega) (by intro k hk; injection hk with e; omega))
  obtain ⟨w2, hw2⟩ : ∃ w2, w.setCell ⟨g, 2, none⟩ (.int .i64 h2) = w2 := ⟨_, rfl⟩
  rw [hw2] at d0 d1 d2 e1 G2 O2 HB hlt
  have HX := Lib.hid hx
  clear s2 ho hb hx
  by_cases hlt2 : i < n
  · obtain ⟨b, off, x, rfl, hb, hat, hcc⟩ := HX.out.elem hlt2
    have cx0 := hcc 0 _ rfl
    simp only [Nat.mul_one, Nat.add_zero] at cx0
    have cx : w2.cell? ⟨b, off + i, none⟩ = some (.int .u8 (x.toNat : Int)) := (HB.out.cell (p := ⟨b, off + i, none⟩) hb).trans cx0
    have Hat := Lib.hid hat
    have hg2 : b ≠ g := by omega
    clear hcc cx0 hat hb
    go_enter Try.func84, Try.ntmps84
    go_wp2_with fail
    clear c2 f2 hw2 hh2
    go_quiet (fail)
    go_wp2_with fail
    go_quiet (fail)
    go_wp2_with fail
    go_quiet (fail)
    go_wp2_with fail
    go_ret
    obtain ⟨m, hm, he⟩ := bits_low (wrap64 (bits BinOp.and IntKind.i64 (bits BinOp.xor IntKind.i64 (h2 / 8589934592) (h2 / 35184372088832)) 255 + wrap64 ↑x.toNat))
    exact ⟨⟨m, hm, by rw [he]; rfl⟩, cur_fin1 hn hlt2 HX.out HB.out O2.out G2.out _⟩
  · go_enter Try.func84, Try.ntmps84
    go_wp2_with fail
    clear c2 f2 hw2 hh2
    go_quiet (fail)
    go_wp2_with fail
    go_quiet (fail)
    go_wp2_with fail
    go_ret
    obtain ⟨m, hm, he⟩ := bits_low (bits BinOp.xor IntKind.i64 (h2 / 8589934592) (h2 / 35184372088832))
    exact ⟨⟨m, hm, by rw [he]; rfl⟩, cur_fin0 hn hi HX.out HB.out O2.out G2.out _ _⟩
set_option maxHeartbeats 1600000 in
set_option maxRecDepth 20000 in
theorem spec_l1Below (n : Int) (w0 : World) (g : Nat) (w : World) (hc : Cur w0 g w) (hn : n ≤ 1073741824) (hn0 : -1073741824 ≤ n) :
    Calls Try.prog 60 #[.pointer (some ⟨g, 0, none⟩), .int .i64 n] w fun e w' => (∃ m : Nat, (0 < n → (m : Int) < n) ∧ (n ≤ 0 → m = 0) ∧ e = .returned (.int .i64 m)) ∧ Cur w0 g w' ∧ w.grownBy w' (some g) := by
  by_cases h0 : n ≤ 0
  · have hc' := Lib.hid hc
    clear hc
    go_enter Try.func60, Try.ntmps60
    go_wp2_with fail
    go_ret
    exact ⟨⟨0, by omega, by omega, rfl⟩, hc'.out, World.grownBy.refl _ _⟩
  · have hnpos : 0 < n := by omega
    by_cases h1 : n ≤ 256
    · have C1 := Lib.hid (spec_l1Byte w0 g w hc)
      clear hc
      go_enter Try.func60, Try.ntmps60
      go_wp2_with fail
      refine C1.out.mono ?_
      rintro e w1 ⟨⟨m, hm, rfl⟩, hc1⟩
      have hc1 := Lib.hid hc1
      have e1 : (m : Int).tmod n = (m : Int) % n := Int.tmod_eq_emod_of_nonneg (by omega)
      have e2 : 0 ≤ (m : Int) % n := Int.emod_nonneg _ (by omega)
      have e3 : (m : Int) % n < n := Int.emod_lt_of_pos _ hnpos
      go_wp2_with fail
      go_ret
      refine ⟨⟨((m : Int) % n).toNat, by omega, by omega, ?_⟩, hc1.out⟩
      exact congrArg (fun z => Ending.returned (Value.int .i64 z)) (Int.toNat_of_nonneg e2).symm
    · have hc0 := Lib.hid hc
      clear hc
      go_enter Try.func60, Try.ntmps60
      go_wp2_with fail
      refine (spec_l1Byte w0 g _ hc0.out).mono ?_
      rintro e w1 ⟨⟨m1, hm1, rfl⟩, hc1, hg1⟩
      have hc1 := Lib.hid hc1
      have hg1 := Lib.hid hg1
      go_wp2_with fail
      refine (spec_l1Byte w0 g _ hc1.out).mono ?_
      rintro e w2 ⟨⟨m2, hm2, rfl⟩, hc2, hg2⟩
      have hc2 := Lib.hid hc2
      have hg2 := Lib.hid hg2
      go_wp2_with fail
      refine (spec_l1Byte w0 g _ hc2.out).mono ?_
      rintro e w3 ⟨⟨m3, hm3, rfl⟩, hc3, hg3⟩
      have hc3 := Lib.hid hc3
      have hg3 := Lib.hid hg3
      go_wp2_with fail
      refine (spec_l1Byte w0 g _ hc3.out).mono ?_
      rintro e w4 ⟨⟨m4, hm4, rfl⟩, hc4, hg4⟩
      have hc4 := Lib.hid hc4
      have HG4 := Lib.hid (gb_trans (gb_trans (gb_trans hg1.out hg2.out) hg3.out) hg4)
      clear hg4
      go_wp2_with fail
      go_ret
      have hs : 0 ≤ (m1 : Int) * 16777216 + m2 * 65536 + m3 * 256 + m4 := by omega
      have e2 : 0 ≤ ((m1 : Int) * 16777216 + m2 * 65536 + m3 * 256 + m4) % n := Int.emod_nonneg _ (by omega)
      have e3 : ((m1 : Int) * 16777216 + m2 * 65536 + m3 * 256 + m4) % n < n := Int.emod_lt_of_pos _ hnpos
      refine ⟨⟨(((m1 : Int) * 16777216 + m2 * 65536 + m3 * 256 + m4) % n).toNat, by omega, by omega, ?_⟩, hc4.out, HG4.out⟩
      exact congrArg (fun z => Ending.returned (Value.int .i64 z)) (Int.toNat_of_nonneg e2).symm
theorem spec_l1Once (n : Int) (w0 : World) (g : Nat) (w : World) (hc : Cur w0 g w) (hn : n ≤ 1073741824) (hn0 : -1073741824 ≤ n) :
    Calls Try.prog 83 #[.pointer (some ⟨g, 0, none⟩), .int .i64 n] w fun e w' => (∃ b : Bool, e = .returned (.bool b)) ∧ Cur w0 g w' ∧ w.grownBy w' (some g) := by
  have C1 := Lib.hid (spec_l1Below n w0 g w hc hn hn0)
  clear hc
  go_enter Try.func83, Try.ntmps83
  go_wp2_with fail
  refine C1.out.mono ?_
  rintro e w1 ⟨⟨m, _, _, rfl⟩, hc1⟩
  have hc1 := Lib.hid hc1
  go_wp2_with fail
  go_ret
  exact ⟨⟨_, rfl⟩, hc1.out⟩
set_option maxHeartbeats 1600000 in
theorem spec_l1PickInt (R : Int → Prop) (b n c : Nat) (w0 : World) (g : Nat) (w : World) (hc : Cur w0 g w) (hn : n ≤ 1000) (hn0 : 0 < n) (hb : b ≠ g) (vs : List Value) (hv : Holds w b vs) (hl : vs.length = n) (hr : ∀ v ∈ vs, ∃ x, R x ∧ v = (.int .i64 x : Value)) :
    Calls Try.prog 30 #[.pointer (some ⟨g, 0, none⟩), .slice (some ⟨b, 0, none⟩) n c] w fun e w' => (∃ x : Int, R x ∧ e = .returned (.int .i64 x)) ∧ Cur w0 g w' ∧ w.grownBy w' (some g) := by
  have C1 := Lib.hid (spec_l1Below n w0 g w hc (by omega) (by omega))
  clear hc
  go_enter Try.func30, Try.ntmps30
  go_wp2_with fail
  refine C1.out.mono ?_
  rintro e w1 ⟨⟨m, hm, _, rfl⟩, hc1, hg1⟩
  have hm' : m < n := by omega
  obtain ⟨x, hx, hcell0⟩ := hr (vs[m]'(by omega)) (List.getElem_mem _)
  have hcell := hv.2 m _ (List.getElem?_eq_getElem (by omega : m < vs.length))
  rw [hcell0] at hcell
  have hcell1 := Cur.pick (w0 := w0) hb hg1 hcell
  have hc1 := Lib.hid hc1
  have hg1 := Lib.hid hg1
  have hR := Lib.hid hx
  clear hr hx hcell hcell0 hv
  go_wp2_with fail
  go_ret
  exact ⟨⟨_, hR.out, rfl⟩, hc1.out, hg1.out⟩
set_option maxHeartbeats 1600000 in
theorem spec_l1Pick (R : ByteArray → Prop) (b n c : Nat) (w0 : World) (g : Nat) (w : World) (hc : Cur w0 g w) (hn : n ≤ 1000) (hn0 : 0 < n) (hb : b ≠ g) (vs : List Value) (hv : Holds w b vs) (hl : vs.length = n) (hr : ∀ v ∈ vs, ∃ x, R x ∧ v = (.string x : Value)) :
    Calls Try.prog 36 #[.pointer (some ⟨g, 0, none⟩), .slice (some ⟨b, 0, none⟩) n c] w fun e w' => (∃ x : ByteArray, R x ∧ e = .returned (.string x)) ∧ Cur w0 g w' ∧ w.grownBy w' (some g) := by
  have C1 := Lib.hid (spec_l1Below n w0 g w hc (by omega) (by omega))
  clear hc
  go_enter Try.func36, Try.ntmps36
  go_wp2_with fail
  refine C1.out.mono ?_
  rintro e w1 ⟨⟨m, hm, _, rfl⟩, hc1, hg1⟩
  have hm' : m < n := by omega
  obtain ⟨x, hx, hcell0⟩ := hr (vs[m]'(by omega)) (List.getElem_mem _)
  have hcell := hv.2 m _ (List.getElem?_eq_getElem (by omega : m < vs.length))
  rw [hcell0] at hcell
  have hcell1 := Cur.pick (w0 := w0) hb hg1 hcell
  have hc1 := Lib.hid hc1
  have hg1 := Lib.hid hg1
  have hR := Lib.hid hx
  clear hr hx hcell hcell0 hv
  go_wp2_with fail
  go_ret
  exact ⟨⟨_, hR.out, rfl⟩, hc1.out, hg1.out⟩

end Go.Proofs.Ythccfnoebbimjaa
