/-
  Walks: what each function returns, and that it leaves what lay in memory as it was.
-/
import Derived.Test.YtnphoodoheccoaaProg
import Derived.Test.YtnphoodoheccoaaPlain
import Derived.Test.YtnphoodoheccoaaBase2
import Derived.Test.YtnphoodoheccoaaOpen2
import Derived.Test.YtnphoodoheccoaaShelf
import Derived.WalkKit
import Derived.WalkSpells
import Derived.WalkLawsBesides
import Derived.Lib.Hide
import Derived.Deep.LoopGhost
import Derived.Deep.QuietTactic
import Derived.BigQuiet
import Derived.Handy
import Derived.Deep.RegionHeld3
import Derived.StillTailTactics
import Derived.OpenShut
import Derived.ChangeSame
import Derived.Laws.StructEq

import Derived.Test.YtnphoodoheccoaaPlainT

import Derived.Test.YtnphoodoheccoaaW1

namespace Go.Proofs.Ytnphoodoheccoaa
open Go.ChangeShapes Go.WideShapes Go.ChangeAt Go.RowKit Go.Deep
set_option linter.unusedVariables false
set_option linter.unusedSimpArgs false

set_option maxRecDepth 20000

/-! ### the draws: a cursor over the bytes that lay there at first; only its own block is written -/
theorem bits_low (y : Int) : ∃ m : Nat, m ≤ 255 ∧ bits .and .i64 y 255 = (m : Int) := by
  have h1 : (BitVec.ofInt 64 y &&& BitVec.ofInt 64 255).toNat ≤ 255 := by
    rw [BitVec.toNat_and]
    exact Nat.le_trans Nat.and_le_right (by decide)
  refine ⟨(BitVec.ofInt 64 y &&& BitVec.ofInt 64 255).toNat, h1, ?_⟩
  show IntKind.i64.wrap ((BitVec.ofInt 64 y &&& BitVec.ofInt 64 255).toNat : Int) = _
  generalize (BitVec.ofInt 64 y &&& BitVec.ofInt 64 255).toNat = m at h1
  simp only [IntKind.wrap, IntKind.min, IntKind.max, IntKind.bits, IntKind.signed]
  simp
  omega
def Cur (w0 : World) (g : Nat) (w : World) : Prop :=
  ∃ (A : Option Addr) (n c i : Nat) (h : Int) (xs : List UInt8), n ≤ 1048576 ∧ i ≤ n ∧ Rd encB 1 w0 A n xs ∧ Below w0.heap.size w0 w ∧
    w.ownsRow w0.heap.size 70 3 (.slice (some ⟨g, 0, none⟩) 1 1) 1 [.slice A n c, .int .i64 i, .int .i64 h]
theorem Cur.bel {w0 w : World} {g : Nat} (h : Cur w0 g w) : Below w0.heap.size w0 w := by obtain ⟨_, _, _, _, _, _, _, _, _, hb, _⟩ := h; exact hb
theorem Cur.lt {w0 w : World} {g : Nat} (h : Cur w0 g w) : w0.heap.size ≤ g ∧ g < w.heap.size := by obtain ⟨_, _, _, _, _, _, _, _, _, _, ho⟩ := h; exact ho.lt g rfl
theorem Cur.below {w0 w w' : World} {g : Nat} (h : Cur w0 g w) (hb : Below w.heap.size w w') : Cur w0 g w' := by
  obtain ⟨A, n, c, i, hh, xs, h1, h2, h3, h4, h5⟩ := h
  exact ⟨A, n, c, i, hh, xs, h1, h2, h3, h4.trans (hb.mono h4.size), own_below h5 hb⟩
theorem Cur.of_gb {w0 w w' : World} {g : Nat} (h : Cur w0 g w) (hb : w.grownBy w' (some g)) : Below w0.heap.size w0 w' :=
  h.bel.grown hb (by have := h.bel.size; omega) (by intro k hk; injection hk with e; have := h.lt; omega)
theorem cur_fin0 {w0 w w2 : World} {g n c i : Nat} {h : Int} {A : Option Addr} {xs : List UInt8} (hn : n ≤ 1048576) (hi : i ≤ n) (hx : Rd encB 1 w0 A n xs) (hb : Below w0.heap.size w0 w2)
    (ho : w2.ownsRow w0.heap.size 70 3 (.slice (some ⟨g, 0, none⟩) 1 1) 1 [.slice A n c, .int .i64 i, .int .i64 h]) (hg : w.grownBy w2 (some g)) (q r : Nat) :
    Cur w0 g ((w2.drewN q).drewN r) ∧ w.grownBy ((w2.drewN q).drewN r) (some g) :=
  ⟨⟨A, n, c, i, h, xs, hn, hi, hx, below_drewN (below_drewN hb q) r, own_drewN (own_drewN ho q) r⟩, gb_drewN (gb_drewN hg q) r⟩
theorem cur_fin1 {w0 w w2 : World} {g n c i : Nat} {h : Int} {A : Option Addr} {xs : List UInt8} (hn : n ≤ 1048576) (hi : i < n) (hx : Rd encB 1 w0 A n xs) (hb : Below w0.heap.size w0 w2)
    (ho : w2.ownsRow w0.heap.size 70 3 (.slice (some ⟨g, 0, none⟩) 1 1) 1 [.slice A n c, .int .i64 i, .int .i64 h]) (hg : w.grownBy w2 (some g)) (q : Nat) :
    Cur w0 g ((w2.drewN q).setCell ⟨g, 1, none⟩ (.int .i64 ((i : Int) + 1))) ∧ w.grownBy ((w2.drewN q).setCell ⟨g, 1, none⟩ (.int .i64 ((i : Int) + 1))) (some g) := by
  have s1 := (own_drewN ho q).stored 1 (.int .i64 ((i : Int) + 1))
  have hl := ho.lt g rfl
  refine ⟨⟨A, n, c, i + 1, h, xs, hn, hi, hx, (below_drewN hb q).grown s1.2 (Nat.le_of_lt (Nat.lt_of_le_of_lt hl.1 hl.2)) (by intro k hk; injection hk with e; omega), s1.1⟩, gb_trans (gb_drewN hg q) s1.2⟩
theorem Cur.pick {w0 w w' : World} {g b i : Nat} {v : Value} (hb : b ≠ g) (hg : w.grownBy w' (some g)) (hc : w.cell? ⟨b, i, none⟩ = some v) : w'.cell? ⟨b, i, none⟩ = some v := by
  have hl := World.block_lt_of_cell? w _ hc
  have h1 := hg.block b hl (by intro e; injection e with e; exact hb e)
  rw [← hc]
  unfold World.cell?
  simp only [h1]
theorem Cur.rd {w0 w w' : World} {g : Nat} {α : Type} {enc : α → List Value} {k : Nat} {A : Option Addr} {n : Nat} {xs : List α} (h : Cur w0 g w) (hx : Rd enc k w0 A n xs) : Rd enc k w A n xs := hx.below h.bel
theorem Cur.belowB {w0 w w' : World} {g B : Nat} (h : Cur w0 g w) (hb : Below B w w') (hB : g < B) : Cur w0 g w' := by
  have hl := h.lt
  obtain ⟨A, n, c, i, hh, xs, h1, h2, h3, h4, h5⟩ := h
  refine ⟨A, n, c, i, hh, xs, h1, h2, h3, h4.trans (hb.mono (by omega)), h5.1, ?_⟩
  rcases h5.2 with ⟨hn, _⟩ | ⟨g', cap, cur, hv, hg, hk, r⟩
  · cases hn
  · have e : g' = g := by injection hv with e; injection e with e; injection e with e; exact e.symm
    subst e
    exact .inr ⟨g', cap, cur, hv, hg, (hb.block g' hB).trans hk, r⟩
theorem gb_belowB {a b c : World} {g B : Nat} (h : a.grownBy b (some g)) (hb : Below B b c) (hB : a.heap.size ≤ B) : a.grownBy c (some g) :=
  ⟨hb.os.trans h.os, hb.tape.trans h.tape, hb.output.trans h.output, Nat.le_trans h.size hb.size, fun k hk hne => (hb.block k (by omega)).trans (h.block k hk hne)⟩
theorem Cur.gbelow {w0 w w' : World} {g : Nat} (h : Cur w0 g w) (hb : Below w.heap.size w w') : Cur w0 g w' ∧ w.grownBy w' (some g) := ⟨h.below hb, gb_below _ hb⟩
theorem byte_wrap (m : Nat) (h : m ≤ 255) : IntKind.u8.wrap (m : Int) = ((UInt8.ofNat m).toNat : Int) := by
  have h2 : (UInt8.ofNat m).toNat = m := UInt8.toNat_ofNat_of_lt' (by show m < 256; omega)
  rw [h2]
  simp only [IntKind.wrap, IntKind.min, IntKind.max, IntKind.bits, IntKind.signed]
  simp
  omega
theorem own_gb {w w' : World} {base g : Nat} {e : TypeId} {k n : Nat} {v : Value} {xs : List Value} (h : w.ownsRow base e k v n xs) (hg : w.grownBy w' (some g)) (hlt : g < base) : w'.ownsRow base e k v n xs :=
  h.kept hg (by
    rcases h.2 with ⟨rfl, _⟩ | ⟨g', cap, cur, rfl, hg', _⟩
    · exact .inl rfl
    · refine .inr fun e => ?_
      have e2 : g' = g := by injection e
      omega)

set_option maxHeartbeats 1600000 in
set_option maxRecDepth 20000 in
theorem spec_l1New (A : Option Addr) (n c : Nat) (xs : List UInt8) (w : World) (hn : n ≤ 1048576) (hx : Rd encB 1 w A n xs) :
    Calls Try.prog 19 #[.slice A n c] w fun e w' => e = .returned (.pointer (some ⟨w.heap.size, 0, none⟩)) ∧ Cur w w.heap.size w' ∧ Below w.heap.size w w' := by
  go_enter Try.func19, Try.ntmps19
  go_wp2_with fail
  go_loopw [3, 4] (fun h i wr => ∃ (j : Nat) (q : Int), j ≤ n ∧ i = .int .i64 j ∧ h = .int .i64 q ∧ wr = w) (fun _ i _ => n - (intOf i).toNat)
  case atStart => exact ⟨0, _, Nat.zero_le _, rfl, rfl, rfl⟩
  case round =>
    obtain ⟨j, q, hj, rfl, rfl, rfl⟩ := hrel
    by_cases hlt : j < n
    · obtain ⟨b, off, x, rfl, hb, hat, hc⟩ := hx.elem hlt
      have c0 := hc 0 _ rfl
      simp only [Nat.mul_one, Nat.add_zero] at c0
      have hat' := Lib.hid hat
      have hx' := Lib.hid hx
      clear hc hat hx
      by_cases h4 : j < 4000
      · go_wp2
        go_roundw
        case rel => exact ⟨j + 1, _, by omega, by go_num, rfl, trivial⟩
        case measure => simp [intOf]; omega
      · go_wp2
        go_ret
        refine ⟨rfl, ⟨_, n, c, 0, _, xs, hn, Nat.zero_le _, hx'.out, ?_, World.ownsRow_lit _ _ 1 (Nat.le_refl _) (by unfold maxLen; omega) (by rfl)⟩, ?_⟩
        · go_grown
        · go_grown
    · have hx' := Lib.hid hx
      clear hx
      go_wp2
      go_ret
      refine ⟨rfl, ⟨A, n, c, 0, _, xs, hn, Nat.zero_le _, hx'.out, ?_, World.ownsRow_lit _ _ 1 (Nat.le_refl _) (by unfold maxLen; omega) (by rfl)⟩, ?_⟩
      · go_grown
      · go_grown
set_option maxHeartbeats 1600000 in
set_option maxRecDepth 20000 in
theorem spec_l1Byte (w0 : World) (g : Nat) (w : World) (hc : Cur w0 g w) :
    Calls Try.prog 66 #[.pointer (some ⟨g, 0, none⟩)] w fun e w' => (∃ m : Nat, m ≤ 255 ∧ e = .returned (.int .i64 m)) ∧ Cur w0 g w' ∧ w.grownBy w' (some g) := by
  obtain ⟨A, n, c, i, h, xs, hn, hi, hx, hb, ho⟩ := hc
  obtain ⟨h2, hh2⟩ : ∃ h2, wrap64 (wrap64 (h * 6364136223846793005) + 1442695040888963407) = h2 := ⟨_, rfl⟩
  have c2 := ho.cellAt 2 (by omega)
  have f2 := ho.frozenAt 2
  have s2 := ho.stored 2 (.int .i64 h2)
  have d0 := s2.1.cellAt 0 (by omega)
  have d1 := s2.1.cellAt 1 (by omega)
  have d2 := s2.1.cellAt 2 (by omega)
  have e1 := s2.1.frozenAt 1
  simp only [List.getElem?_cons_zero, List.getElem?_cons_succ, List.set_cons_zero, List.set_cons_succ] at c2 d0 d1 d2
  have hlt := s2.1.lt g rfl
  have G2 := Lib.hid s2.2
  have O2 := Lib.hid s2.1
  have HB := Lib.hid (hb.grown s2.2 (by have := hb.size; omega) (by intro k hk; injection hk with e; omega))
  obtain ⟨w2, hw2⟩ : ∃ w2, w.setCell ⟨g, 2, none⟩ (.int .i64 h2) = w2 := ⟨_, rfl⟩
  rw [hw2] at d0 d1 d2 e1 G2 O2 HB hlt
  have HX := Lib.hid hx
  clear s2 ho hb hx
  by_cases hlt2 : i < n
  · obtain ⟨b, off, x, rfl, hb, hat, hcc⟩ := HX.out.elem hlt2
    have cx0 := hcc 0 _ rfl
    simp only [Nat.mul_one, Nat.add_zero] at cx0
    have cx : w2.cell? ⟨b, off + i, none⟩ = some (.int .u8 (x.toNat : Int)) := (HB.out.cell (p := ⟨b, off + i, none⟩) hb).trans cx0
    have Hat := Lib.hid hat
    have hg2 : b ≠ g := by omega
    clear hcc cx0 hat hb
    go_enter Try.func66, Try.ntmps66
    go_wp2_with fail
    clear c2 f2 hw2 hh2
    go_quiet (fail)
    go_wp2_with fail
    go_quiet (fail)
    go_wp2_with fail
    go_quiet (fail)
    go_wp2_with fail
    go_ret
    obtain ⟨m, hm, he⟩ := bits_low (wrap64 (bits BinOp.and IntKind.i64 (bits BinOp.xor IntKind.i64 (h2 / 8589934592) (h2 / 35184372088832)) 255 + wrap64 ↑x.toNat))
    exact ⟨⟨m, hm, by rw [he]; rfl⟩, cur_fin1 hn hlt2 HX.out HB.out O2.out G2.out _⟩
  · go_enter Try.func66, Try.ntmps66
    go_wp2_with fail
    clear c2 f2 hw2 hh2
    go_quiet (fail)
    go_wp2_with fail
    go_quiet (fail)
    go_wp2_with fail
    go_ret
    obtain ⟨m, hm, he⟩ := bits_low (bits BinOp.xor IntKind.i64 (h2 / 8589934592) (h2 / 35184372088832))
    exact ⟨⟨m, hm, by rw [he]; rfl⟩, cur_fin0 hn hi HX.out HB.out O2.out G2.out _ _⟩
set_option maxHeartbeats 1600000 in
set_option maxRecDepth 20000 in
theorem spec_l1Below (n : Int) (w0 : World) (g : Nat) (w : World) (hc : Cur w0 g w) (hn : n ≤ 1073741824) (hn0 : -1073741824 ≤ n) :
    Calls Try.prog 46 #[.pointer (some ⟨g, 0, none⟩), .int .i64 n] w fun e w' => (∃ m : Nat, (0 < n → (m : Int) < n) ∧ (n ≤ 0 → m = 0) ∧ e = .returned (.int .i64 m)) ∧ Cur w0 g w' ∧ w.grownBy w' (some g) := by
  by_cases h0 : n ≤ 0
  · have hc' := Lib.hid hc
    clear hc
    go_enter Try.func46, Try.ntmps46
    go_wp2_with fail
    go_ret
    exact ⟨⟨0, by omega, by omega, rfl⟩, hc'.out, World.grownBy.refl _ _⟩
  · have hnpos : 0 < n := by omega
    by_cases h1 : n ≤ 256
    · have C1 := Lib.hid (spec_l1Byte w0 g w hc)
      clear hc
      go_enter Try.func46, Try.ntmps46
      go_wp2_with fail
      refine C1.out.mono ?_
      rintro e w1 ⟨⟨m, hm, rfl⟩, hc1⟩
      have hc1 := Lib.hid hc1
      have e1 : (m : Int).tmod n = (m : Int) % n := Int.tmod_eq_emod_of_nonneg (by omega)
      have e2 : 0 ≤ (m : Int) % n := Int.emod_nonneg _ (by omega)
      have e3 : (m : Int) % n < n := Int.emod_lt_of_pos _ hnpos
      go_wp2_with fail
      go_ret
      refine ⟨⟨((m : Int) % n).toNat, by omega, by omega, ?_⟩, hc1.out⟩
      exact congrArg (fun z => Ending.returned (Value.int .i64 z)) (Int.toNat_of_nonneg e2).symm
    · have hc0 := Lib.hid hc
      clear hc
      go_enter Try.func46, Try.ntmps46
      go_wp2_with fail
      refine (spec_l1Byte w0 g _ hc0.out).mono ?_
      rintro e w1 ⟨⟨m1, hm1, rfl⟩, hc1, hg1⟩
      have hc1 := Lib.hid hc1
      have hg1 := Lib.hid hg1
      go_wp2_with fail
      refine (spec_l1Byte w0 g _ hc1.out).mono ?_
      rintro e w2 ⟨⟨m2, hm2, rfl⟩, hc2, hg2⟩
      have hc2 := Lib.hid hc2
      have hg2 := Lib.hid hg2
      go_wp2_with fail
      refine (spec_l1Byte w0 g _ hc2.out).mono ?_
      rintro e w3 ⟨⟨m3, hm3, rfl⟩, hc3, hg3⟩
      have hc3 := Lib.hid hc3
      have hg3 := Lib.hid hg3
      go_wp2_with fail
      refine (spec_l1Byte w0 g _ hc3.out).mono ?_
      rintro e w4 ⟨⟨m4, hm4, rfl⟩, hc4, hg4⟩
      have hc4 := Lib.hid hc4
      have HG4 := Lib.hid (gb_trans (gb_trans (gb_trans hg1.out hg2.out) hg3.out) hg4)
      clear hg4
      go_wp2_with fail
      go_ret
      have hs : 0 ≤ (m1 : Int) * 16777216 + m2 * 65536 + m3 * 256 + m4 := by omega
      have e2 : 0 ≤ ((m1 : Int) * 16777216 + m2 * 65536 + m3 * 256 + m4) % n := Int.emod_nonneg _ (by omega)
      have e3 : ((m1 : Int) * 16777216 + m2 * 65536 + m3 * 256 + m4) % n < n := Int.emod_lt_of_pos _ hnpos
      refine ⟨⟨(((m1 : Int) * 16777216 + m2 * 65536 + m3 * 256 + m4) % n).toNat, by omega, by omega, ?_⟩, hc4.out, HG4.out⟩
      exact congrArg (fun z => Ending.returned (Value.int .i64 z)) (Int.toNat_of_nonneg e2).symm
theorem spec_l1Once (n : Int) (w0 : World) (g : Nat) (w : World) (hc : Cur w0 g w) (hn : n ≤ 1073741824) (hn0 : -1073741824 ≤ n) :
    Calls Try.prog 65 #[.pointer (some ⟨g, 0, none⟩), .int .i64 n] w fun e w' => (∃ b : Bool, e = .returned (.bool b)) ∧ Cur w0 g w' ∧ w.grownBy w' (some g) := by
  have C1 := Lib.hid (spec_l1Below n w0 g w hc hn hn0)
  clear hc
  go_enter Try.func65, Try.ntmps65
  go_wp2_with fail
  refine C1.out.mono ?_
  rintro e w1 ⟨⟨m, _, _, rfl⟩, hc1⟩
  have hc1 := Lib.hid hc1
  go_wp2_with fail
  go_ret
  exact ⟨⟨_, rfl⟩, hc1.out⟩
set_option maxHeartbeats 1600000 in
theorem spec_l1PickInt (R : Int → Prop) (b n c : Nat) (w0 : World) (g : Nat) (w : World) (hc : Cur w0 g w) (hn : n ≤ 1000) (hn0 : 0 < n) (hb : b ≠ g) (vs : List Value) (hv : Holds w b vs) (hl : vs.length = n) (hr : ∀ v ∈ vs, ∃ x, R x ∧ v = (.int .i64 x : Value)) :
    Calls Try.prog 23 #[.pointer (some ⟨g, 0, none⟩), .slice (some ⟨b, 0, none⟩) n c] w fun e w' => (∃ x : Int, R x ∧ e = .returned (.int .i64 x)) ∧ Cur w0 g w' ∧ w.grownBy w' (some g) := by
  have C1 := Lib.hid (spec_l1Below n w0 g w hc (by omega) (by omega))
  clear hc
  go_enter Try.func23, Try.ntmps23
  go_wp2_with fail
  refine C1.out.mono ?_
  rintro e w1 ⟨⟨m, hm, _, rfl⟩, hc1, hg1⟩
  have hm' : m < n := by omega
  obtain ⟨x, hx, hcell0⟩ := hr (vs[m]'(by omega)) (List.getElem_mem _)
  have hcell := hv.2 m _ (List.getElem?_eq_getElem (by omega : m < vs.length))
  rw [hcell0] at hcell
  have hcell1 := Cur.pick (w0 := w0) hb hg1 hcell
  have hc1 := Lib.hid hc1
  have hg1 := Lib.hid hg1
  have hR := Lib.hid hx
  clear hr hx hcell hcell0 hv
  go_wp2_with fail
  go_ret
  exact ⟨⟨_, hR.out, rfl⟩, hc1.out, hg1.out⟩
set_option maxHeartbeats 1600000 in
theorem spec_l1Pick (R : ByteArray → Prop) (b n c : Nat) (w0 : World) (g : Nat) (w : World) (hc : Cur w0 g w) (hn : n ≤ 1000) (hn0 : 0 < n) (hb : b ≠ g) (vs : List Value) (hv : Holds w b vs) (hl : vs.length = n) (hr : ∀ v ∈ vs, ∃ x, R x ∧ v = (.string x : Value)) :
    Calls Try.prog 21 #[.pointer (some ⟨g, 0, none⟩), .slice (some ⟨b, 0, none⟩) n c] w fun e w' => (∃ x : ByteArray, R x ∧ e = .returned (.string x)) ∧ Cur w0 g w' ∧ w.grownBy w' (some g) := by
  have C1 := Lib.hid (spec_l1Below n w0 g w hc (by omega) (by omega))
  clear hc
  go_enter Try.func21, Try.ntmps21
  go_wp2_with fail
  refine C1.out.mono ?_
  rintro e w1 ⟨⟨m, hm, _, rfl⟩, hc1, hg1⟩
  have hm' : m < n := by omega
  obtain ⟨x, hx, hcell0⟩ := hr (vs[m]'(by omega)) (List.getElem_mem _)
  have hcell := hv.2 m _ (List.getElem?_eq_getElem (by omega : m < vs.length))
  rw [hcell0] at hcell
  have hcell1 := Cur.pick (w0 := w0) hb hg1 hcell
  have hc1 := Lib.hid hc1
  have hg1 := Lib.hid hg1
  have hR := Lib.hid hx
  clear hr hx hcell hcell0 hv
  go_wp2_with fail
  go_ret
  exact ⟨⟨_, hR.out, rfl⟩, hc1.out, hg1.out⟩

set_option maxHeartbeats 1600000 in
set_option maxRecDepth 20000 in
theorem spec_l1Bytes (m : Nat) (w0 : World) (g : Nat) (w : World) (hc : Cur w0 g w) (hm : m ≤ 1000) :
    Calls Try.prog 67 #[.pointer (some ⟨g, 0, none⟩), .int .i64 m] w fun e w' => (∃ (A : Option Addr) (c : Nat) (l : Str), l.length = m ∧ e = .returned (.slice A l.length c) ∧ w'.ownsRow w.heap.size 5 1 (.slice A l.length c) l.length (l.flatMap encB)) ∧ Cur w0 g w' ∧ w.grownBy w' (some g) := by
  have hnew := World.ownsRow_made (base := w.heap.size) (e := 5) (size := 1) w #[] 0 (Nat.le_refl _) (by unfold maxLen; omega) rfl
  have HC := Lib.hid hc
  have hgl := hc.lt
  clear hc
  go_enter Try.func67, Try.ntmps67
  go_wp2_with fail
  go_loopw [5, 6] (fun o i wr => ∃ (k : Nat) (l : Str), k ≤ m ∧ i = .int .i64 k ∧ l.length = k ∧ wr.ownsRow w.heap.size 5 1 o l.length (l.flatMap encB) ∧ Cur w0 g wr ∧ w.grownBy wr (some g)) (fun _ i _ => m - (intOf i).toNat)
  case atStart => exact ⟨0, [], by omega, rfl, rfl, hnew, HC.out.below (by go_grown), gb_below _ (by go_grown)⟩
  case round =>
    obtain ⟨k, l, hk, rfl, hl, ho, hc, hg⟩ := hrel
    have HO := Lib.hid ho
    have HCC := Lib.hid hc
    have HG := Lib.hid hg
    clear ho hc hg hnew
    by_cases hlt : k < m
    · go_wp2_with fail
      refine (spec_l1Byte w0 g wr HCC.out).mono ?_
      rintro e w1 ⟨⟨x, hx, rfl⟩, hc1, hg1⟩
      have hbw := byte_wrap x hx
      have ho1 := HO.out.kept hg1 (by
        rcases HO.out.2 with ⟨rfl, _⟩ | ⟨g', cap, cur, rfl, hg', _⟩
        · exact .inl rfl
        · refine .inr fun e => ?_
          have e2 : g' = g := by injection e
          omega)
      have hown2 := ho1.alloc (.cells #[.int .u8 ((UInt8.ofNat x).toNat : Int)] 5)
      have hrd := Rd.new (enc := encB) (k := 1) (fun _ => rfl) w1 #[.int .u8 ((UInt8.ofNat x).toNat : Int)] 5 (n := 1) [UInt8.ofNat x] (by rfl) rfl
      have HC2 := Lib.hid (hc1.below ((Below.refl _ _).alloc (Nat.le_refl _) (.cells #[.int .u8 ((UInt8.ofNat x).toNat : Int)] 5)))
      have HG2 := Lib.hid (gb_trans HG.out (gb_trans hg1 (gb_below _ ((Below.refl _ _).alloc (Nat.le_refl _) (.cells #[.int .u8 ((UInt8.ofNat x).toNat : Int)] 5)))))
      have Hown2 := Lib.hid hown2
      have Hrd := Lib.hid hrd
      have HZ := Lib.hid (Nat.le_trans HG.out.size hg1.size)
      clear ho1 hown2 hrd hc1 hg1
      go_wp2_with (at_builtin; refine wpList_app (enc := encB) (k := 1) (fun _ => rfl) (fun _ u hu => by simp at hu; subst hu; rfl) (by omega) rfl _ _ 22 5 rfl (.int .u8 0) 1 Try.underlying22 (by kernel_rfl) rfl w.heap.size _ l rfl Hown2.out _ _ _ _ rfl Hrd.out (by omega) (by omega) (by have := HZ.out; simp; omega) ?_; intro v' w' hown' hbel')
      go_roundw
      case rel => exact ⟨k + 1, l ++ [UInt8.ofNat x], by omega, by go_num, by simp; omega, hown', HC2.out.belowB hbel' (by omega), gb_belowB HG2.out hbel' (Nat.le_refl _)⟩
      case measure => simp [intOf]; omega
    · have hke : k = m := by omega
      subst hke
      go_wp2_with fail
      go_ret
      rcases own_form HO.out with ⟨A, c, rfl⟩
      exact ⟨⟨A, c, l, hl, rfl, HO.out⟩, HCC.out, HG.out⟩

set_option maxHeartbeats 1600000 in
theorem spec_l2NameG (w0 : World) (g : Nat) (w : World) (hc : Cur w0 g w) :
    Calls Try.prog 22 #[.pointer (some ⟨g, 0, none⟩)] w fun e w' => (∃ s : ByteArray, s.size ≤ 100 ∧ e = .returned (.string s)) ∧ Cur w0 g w' ∧ w.grownBy w' (some g) := by
  have hc1 := Lib.hid hc
  clear hc
  go_enter Try.func22, Try.ntmps22
  go_wp2_with fail
  refine (spec_l1Pick (fun s => s.size ≤ 100) _ 7 7 w0 g _ (hc1.out.below (by go_grown)) (by omega) (by omega) (by have := hc1.out.lt; omega) _ (Holds.new _ _ _) rfl ?_).mono ?_
  · intro v hv
    simp at hv
    rcases hv with rfl | rfl | rfl | rfl | rfl | rfl | rfl <;> exact ⟨_, by decide, rfl⟩
  rintro e w3 ⟨⟨s, hs, rfl⟩, hc3, hg3⟩
  have hc3 := Lib.hid hc3
  have HG := Lib.hid (gb_trans (gb_below (some g) ((Below.refl w.heap.size w).alloc (Nat.le_refl _) _)) hg3)
  clear hg3
  go_wp2_with fail
  go_ret
  exact ⟨⟨s, hs, rfl⟩, hc3.out, HG.out⟩
set_option maxHeartbeats 3200000 in
theorem spec_l2AnyG (w0 : World) (g : Nat) (w : World) (hc : Cur w0 g w) :
    Calls Try.prog 48 #[.pointer (some ⟨g, 0, none⟩)] w fun e w' => (∃ s : ByteArray, s.size ≤ 100 ∧ e = .returned (.string s)) ∧ Cur w0 g w' ∧ w.grownBy w' (some g) := by
  have C1 := Lib.hid (spec_l1Below 4 w0 g w hc (by omega) (by omega))
  clear hc
  go_enter Try.func48, Try.ntmps48
  go_wp2_with fail
  refine C1.out.mono ?_
  rintro e w1 ⟨⟨m, hm, _, rfl⟩, hc1, hg1⟩
  have hc1 := Lib.hid hc1
  have HG1 := Lib.hid hg1
  clear hg1
  by_cases h0 : m = 0
  · subst h0
    go_wp2_with fail
    refine (spec_l1Pick (fun s => s.size ≤ 100) _ 17 17 w0 g _ (hc1.out.below (by go_grown)) (by omega) (by omega) (by have := hc1.out.lt; omega) _ (Holds.new _ _ _) rfl ?_).mono ?_
    · intro v hv
      simp only [List.mem_cons, List.not_mem_nil, or_false] at hv
      rcases hv with rfl | rfl | rfl | rfl | rfl | rfl | rfl | rfl | rfl | rfl | rfl | rfl | rfl | rfl | rfl | rfl | rfl <;> exact ⟨_, by decide, rfl⟩
    rintro e w3 ⟨⟨s, hs, rfl⟩, hc3, hg3⟩
    have hc3 := Lib.hid hc3
    have HG := Lib.hid (gb_trans HG1.out (gb_trans (gb_below (some g) ((Below.refl w1.heap.size w1).alloc (Nat.le_refl _) _)) hg3))
    clear hg3
    go_wp2_with fail
    go_ret
    exact ⟨⟨s, hs, rfl⟩, hc3.out, HG.out⟩
  · by_cases h1 : m = 1
    · subst h1
      go_wp2_with fail
      refine (spec_l1Below 4 w0 g _ hc1.out (by omega) (by omega)).mono ?_
      rintro e w3 ⟨⟨k, hk, _, rfl⟩, hc3, hg3⟩
      have hc3 := Lib.hid hc3
      have HG3 := Lib.hid (gb_trans HG1.out hg3)
      clear hg3
      go_wp2_with fail
      refine (spec_l1Bytes k w0 g _ hc3.out (by omega)).mono ?_
      rintro e w4 ⟨⟨A4, c4, l, hl, rfl, ho⟩, hc4, hg4⟩
      have hc4 := Lib.hid hc4
      have HG4 := Lib.hid (gb_trans HG3.out hg4)
      clear hg4
      have hrd := Rd.of_own (enc := encB) (k := 1) (fun _ => rfl) ho rfl
      have HR := Lib.hid (fun (c : Nat) => run_ofBytes (P := Try.prog) 22 9 5 Try.underlying22 Try.underlying5 Try.underlying9 hrd c)
      have HLL := Lib.hid hl
      clear hrd ho hl
      obtain ⟨Z, hZ⟩ : ∃ Z : ByteArray, (⟨l.toArray⟩ : ByteArray) = Z := ⟨_, rfl⟩
      rw [hZ] at HR
      have HZ := Lib.hid hZ
      clear hZ
      have hr := HR.out c4
      go_wp2_with fail
      go_ret
      refine ⟨⟨Z, ?_, rfl⟩, hc4.out, HG4.out⟩
      rw [← HZ.out, size_len]
      simp only [List.toList_toArray]
      have := HLL.out
      omega
    · go_wp2_with fail
      refine (spec_l2NameG w0 g _ hc1.out).mono ?_
      rintro e w2 ⟨⟨x, hx, rfl⟩, hc2, hg2⟩
      have hc2 := Lib.hid hc2
      have HG2 := Lib.hid (gb_trans HG1.out hg2)
      clear hg2
      go_wp2_with fail
      go_ret
      exact ⟨⟨_, hx, rfl⟩, hc2.out, HG2.out⟩

end Go.Proofs.Ytnphoodoheccoaa
