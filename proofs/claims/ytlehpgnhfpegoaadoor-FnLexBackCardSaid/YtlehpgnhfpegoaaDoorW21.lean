/-
  Walks: what each function returns, and that it leaves what lay in memory as it was.
-/
import Derived.Test.YtlehpgnhfpegoaaDoorProg
import Derived.Test.YtlehpgnhfpegoaaDoorPlain
import Derived.Test.YtlehpgnhfpegoaaDoorBase2
import Derived.Test.YtlehpgnhfpegoaaDoorOpen2
import Derived.Test.YtlehpgnhfpegoaaDoorShelf
import Derived.WalkKit
import Derived.WalkSpells
import Derived.WalkLawsBesides
import Derived.Lib.Hide
import Derived.Deep.LoopGhost
import Derived.Deep.QuietTactic
import Derived.BigQuiet
import Derived.Handy
import Derived.Deep.RegionHeld3
import Derived.StillTailTactics
import Derived.OpenShut
import Derived.ChangeSame
import Derived.Laws.StructEq

import Derived.Test.YtlehpgnhfpegoaaDoorPlainT

import Derived.Test.YtlehpgnhfpegoaaDoorW1

import Derived.Test.YtlehpgnhfpegoaaDoorW2

import Derived.Test.YtlehpgnhfpegoaaDoorW3

import Derived.Test.YtlehpgnhfpegoaaDoorW4

import Derived.Test.YtlehpgnhfpegoaaDoorW5

import Derived.Test.YtlehpgnhfpegoaaDoorW6

import Derived.Test.YtlehpgnhfpegoaaDoorBase3

import Derived.Lib.ItoaMem
import Derived.Lib.ItoaLen
import Derived.Lib.LaidTab

import Derived.Lib.AtoiTie
import Derived.Lib.AtoiBound
import Derived.Lib.ConvBytes

import Derived.Test.YtlehpgnhfpegoaaDoorW20

namespace Go.Proofs.YtlehpgnhfpegoaaDoor
open Go.ChangeShapes Go.WideShapes Go.ChangeAt Go.RowKit Go.Deep
set_option linter.unusedVariables false
set_option linter.unusedSimpArgs false

set_option maxRecDepth 20000

def Bent4 (w0 w w1 : World) (g : Nat) (t : Token) (W : World) : Prop :=
  Cur w0 g W ∧ w.grownBy W (some g) ∧ w1.heap.size ≤ W.heap.size ∧ W.ownsRow w.heap.size 34 2 (.slice (some ⟨w.heap.size, 0, none⟩) 1 1) 1 [.int .i64 0, .string ⟨#[]⟩] ∧ W.ownsRow w1.heap.size 34 2 (.slice (some ⟨w1.heap.size, 0, none⟩) 1 1) 1 [.int .i64 t.kind, .string t.text]
theorem Bent4.below {w0 w w1 W W' : World} {g : Nat} {t : Token} (h : Bent4 w0 w w1 g t W) (hb : Below W.heap.size W W') : Bent4 w0 w w1 g t W' :=
  ⟨h.1.below hb, gb_trans h.2.1 (gb_below (some g) hb), Nat.le_trans h.2.2.1 hb.size, own_below h.2.2.2.1 hb, own_below h.2.2.2.2 hb⟩
theorem Bent4.gb {w0 w w1 W W' : World} {g : Nat} {t : Token} (h : Bent4 w0 w w1 g t W) (hc : Cur w0 g W') (hg : W.grownBy W' (some g)) (h1 : g < w.heap.size) (h2 : g < w1.heap.size) : Bent4 w0 w w1 g t W' :=
  ⟨hc, gb_trans h.2.1 hg, Nat.le_trans h.2.2.1 hg.size, own_gb h.2.2.2.1 hg h1, own_gb h.2.2.2.2 hg h2⟩
theorem Bent4.t0 {w0 w w1 W : World} {g : Nat} {t : Token} (h : Bent4 w0 w w1 g t W) : W.cell? ⟨w1.heap.size, 0, none⟩ = some (.int .i64 t.kind) := h.2.2.2.2.cellAt 0 (by omega)
theorem Bent4.t1 {w0 w w1 W : World} {g : Nat} {t : Token} (h : Bent4 w0 w w1 g t W) : W.cell? ⟨w1.heap.size, 1, none⟩ = some (.string t.text) := h.2.2.2.2.cellAt 1 (by omega)
theorem Bent4.tf {w0 w w1 W : World} {g : Nat} {t : Token} (h : Bent4 w0 w w1 g t W) (j : Nat) : W.frozen? ⟨w1.heap.size, j, none⟩ = false := h.2.2.2.2.frozenAt j
theorem Bent4.q0 {w0 w w1 W : World} {g : Nat} {t : Token} (h : Bent4 w0 w w1 g t W) : W.cell? ⟨w.heap.size, 0, none⟩ = some (.int .i64 0) := h.2.2.2.1.cellAt 0 (by omega)
theorem Bent4.q1 {w0 w w1 W : World} {g : Nat} {t : Token} (h : Bent4 w0 w w1 g t W) : W.cell? ⟨w.heap.size, 1, none⟩ = some (.string ⟨#[]⟩) := h.2.2.2.1.cellAt 1 (by omega)
theorem Bent4.qf {w0 w w1 W : World} {g : Nat} {t : Token} (h : Bent4 w0 w w1 g t W) (j : Nat) : W.frozen? ⟨w.heap.size, j, none⟩ = false := h.2.2.2.1.frozenAt j
theorem bent_below2 {w0 w w1 : World} {g : Nat} {t : Token} (h1 : g < w.heap.size) (h2 : g < w1.heap.size) (W : World) (h : Bent4 w0 w w1 g t W) :
    Calls Tryd.prog 39 #[.pointer (some ⟨g, 0, none⟩), .int .i64 2] W fun e W' => (∃ m : Nat, m < 2 ∧ e = .returned (.int .i64 m)) ∧ Bent4 w0 w w1 g t W' ∧ W.grownBy W' (some g) :=
  (spec_l1Below 2 w0 g W h.1 (by omega) (by omega)).mono (by
    rintro e w' ⟨⟨m, hm, _, rfl⟩, hc, hg⟩
    exact ⟨⟨m, by omega, rfl⟩, h.gb hc hg h1 h2, hg⟩)
theorem bent_pick {w0 w w1 : World} {g : Nat} {t : Token} (h1 : g < w.heap.size) (h2 : g < w1.heap.size) (W : World) (h : Bent4 w0 w w1 g t W) (b : Nat) (hb : b ≠ g) (hv : Holds W b [.string ⟨#[]⟩, .string ⟨#[10]⟩]) :
    Calls Tryd.prog 42 #[.pointer (some ⟨g, 0, none⟩), .slice (some ⟨b, 0, none⟩) 2 2] W fun e W' => (∃ s : ByteArray, s.size ≤ 100 ∧ e = .returned (.string s)) ∧ Bent4 w0 w w1 g t W' ∧ W.grownBy W' (some g) :=
  (spec_l1Pick (fun s => s.size ≤ 100) b 2 2 w0 g W h.1 (by omega) (by omega) hb _ hv rfl (by
    intro v hv
    simp at hv
    rcases hv with rfl | rfl <;> exact ⟨_, by decide, rfl⟩)).mono (by
    rintro e w' ⟨⟨s, hs, rfl⟩, hc, hg⟩
    exact ⟨⟨s, hs, rfl⟩, h.gb hc hg h1 h2, hg⟩)
theorem Holds.gb {W W' : World} {b g : Nat} {vs : List Value} (h : Holds W b vs) (hb : b ≠ g) (hg : W.grownBy W' (some g)) : Holds W' b vs :=
  ⟨Nat.lt_of_lt_of_le h.1 hg.size, fun i v hi => Cur.pick (w0 := W) hb hg (h.2 i v hi)⟩
theorem b41 (i j : Nat) (s : ByteArray) : (((⟨#[49, 50, 51, 52, 53, 54, 55, 56, 57, 48, 49, 50, 51, 52, 53, 54, 55, 56, 57, 48, 49, 50, 51, 52, 53, 54, 55, 56, 57, 48, 49, 50, 51, 52, 53, 54, 55, 56, 57, 48, 49]⟩ : ByteArray).extract i j) ++ s).size ≤ 41 + s.size := by
  rw [ba_size_app]
  exact Nat.add_le_add_right (Nat.le_trans (ba_size_ext _ _ _) (Nat.le_refl 41)) _
theorem bent_ex (k : Int) (x : ByteArray) (h : x.size ≤ 200) : ∃ t : Token, t.text.size ≤ 200 ∧ (Ending.returned (.agg #[.int .i64 k, .string x]) : Ending) = .returned (.agg #[.int .i64 t.kind, .string t.text]) := ⟨⟨k, x⟩, h, rfl⟩
theorem lit_in (m : Nat) (hm : m < 2) : (0 : Int) ≤ IntKind.i64.wrap (40 + (m : Int)) ∧ IntKind.i64.wrap (40 + (m : Int)) ≤ 41 := by
  have h : IntKind.i64.wrap (40 + (m : Int)) = 40 + (m : Int) := by
    simp only [IntKind.wrap, IntKind.min, IntKind.max, IntKind.bits, IntKind.signed]
    simp
    omega
  rw [h]
  omega
set_option maxHeartbeats 6400000 in
theorem spec_l3Bent (w0 : World) (g : Nat) (w : World) (hc : Cur w0 g w) :
    Calls Tryd.prog 26 #[.pointer (some ⟨g, 0, none⟩)] w fun e w' => (∃ t : Token, t.text.size ≤ 200 ∧ e = .returned (.agg #[.int .i64 t.kind, .string t.text])) ∧ Cur w0 g w' ∧ w.grownBy w' (some g) := by
  have hgl := hc.lt
  have hal : Below w.heap.size w (w.alloc (.cells #[.int .i64 0, .string ⟨#[]⟩] 34)) := (Below.refl _ _).alloc (Nat.le_refl _) _
  have HC0 := Lib.hid (hc.below hal)
  have HG0 := Lib.hid (gb_below (some g) hal)
  have HP := Lib.hid (World.ownsRow_lit (base := w.heap.size) (e := 34) (size := 2) w #[.int .i64 0, .string ⟨#[]⟩] 1 (Nat.le_refl _) (by unfold maxLen; omega) rfl)
  clear hc hal
  go_enter Tryd.func26, Tryd.ntmps26
  go_wp2_with fail
  refine (spec_l3Token w0 g _ HC0.out).mono ?_
  rintro e w1 ⟨⟨t, ht, rfl⟩, hc1, hg1⟩
  have HP1 := Lib.hid (own_gb HP.out hg1 hgl.2)
  have HC1 := Lib.hid hc1
  have HG1 := Lib.hid (gb_trans HG0.out hg1)
  have hw1 := HG1.out.size
  have hw1s : w.heap.size < w1.heap.size := by have := hg1.size; simp at this; omega
  have hal : Below w1.heap.size w1 (w1.alloc (.cells #[.int .i64 t.kind, .string t.text] 34)) := (Below.refl _ _).alloc (Nat.le_refl _) _
  have HC2 := Lib.hid (hc1.below hal)
  have HG2 := Lib.hid (gb_trans HG1.out (gb_below (some g) hal))
  have HP2 := Lib.hid (own_below HP1.out hal)
  have HT2 := Lib.hid (World.ownsRow_lit (base := w1.heap.size) (e := 34) (size := 2) w1 #[.int .i64 t.kind, .string t.text] 1 (Nat.le_refl _) (by unfold maxLen; omega) rfl)
  clear hc1 hg1 HC0 HG0 HP HC1 HG1 HP1 hal
  have hgw : g < w1.heap.size := by omega
  go_wp2_with fail
  refine (spec_l1Below 8 w0 g _ HC2.out (by omega) (by omega)).mono ?_
  rintro e w3 ⟨⟨m, hm, _, rfl⟩, hc3, hg3⟩
  have HP3 := Lib.hid (own_gb HP2.out hg3 hgl.2)
  have HT3 := Lib.hid (own_gb HT2.out hg3 hgw)
  have HC3 := Lib.hid hc3
  have HG3 := Lib.hid (gb_trans HG2.out hg3)
  have hT3 : w1.heap.size ≤ w3.heap.size := by have := hg3.size; simp at this; omega
  clear hc3 hg3 HC2 HG2 HP2 HT2
  by_cases h0 : m = 0
  · subst h0
    go_wp2_with fail
    refine (spec_l1Below 7 w0 g _ HC3.out (by omega) (by omega)).mono ?_
    rintro e w4 ⟨⟨x, hx, _, rfl⟩, hc4, hg4⟩
    have HP4 := Lib.hid (own_gb HP3.out hg4 hgl.2)
    have HT4 := Lib.hid (own_gb HT3.out hg4 hgw)
    have HC4 := Lib.hid hc4
    have HG4 := Lib.hid (gb_trans HG3.out hg4)
    have hT4 : w1.heap.size ≤ w4.heap.size := by have := hg4.size; omega
    clear hc4 hg4
    have e0 := HT4.out.cellAt 0 (by omega)
    have e1 := HT4.out.cellAt 1 (by omega)
    have ef0 := HT4.out.frozenAt 0
    have ef1 := HT4.out.frozenAt 1
    simp only [List.getElem?_cons_zero, List.getElem?_cons_succ] at e0 e1
    have q0 := HP4.out.cellAt 0 (by omega)
    have q1 := HP4.out.cellAt 1 (by omega)
    have qf0 := HP4.out.frozenAt 0
    have qf1 := HP4.out.frozenAt 1
    simp only [List.getElem?_cons_zero, List.getElem?_cons_succ] at q0 q1
    go_wp2
    refine bodyPost_ret (by simp [results, Tryd.results26, go_sem, q0, q1, e0, e1]; try rfl) rfl ?_
    exact ⟨⟨⟨(x : Int) - 1, t.text⟩, by show t.text.size ≤ 200; omega, rfl⟩, HC4.out.belowB (B := w.heap.size) (by (repeat (with_reducible refine Below.setCell ?_ ?_ _)) <;> first | exact Below.refl _ _ | (simp only []; omega)) hgl.2, gb_belowB (B := w.heap.size) HG4.out (by (repeat (with_reducible refine Below.setCell ?_ ?_ _)) <;> first | exact Below.refl _ _ | (simp only []; omega)) (Nat.le_refl _)⟩
  by_cases h1 : m = 1
  · subst h1
    go_wp2_with fail
    refine (spec_l2AnyG w0 g _ HC3.out).mono ?_
    rintro e w4 ⟨⟨x, hx, rfl⟩, hc4, hg4⟩
    have HP4 := Lib.hid (own_gb HP3.out hg4 hgl.2)
    have HT4 := Lib.hid (own_gb HT3.out hg4 hgw)
    have HC4 := Lib.hid hc4
    have HG4 := Lib.hid (gb_trans HG3.out hg4)
    have hT4 : w1.heap.size ≤ w4.heap.size := by have := hg4.size; omega
    clear hc4 hg4
    have e0 := HT4.out.cellAt 0 (by omega)
    have e1 := HT4.out.cellAt 1 (by omega)
    have ef0 := HT4.out.frozenAt 0
    have ef1 := HT4.out.frozenAt 1
    simp only [List.getElem?_cons_zero, List.getElem?_cons_succ] at e0 e1
    have q0 := HP4.out.cellAt 0 (by omega)
    have q1 := HP4.out.cellAt 1 (by omega)
    have qf0 := HP4.out.frozenAt 0
    have qf1 := HP4.out.frozenAt 1
    simp only [List.getElem?_cons_zero, List.getElem?_cons_succ] at q0 q1
    go_wp2
    refine bodyPost_ret (by simp [results, Tryd.results26, go_sem, q0, q1, e0, e1]; try rfl) rfl ?_
    exact ⟨⟨⟨t.kind, x⟩, by show x.size ≤ 200; omega, rfl⟩, HC4.out.belowB (B := w.heap.size) (by (repeat (with_reducible refine Below.setCell ?_ ?_ _)) <;> first | exact Below.refl _ _ | (simp only []; omega)) hgl.2, gb_belowB (B := w.heap.size) HG4.out (by (repeat (with_reducible refine Below.setCell ?_ ?_ _)) <;> first | exact Below.refl _ _ | (simp only []; omega)) (Nat.le_refl _)⟩
  by_cases h2 : m = 2
  · subst h2
    have HB3 := Lib.hid (show Bent4 w0 w w1 g t w3 from ⟨HC3.out, HG3.out, hT3, HP3.out, HT3.out⟩)
    clear HC3 HG3 HP3 HT3
    go_wp2_with fail
    go_region_with (first
      | (go_at_call 39; go_loud (refine (bent_below2 hgl.2 hgw _ (by first | exact HBp.out | exact HB3.out.below (by go_grown))).mono ?_; rintro e wb ⟨⟨m2, hm2, rfl⟩, hb, hgb⟩; obtain ⟨hx1, hx2⟩ := lit_in m2 hm2; have e0 := hb.t0; have e1 := hb.t1; have ef0 := hb.tf 0; have ef1 := hb.tf 1; have HBb := Lib.hid hb; have HGb := Lib.hid hgb; clear hb hgb))
      | (go_at_call 42; go_loud (refine (bent_pick hgl.2 hgw _ (by first | exact HBb.out | exact HBb.out.below (by go_grown) | exact HB3.out.below (by go_grown)) _ (by first | omega | (have := HBb.out.1.lt; omega)) (by first | exact Holds.new _ _ _ | exact (Holds.new _ _ _).drew | exact (Holds.new _ _ _).gb (by first | omega | (simp; omega)) HGb.out | exact (Holds.new _ _ _).drew.gb (by first | omega | (simp; omega)) HGb.out)).mono ?_; rintro e wp ⟨⟨s, hs, rfl⟩, hp, hgp⟩; have e0 := hp.t0; have e1 := hp.t1; have ef0 := hp.tf 0; have ef1 := hp.tf 1; have HBp := Lib.hid hp; clear hp hgp)))
    all_goals first
      | (have q0 := HBp.out.q0; have q1 := HBp.out.q1; have qf0 := HBp.out.qf 0; have qf1 := HBp.out.qf 1; go_wp2; refine bodyPost_ret (by simp [results, Tryd.results26, go_sem, q0, q1, e0, e1]; try rfl) rfl ?_; refine ⟨bent_ex _ _ (Nat.le_trans (b41 _ _ s) (by omega)), HBp.out.1.belowB (B := w.heap.size) (by (repeat (with_reducible refine Below.setCell ?_ ?_ _)) <;> first | exact Below.refl _ _ | (simp only []; omega)) hgl.2, gb_belowB (B := w.heap.size) HBp.out.2.1 (by (repeat (with_reducible refine Below.setCell ?_ ?_ _)) <;> first | exact Below.refl _ _ | (simp only []; omega)) (Nat.le_refl _)⟩)
      | (have q0 := HBb.out.q0; have q1 := HBb.out.q1; have qf0 := HBb.out.qf 0; have qf1 := HBb.out.qf 1; go_wp2; refine bodyPost_ret (by simp [results, Tryd.results26, go_sem, q0, q1, e0, e1]; try rfl) rfl ?_; refine ⟨bent_ex _ _ (Nat.le_trans (b41 _ _ s) (by omega)), HBb.out.1.belowB (B := w.heap.size) (by (repeat (with_reducible refine Below.setCell ?_ ?_ _)) <;> first | exact Below.refl _ _ | (simp only []; omega)) hgl.2, gb_belowB (B := w.heap.size) HBb.out.2.1 (by (repeat (with_reducible refine Below.setCell ?_ ?_ _)) <;> first | exact Below.refl _ _ | (simp only []; omega)) (Nat.le_refl _)⟩)
  have d0 := HT3.out.cellAt 0 (by omega)
  have d1 := HT3.out.cellAt 1 (by omega)
  simp only [List.getElem?_cons_zero, List.getElem?_cons_succ] at d0 d1
  have q0 := HP3.out.cellAt 0 (by omega)
  have q1 := HP3.out.cellAt 1 (by omega)
  have qf0 := HP3.out.frozenAt 0
  have qf1 := HP3.out.frozenAt 1
  simp only [List.getElem?_cons_zero, List.getElem?_cons_succ] at q0 q1
  go_wp2
  refine bodyPost_ret (by simp [results, Tryd.results26, go_sem, q0, q1, d0, d1]; try rfl) rfl ?_
  exact ⟨⟨⟨t.kind, t.text⟩, by show t.text.size ≤ 200; omega, rfl⟩, HC3.out.belowB (B := w.heap.size) (by (repeat (with_reducible refine Below.setCell ?_ ?_ _)) <;> first | exact Below.refl _ _ | (simp only []; omega)) hgl.2, gb_belowB (B := w.heap.size) HG3.out (by (repeat (with_reducible refine Below.setCell ?_ ?_ _)) <;> first | exact Below.refl _ _ | (simp only []; omega)) (Nat.le_refl _)⟩

end Go.Proofs.YtlehpgnhfpegoaaDoor
