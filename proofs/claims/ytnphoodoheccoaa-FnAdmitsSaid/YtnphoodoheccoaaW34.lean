/-
  Walks: what each function returns, and that it leaves what lay in memory as it was.
-/
import Derived.Test.YtnphoodoheccoaaProg
import Derived.Test.YtnphoodoheccoaaPlain
import Derived.Test.YtnphoodoheccoaaBase2
import Derived.Test.YtnphoodoheccoaaOpen2
import Derived.Test.YtnphoodoheccoaaShelf
import Derived.WalkKit
import Derived.WalkSpells
import Derived.WalkLawsBesides
import Derived.Lib.Hide
import Derived.Deep.LoopGhost
import Derived.Deep.QuietTactic
import Derived.BigQuiet
import Derived.Handy
import Derived.Deep.RegionHeld3
import Derived.StillTailTactics
import Derived.OpenShut
import Derived.ChangeSame
import Derived.Laws.StructEq

import Derived.Test.YtnphoodoheccoaaPlainT

import Derived.Test.YtnphoodoheccoaaW1

import Derived.Test.YtnphoodoheccoaaW21

import Derived.Test.YtnphoodoheccoaaW24

import Derived.Test.YtnphoodoheccoaaW30

import Derived.Test.YtnphoodoheccoaaW31

import Derived.Test.YtnphoodoheccoaaW32

import Derived.Test.YtnphoodoheccoaaW33

namespace Go.Proofs.Ytnphoodoheccoaa
open Go.ChangeShapes Go.WideShapes Go.ChangeAt Go.RowKit Go.Deep
set_option linter.unusedVariables false
set_option linter.unusedSimpArgs false

set_option maxRecDepth 20000

set_option maxHeartbeats 3200000 in
theorem spec_DrawAdmits (A : Option Addr) (n c : Nat) (xs : List UInt8) (w : World) (hn : n ≤ 1048576) (hx : Rd encB 1 w A n xs) :
    Calls Try.prog 6 #[.slice A n c] w fun e w' => (∃ (x : Filter) (h : FHd) (s1 s2 : ByteArray) (ev : Int), e = .returned (.tuple #[.agg #[.bool x.on, .slice h.A h.n h.c], .string s1, .string s2, .int .i64 ev]) ∧ FilterOwn w.heap.size w' x h ∧ x.Fit ∧ s1.size ≤ 100 ∧ s2.size ≤ 100) ∧ Below w.heap.size w w' := by
  have hal : Below w.heap.size w (w.alloc (.cells #[.bool false, .slice none 0 0] 26)) := (Below.refl _ _).alloc (Nat.le_refl _) _
  have hQ : Holds (w.alloc (.cells #[.bool false, .slice none 0 0] 26)) w.heap.size [.bool false, .slice none 0 0] := Holds.new w _ _
  have hQf : ∀ j, (w.alloc (.cells #[.bool false, .slice none 0 0] 26)).frozen? ⟨w.heap.size, j, none⟩ = false := fun j => by go_simp
  have hx1 := hx.below hal
  have hsz : w.heap.size < (w.alloc (.cells #[.bool false, .slice none 0 0] 26)).heap.size := by simp
  clear hx
  go_enter Try.func6, Try.ntmps6
  go_wp2_with fail
  generalize w.alloc (.cells #[.bool false, .slice none 0 0] 26) = wq at *
  refine (spec_l1New A n c xs wq hn hx1).mono ?_
  rintro e w1 ⟨rfl, hc1, hb1⟩
  obtain ⟨g, hg⟩ : ∃ g, wq.heap.size = g := ⟨_, rfl⟩
  rw [hg] at hc1 ⊢
  have HC1 := Lib.hid hc1
  have HQ := Lib.hid hQ
  have HQF := Lib.hid hQf
  have HAL := Lib.hid hal
  have hgw : w.heap.size < g := by omega
  have HG := Lib.hid hg
  clear hc1 hQ hQf hal hb1 hx1 hg
  go_wp2_with fail
  refine (spec_l6Bent wq g _ HC1.out).mono ?_
  rintro e w2 ⟨⟨on, A2, c2, rs, rfl, hrl, hos, hnm, hna⟩, hc2, _⟩
  have hg1 : g < w1.heap.size := HC1.out.lt.2
  have HOS := Lib.hid hos
  have HNM := Lib.hid hnm
  have HNA := Lib.hid hna
  have HC2 := Lib.hid hc2
  clear hos hnm hna hc2 HC1
  go_wp2_with fail
  refine (spec_l1Pick (fun s => s.size ≤ 100) _ 3 3 wq g _ (HC2.out.below (by go_grown)) (by omega) (by omega) (by have := HC2.out.lt; omega) _ (Holds.new _ _ _) rfl ?_).mono ?_
  · intro v hv
    simp at hv
    rcases hv with rfl | rfl | rfl <;> exact ⟨_, by decide, rfl⟩
  rintro e w3 ⟨⟨s1, hs1, rfl⟩, hc3, hg3⟩
  have HC3 := Lib.hid hc3
  have HG3 := Lib.hid (gb_trans (gb_below (some g) ((Below.refl w2.heap.size w2).alloc (Nat.le_refl _) _)) hg3)
  clear hc3 hg3
  go_wp2_with fail
  refine (spec_l2NameG wq g _ HC3.out).mono ?_
  rintro e w4 ⟨⟨s2, hs2, rfl⟩, hc4, hg4⟩
  have HC4 := Lib.hid hc4
  have HG4 := Lib.hid (gb_trans HG3.out hg4)
  clear hc4 hg4 HG3 HC3
  go_wp2_with fail
  refine (spec_l1PickInt (fun _ => True) _ 8 8 wq g _ (HC4.out.below (by go_grown)) (by omega) (by omega) (by have := HC4.out.lt; omega) _ (Holds.new _ _ _) rfl ?_).mono ?_
  · intro v hv
    simp at hv
    rcases hv with rfl | rfl | rfl | rfl | rfl | rfl | rfl | rfl <;> exact ⟨_, trivial, rfl⟩
  rintro e w5 ⟨⟨ev, _, rfl⟩, hc5, hg5⟩
  have HG5 := Lib.hid (gb_trans HG4.out (gb_trans (gb_below (some g) ((Below.refl w4.heap.size w4).alloc (Nat.le_refl _) _)) hg5))
  have hb5 := hc5.bel
  have q0 := (HQ.out.below hb5).2 0 _ rfl
  have q1 := (HQ.out.below hb5).2 1 _ rfl
  have qf0 : w5.frozen? ⟨w.heap.size, 0, none⟩ = false := (hb5.frozen (p := ⟨w.heap.size, 0, none⟩) hsz).trans (HQF.out 0)
  have qf1 : w5.frozen? ⟨w.heap.size, 1, none⟩ = false := (hb5.frozen (p := ⟨w.heap.size, 1, none⟩) hsz).trans (HQF.out 1)
  have HB5 := Lib.hid (HAL.out.trans (hb5.mono HAL.out.size))
  clear hc5 hg5 hb5 HG4 HC4
  go_wp2
  refine bodyPost_ret (by simp [results, Try.results6, go_sem, q0, q1]; try rfl) rfl ?_
  have hrest : ∀ p ∈ rs, ScD 3 w1.heap.size w5 p := fun p hp => (HNM.out p hp).gb HG5.out hg1
  have hset : ∀ (u0 u1 : Value) {base : Nat} {e : TypeId} {k n : Nat} {v : Value} {ys : List Value}, w5.ownsRow base e k v n ys → w1.heap.size ≤ base → ((w5.setCell ⟨w.heap.size, 0, none⟩ u0).setCell ⟨w.heap.size, 1, none⟩ u1).ownsRow w.heap.size e k v n ys := by
    intro u0 u1 base e k n v ys h hb
    exact own_mono (own_setCell (own_setCell h (p := ⟨w.heap.size, 0, none⟩) (by simp only []; omega) u0) (p := ⟨w.heap.size, 1, none⟩) (by simp only []; omega) u1) (by omega)
  refine ⟨⟨⟨on, rs.map Prod.fst⟩, ⟨A2, rs.length, c2, rs⟩, s1, s2, ev, rfl, ⟨?_, rfl, by show rs.length ≤ 1048576; omega, fun p hp => ?_, rfl, HNA.out⟩, ⟨by show (rs.map Prod.fst).length ≤ 1048576; rw [List.length_map]; omega, fun y hy => ?_⟩, hs1, hs2⟩, ?_⟩
  · exact hset _ _ (own_gb HOS.out HG5.out hg1) (Nat.le_refl _)
  · exact ⟨hset _ _ (hrest p hp).1 (Nat.le_refl _), ((hrest p hp).own (by omega)).2⟩
  · obtain ⟨p, hp, rfl⟩ := List.mem_map.1 hy
    exact (hrest p hp).fit (by omega)
  · refine Below.setCell (Below.setCell HB5.out ?_ _) ?_ _ <;> simp

end Go.Proofs.Ytnphoodoheccoaa
