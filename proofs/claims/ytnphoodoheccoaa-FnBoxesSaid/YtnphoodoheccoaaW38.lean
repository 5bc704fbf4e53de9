/-
  Walks: what each function returns, and that it leaves what lay in memory as it was.
-/
import Derived.Test.YtnphoodoheccoaaProg
import Derived.Test.YtnphoodoheccoaaPlain
import Derived.Test.YtnphoodoheccoaaBase2
import Derived.Test.YtnphoodoheccoaaOpen2
import Derived.Test.YtnphoodoheccoaaShelf
import Derived.WalkKit
import Derived.WalkSpells
import Derived.WalkLawsBesides
import Derived.Lib.Hide
import Derived.Deep.LoopGhost
import Derived.Deep.QuietTactic
import Derived.BigQuiet
import Derived.Handy
import Derived.Deep.RegionHeld3
import Derived.StillTailTactics
import Derived.OpenShut
import Derived.ChangeSame
import Derived.Laws.StructEq

import Derived.Deep.DrawnRows
import Derived.Deep.Cut
import Derived.Deep.CutBlock
import Derived.Deep.CutRange

import Derived.Test.YtnphoodoheccoaaPlainT

import Derived.Test.YtnphoodoheccoaaW1

import Derived.Test.YtnphoodoheccoaaW2

import Derived.Test.YtnphoodoheccoaaW3

import Derived.Test.YtnphoodoheccoaaW30

import Derived.Test.YtnphoodoheccoaaW36

import Derived.Test.YtnphoodoheccoaaW37

namespace Go.Proofs.Ytnphoodoheccoaa
open Go.ChangeShapes Go.WideShapes Go.ChangeAt Go.RowKit Go.Deep
set_option linter.unusedVariables false
set_option linter.unusedSimpArgs false

set_option maxRecDepth 20000

set_option maxHeartbeats 1600000 in
theorem spec_l1Whole (w0 : World) (g : Nat) (w : World) (hc : Cur w0 g w) :
    Calls Try.prog 58 #[.pointer (some ⟨g, 0, none⟩)] w fun e w' => (∃ x : Int, (-9223372036854775808 ≤ x ∧ x ≤ 9223372036854775807) ∧ e = .returned (.int .i64 x)) ∧ Cur w0 g w' ∧ w.grownBy w' (some g) := by
  have C1 := Lib.hid (spec_l1Below 3 w0 g w hc (by omega) (by omega))
  clear hc
  go_enter Try.func58, Try.ntmps58
  go_wp2_with fail
  refine C1.out.mono ?_
  rintro e w1 ⟨⟨m, hm, _, rfl⟩, hc1, hg1⟩
  have hc1 := Lib.hid hc1
  have hg1 := Lib.hid hg1
  by_cases h0 : m = 0
  · subst h0
    go_wp2_with fail
    refine (spec_l1PickInt (fun x => -9223372036854775808 ≤ x ∧ x ≤ 9223372036854775807) _ 9 9 w0 g _ (hc1.out.below (by go_grown)) (by omega) (by omega) (by have := hc1.out.lt; omega) _ (Holds.new _ _ _) rfl ?_).mono ?_
    · intro v hv
      simp at hv
      rcases hv with rfl | rfl | rfl | rfl | rfl | rfl | rfl | rfl | rfl <;> exact ⟨_, by omega, rfl⟩
    rintro e w2 ⟨⟨x, hx, rfl⟩, hc2, hg2⟩
    have hc2 := Lib.hid hc2
    have hg3 := Lib.hid (gb_trans hg1.out (gb_trans (gb_below (some g) (by go_grown)) hg2))
    clear hg2
    go_wp2_with fail
    go_ret
    exact ⟨⟨_, hx, rfl⟩, hc2.out, hg3.out⟩
  · by_cases h1 : m = 1
    · subst h1
      go_wp2_with fail
      refine (spec_l1Below 1000000 w0 g _ hc1.out (by omega) (by omega)).mono ?_
      rintro e w2 ⟨⟨x, hx, _, rfl⟩, hc2, hg2⟩
      have hc2 := Lib.hid hc2
      have hg3 := Lib.hid (gb_trans hg1.out hg2)
      clear hg2
      go_wp2_with fail
      go_ret
      exact ⟨⟨_, ⟨by omega, by omega⟩, rfl⟩, hc2.out, hg3.out⟩
    · go_wp2_with fail
      refine (spec_l1Below 20 w0 g _ hc1.out (by omega) (by omega)).mono ?_
      rintro e w2 ⟨⟨x, hx, _, rfl⟩, hc2, hg2⟩
      have hc2 := Lib.hid hc2
      have hg3 := Lib.hid (gb_trans hg1.out hg2)
      clear hg2
      go_wp2_with fail
      go_ret
      exact ⟨⟨_, ⟨by omega, by omega⟩, rfl⟩, hc2.out, hg3.out⟩

set_option maxHeartbeats 1600000 in
theorem spec_l5Bits (w0 : World) (g : Nat) (w : World) (hc : Cur w0 g w) :
    Calls Try.prog 59 #[.pointer (some ⟨g, 0, none⟩)] w fun e w' => (∃ x : Int, (-9223372036854775808 ≤ x ∧ x ≤ 9223372036854775807) ∧ e = .returned (.int .i64 x)) ∧ Cur w0 g w' ∧ Below w0.heap.size w0 w' := by
  have C1 := Lib.hid (spec_l1Once 12 w0 g w hc (by omega) (by omega))
  clear hc
  go_enter Try.func59, Try.ntmps59
  go_wp2_with fail
  refine C1.out.mono ?_
  rintro e w1 ⟨⟨b, rfl⟩, hc1, _⟩
  have hc1 := Lib.hid hc1
  cases b with
  | false =>
    go_wp2_with fail
    refine (spec_l1Below 32 w0 g _ hc1.out (by omega) (by omega)).mono ?_
    rintro e w2 ⟨⟨m, hm, _, rfl⟩, hc2, hg2⟩
    have hc2 := Lib.hid hc2
    go_wp2_with fail
    go_ret
    exact ⟨⟨_, ⟨by omega, by omega⟩, rfl⟩, hc2.out, hc2.out.bel⟩
  | true =>
    go_wp2_with fail
    refine (spec_l1PickInt (fun x => -9223372036854775808 ≤ x ∧ x ≤ 9223372036854775807) _ 5 5 w0 g _ (hc1.out.below (by go_grown)) (by omega) (by omega) (by have := hc1.out.lt; omega) _ (Holds.new _ _ _) rfl ?_).mono ?_
    · intro v hv
      simp at hv
      rcases hv with rfl | rfl | rfl | rfl | rfl <;> exact ⟨_, by omega, rfl⟩
    rintro e w2 ⟨⟨m, hm, rfl⟩, hc2, hg2⟩
    have hc2 := Lib.hid hc2
    go_wp2_with fail
    go_ret
    exact ⟨⟨_, hm, rfl⟩, hc2.out, hc2.out.bel⟩

attribute [local go_sem ↓] Go.wp_at_zero Go.wp_at_succ
set_option maxHeartbeats 1600000 in
theorem spec_l5BitsG (w0 : World) (g : Nat) (w : World) (hc : Cur w0 g w) :
    Calls Try.prog 59 #[.pointer (some ⟨g, 0, none⟩)] w fun e w' => (∃ x : Int, e = .returned (.int .i64 x)) ∧ Cur w0 g w' ∧ w.grownBy w' (some g) := by
  have C1 := Lib.hid (spec_l1Once 12 w0 g w hc (by omega) (by omega))
  clear hc
  go_enter Try.func59, Try.ntmps59
  go_wp2_with fail
  refine C1.out.mono ?_
  rintro e w1 ⟨⟨b, rfl⟩, hc1, hg1⟩
  have hc1 := Lib.hid hc1
  have HG1 := Lib.hid hg1
  clear hg1
  cases b with
  | false =>
    go_wp2_with fail
    refine (spec_l1Below 32 w0 g _ hc1.out (by omega) (by omega)).mono ?_
    rintro e w2 ⟨⟨m, hm, _, rfl⟩, hc2, hg2⟩
    have hc2 := Lib.hid hc2
    have HG2 := Lib.hid (gb_trans HG1.out hg2)
    clear hg2
    go_wp2_with fail
    go_ret
    exact ⟨⟨_, rfl⟩, hc2.out, HG2.out⟩
  | true =>
    go_wp2_with fail
    refine (spec_l1PickInt (fun _ => True) _ 5 5 w0 g _ (hc1.out.below (by go_grown)) (by omega) (by omega) (by have := hc1.out.lt; omega) _ (Holds.new _ _ _) rfl ?_).mono ?_
    · intro v hv
      simp at hv
      rcases hv with rfl | rfl | rfl | rfl | rfl <;> exact ⟨_, trivial, rfl⟩
    rintro e w2 ⟨⟨m, hm, rfl⟩, hc2, hg2⟩
    have hc2 := Lib.hid hc2
    have HG2 := Lib.hid (gb_trans HG1.out (gb_trans (gb_below (some g) ((Below.refl w1.heap.size w1).alloc (Nat.le_refl _) _)) hg2))
    clear hg2
    go_wp2_with fail
    go_ret
    exact ⟨⟨_, rfl⟩, hc2.out, HG2.out⟩
/-- One cell of one element written. -/
theorem flat_set_one {α : Type} {enc : α → List Value} {k : Nat} (hk : ∀ x, (enc x).length = k) {u : Value} {p p' : α} {j : Nat} (hj : j < k) (he : (enc p).set j u = enc p') :
    ∀ (l : List α) (i : Nat), l[i]? = some p → (l.flatMap enc).set (i * k + j) u = (l.set i p').flatMap enc
  | [], i, h => by simp at h
  | x :: l, 0, h => by
    simp only [List.getElem?_cons_zero, Option.some.injEq] at h
    subst h
    rw [Nat.zero_mul, Nat.zero_add, List.flatMap_cons, List.set_cons_zero, List.flatMap_cons, List.set_append_left _ _ (by rw [hk]; exact hj), he]
  | x :: l, i + 1, h => by
    simp only [List.getElem?_cons_succ] at h
    rw [List.flatMap_cons, List.set_cons_succ, List.flatMap_cons, ← flat_set_one hk hj he l i h, List.set_append_right _ _ (by rw [hk, Nat.add_mul]; omega), hk]
    congr 2
    rw [Nat.add_mul]; omega
/-- A drawn list of boxes, each readable (two may share their messages). -/
structure Bq (M : Nat) (w0 w : World) (g : Nat) (v : Value) (rs : List (Box × Hd)) (W : World) : Prop where
  cur : Cur w0 g W
  gr : w.grownBy W (some g)
  s : W.ownsRow w.heap.size 40 4 v rs.length (rs.flatMap encBox)
  nm : ∀ p ∈ rs, BxD M w.heap.size W p
theorem Br.weak {M : Nat} {w0 w W : World} {g : Nat} {v : Value} {rs : List (Box × Hd)} (h : Br M w0 w g v rs W) : Bq M w0 w g v rs W := ⟨h.cur, h.gr, h.s, h.nm⟩
theorem Bq.most {M M' : Nat} {w0 w W : World} {g : Nat} {v : Value} {rs : List (Box × Hd)} (h : Bq M w0 w g v rs W) (hM : M ≤ M') : Bq M' w0 w g v rs W := ⟨h.cur, h.gr, h.s, fun p hp => (h.nm p hp).most hM⟩
section
variable {M : Nat} {w0 w W W' : World} {g b c : Nat} {rs : List (Box × Hd)} (h : Bq M w0 w g (.slice (some ⟨b, 0, none⟩) rs.length c) rs W)
include h
theorem Bq.cellK {k j : Nat} {p : Box × Hd} {u : Value} (hp : rs[k]? = some p) (hu : (encBox p)[j]? = some u) : W.cell? ⟨b, k * 4 + j, none⟩ = some u := by
  have hk : k < rs.length := (List.getElem?_eq_some_iff.1 hp).1
  have hj : j < 4 := (List.getElem?_eq_some_iff.1 hu).1
  exact (h.s.cellAt (k * 4 + j) (by omega)).trans (flat_get (enc := encBox) (k := 4) (fun _ => rfl) rs k j p u hp hu)
theorem Bq.fz (j : Nat) : W.frozen? ⟨b, j, none⟩ = false := h.s.frozenAt j
theorem Bq.blk : b < W.heap.size := (h.s.lt b rfl).2
theorem Bq.setOne (h3 : g < w.heap.size) {k j : Nat} {u : Value} {p p' : Box × Hd} (hp : rs[k]? = some p) (hj : j < 4) (he : (encBox p).set j u = encBox p') (hd : BxD M w.heap.size W p') : Bq M w0 w g (.slice (some ⟨b, 0, none⟩) rs.length c) (rs.set k p') (W.setCell ⟨b, k * 4 + j, none⟩ u) := by
  have s := h.s.stored (k * 4 + j) u
  have hlt := (h.s.lt b rfl).1
  have hb : Below w.heap.size W (W.setCell ⟨b, k * 4 + j, none⟩ u) := (Below.refl _ W).setCell (by simpa using hlt) _
  have hs := s.1
  rw [flat_set_one (enc := encBox) (k := 4) (fun _ => rfl) hj he rs k hp] at hs
  refine ⟨h.cur.belowB hb h3, gb_belowB h.gr hb (Nat.le_refl _), by rw [List.length_set]; exact hs, fun q hq => ?_⟩
  rcases List.mem_or_eq_of_mem_set hq with hq | rfl
  · exact (h.nm q hq).kinds h.s (by decide) s.2
  · exact hd.kinds h.s (by decide) s.2
theorem Bq.setAll (h3 : g < w.heap.size) {k : Nat} {p' : Box × Hd} (hk : k < rs.length) (hd : BxD M w.heap.size W p') : Bq M w0 w g (.slice (some ⟨b, 0, none⟩) rs.length c) (rs.set k p')
    ((((W.setCell ⟨b, k * 4, none⟩ (.string p'.1.name)).setCell ⟨b, k * 4 + 1, none⟩ (.int .i64 p'.1.validity)).setCell ⟨b, k * 4 + 2, none⟩ (.int .i64 p'.1.next)).setCell ⟨b, k * 4 + 3, none⟩ (.slice p'.2.A p'.2.n p'.2.c)) := by
  have s0 := h.s.stored (k * 4) (.string p'.1.name)
  have s1 := s0.1.stored (k * 4 + 1) (.int .i64 p'.1.validity)
  have s2 := s1.1.stored (k * 4 + 2) (.int .i64 p'.1.next)
  have s3 := s2.1.stored (k * 4 + 3) (.slice p'.2.A p'.2.n p'.2.c)
  have hgb := gb_trans s0.2 (gb_trans s1.2 (gb_trans s2.2 s3.2))
  have hlt := (h.s.lt b rfl).1
  have hb := gb_to_below (B := w.heap.size) hgb h.gr.size (fun j hj => by injection hj with hj; omega)
  have hs := s3.1
  rw [flat_set_Box rs k p' hk] at hs
  refine ⟨h.cur.belowB hb h3, gb_belowB h.gr hb (Nat.le_refl _), by rw [List.length_set]; exact hs, fun q hq => ?_⟩
  rcases List.mem_or_eq_of_mem_set hq with hq | rfl
  · exact (h.nm q hq).kinds h.s (by decide) hgb
  · exact hd.kinds h.s (by decide) hgb
end
theorem Br.form {M : Nat} {w0 w W : World} {g n c : Nat} {A : Option Addr} {rs : List (Box × Hd)} (h : Br M w0 w g (.slice A n c) rs W) (h0 : 0 < n) : ∃ b, A = some ⟨b, 0, none⟩ := by
  rcases h.s.2 with ⟨hv, _⟩ | ⟨b, cap, cur, hv, _⟩
  · injection hv with _ h2 _; omega
  · injection hv with hA _ _
    exact ⟨b, hA⟩
theorem br_any {M : Nat} {w0 w : World} {g : Nat} {v : Value} {rs : List (Box × Hd)} (h1 : g < w.heap.size) (W : World) (h : Br M w0 w g v rs W) :
    Calls Try.prog 48 #[.pointer (some ⟨g, 0, none⟩)] W fun e W' => (∃ s : ByteArray, s.size ≤ 100 ∧ e = .returned (.string s)) ∧ Br M w0 w g v rs W' :=
  (spec_l2AnyG w0 g W h.cur).mono (by
    rintro e w' ⟨⟨s, hs, rfl⟩, hc, hg⟩
    exact ⟨⟨s, hs, rfl⟩, h.gb hc hg h1⟩)
theorem br_name {M : Nat} {w0 w : World} {g : Nat} {v : Value} {rs : List (Box × Hd)} (h1 : g < w.heap.size) (W : World) (h : Br M w0 w g v rs W) :
    Calls Try.prog 22 #[.pointer (some ⟨g, 0, none⟩)] W fun e W' => (∃ s : ByteArray, s.size ≤ 100 ∧ e = .returned (.string s)) ∧ Br M w0 w g v rs W' :=
  (spec_l2NameG w0 g W h.cur).mono (by
    rintro e w' ⟨⟨s, hs, rfl⟩, hc, hg⟩
    exact ⟨⟨s, hs, rfl⟩, h.gb hc hg h1⟩)
theorem br_whole {M : Nat} {w0 w : World} {g : Nat} {v : Value} {rs : List (Box × Hd)} (h1 : g < w.heap.size) (W : World) (h : Br M w0 w g v rs W) :
    Calls Try.prog 58 #[.pointer (some ⟨g, 0, none⟩)] W fun e W' => (∃ x : Int, e = .returned (.int .i64 x)) ∧ Br M w0 w g v rs W' :=
  (spec_l1Whole w0 g W h.cur).mono (by
    rintro e w' ⟨⟨s, hs, rfl⟩, hc, hg⟩
    exact ⟨⟨s, rfl⟩, h.gb hc hg h1⟩)
theorem br_bits {M : Nat} {w0 w : World} {g : Nat} {v : Value} {rs : List (Box × Hd)} (h1 : g < w.heap.size) (W : World) (h : Br M w0 w g v rs W) :
    Calls Try.prog 59 #[.pointer (some ⟨g, 0, none⟩)] W fun e W' => (∃ x : Int, e = .returned (.int .i64 x)) ∧ Br M w0 w g v rs W' :=
  (spec_l5BitsG w0 g W h.cur).mono (by
    rintro e w' ⟨⟨s, rfl⟩, hc, hg⟩
    exact ⟨⟨s, rfl⟩, h.gb hc hg h1⟩)
theorem br_pickInt {M : Nat} {w0 w : World} {g : Nat} {v : Value} {rs : List (Box × Hd)} (h1 : g < w.heap.size) (W : World) (h : Br M w0 w g v rs W) (b n c : Nat) (hb : b ≠ g) (vs : List Value) (hv : Holds W b vs) (hl : vs.length = n) (hn : n ≤ 1000) (hn0 : 0 < n) (hr : ∀ v ∈ vs, ∃ x : Int, True ∧ v = (.int .i64 x : Value)) :
    Calls Try.prog 23 #[.pointer (some ⟨g, 0, none⟩), .slice (some ⟨b, 0, none⟩) n c] W fun e W' => (∃ x : Int, e = .returned (.int .i64 x)) ∧ Br M w0 w g v rs W' :=
  (spec_l1PickInt (fun _ => True) b n c w0 g W h.cur hn hn0 hb vs hv hl hr).mono (by
    rintro e w' ⟨⟨m, _, rfl⟩, hc, hg⟩
    exact ⟨⟨m, rfl⟩, h.gb hc hg h1⟩)
/-- A message appended to one box: in its block or in a new one. -/
theorem Br.msgs {M : Nat} {w0 w W W' : World} {g b c k : Nat} {rs : List (Box × Hd)} {p : Box × Hd} {A4 : Option Addr} {c4 : Nat} {m : Msg} (h : Br M w0 w g (.slice (some ⟨b, 0, none⟩) rs.length c) rs W) (h3 : g < w.heap.size) (hp : rs[k]? = some p)
    (hg : W.grownBy W' (Value.slice p.2.A p.2.n p.2.c).ownBlock) (ho : W'.ownsRow w.heap.size 62 3 (.slice A4 (p.1.msgs.length + 1) c4) (p.1.msgs.length + 1) ((p.1.msgs ++ [m]).flatMap encMsg)) (hm : m.text.size ≤ 100) :
    (∀ j u, (encBox p)[j]? = some u → W'.cell? ⟨b, k * 4 + j, none⟩ = some u) ∧ (∀ j, W'.frozen? ⟨b, j, none⟩ = false) ∧ b < W'.heap.size ∧
      Bq (M + 1) w0 w g (.slice (some ⟨b, 0, none⟩) rs.length c) (rs.set k (⟨p.1.name, p.1.validity, p.1.next, p.1.msgs ++ [m]⟩, ⟨A4, p.1.msgs.length + 1, c4⟩)) (W'.setCell ⟨b, k * 4 + 3, none⟩ (.slice A4 (p.1.msgs.length + 1) c4)) := by
  have hpm := List.mem_of_getElem? hp
  have hd := h.nm p hpm
  have hz := h.gr.size
  have hb : Below w.heap.size W W' := gb_to_below hg hz (fun j hj => (hd.1.lt j hj).1)
  have hs : W'.ownsRow w.heap.size 40 4 (.slice (some ⟨b, 0, none⟩) rs.length c) rs.length (rs.flatMap encBox) := own_kind_keptB h.s hd.1 (by decide) hg
  have st := hs.stored (k * 4 + 3) (.slice A4 (p.1.msgs.length + 1) c4)
  have hlt := (hs.lt b rfl).1
  have hb2 : Below w.heap.size W' (W'.setCell ⟨b, k * 4 + 3, none⟩ (.slice A4 (p.1.msgs.length + 1) c4)) := (Below.refl _ W').setCell (by simpa using hlt) _
  have hst := st.1
  rw [flat_set_one (enc := encBox) (k := 4) (fun _ => rfl) (j := 3) (p := p) (p' := (⟨p.1.name, p.1.validity, p.1.next, p.1.msgs ++ [m]⟩, ⟨A4, p.1.msgs.length + 1, c4⟩)) (by omega) rfl rs k hp] at hst
  have hk : k < rs.length := (List.getElem?_eq_some_iff.1 hp).1
  refine ⟨fun j u hu => (hs.cellAt (k * 4 + j) (by
      have hj : j < 4 := (List.getElem?_eq_some_iff.1 hu).1
      omega)).trans (flat_get (enc := encBox) (k := 4) (fun _ => rfl) rs k j p u hp hu), fun j => hs.frozenAt j, (hs.lt b rfl).2, (h.cur.belowB hb h3).belowB hb2 h3, gb_belowB (gb_belowB h.gr hb (Nat.le_refl _)) hb2 (Nat.le_refl _), by rw [List.length_set]; exact hst, fun q hq => ?_⟩
  obtain ⟨i, hi⟩ := List.getElem?_of_mem hq
  rw [List.getElem?_set] at hi
  split at hi
  · injection hi with hi
    subst hi
    refine ⟨own_kind_keptB ho hs (by decide) st.2, by simp, ?_, hd.2.2.2.1, fun y hy => ?_⟩
    · have e1 := hd.2.1
      have e2 := hd.2.2.1
      show p.1.msgs.length + 1 ≤ M + 1
      omega
    · rcases List.mem_append.1 hy with hy | hy
      · exact hd.2.2.2.2 y hy
      · rw [List.mem_singleton.1 hy]; exact hm
  · rename_i hne
    have hqm := List.mem_of_getElem? hi
    have hq := h.nm q hqm
    refine BxD.most (BxD.kinds ⟨hq.1.kept hg ?_, hq.2⟩ hs (by decide) st.2) (by omega)
    cases hv : (Value.slice q.2.A q.2.n q.2.c).ownBlock with
    | none => exact .inl rfl
    | some e =>
      refine .inr fun e2 => ?_
      have hi' : i < rs.length := (List.getElem?_eq_some_iff.1 hi).1
      rcases Nat.lt_or_ge i k with hik | hik
      · have h1 := List.pairwise_iff_getElem.1 h.na i k hi' hk hik
        rw [(List.getElem?_eq_some_iff.1 hp).2, (List.getElem?_eq_some_iff.1 hi).2] at h1
        exact h1 e hv e2.symm
      · have h1 := List.pairwise_iff_getElem.1 h.na k i hk hi' (by omega)
        rw [(List.getElem?_eq_some_iff.1 hp).2, (List.getElem?_eq_some_iff.1 hi).2] at h1
        exact h1 e e2.symm hv
/-- A drawn list of boxes. -/
def BoxesDrawn (base : Nat) (e : Ending) (w' : World) : Prop :=
  ∃ (A : Option Addr) (c : Nat) (rs : List (Box × Hd)), e = .returned (.slice A rs.length c) ∧ rs.length ≤ 5 ∧ w'.ownsRow base 40 4 (.slice A rs.length c) rs.length (rs.flatMap encBox) ∧ ∀ p ∈ rs, BxD 6 base w' p
set_option maxHeartbeats 25600000 in
set_option maxRecDepth 20000 in
theorem spec_l9Bent (w0 : World) (g : Nat) (w : World) (hc : Cur w0 g w) :
    Calls Try.prog 32 #[.pointer (some ⟨g, 0, none⟩)] w fun e w' => BoxesDrawn w.heap.size e w' ∧ Cur w0 g w' ∧ w.grownBy w' (some g) := by
  have hgl := hc.lt
  have hgw := hgl.2
  have HC0 := Lib.hid hc
  clear hc
  go_enter Try.func32, Try.ntmps32
  go_wp2_with fail
  refine (spec_l9Right w0 g w HC0.out).mono ?_
  rintro e w1 ⟨A, c, rs, rfl, hrl, hb1⟩
  have HB1 := Lib.hid hb1
  clear hb1 HC0
  by_cases h0 : rs.length = 0
  · have hnil : rs = [] := List.eq_nil_of_length_eq_zero h0
    subst hnil
    go_wp2
    go_ret
    exact ⟨⟨A, c, [], rfl, by simp, HB1.out.s, fun p hp => by simp at hp⟩, HB1.out.cur, HB1.out.gr⟩
  have hpos : 0 < rs.length := by omega
  obtain ⟨b, rfl⟩ := HB1.out.form hpos
  have hlen0 : ((rs.length : Int) == 0) = false := beq_eq_false_iff_ne.2 (by omega)
  have hlen1 : ¬ (rs.length : Int) = 0 := by omega
  go_wp2_with fail
  refine (spec_l1Below _ w0 g w1 HB1.out.cur (by omega) (by omega)).mono ?_
  rintro e w2 ⟨⟨k, hk0, _, rfl⟩, hc2, hg2⟩
  have hk : k < rs.length := by have := hk0 (by omega); omega
  have HB2 := Lib.hid (HB1.out.gb hc2 hg2 hgw)
  clear hk0 hc2 hg2 HB1
  go_wp2_with fail
  refine (spec_l1Below 12 w0 g w2 HB2.out.cur (by omega) (by omega)).mono ?_
  rintro e w3 ⟨⟨m, hm, _, rfl⟩, hc3, hg3⟩
  have HB := Lib.hid (HB2.out.gb hc3 hg3 hgw)
  clear hc3 hg3 HB2
  obtain ⟨p, hp⟩ : ∃ p, rs[k]? = some p := ⟨_, List.getElem?_eq_getElem hk⟩
  have HPk := Lib.hid hp
  have hki : (k : Int) < (rs.length : Int) := by omega
  have hbl := HB.out.weak.blk
  clear hp
  go_upto_block 0 with fail
  go_cut [3] from 17 (fun s3 wc => ∃ (A' : Option Addr) (c' : Nat) (rs' : List (Box × Hd)), s3 = .slice A' rs'.length c' ∧ rs'.length ≤ 5 ∧ Bq 6 w0 w g (.slice A' rs'.length c') rs' wc)
  case rest =>
    obtain ⟨A', c', rs', rfl, hl', hq'⟩ := hcut
    have HQ := Lib.hid hq'
    clear hq' HB
    go_wp2
    go_ret
    exact ⟨⟨A', c', rs', rfl, hl', HQ.out.s, HQ.out.nm⟩, HQ.out.cur, HQ.out.gr⟩
  case first =>
    by_cases h0 : m = 0
    · subst h0
      go_wp2_with fail
      refine (br_any hgw w3 HB.out).mono ?_
      rintro e w4 ⟨⟨s, hs, rfl⟩, hb4⟩
      have f0 := hb4.weak.fz (k * 4 + 0)
      have c0 := hb4.weak.cellK HPk.out (show (encBox p)[0]? = some (.string p.1.name) from rfl)
      have HB4 := Lib.hid (hb4.weak.setOne (j := 0) (u := .string s) (p' := (⟨s, p.1.validity, p.1.next, p.1.msgs⟩, p.2)) hgw HPk.out (by omega) rfl (by have := hb4.nm p (List.mem_of_getElem? HPk.out); exact ⟨this.1, this.2.1, this.2.2.1, hs, this.2.2.2.2⟩))
      have hb4l := hb4.weak.blk
      simp only [Nat.add_zero] at f0 c0 HB4
      clear hb4 HB
      go_wp2
      go_meet
      case rel => exact ⟨_, c, rs.set k (⟨s, p.1.validity, p.1.next, p.1.msgs⟩, p.2), by rw [List.length_set], by rw [List.length_set]; omega, by rw [List.length_set]; exact HB4.out.most (by omega)⟩
    by_cases h1 : m = 1
    · subst h1
      go_wp2_with fail
      refine (br_pickInt hgw _ (HB.out.below (by go_grown)) _ 6 6 (by have := HB.out.cur.lt; omega) _ (Holds.new _ _ _) rfl (by omega) (by omega) ?_).mono ?_
      · intro v hv
        simp only [List.mem_cons, List.not_mem_nil, or_false] at hv
        rcases hv with rfl | rfl | rfl | rfl | rfl | rfl <;> exact ⟨_, trivial, rfl⟩
      rintro e w4 ⟨⟨x, rfl⟩, hb4⟩
      have f0 := hb4.weak.fz (k * 4 + 1)
      have c0 := hb4.weak.cellK HPk.out (show (encBox p)[1]? = some (.int .i64 p.1.validity) from rfl)
      have HB4 := Lib.hid (hb4.weak.setOne (j := 1) (u := .int .i64 x) (p' := (⟨p.1.name, x, p.1.next, p.1.msgs⟩, p.2)) hgw HPk.out (by omega) rfl (hb4.nm p (List.mem_of_getElem? HPk.out)))
      have hb4l := hb4.weak.blk
      clear hb4 HB
      go_wp2
      go_meet
      case rel => exact ⟨_, c, rs.set k (⟨p.1.name, x, p.1.next, p.1.msgs⟩, p.2), by rw [List.length_set], by rw [List.length_set]; omega, by rw [List.length_set]; exact HB4.out.most (by omega)⟩
    by_cases h2 : m = 2
    · subst h2
      go_wp2_with fail
      refine (br_pickInt hgw _ (HB.out.below (by go_grown)) _ 5 5 (by have := HB.out.cur.lt; omega) _ (Holds.new _ _ _) rfl (by omega) (by omega) ?_).mono ?_
      · intro v hv
        simp only [List.mem_cons, List.not_mem_nil, or_false] at hv
        rcases hv with rfl | rfl | rfl | rfl | rfl <;> exact ⟨_, trivial, rfl⟩
      rintro e w4 ⟨⟨x, rfl⟩, hb4⟩
      have f0 := hb4.weak.fz (k * 4 + 2)
      have c0 := hb4.weak.cellK HPk.out (show (encBox p)[2]? = some (.int .i64 p.1.next) from rfl)
      have HB4 := Lib.hid (hb4.weak.setOne (j := 2) (u := .int .i64 x) (p' := (⟨p.1.name, p.1.validity, x, p.1.msgs⟩, p.2)) hgw HPk.out (by omega) rfl (hb4.nm p (List.mem_of_getElem? HPk.out)))
      have hb4l := hb4.weak.blk
      clear hb4 HB
      go_wp2
      go_meet
      case rel => exact ⟨_, c, rs.set k (⟨p.1.name, p.1.validity, x, p.1.msgs⟩, p.2), by rw [List.length_set], by rw [List.length_set]; omega, by rw [List.length_set]; exact HB4.out.most (by omega)⟩
    by_cases h3 : m = 3
    · subst h3
      have hd := HB.out.nm p (List.mem_of_getElem? HPk.out)
      have hpl : p.1.msgs.length ≤ 5 := by have h1 := hd.2.1; have h2 := hd.2.2.1; omega
      have hpn : p.2.n = p.1.msgs.length := hd.2.1.symm
      have HPN := Lib.hid hpn
      have HSd := Lib.hid (HB.out.below (Below.refl _ w3).drew)
      have t3d := HSd.out.weak.cellK HPk.out (show (encBox p)[3]? = some (.slice p.2.A p.2.n p.2.c) from rfl)
      have hkn : (0 : Int) ≤ (k : Int) := by omega
      have hbd := HSd.out.weak.blk
      clear hd hpn
      go_wp2_with fail
      go_region_law (first
        | (refine step_appG (enc := encMsg) (k := 3) (fun _ => rfl) (fun _ u hu => by simp at hu; rcases hu with rfl | rfl | rfl <;> rfl) (by omega) rfl (.tmp 51) (.tmp 57) 38 62 rfl (.agg #[.int .i64 0, .int .i64 0, .string ByteArray.empty]) 32 Try.underlying38 (by kernel_rfl) rfl w.heap.size (.slice p.2.A p.2.n p.2.c) p.1.msgs (by simp [Act.eval, Act.put]) hpo (some ⟨w5.heap.size, 0, none⟩) 1 1 [(⟨x, y, ⟨#[]⟩⟩ : Msg)] (by simp [Act.eval, Act.put]) (Rd.new (enc := encMsg) (k := 3) (fun _ => rfl) w5 #[.int .i64 x, .int .i64 y, .string ⟨#[]⟩] 62 (n := 1) [(⟨x, y, ⟨#[]⟩⟩ : Msg)] (by simp) rfl) (by omega) (by omega) (by have := HS5.out.gr.size; simp; omega) ?_; intro v' w8 hown8 hg8 _; obtain ⟨A8, c8, rfl⟩ := own_form hown8; rw [len_snocB] at hown8
           have hp8 := (HS5.out.below ((Below.refl w5.heap.size w5).alloc (Nat.le_refl _) _)).msgs hgw HPk.out hg8 hown8 (by show (⟨#[]⟩ : ByteArray).size ≤ 100; decide); have y1 := hp8.1 3 _ rfl; have yf := hp8.2.1 (k * 4 + 3); have yb := hp8.2.2.1; have HF8 := Lib.hid hp8.2.2.2; clear hp8 hown8 hg8)
        | (refine step_call rfl 59 #[.tmp 54] _ rfl (enters_of Try.func59 (by kernel_rfl) rfl) #[.pointer (some ⟨g, 0, none⟩)] (by simp [Act.eval, Act.put]) (br_bits hgw _ HS4.out) ?_; rintro e w5 ⟨⟨y, rfl⟩, hs5⟩; refine ⟨_, rfl, ?_⟩; have z3 := hs5.weak.cellK HPk.out (show (encBox p)[3]? = some (.slice p.2.A p.2.n p.2.c) from rfl); have hb5 := hs5.weak.blk; have HS5 := Lib.hid hs5
           have hpo : (w5.alloc (.cells #[.int .i64 x, .int .i64 y, .string ⟨#[]⟩] 62)).ownsRow w.heap.size 62 3 (.slice p.2.A p.2.n p.2.c) p.1.msgs.length (p.1.msgs.flatMap encMsg) := by
             have hq := ((hs5.below ((Below.refl w5.heap.size w5).alloc (Nat.le_refl _) (.cells #[.int .i64 x, .int .i64 y, .string ⟨#[]⟩] 62))).nm p (List.mem_of_getElem? HPk.out)).1
             rw [HPN.out] at hq ⊢
             exact hq
           clear hs5)
        | (refine step_call rfl 58 #[.tmp 52] _ rfl (enters_of Try.func58 (by kernel_rfl) rfl) #[.pointer (some ⟨g, 0, none⟩)] (by simp [Act.eval, Act.put]) (br_whole hgw _ HSd.out) ?_; rintro e w4 ⟨⟨x, rfl⟩, hs4⟩; refine ⟨_, rfl, ?_⟩; have x3 := hs4.weak.cellK HPk.out (show (encBox p)[3]? = some (.slice p.2.A p.2.n p.2.c) from rfl); have hb4 := hs4.weak.blk; have HS4 := Lib.hid hs4; clear hs4))
      all_goals
        clear y1 yf yb x3 hb4 z3 hb5 HS4 HS5 HSd t3d HB hpo
        generalize w8.setCell ⟨b, k * 4 + 3, none⟩ _ = W9 at *
        go_wp2_with fail
        go_meet
        case rel => exact ⟨_, c, rs.set k (⟨p.1.name, p.1.validity, p.1.next, p.1.msgs ++ [(⟨x, y, ⟨#[]⟩⟩ : Msg)]⟩, ⟨A8, p.1.msgs.length + 1, c8⟩), by rw [List.length_set], by rw [List.length_set]; omega, by rw [List.length_set]; exact HF8.out⟩
    by_cases h4 : m = 4
    · subst h4
      go_wp2_with fail
      refine (br_name hgw w3 HB.out).mono ?_
      rintro e w4 ⟨⟨s, hs, rfl⟩, hb4⟩
      have HB4 := Lib.hid hb4
      clear hb4 HB
      go_wp2_with fail
      refine (br_box (Nat.le_refl 5) s hs 8 hgw w4 HB4.out).mono ?_
      rintro e w5 ⟨⟨q, rfl, hq5, hna5⟩, hb5, hg5⟩
      have hal : Below w5.heap.size w5 (w5.alloc (.cells #[.string q.1.name, .int .i64 q.1.validity, .int .i64 q.1.next, .slice q.2.A q.2.n q.2.c] 40)) := (Below.refl _ _).alloc (Nat.le_refl _) _
      have HB5 := Lib.hid (hb5.below hal)
      have HP5 := Lib.hid (hq5.below hal)
      have HNA := Lib.hid hna5
      have hrc := Lib.hid (Rd.new (enc := encBox) (k := 4) (fun _ => rfl) w5 #[.string q.1.name, .int .i64 q.1.validity, .int .i64 q.1.next, .slice q.2.A q.2.n q.2.c] 40 (n := 1) [q] (by simp) rfl)
      have HZ5 := Lib.hid HB5.out.gr.size
      clear hal hb5 hq5 hna5 hg5 HB4
      go_wp2_with (at_builtin; refine wpList_appN (enc := encBox) (k := 4) (fun _ => rfl) (fun _ u hu => by simp at hu; rcases hu with rfl | rfl | rfl | rfl <;> rfl) (by omega) rfl _ _ 34 40 rfl (.agg #[.string ByteArray.empty, .int .i64 0, .int .i64 0, .slice none 0 0]) 56 Try.underlying34 (by kernel_rfl) rfl w.heap.size _ rs rfl HB5.out.s _ _ _ _ rfl hrc.out (by omega) (by omega) HZ5.out ?_; intro vn wn hownd hgd)
      obtain ⟨A4, c4, rfl⟩ := own_form hownd
      have HBn := Lib.hid (HB5.out.push hgw HP5.out HNA.out hownd hgd).weak
      clear hownd hgd HB5 HP5 HNA hrc HZ5
      go_meet
      case rel => exact ⟨A4, c4, rs ++ [q], rfl, by rw [len_snocB]; omega, HBn.out.most (by omega)⟩
    by_cases h5 : m = 5
    · subst h5
      obtain ⟨q, hq⟩ : ∃ q, rs[0]? = some q := ⟨_, List.getElem?_eq_getElem hpos⟩
      have HQ0 := Lib.hid hq
      clear hq
      have d0 := HB.out.weak.cellK HQ0.out (show (encBox q)[0]? = some (.string q.1.name) from rfl)
      have d1 := HB.out.weak.cellK HQ0.out (show (encBox q)[1]? = some (.int .i64 q.1.validity) from rfl)
      have d2 := HB.out.weak.cellK HQ0.out (show (encBox q)[2]? = some (.int .i64 q.1.next) from rfl)
      have d3 := HB.out.weak.cellK HQ0.out (show (encBox q)[3]? = some (.slice q.2.A q.2.n q.2.c) from rfl)
      have c0 := HB.out.weak.cellK HPk.out (show (encBox p)[0]? = some (.string p.1.name) from rfl)
      have c1 := HB.out.weak.cellK HPk.out (show (encBox p)[1]? = some (.int .i64 p.1.validity) from rfl)
      have c2 := HB.out.weak.cellK HPk.out (show (encBox p)[2]? = some (.int .i64 p.1.next) from rfl)
      have c3 := HB.out.weak.cellK HPk.out (show (encBox p)[3]? = some (.slice p.2.A p.2.n p.2.c) from rfl)
      have f0 := HB.out.weak.fz (k * 4)
      have f1 := HB.out.weak.fz (k * 4 + 1)
      have f2 := HB.out.weak.fz (k * 4 + 2)
      have f3 := HB.out.weak.fz (k * 4 + 3)
      have hpos1 : (0 : Int) < (rs.length : Int) := by omega
      simp only [Nat.zero_mul, Nat.zero_add, Nat.add_zero] at d0 d1 d2 d3 c0
      have HB4 := Lib.hid (HB.out.weak.setAll hgw hk (HB.out.nm q (List.mem_of_getElem? HQ0.out)))
      clear HB
      go_wp2
      go_meet
      case rel => exact ⟨_, c, rs.set k q, by rw [List.length_set], by rw [List.length_set]; omega, by rw [List.length_set]; exact HB4.out.most (by omega)⟩
    go_wp2
    go_meet
    case rel => exact ⟨_, c, rs, rfl, by omega, HB.out.weak.most (by omega)⟩
set_option maxHeartbeats 1600000 in
theorem spec_DrawBoxesOk (A : Option Addr) (n c : Nat) (xs : List UInt8) (w : World) (hn : n ≤ 1048576) (hx : Rd encB 1 w A n xs) :
    Calls Try.prog 10 #[.slice A n c] w fun e w' => BoxesDrawn w.heap.size e w' ∧ Below w.heap.size w w' := by
  have C1 := Lib.hid (spec_l1New A n c xs w hn hx)
  clear hx
  go_enter Try.func10, Try.ntmps10
  go_wp2_with fail
  refine C1.out.mono ?_
  rintro e w1 ⟨rfl, hc1, _⟩
  have hc1 := Lib.hid hc1
  obtain ⟨g, hg⟩ : ∃ g, w.heap.size = g := ⟨_, rfl⟩
  rw [hg] at hc1 ⊢
  go_wp2_with fail
  refine (spec_l9Bent w g _ hc1.out).mono ?_
  rintro e w2 ⟨⟨A2, c2, rs, rfl, hl, ho, hd⟩, hc2, _⟩
  have hlt1 := hc1.out.lt
  have HO := Lib.hid (own_mono ho (show w.heap.size ≤ w1.heap.size by omega))
  have HD := Lib.hid (fun p hp => (hd p hp).mono (show w.heap.size ≤ w1.heap.size by omega))
  have hb4 := Lib.hid hc2.bel
  clear ho hc2 hd
  go_wp2_with fail
  go_ret
  exact ⟨⟨A2, c2, rs, rfl, hl, hg ▸ HO.out, hg ▸ HD.out⟩, hg ▸ hb4.out⟩

end Go.Proofs.Ytnphoodoheccoaa
