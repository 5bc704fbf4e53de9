/-
  Walks: what each function returns, and that it leaves what lay in memory as it was.
-/
import Derived.Test.YthccfnoebbimjaaDoorProg
import Derived.Test.YthccfnoebbimjaaDoorPlain
import Derived.Test.YthccfnoebbimjaaDoorBase2
import Derived.Test.YthccfnoebbimjaaDoorOpen2
import Derived.Test.YthccfnoebbimjaaDoorShelf
import Derived.WalkKit
import Derived.WalkSpells
import Derived.WalkLawsBesides
import Derived.Lib.Hide
import Derived.Deep.LoopGhost
import Derived.Deep.QuietTactic
import Derived.BigQuiet
import Derived.Handy
import Derived.Deep.RegionHeld3
import Derived.StillTailTactics
import Derived.OpenShut
import Derived.ChangeSame
import Derived.Laws.StructEq

import Derived.Test.YthccfnoebbimjaaDoorPlainT

import Derived.Test.YthccfnoebbimjaaDoorW1

import Derived.Test.YthccfnoebbimjaaDoorW2

import Derived.Test.YthccfnoebbimjaaDoorW3

import Derived.Test.YthccfnoebbimjaaDoorW4

import Derived.Test.YthccfnoebbimjaaDoorW5

import Derived.Test.YthccfnoebbimjaaDoorW6

import Derived.Test.YthccfnoebbimjaaDoorW7

import Derived.Test.YthccfnoebbimjaaDoorW8

import Derived.Test.YthccfnoebbimjaaDoorBase3

import Derived.Lib.ItoaMem
import Derived.Lib.ItoaLen
import Derived.Lib.LaidTab

import Derived.Lib.AtoiTie
import Derived.Lib.AtoiBound
import Derived.Lib.ConvBytes

namespace Go.Proofs.YthccfnoebbimjaaDoor
open Go.ChangeShapes Go.WideShapes Go.ChangeAt Go.RowKit Go.Deep
set_option linter.unusedVariables false
set_option linter.unusedSimpArgs false

set_option maxRecDepth 20000

theorem own_ne {v u : Value} {B : Nat} (h1 : ∀ k, v.ownBlock = some k → B ≤ k) (h2 : ∀ k, u.ownBlock = some k → k < B) : v.ownBlock = none ∨ v.ownBlock ≠ u.ownBlock := by
  cases he : v.ownBlock with
  | none => exact .inl rfl
  | some k =>
    refine .inr fun e => ?_
    have h3 := h1 k he
    have h4 := h2 k e.symm
    omega
set_option maxHeartbeats 800000 in
theorem laws_markSpanS (A : Option Addr) (n c base : Nat) (k0 : Int) (xs : List Span) (w : World) (hk0 : 0 ≤ k0) (hk1 : k0 + 2 * n ≤ 1152921504606846976) (hl : xs.length = n)
    (hown : w.ownsRow base 38 2 (.slice A n c) n (xs.flatMap encSpan)) :
    Calls Tryd.prog 8 #[.slice A n c, .int .i64 k0] w fun e w' => e = .returned (.int .i64 (k0 + 2 * n)) ∧ w.grownBy w' (Value.slice A n c).ownBlock := by
  have hn0 : k0 + 2 * (n : Int) ≤ 1152921504606846976 := hk1
  go_enter Tryd.func8, Tryd.ntmps8
  go_wp2_with fail
  go_loopw [1, 5] (fun m i wr => ∃ (j : Nat) (zs : List Span), j ≤ n ∧ i = .int .i64 j ∧ m = .int .i64 (k0 + 2 * j) ∧ zs.length = n ∧ wr.ownsRow base 38 2 (.slice A n c) n (zs.flatMap encSpan) ∧ w.grownBy wr (Value.slice A n c).ownBlock) (fun _ i _ => n - (intOf i).toNat)
  case atStart => exact ⟨0, xs, Nat.zero_le _, rfl, by simp, hl, hown, World.grownBy.refl _ _⟩
  case round =>
    obtain ⟨j, zs, hj, rfl, rfl, hz, ho, hg⟩ := hrel
    clear hown hl
    by_cases hlt : j < n
    · have hA : ∃ g, A = some ⟨g, 0, none⟩ := by
        rcases ho.2 with ⟨hv, h0⟩ | ⟨g, cap, cur, hv, _⟩
        · omega
        · injection hv with hA; exact ⟨g, hA⟩
      obtain ⟨g, rfl⟩ := hA
      have hat : zs[j]? = some (zs[j]'(by omega)) := List.getElem?_eq_getElem (by omega)
      generalize zs[j]'(by omega) = z at hat
      have c0 : wr.cell? ⟨g, j * 2, none⟩ = some (.int .i64 z.1) := (ho.cellAt (j * 2) (by omega)).trans (flat_get (enc := encSpan) (k := 2) (fun _ => rfl) _ j 0 _ _ hat rfl)
      have c1 : wr.cell? ⟨g, j * 2 + 1, none⟩ = some (.int .i64 z.2) := (ho.cellAt (j * 2 + 1) (by omega)).trans (flat_get (enc := encSpan) (k := 2) (fun _ => rfl) _ j 1 _ _ hat rfl)
      have f0 := ho.frozenAt (j * 2)
      have f1 := ho.frozenAt (j * 2 + 1)
      have s0 := ho.stored (j * 2) (.int .i64 (k0 + 2 * j))
      have s1 := s0.1.stored (j * 2 + 1) (.int .i64 (k0 + 2 * j + 1))
      have hfin := s1.1
      rw [flat_set2 zs j (k0 + 2 * j, k0 + 2 * j + 1)] at hfin
      have Hs1 := Lib.hid hfin
      have Hg := Lib.hid (gb_trans hg (gb_trans s0.2 s1.2))
      have Hz := Lib.hid hz
      clear ho hg s0 s1 hat hz hfin
      go_wp2
      go_roundw
      case rel => exact ⟨j + 1, _, by omega, by go_num, by go_num, by rw [List.length_set]; exact Hz.out, Hs1.out, Hg.out⟩
      case measure => simp [intOf]; omega
    · have hke : j = n := by omega
      subst hke
      have Hg := Lib.hid hg
      clear ho hg hlt
      go_wp2
      go_ret
      exact ⟨rfl, Hg.out⟩
theorem dec_Int {H : Type} {enc0 : TypeId × Value → H} {w : World} {base : Nat} {spare : Nat → Bool} {held : Bool} (n : Nat) (cs : List Value) (x : DataW H × List MemPlace)
    (h : DataW.trod enc0 Tryd.prog w base spare held n 3 cs = some x) : ∃ y : Int, cs = encI y ∧ True := by
  obtain ⟨a, h1, _⟩ := DataW.trod_int Tryd.underlying3 h
  exact ⟨a, h1, trivial⟩
set_option maxRecDepth 20000 in
theorem open_IntS {H : Type} {enc0 : TypeId × Value → H} {w : World} {base b0 : Nat} {r : Reach} {spare : Nat → Bool} {held : Bool} {v : Value} {d : DataW H} {p : List MemPlace}
    (o : Value.okWide Tryd.prog w r b0 63 v) (h : DataW.Trod enc0 Tryd.prog w base spare held 63 v d p) :
    ∃ (A : Option Addr) (n c : Nat) (xs : List Int), v = .slice A n c ∧ Rd encI 1 w A n xs ∧ n ≤ 9223372036854775807 := by
  obtain ⟨A, n, c, xs, rfl, h, hc, hm, _⟩ := open_rd encI (fun _ => True) 1 Tryd.underlying63 o h (by kernel_rfl) (by omega) (fun _ => rfl) (fun n cs x hx => dec_Int n cs x hx)
  exact ⟨A, n, c, xs, rfl, h, by unfold maxLen at hm; omega⟩

def smarks (k0 : Int) (n : Nat) : List Span := (List.range n).map fun j => (k0 + 2 * (j : Nat), k0 + 2 * (j : Nat) + 1)
theorem smarks_len (k0 : Int) (n : Nat) : (smarks k0 n).length = n := by simp [smarks]
theorem smarks_at (k0 : Int) {n j : Nat} (h : j < n) : (smarks k0 n)[j]? = some (k0 + 2 * (j : Nat), k0 + 2 * (j : Nat) + 1) := by simp [smarks, h]
theorem smarks_succ (k0 : Int) (n : Nat) : smarks k0 (n + 1) = smarks k0 n ++ [(k0 + 2 * (n : Nat), k0 + 2 * (n : Nat) + 1)] := by simp [smarks, List.range_succ]
theorem smarks_set (k0 : Int) (j : Nat) (xs : List Span) (h : j < xs.length) : (smarks k0 j ++ xs.drop j).set j (k0 + 2 * (j : Nat), k0 + 2 * (j : Nat) + 1) = smarks k0 (j + 1) ++ xs.drop (j + 1) := by
  rw [List.set_append_right _ _ (by rw [smarks_len]; exact Nat.le_refl _), smarks_len, Nat.sub_self, List.drop_eq_getElem_cons h, smarks_succ, List.set_cons_zero, List.append_assoc]
  rfl
set_option maxHeartbeats 800000 in
theorem laws_markSpanS2 (A : Option Addr) (n c base : Nat) (k0 : Int) (xs : List Span) (w : World) (hk0 : 0 ≤ k0) (hk1 : k0 + 2 * n ≤ 1152921504606846976) (hl : xs.length = n)
    (hown : w.ownsRow base 38 2 (.slice A n c) n (xs.flatMap encSpan)) :
    Calls Tryd.prog 8 #[.slice A n c, .int .i64 k0] w fun e w' => e = .returned (.int .i64 (k0 + 2 * n)) ∧ w'.ownsRow base 38 2 (.slice A n c) n ((smarks k0 n).flatMap encSpan) ∧ w.grownBy w' (Value.slice A n c).ownBlock := by
  have hn0 : k0 + 2 * (n : Int) ≤ 1152921504606846976 := hk1
  have HL := Lib.hid hl
  clear hl
  go_enter Tryd.func8, Tryd.ntmps8
  go_wp2_with fail
  go_loopw [1, 5] (fun m i wr => ∃ (j : Nat), j ≤ n ∧ i = .int .i64 j ∧ m = .int .i64 (k0 + 2 * j) ∧ wr.ownsRow base 38 2 (.slice A n c) n ((smarks k0 j ++ xs.drop j).flatMap encSpan) ∧ w.grownBy wr (Value.slice A n c).ownBlock) (fun _ i _ => n - (intOf i).toNat)
  case atStart => exact ⟨0, Nat.zero_le _, rfl, by simp, hown, World.grownBy.refl _ _⟩
  case round =>
    obtain ⟨j, hj, rfl, rfl, ho, hg⟩ := hrel
    clear hown
    by_cases hlt : j < n
    · have hlx : j < xs.length := by rw [HL.out]; exact hlt
      have hA : ∃ g, A = some ⟨g, 0, none⟩ := by
        rcases ho.2 with ⟨hv, h0⟩ | ⟨g, cap, cur, hv, _⟩
        · omega
        · injection hv with hA; exact ⟨g, hA⟩
      obtain ⟨g, rfl⟩ := hA
      have hat : (smarks k0 j ++ xs.drop j)[j]? = some xs[j] := by
        rw [List.getElem?_append_right (by simp [smarks]), smarks_len, Nat.sub_self, List.getElem?_drop]; simp [hlx]
      generalize xs[j] = z at hat
      have c0 : wr.cell? ⟨g, j * 2, none⟩ = some (.int .i64 z.1) := (ho.cellAt (j * 2) (by omega)).trans (flat_get (enc := encSpan) (k := 2) (fun _ => rfl) _ j 0 _ _ hat rfl)
      have c1 : wr.cell? ⟨g, j * 2 + 1, none⟩ = some (.int .i64 z.2) := (ho.cellAt (j * 2 + 1) (by omega)).trans (flat_get (enc := encSpan) (k := 2) (fun _ => rfl) _ j 1 _ _ hat rfl)
      have f0 := ho.frozenAt (j * 2)
      have f1 := ho.frozenAt (j * 2 + 1)
      have s0 := ho.stored (j * 2) (.int .i64 (k0 + 2 * j))
      have s1 := s0.1.stored (j * 2 + 1) (.int .i64 (k0 + 2 * j + 1))
      have hfin := s1.1
      rw [flat_set2 _ j (k0 + 2 * j, k0 + 2 * j + 1), smarks_set k0 j xs hlx] at hfin
      have Hs1 := Lib.hid hfin
      have Hg := Lib.hid (gb_trans hg (gb_trans s0.2 s1.2))
      clear ho hg s0 s1 hat hfin
      go_wp2
      go_roundw
      case rel => exact ⟨j + 1, by omega, by go_num, by go_num, Hs1.out, Hg.out⟩
      case measure => simp [intOf]; omega
    · have hke : j = n := by omega
      subst hke
      have hfin : smarks k0 j ++ xs.drop j = smarks k0 j := by rw [List.drop_eq_nil_of_le (by rw [HL.out]; exact Nat.le_refl _), List.append_nil]
      rw [hfin] at ho
      have Ho := Lib.hid ho
      have Hg := Lib.hid hg
      clear ho hg hfin hlt
      go_wp2
      go_ret
      exact ⟨rfl, Ho.out, Hg.out⟩
set_option maxHeartbeats 800000 in
theorem laws_heldSpanS (A : Option Addr) (n c : Nat) (k0 : Int) (w : World) (hk0 : 0 ≤ k0) (hk1 : k0 + 2 * n ≤ 1152921504606846976) (h : Rd encSpan 2 w A n (smarks k0 n)) :
    Calls Tryd.prog 9 #[.slice A n c, .int .i64 k0] w fun e w' => e = .returned (.int .i64 (k0 + 2 * n)) ∧ Below w.heap.size w w' := by
  have hn0 : k0 + 2 * (n : Int) ≤ 1152921504606846976 := hk1
  have H := Lib.hid h
  clear h
  go_enter Tryd.func9, Tryd.ntmps9
  go_wp2_with fail
  go_loopw [1, 5] (fun m i wr => ∃ j : Nat, j ≤ n ∧ i = .int .i64 j ∧ m = .int .i64 (k0 + 2 * j) ∧ Below w.heap.size w wr) (fun _ i _ => n - (intOf i).toNat)
  case atStart => exact ⟨0, Nat.zero_le _, rfl, by simp, Below.refl _ _⟩
  case round =>
    obtain ⟨j, hj, rfl, rfl, hW⟩ := hrel
    by_cases hlt : j < n
    · obtain ⟨b, off, x, rfl, hb, hx, hc⟩ := (H.out.below hW).elem hlt
      have hxm : x = (k0 + 2 * j, k0 + 2 * j + 1) := by rw [smarks_at k0 hlt] at hx; exact (Option.some.inj hx).symm
      subst hxm
      have g1 : wr.cell? ⟨b, off + j * 2, none⟩ = some (.int .i64 (k0 + 2 * j)) := by simpa using hc 0 _ rfl
      have g2 : wr.cell? ⟨b, off + j * 2 + 1, none⟩ = some (.int .i64 (k0 + 2 * j + 1)) := hc 1 _ rfl
      have HW := Lib.hid hW
      clear hc hx hW H
      go_wp2
      go_roundw
      case rel => exact ⟨j + 1, by omega, by go_num, by go_num, HW.out⟩
      case measure => simp [intOf]; omega
    · have hke : j = n := by omega
      subst hke
      go_wp2
      go_ret
      exact ⟨rfl, hW⟩

set_option maxHeartbeats 3200000 in
set_option maxRecDepth 20000 in
theorem walk_FnExactReadSet (a0 : ByteArray) (w : World) (w0 : a0.size ≤ maxLen) (htab : Lib.TabIs Tryd.prog w "internal/strconv.uint64pow10" .u64 Lib.pow10Tab)
    (hE2 : ∃ pp, w.var? Tryd.prog "strconv.ErrRange" = some #[.iface 95 pp]) (hE1 : ∃ pp, w.var? Tryd.prog "strconv.ErrSyntax" = some #[.iface 95 pp]) :
    Calls Tryd.prog 3 #[.string a0] w fun e w' => e = .returned (.bool true) ∧ Below w.heap.size w w' := by
  unfold maxLen at w0
  have HT := Lib.hid htab
  have HE1 := Lib.hid hE1
  have HE2 := Lib.hid hE2
  clear htab hE1 hE2
  by_cases hs : (1048576 : Int) < (a0.size : Int)
  · go_enter Tryd.func3, Tryd.ntmps3
    go_wp2
    go_ret
    exact ⟨rfl, Below.refl _ _⟩
  have hs' : a0.size ≤ 1048576 := by omega
  obtain ⟨R, hR⟩ : ∃ R, (readSet a0.data.toList).1 = R := ⟨_, rfl⟩
  obtain ⟨b, hb⟩ : ∃ b, (readSet a0.data.toList).2 = b := ⟨_, rfl⟩
  have hRl : R.length ≤ 5 := by
    rw [← hR]
    cases h : (readSet a0.data.toList).2 with
    | true => exact setOk_n (readSet_ok h).2
    | false => rw [readSet_no h]; simp
  have HI := Lib.hid (fun w h1 h2 h3 => hR ▸ hb ▸ impl_ReadSet a0 w hs' h1 h2 h3)
  have HS := Lib.hid (hR ▸ hb ▸ spec_ReadSet a0 w hs')
  clear hR hb
  have HB := Lib.hid (Below.refl w.heap.size w)
  go_enter Tryd.func3, Tryd.ntmps3
  go_wp2_with fail
  refine HS.out.mono ?_
  rintro e w1 ⟨⟨Aw, cw, rfl, ho⟩, hb1⟩
  have Ow := Lib.hid ho
  have LW := Lib.hid ho.lt
  have HB1 := Lib.hid hb1
  clear ho hb1 HS HB
  go_wp2_with fail
  refine (HI.out _ (tab_below HT.out HB1.out) (by obtain ⟨p, hp⟩ := HE1.out; exact ⟨p, var_below hp HB1.out⟩) (by obtain ⟨p, hp⟩ := HE2.out; exact ⟨p, var_below hp HB1.out⟩)).mono ?_
  rintro e w2 ⟨⟨Ag, cg, rfl, ho⟩, hb2⟩
  have Og := Lib.hid ho
  have LG := Lib.hid ho.lt
  have Ow2 := Lib.hid (own_below Ow.out hb2)
  have HB2 := Lib.hid (HB1.out.trans (hb2.mono HB1.out.size))
  have HK := Lib.hid hb2
  have hK0 : w.heap.size ≤ w1.heap.size := HB1.out.size
  clear ho hb2 Ow
  go_wp2_with fail
  refine (laws_eqSpanS Ag Aw R.length cg cw R w2 (by omega) (Rd.of_own (enc := encSpan) (k := 2) (fun _ => rfl) Og.out rfl) (Rd.of_own (enc := encSpan) (k := 2) (fun _ => rfl) Ow2.out rfl)).mono ?_
  rintro e w3 ⟨rfl, hb3⟩
  have Og3 := Lib.hid (own_below Og.out hb3)
  have Ow3 := Lib.hid (own_below Ow2.out hb3)
  have HB3 := Lib.hid (HB2.out.trans (hb3.mono HB2.out.size))
  clear hb3 Og Ow2 HB2
  cases b
  all_goals
    go_wp2_with fail
    refine (laws_markSpanS2 Ag R.length cg w1.heap.size 1 R w3 (by omega) (by omega) rfl Og3.out).mono ?_
    rintro e w4 ⟨rfl, ho4, hg4⟩
    have Og4 := Lib.hid ho4
    have HB4 := Lib.hid (HB3.out.grown hg4 HB3.out.size (fun k hk => by have h1 := LG.out k hk; have h2 := hK0; clear HB3 HK; omega))
    have Ow4 := Lib.hid (Ow3.out.kept hg4 (older (B := w1.heap.size) (fun k hk => (LW.out k hk).2) (fun k hk => (LG.out k hk).1)))
    clear ho4 hg4 Og3 Ow3
    go_wp2_with fail
    refine (laws_heldSpanS Ag R.length cg 1 w4 (by omega) (by omega) (Rd.of_own (enc := encSpan) (k := 2) (fun _ => rfl) Og4.out (smarks_len _ _))).mono ?_
    rintro e w5 ⟨rfl, hb5⟩
    have Og5 := Lib.hid (own_below Og4.out hb5)
    have Ow5 := Lib.hid (own_below Ow4.out hb5)
    have HB5 := Lib.hid (HB4.out.trans (hb5.mono HB4.out.size))
    clear hb5 Og4 Ow4 HB4
    go_wp2_with fail
    refine (HI.out _ (tab_below HT.out HB5.out) (by obtain ⟨p, hp⟩ := HE1.out; exact ⟨p, var_below hp HB5.out⟩) (by obtain ⟨p, hp⟩ := HE2.out; exact ⟨p, var_below hp HB5.out⟩)).mono ?_
    rintro e w6 ⟨⟨Ah, ch, rfl, ho⟩, hb6⟩
    have Oh := Lib.hid ho
    have Og6 := Lib.hid (own_below Og5.out hb6)
    have Ow6 := Lib.hid (own_below Ow5.out hb6)
    have HB6 := Lib.hid (HB5.out.trans (hb6.mono HB5.out.size))
    clear hb6 Og5 Ow5 ho HB5
    go_wp2_with fail
    refine (laws_eqSpanS Ah Aw R.length ch cw R w6 (by omega) (Rd.of_own (enc := encSpan) (k := 2) (fun _ => rfl) Oh.out rfl) (Rd.of_own (enc := encSpan) (k := 2) (fun _ => rfl) Ow6.out rfl)).mono ?_
    rintro e w7 ⟨rfl, hb7⟩
    have Og7 := Lib.hid (own_below Og6.out hb7)
    have HB7 := Lib.hid (HB6.out.trans (hb7.mono HB6.out.size))
    clear hb7 Og6 Oh Ow6 HB6
    go_wp2_with fail
    refine (laws_heldSpanS Ag R.length cg 1 w7 (by omega) (by omega) (Rd.of_own (enc := encSpan) (k := 2) (fun _ => rfl) Og7.out (smarks_len _ _))).mono ?_
    rintro e w8 ⟨rfl, hb8⟩
    have HB8 := Lib.hid (HB7.out.trans (hb8.mono HB7.out.size))
    clear hb8 Og7 HB7
    go_wp2
    go_ret
    exact ⟨rfl, HB8.out⟩

end Go.Proofs.YthccfnoebbimjaaDoor
