/-
  Walks: what each function returns, and that it leaves what lay in memory as it was.
-/
import Derived.Test.YtmkhmgompajdaaaProg
import Derived.Test.YtmkhmgompajdaaaPlain
import Derived.Test.YtmkhmgompajdaaaBase2
import Derived.Test.YtmkhmgompajdaaaOpen2
import Derived.Test.YtmkhmgompajdaaaShelf
import Derived.WalkKit
import Derived.WalkSpells
import Derived.WalkLawsBesides
import Derived.Lib.Hide
import Derived.Deep.LoopGhost
import Derived.Deep.QuietTactic
import Derived.BigQuiet
import Derived.Handy
import Derived.Deep.RegionHeld3
import Derived.StillTailTactics
import Derived.OpenShut
import Derived.ChangeSame
import Derived.Laws.StructEq

import Derived.Test.YtmkhmgompajdaaaPlainT

import Derived.Test.YtmkhmgompajdaaaW1

namespace Go.Proofs.Ytmkhmgompajdaaa
open Go.ChangeShapes Go.WideShapes Go.ChangeAt Go.RowKit Go.Deep
set_option linter.unusedVariables false
set_option linter.unusedSimpArgs false

set_option maxRecDepth 20000 in
theorem dec_Msg {H : Type} {enc0 : TypeId × Value → H} {w : World} {base : Nat} {spare : Nat → Bool} {held : Bool} (n : Nat) (cs : List Value) (x : DataW H × List MemPlace)
    (h : DataW.trod enc0 Try.prog w base spare held n 109 cs = some x) : ∃ y : Msg, cs = encMsg y ∧ y.Big := by
  obtain ⟨xs, m, _, _, hl, hlen, hf⟩ := DataW.trod_struct (P := Try.prog) (t := 109) Try.underlying109 h
  have hl2 : cs.length = 3 := hl
  have hx2 : xs.length = 3 := hlen
  match cs, hl2, xs, hx2 with
  | [c0, c1, c2], _, [y0, y1, y2], _ =>
    have e0 : DataW.trod enc0 Try.prog w base spare held m 3 [c0] = some y0 := hf 0 _ rfl
    obtain ⟨a0, h0, _, b0⟩ := DataW.trod_int Try.underlying3 e0
    obtain rfl := List.singleton_inj.1 h0
    have e1 : DataW.trod enc0 Try.prog w base spare held m 3 [c1] = some y1 := hf 1 _ rfl
    obtain ⟨a1, h1, _, b1⟩ := DataW.trod_int Try.underlying3 e1
    obtain rfl := List.singleton_inj.1 h1
    have e2 : DataW.trod enc0 Try.prog w base spare held m 9 [c2] = some y2 := hf 2 _ rfl
    obtain ⟨a2, h2, _, b2⟩ := DataW.trod_string Try.underlying9 e2
    obtain rfl := List.singleton_inj.1 h2
    exact ⟨⟨a0, a1, a2⟩, rfl, b2⟩
theorem laws_szMsg (x : Msg) (left : Int) (w : World) (h0 : 0 ≤ left) (h1 : left ≤ 1048576) (hx : x.Big) :
    Calls Try.prog 93 #[.agg #[.int .i64 x.uid, .int .i64 x.flags, .string x.text], .int .i64 left] w fun e w' => (∃ v : Int, e = .returned (.int .i64 v) ∧ -1 ≤ v ∧ v ≤ left ∧ (0 ≤ v → x.Fit)) ∧ Below w.heap.size w w' := by
  unfold Msg.Big maxLen at hx
  unfold Msg.Fit
  by_cases c : left - x.text.size < 0
  all_goals
    go_enter Try.func93, Try.ntmps93
    go_wp2
    go_ret
    exact ⟨⟨_, rfl, by omega, by omega, by omega⟩, by go_grown⟩
set_option maxHeartbeats 800000 in
theorem laws_szMsgS (A : Option Addr) (n c : Nat) (xs : List Msg) (left : Int) (w : World) (h0 : 0 ≤ left) (h1 : left ≤ 1048576) (hn : n ≤ 9223372036854775807) (h : Rd encMsg 3 w A n xs) (hx : ∀ y ∈ xs, y.Big) :
    Calls Try.prog 54 #[.slice A n c, .int .i64 left] w fun e w' => (∃ v : Int, e = .returned (.int .i64 v) ∧ -1 ≤ v ∧ v ≤ left ∧ (0 ≤ v → n ≤ 1048576 ∧ ∀ y ∈ xs, y.Fit)) ∧ Below w.heap.size w w' := by
  have HL := Lib.hid h.1
  have H := Lib.hid h
  have HX := Lib.hid hx
  clear h hx
  by_cases hlt0 : left - (n : Int) < 0
  · go_enter Try.func54, Try.ntmps54
    go_wp2
    go_ret
    exact ⟨⟨-1, rfl, by omega, by omega, by omega⟩, Below.refl _ _⟩
  · go_enter Try.func54, Try.ntmps54
    go_wp2_with fail
    go_loopw [1, 5] (fun l i wr => ∃ (k : Nat) (v : Int), k ≤ n ∧ i = .int .i64 k ∧ l = .int .i64 v ∧ 0 ≤ v ∧ v ≤ left ∧ Hid (∀ (j : Nat) (y : Msg), j < k → xs[j]? = some y → y.Fit) ∧ Below w.heap.size w wr) (fun _ i _ => n - (intOf i).toNat)
    case atStart => exact ⟨0, left - n, Nat.zero_le _, rfl, rfl, by omega, by omega, fun j y hj => absurd hj (by omega), Below.refl _ _⟩
    case round =>
      obtain ⟨k, v, hk, rfl, rfl, hv0, hv1, ha, hW⟩ := hrel
      by_cases hlt : k < n
      · obtain ⟨b, off, x, rfl, _, hx, hc⟩ := (H.out.below hW).elem hlt
        have g0 : wr.cell? ⟨b, off + k * 3, none⟩ = some (.int .i64 x.uid) := by simpa using hc 0 _ rfl
        have g1 : wr.cell? ⟨b, off + k * 3 + 1, none⟩ = some (.int .i64 x.flags) := hc 1 _ rfl
        have g2 : wr.cell? ⟨b, off + k * 3 + 2, none⟩ = some (.string x.text) := hc 2 _ rfl
        have hcall := laws_szMsg x v wr (by omega) (by omega) (HX.out x (List.mem_of_getElem? hx))
        have HC := Lib.hid hcall
        have Hx := Lib.hid hx
        have HW := Lib.hid hW
        clear hc hx hcall hW H
        go_wp2_with fail
        refine HC.out.mono ?_
        rintro e w1 ⟨⟨v1, rfl, hm1, hle, hfit⟩, hb1⟩
        have HB := Lib.hid (HW.out.trans (hb1.mono HW.out.size))
        have HF := Lib.hid hfit
        clear hb1 hfit HC
        by_cases hneg : v1 < 0
        · go_wp2
          go_ret
          exact ⟨⟨-1, rfl, by omega, by omega, by omega⟩, HB.out⟩
        · have hs := Lib.hid (allP_succ ha.out Hx.out (HF.out (by omega)))
          go_wp2
          go_roundw
          case rel => exact ⟨k + 1, v1, by omega, by go_num, rfl, by omega, by omega, hs.out, HB.out⟩
          case measure => simp [intOf]; omega
      · have hke : k = n := by omega
        have hfin := Lib.hid (show ∀ y ∈ xs, y.Fit from fun y hy => by
          obtain ⟨j, hj, e⟩ := List.getElem_of_mem hy
          exact ha.out j y (by rw [hke, ← HL.out]; exact hj) (by rw [List.getElem?_eq_getElem hj, e]))
        clear ha hke
        go_wp2
        go_ret
        exact ⟨⟨v, rfl, by omega, by omega, fun _ => ⟨by omega, hfin.out⟩⟩, hW⟩
theorem laws_toMsg (x : Msg) (w : World) :
    Calls Try.prog 94 #[.agg #[.int .i64 x.uid, .int .i64 x.flags, .string x.text]] w fun e w' => e = .returned (.agg #[.int .i64 x.uid, .int .i64 x.flags, .string x.text]) ∧ Below w.heap.size w w' := by
  go_enter Try.func94, Try.ntmps94
  go_wp2
  go_returns
  exact ⟨rfl, by go_grown⟩
set_option maxHeartbeats 1600000 in
set_option maxRecDepth 20000 in
theorem laws_toMsgS (A : Option Addr) (n c : Nat) (xs : List Msg) (w : World) (hn : n ≤ 1048576) (h : Rd encMsg 3 w A n xs) :
    Calls Try.prog 59 #[.slice A n c] w (RetOwn encMsg 3 81 w xs) := by
  have HL := Lib.hid h.1
  have H := Lib.hid h
  clear h
  go_enter Try.func59, Try.ntmps59
  go_wp2_with (at_make; refine wpList_mk (enc := encMsg) zeroMsg (k := 3) (by omega) rfl rfl _ _ 27 81 rfl (.agg #[.int .i64 0, .int .i64 0, .string ByteArray.empty]) 32 Try.underlying27 (by kernel_rfl) rfl n rfl rfl (by omega) (by omega) ?_; intro w1 g hown hg hb1)
  go_wp2_with fail
  go_loopw [4] (fun i wr => ∃ j : Nat, j ≤ n ∧ i = .int .i64 j ∧ wr.ownsRow w.heap.size 81 3 (.slice (some ⟨g, 0, none⟩) n n) n ((xs.take j ++ List.replicate (n - j) zeroMsg).flatMap encMsg) ∧ Below w.heap.size w wr) (fun i _ => n - (intOf i).toNat)
  case atStart => exact ⟨0, Nat.zero_le _, rfl, hown, hb1⟩
  case round =>
    obtain ⟨j, hj, rfl, ho, hW⟩ := hrel
    clear hown hb1
    by_cases hlt : j < n
    · obtain ⟨b, off, x, rfl, hb, hx, hc⟩ := (H.out.below hW).elem hlt
      have g0 : wr.cell? ⟨b, off + j * 3, none⟩ = some (.int .i64 x.uid) := by simpa using hc 0 _ rfl
      have g1 : wr.cell? ⟨b, off + j * 3 + 1, none⟩ = some (.int .i64 x.flags) := hc 1 _ rfl
      have g2 : wr.cell? ⟨b, off + j * 3 + 2, none⟩ = some (.string x.text) := hc 2 _ rfl
      have HX := Lib.hid hx
      have Ho := Lib.hid ho
      have HW := Lib.hid hW
      clear hc hx ho hW H
      go_wp2_with fail
      refine (laws_toMsg _ _).mono ?_
      rintro e w2 ⟨rfl, hb2⟩
      have ho1 := own_below Ho.out hb2
      have hat := take_at xs zeroMsg n j HL.out hlt
      have c0 : w2.cell? ⟨g, j * 3, none⟩ = some (.int .i64 0) := (ho1.cellAt (j * 3) (by omega)).trans (flat_get (enc := encMsg) (k := 3) (fun _ => rfl) _ j 0 _ _ hat rfl)
      have f0 := ho1.frozenAt (j * 3)
      have c1 : w2.cell? ⟨g, j * 3 + 1, none⟩ = some (.int .i64 0) := (ho1.cellAt (j * 3 + 1) (by omega)).trans (flat_get (enc := encMsg) (k := 3) (fun _ => rfl) _ j 1 _ _ hat rfl)
      have f1 := ho1.frozenAt (j * 3 + 1)
      have c2 : w2.cell? ⟨g, j * 3 + 2, none⟩ = some (.string ByteArray.empty) := (ho1.cellAt (j * 3 + 2) (by omega)).trans (flat_get (enc := encMsg) (k := 3) (fun _ => rfl) _ j 2 _ _ hat rfl)
      have f2 := ho1.frozenAt (j * 3 + 2)
      have s0 := ho1.stored (j * 3) (.int .i64 x.uid)
      have s1 := s0.1.stored (j * 3 + 1) (.int .i64 x.flags)
      have s2 := s1.1.stored (j * 3 + 2) (.string x.text)
      have hfin := s2.1
      rw [flat_set_Msg _ _ _ (by rw [List.length_append, List.length_take, List.length_replicate, HL.out]; omega), take_set xs zeroMsg x n j HL.out hlt HX.out] at hfin
      have Hfin := Lib.hid hfin
      have Hbel := Lib.hid ((((HW.out.trans (hb2.mono HW.out.size)).trans (gb_to_below (B := w.heap.size) s0.2 (by have h1 := HW.out.size; have h2 := hb2.size; simp; omega) (fun k hk => by simp at hk; omega))).trans (gb_to_below (B := w.heap.size) s1.2 (by have h1 := HW.out.size; have h2 := hb2.size; simp; omega) (fun k hk => by simp at hk; omega))).trans (gb_to_below (B := w.heap.size) s2.2 (by have h1 := HW.out.size; have h2 := hb2.size; simp; omega) (fun k hk => by simp at hk; omega)))
      clear s0 s1 s2 hfin hat ho1 hb2
      go_wp2
      go_roundw
      case rel => exact ⟨j + 1, by omega, by go_num, Hfin.out, Hbel.out⟩
      case measure => simp [intOf]; omega
    · have hke : j = n := by omega
      subst hke
      rw [Nat.sub_self, List.replicate_zero, List.append_nil, List.take_of_length_le (by rw [HL.out]; exact Nat.le_refl _)] at ho
      have Ho := Lib.hid ho
      clear ho hlt
      go_wp2
      go_ret
      have ho2 := Ho.out
      have hl := HL.out
      subst hl
      exact ⟨_, _, rfl, ho2, hW⟩
theorem laws_eqMsg (x : Msg) (w : World) :
    Calls Try.prog 96 #[.agg #[.int .i64 x.uid, .int .i64 x.flags, .string x.text], .agg #[.int .i64 x.uid, .int .i64 x.flags, .string x.text]] w fun e w' => e = .returned (.bool true) ∧ Below w.heap.size w w' := by
  go_enter Try.func96, Try.ntmps96
  go_wp2
  go_ret
  exact ⟨rfl, by go_grown⟩
set_option maxHeartbeats 1600000 in
set_option maxRecDepth 20000 in
theorem laws_eqMsgS (A1 A2 : Option Addr) (n c1 c2 : Nat) (xs : List Msg) (w : World) (hn : n ≤ 4611686018427387904) (h1 : Rd encMsg 3 w A1 n xs) (h2 : Rd encMsg 3 w A2 n xs) :
    Calls Try.prog 64 #[.slice A1 n c1, .slice A2 n c2] w fun e w' => e = .returned (.bool true) ∧ Below w.heap.size w w' := by
  have H1 := Lib.hid h1
  have H2 := Lib.hid h2
  clear h1 h2
  go_enter Try.func64, Try.ntmps64
  go_wp2_with fail
  go_loopw [5] (fun i wr => ∃ k : Nat, k ≤ n ∧ i = .int .i64 k ∧ Below w.heap.size w wr) (fun i _ => n - (intOf i).toNat)
  case atStart => exact ⟨0, Nat.zero_le _, rfl, Below.refl _ _⟩
  case round =>
    obtain ⟨k, hk, rfl, hW⟩ := hrel
    by_cases hlt : k < n
    · obtain ⟨b1, o1, x, rfl, _, hx, hc1⟩ := (H1.out.below hW).elem hlt
      obtain ⟨b2, o2, x', rfl, _, hx', hc2⟩ := (H2.out.below hW).elem hlt
      have hxx : x' = x := by rw [hx] at hx'; exact (Option.some.inj hx').symm
      subst hxx
      have g10 : wr.cell? ⟨b1, o1 + k * 3, none⟩ = some (.int .i64 x'.uid) := by simpa using hc1 0 _ rfl
      have g11 : wr.cell? ⟨b1, o1 + k * 3 + 1, none⟩ = some (.int .i64 x'.flags) := hc1 1 _ rfl
      have g12 : wr.cell? ⟨b1, o1 + k * 3 + 2, none⟩ = some (.string x'.text) := hc1 2 _ rfl
      have g20 : wr.cell? ⟨b2, o2 + k * 3, none⟩ = some (.int .i64 x'.uid) := by simpa using hc2 0 _ rfl
      have g21 : wr.cell? ⟨b2, o2 + k * 3 + 1, none⟩ = some (.int .i64 x'.flags) := hc2 1 _ rfl
      have g22 : wr.cell? ⟨b2, o2 + k * 3 + 2, none⟩ = some (.string x'.text) := hc2 2 _ rfl
      have HW := Lib.hid hW
      clear hc1 hc2 hx hx' hW H1 H2
      have hkn : (k : Int) < (n : Int) := by omega
      have hk0 : (0 : Int) ≤ (k : Int) := by omega
      go_wp2_with fail
      go_still_tail 8, (by kernel_rfl)
      change wpList _ _ _ _ _ wr.drew
      replace g10 : wr.drew.cell? ⟨b1, o1 + k * 3, none⟩ = some (.int .i64 x'.uid) := g10
      replace g11 : wr.drew.cell? ⟨b1, o1 + k * 3 + 1, none⟩ = some (.int .i64 x'.flags) := g11
      replace g12 : wr.drew.cell? ⟨b1, o1 + k * 3 + 2, none⟩ = some (.string x'.text) := g12
      replace g20 : wr.drew.cell? ⟨b2, o2 + k * 3, none⟩ = some (.int .i64 x'.uid) := g20
      replace g21 : wr.drew.cell? ⟨b2, o2 + k * 3 + 1, none⟩ = some (.int .i64 x'.flags) := g21
      replace g22 : wr.drew.cell? ⟨b2, o2 + k * 3 + 2, none⟩ = some (.string x'.text) := g22
      have HW2 := Lib.hid (HW.out.drew)
      clear HW
      generalize wr.drew = w2 at *
      go_wp2_with (go_at_call 96; refine (laws_eqMsg x' _).mono ?_; rintro e w3 ⟨rfl, hb3⟩)
      go_roundw
      case rel => exact ⟨k + 1, by omega, by go_num, HW2.out.trans (hb3.mono HW2.out.size)⟩
      case measure => simp [intOf]; omega
    · go_wp2
      go_ret
      exact ⟨rfl, hW⟩

end Go.Proofs.Ytmkhmgompajdaaa
