/-
  Walks: what each function returns, and that it leaves what lay in memory as it was.
-/
import Derived.Test.YtahabmmaemcbcaaDoorProg
import Derived.Test.YtahabmmaemcbcaaDoorPlain
import Derived.Test.YtahabmmaemcbcaaDoorBase2
import Derived.Test.YtahabmmaemcbcaaDoorOpen2
import Derived.Test.YtahabmmaemcbcaaDoorShelf
import Derived.WalkKit
import Derived.WalkSpells
import Derived.WalkLawsBesides
import Derived.Lib.Hide
import Derived.Deep.LoopGhost
import Derived.Deep.QuietTactic
import Derived.BigQuiet
import Derived.Handy
import Derived.Deep.RegionHeld3
import Derived.StillTailTactics
import Derived.OpenShut
import Derived.ChangeSame
import Derived.Laws.StructEq

import Derived.Test.YtahabmmaemcbcaaDoorPlainT

import Derived.Test.YtahabmmaemcbcaaDoorW1

import Derived.Test.YtahabmmaemcbcaaDoorW2

import Derived.Test.YtahabmmaemcbcaaDoorW3

import Derived.Lib.ItoaMem
import Derived.Lib.ItoaLen
import Derived.Lib.LaidTab

namespace Go.Proofs.YtahabmmaemcbcaaDoor
open Go.ChangeShapes Go.WideShapes Go.ChangeAt Go.RowKit Go.Deep
set_option linter.unusedVariables false
set_option linter.unusedSimpArgs false

set_option maxRecDepth 20000 in
theorem dec_Token {H : Type} {enc0 : TypeId × Value → H} {w : World} {base : Nat} {spare : Nat → Bool} {held : Bool} (n : Nat) (cs : List Value) (x : DataW H × List MemPlace)
    (h : DataW.trod enc0 Tryd.prog w base spare held n 31 cs = some x) : ∃ y : Token, cs = encToken y ∧ y.Big := by
  obtain ⟨xs, m, _, _, hl, hlen, hf⟩ := DataW.trod_struct (P := Tryd.prog) (t := 31) Tryd.underlying31 h
  have hl2 : cs.length = 2 := hl
  have hx2 : xs.length = 2 := hlen
  match cs, hl2, xs, hx2 with
  | [c0, c1], _, [y0, y1], _ =>
    have e0 : DataW.trod enc0 Tryd.prog w base spare held m 3 [c0] = some y0 := hf 0 _ rfl
    obtain ⟨a0, h0, _, b0⟩ := DataW.trod_int Tryd.underlying3 e0
    obtain rfl := List.singleton_inj.1 h0
    have e1 : DataW.trod enc0 Tryd.prog w base spare held m 9 [c1] = some y1 := hf 1 _ rfl
    obtain ⟨a1, h1, _, b1⟩ := DataW.trod_string Tryd.underlying9 e1
    obtain rfl := List.singleton_inj.1 h1
    exact ⟨⟨a0, a1⟩, rfl, b1⟩
theorem laws_szToken (x : Token) (left : Int) (w : World) (h0 : 0 ≤ left) (h1 : left ≤ 1048576) (hx : x.Big) :
    Calls Tryd.prog 9 #[.agg #[.int .i64 x.kind, .string x.text], .int .i64 left] w fun e w' => (∃ v : Int, e = .returned (.int .i64 v) ∧ -1 ≤ v ∧ v ≤ left ∧ (0 ≤ v → x.Fit)) ∧ Below w.heap.size w w' := by
  unfold Token.Big maxLen at hx
  unfold Token.Fit
  by_cases c : left - x.text.size < 0
  all_goals
    go_enter Tryd.func9, Tryd.ntmps9
    go_wp2
    go_ret
    exact ⟨⟨_, rfl, by omega, by omega, by omega⟩, by go_grown⟩
set_option maxHeartbeats 800000 in
theorem laws_szTokenS (A : Option Addr) (n c : Nat) (xs : List Token) (left : Int) (w : World) (h0 : 0 ≤ left) (h1 : left ≤ 1048576) (hn : n ≤ 9223372036854775807) (h : Rd encToken 2 w A n xs) (hx : ∀ y ∈ xs, y.Big) :
    Calls Tryd.prog 4 #[.slice A n c, .int .i64 left] w fun e w' => (∃ v : Int, e = .returned (.int .i64 v) ∧ -1 ≤ v ∧ v ≤ left ∧ (0 ≤ v → n ≤ 1048576 ∧ ∀ y ∈ xs, y.Fit)) ∧ Below w.heap.size w w' := by
  have HL := Lib.hid h.1
  have H := Lib.hid h
  have HX := Lib.hid hx
  clear h hx
  by_cases hlt0 : left - (n : Int) < 0
  · go_enter Tryd.func4, Tryd.ntmps4
    go_wp2
    go_ret
    exact ⟨⟨-1, rfl, by omega, by omega, by omega⟩, Below.refl _ _⟩
  · go_enter Tryd.func4, Tryd.ntmps4
    go_wp2_with fail
    go_loopw [1, 5] (fun l i wr => ∃ (k : Nat) (v : Int), k ≤ n ∧ i = .int .i64 k ∧ l = .int .i64 v ∧ 0 ≤ v ∧ v ≤ left ∧ Hid (∀ (j : Nat) (y : Token), j < k → xs[j]? = some y → y.Fit) ∧ Below w.heap.size w wr) (fun _ i _ => n - (intOf i).toNat)
    case atStart => exact ⟨0, left - n, Nat.zero_le _, rfl, rfl, by omega, by omega, fun j y hj => absurd hj (by omega), Below.refl _ _⟩
    case round =>
      obtain ⟨k, v, hk, rfl, rfl, hv0, hv1, ha, hW⟩ := hrel
      by_cases hlt : k < n
      · obtain ⟨b, off, x, rfl, _, hx, hc⟩ := (H.out.below hW).elem hlt
        have g0 : wr.cell? ⟨b, off + k * 2, none⟩ = some (.int .i64 x.kind) := by simpa using hc 0 _ rfl
        have g1 : wr.cell? ⟨b, off + k * 2 + 1, none⟩ = some (.string x.text) := hc 1 _ rfl
        have hcall := laws_szToken x v wr (by omega) (by omega) (HX.out x (List.mem_of_getElem? hx))
        have HC := Lib.hid hcall
        have Hx := Lib.hid hx
        have HW := Lib.hid hW
        clear hc hx hcall hW H
        go_wp2_with fail
        refine HC.out.mono ?_
        rintro e w1 ⟨⟨v1, rfl, hm1, hle, hfit⟩, hb1⟩
        have HB := Lib.hid (HW.out.trans (hb1.mono HW.out.size))
        have HF := Lib.hid hfit
        clear hb1 hfit HC
        by_cases hneg : v1 < 0
        · go_wp2
          go_ret
          exact ⟨⟨-1, rfl, by omega, by omega, by omega⟩, HB.out⟩
        · have hs := Lib.hid (allP_succ ha.out Hx.out (HF.out (by omega)))
          go_wp2
          go_roundw
          case rel => exact ⟨k + 1, v1, by omega, by go_num, rfl, by omega, by omega, hs.out, HB.out⟩
          case measure => simp [intOf]; omega
      · have hke : k = n := by omega
        have hfin := Lib.hid (show ∀ y ∈ xs, y.Fit from fun y hy => by
          obtain ⟨j, hj, e⟩ := List.getElem_of_mem hy
          exact ha.out j y (by rw [hke, ← HL.out]; exact hj) (by rw [List.getElem?_eq_getElem hj, e]))
        clear ha hke
        go_wp2
        go_ret
        exact ⟨⟨v, rfl, by omega, by omega, fun _ => ⟨by omega, hfin.out⟩⟩, hW⟩
theorem laws_toToken (x : Token) (w : World) :
    Calls Tryd.prog 12 #[.agg #[.int .i64 x.kind, .string x.text]] w fun e w' => e = .returned (.agg #[.int .i64 x.kind, .string x.text]) ∧ Below w.heap.size w w' := by
  go_enter Tryd.func12, Tryd.ntmps12
  go_wp2
  go_returns
  exact ⟨rfl, by go_grown⟩
set_option maxHeartbeats 1600000 in
set_option maxRecDepth 20000 in
theorem laws_toTokenS (A : Option Addr) (n c : Nat) (xs : List Token) (w : World) (hn : n ≤ 1048576) (h : Rd encToken 2 w A n xs) :
    Calls Tryd.prog 6 #[.slice A n c] w (RetOwn encToken 2 34 w xs) := by
  have HL := Lib.hid h.1
  have H := Lib.hid h
  clear h
  go_enter Tryd.func6, Tryd.ntmps6
  go_wp2_with (at_make; refine wpList_mk (enc := encToken) zeroToken (k := 2) (by omega) rfl rfl _ _ 25 34 rfl (.agg #[.int .i64 0, .string ByteArray.empty]) 24 Tryd.underlying25 (by kernel_rfl) rfl n rfl rfl (by omega) (by omega) ?_; intro w1 g hown hg hb1)
  go_wp2_with fail
  go_loopw [4] (fun i wr => ∃ j : Nat, j ≤ n ∧ i = .int .i64 j ∧ wr.ownsRow w.heap.size 34 2 (.slice (some ⟨g, 0, none⟩) n n) n ((xs.take j ++ List.replicate (n - j) zeroToken).flatMap encToken) ∧ Below w.heap.size w wr) (fun i _ => n - (intOf i).toNat)
  case atStart => exact ⟨0, Nat.zero_le _, rfl, hown, hb1⟩
  case round =>
    obtain ⟨j, hj, rfl, ho, hW⟩ := hrel
    clear hown hb1
    by_cases hlt : j < n
    · obtain ⟨b, off, x, rfl, hb, hx, hc⟩ := (H.out.below hW).elem hlt
      have g0 : wr.cell? ⟨b, off + j * 2, none⟩ = some (.int .i64 x.kind) := by simpa using hc 0 _ rfl
      have g1 : wr.cell? ⟨b, off + j * 2 + 1, none⟩ = some (.string x.text) := hc 1 _ rfl
      have HX := Lib.hid hx
      have Ho := Lib.hid ho
      have HW := Lib.hid hW
      clear hc hx ho hW H
      go_wp2_with fail
      refine (laws_toToken _ _).mono ?_
      rintro e w2 ⟨rfl, hb2⟩
      have ho1 := own_below Ho.out hb2
      have hat := take_at xs zeroToken n j HL.out hlt
      have c0 : w2.cell? ⟨g, j * 2, none⟩ = some (.int .i64 0) := (ho1.cellAt (j * 2) (by omega)).trans (flat_get (enc := encToken) (k := 2) (fun _ => rfl) _ j 0 _ _ hat rfl)
      have f0 := ho1.frozenAt (j * 2)
      have c1 : w2.cell? ⟨g, j * 2 + 1, none⟩ = some (.string ByteArray.empty) := (ho1.cellAt (j * 2 + 1) (by omega)).trans (flat_get (enc := encToken) (k := 2) (fun _ => rfl) _ j 1 _ _ hat rfl)
      have f1 := ho1.frozenAt (j * 2 + 1)
      have s0 := ho1.stored (j * 2) (.int .i64 x.kind)
      have s1 := s0.1.stored (j * 2 + 1) (.string x.text)
      have hfin := s1.1
      rw [flat_set_Token _ _ _ (by rw [List.length_append, List.length_take, List.length_replicate, HL.out]; omega), take_set xs zeroToken x n j HL.out hlt HX.out] at hfin
      have Hfin := Lib.hid hfin
      have Hbel := Lib.hid (((HW.out.trans (hb2.mono HW.out.size)).trans (gb_to_below (B := w.heap.size) s0.2 (by have h1 := HW.out.size; have h2 := hb2.size; simp; omega) (fun k hk => by simp at hk; omega))).trans (gb_to_below (B := w.heap.size) s1.2 (by have h1 := HW.out.size; have h2 := hb2.size; simp; omega) (fun k hk => by simp at hk; omega)))
      clear s0 s1 hfin hat ho1 hb2
      go_wp2
      go_roundw
      case rel => exact ⟨j + 1, by omega, by go_num, Hfin.out, Hbel.out⟩
      case measure => simp [intOf]; omega
    · have hke : j = n := by omega
      subst hke
      rw [Nat.sub_self, List.replicate_zero, List.append_nil, List.take_of_length_le (by rw [HL.out]; exact Nat.le_refl _)] at ho
      have Ho := Lib.hid ho
      clear ho hlt
      go_wp2
      go_ret
      have ho2 := Ho.out
      have hl := HL.out
      subst hl
      exact ⟨_, _, rfl, ho2, hW⟩
theorem laws_eqToken (x : Token) (w : World) :
    Calls Tryd.prog 17 #[.agg #[.int .i64 x.kind, .string x.text], .agg #[.int .i64 x.kind, .string x.text]] w fun e w' => e = .returned (.bool true) ∧ Below w.heap.size w w' := by
  go_enter Tryd.func17, Tryd.ntmps17
  go_wp2
  go_ret
  exact ⟨rfl, by go_grown⟩
set_option maxHeartbeats 1600000 in
set_option maxRecDepth 20000 in
theorem laws_eqTokenS (A1 A2 : Option Addr) (n c1 c2 : Nat) (xs : List Token) (w : World) (hn : n ≤ 4611686018427387904) (h1 : Rd encToken 2 w A1 n xs) (h2 : Rd encToken 2 w A2 n xs) :
    Calls Tryd.prog 8 #[.slice A1 n c1, .slice A2 n c2] w fun e w' => e = .returned (.bool true) ∧ Below w.heap.size w w' := by
  have H1 := Lib.hid h1
  have H2 := Lib.hid h2
  clear h1 h2
  go_enter Tryd.func8, Tryd.ntmps8
  go_wp2_with fail
  go_loopw [5] (fun i wr => ∃ k : Nat, k ≤ n ∧ i = .int .i64 k ∧ Below w.heap.size w wr) (fun i _ => n - (intOf i).toNat)
  case atStart => exact ⟨0, Nat.zero_le _, rfl, Below.refl _ _⟩
  case round =>
    obtain ⟨k, hk, rfl, hW⟩ := hrel
    by_cases hlt : k < n
    · obtain ⟨b1, o1, x, rfl, _, hx, hc1⟩ := (H1.out.below hW).elem hlt
      obtain ⟨b2, o2, x', rfl, _, hx', hc2⟩ := (H2.out.below hW).elem hlt
      have hxx : x' = x := by rw [hx] at hx'; exact (Option.some.inj hx').symm
      subst hxx
      have g10 : wr.cell? ⟨b1, o1 + k * 2, none⟩ = some (.int .i64 x'.kind) := by simpa using hc1 0 _ rfl
      have g11 : wr.cell? ⟨b1, o1 + k * 2 + 1, none⟩ = some (.string x'.text) := hc1 1 _ rfl
      have g20 : wr.cell? ⟨b2, o2 + k * 2, none⟩ = some (.int .i64 x'.kind) := by simpa using hc2 0 _ rfl
      have g21 : wr.cell? ⟨b2, o2 + k * 2 + 1, none⟩ = some (.string x'.text) := hc2 1 _ rfl
      have HW := Lib.hid hW
      clear hc1 hc2 hx hx' hW H1 H2
      have hkn : (k : Int) < (n : Int) := by omega
      have hk0 : (0 : Int) ≤ (k : Int) := by omega
      go_wp2_with fail
      go_still_tail 8, (by kernel_rfl)
      change wpList _ _ _ _ _ wr.drew
      replace g10 : wr.drew.cell? ⟨b1, o1 + k * 2, none⟩ = some (.int .i64 x'.kind) := g10
      replace g11 : wr.drew.cell? ⟨b1, o1 + k * 2 + 1, none⟩ = some (.string x'.text) := g11
      replace g20 : wr.drew.cell? ⟨b2, o2 + k * 2, none⟩ = some (.int .i64 x'.kind) := g20
      replace g21 : wr.drew.cell? ⟨b2, o2 + k * 2 + 1, none⟩ = some (.string x'.text) := g21
      have HW2 := Lib.hid (HW.out.drew)
      clear HW
      generalize wr.drew = w2 at *
      go_wp2_with (go_at_call 17; refine (laws_eqToken x' _).mono ?_; rintro e w3 ⟨rfl, hb3⟩)
      go_roundw
      case rel => exact ⟨k + 1, by omega, by go_num, HW2.out.trans (hb3.mono HW2.out.size)⟩
      case measure => simp [intOf]; omega
    · go_wp2
      go_ret
      exact ⟨rfl, hW⟩

theorem atom_idx (c : UInt8) : decide (Lib.indexByte [40, 41, 123, 34, 92] c < 0) = !(c == 40 || c == 41 || c == 123 || c == 34 || c == 92) := by
  have h := u8_all (fun c => decide (Lib.indexByte [40, 41, 123, 34, 92] c < 0) == !(c == 40 || c == 41 || c == 123 || c == 34 || c == 92)) (by decide +kernel) c
  exact beq_iff_eq.1 h
set_option maxHeartbeats 400000 in
theorem impl_isAtomByte (c : UInt8) (w : World) :
    Calls Tryd.prog 27 #[.int .u8 (c.toNat : Int)] w fun e w' => e = .returned (.bool (atomB c)) ∧ w = w' := by
  have hcc : ((c.toNat : Int)).toNat.toUInt8 = c := by simp
  by_cases h1 : (33 : Int) ≤ (c.toNat : Int)
  · by_cases h2 : (c.toNat : Int) ≤ 126
    · have hi : atomB c = decide (Lib.indexByte [40, 41, 123, 34, 92] c < 0) := by
        rw [atom_idx]; unfold atomB; rw [decide_eq_true (show 33 ≤ c.toNat by omega), decide_eq_true (show c.toNat ≤ 126 by omega)]; simp
      have Hi := Lib.hid hi
      clear hi
      go_enter Tryd.func27, Tryd.ntmps27
      go_wp2_with (go_at_call 33; refine (Tryd.strings_IndexByte _ _ _).mono ?_; rintro e w' ⟨rfl, rfl⟩; rw [hcc])
      go_ret
      exact ⟨ret_b Hi.out.symm, rfl⟩
    · have h2' : decide ((c.toNat : Int) ≤ 126) = false := by simpa using h2
      go_enter Tryd.func27, Tryd.ntmps27
      go_wp2
      go_ret
      exact ⟨ret_b (by unfold atomB; rw [decide_eq_false (show ¬ c.toNat ≤ 126 by omega)]; simp), rfl⟩
  · have h1' : decide ((33 : Int) ≤ (c.toNat : Int)) = false := by simpa using h1
    go_enter Tryd.func27, Tryd.ntmps27
    go_wp2
    go_ret
    exact ⟨ret_b (by unfold atomB; rw [decide_eq_false (show ¬ 33 ≤ c.toNat by omega)]; simp), rfl⟩
set_option maxHeartbeats 400000 in
theorem impl_AtomOk (s : ByteArray) (w : World) (hs : s.size ≤ maxLen) :
    Calls Tryd.prog 21 #[.string s] w fun e w' => e = .returned (.bool (atomOk s.data.toList)) ∧ w = w' := by
  unfold maxLen at hs
  have HL := Lib.hid (size_len s)
  go_enter Tryd.func21, Tryd.ntmps21
  go_wp2_with fail
  go_loop [6] (fun i => ∃ k : Nat, k ≤ s.size ∧ i = .int .i64 k ∧ Hid ((s.data.toList.take k).all atomB = true)) (fun i => s.size - (intOf i).toNat)
  case atStart => exact ⟨0, Nat.zero_le _, rfl, rfl⟩
  case round =>
    obtain ⟨k, hk, rfl, ha⟩ := hrel
    by_cases hlt : k < s.size
    · have hlt' : k < s.data.toList.length := by rw [← HL.out]; exact hlt
      cases hc : atomB s[k] with
      | true =>
        go_wp2_with (go_at_call 27; refine (impl_isAtomByte _ _).mono ?_; rintro e w' ⟨rfl, rfl⟩)
        go_round
        case rel => exact ⟨k + 1, by omega, by go_num, all_take_succ hlt' ha.out hc⟩
        case measure => simp [intOf]; omega
      | false =>
        go_wp2_with (go_at_call 27; refine (impl_isAtomByte _ _).mono ?_; rintro e w' ⟨rfl, rfl⟩)
        go_ret
        exact ⟨ret_b (by unfold atomOk; rw [all_false hlt' hc]; rfl), rfl⟩
    · have hke : k = s.size := by omega
      have ha2 : s.data.toList.all atomB = true := by
        have h := ha.out
        rw [List.take_of_length_le (by rw [← HL.out]; omega)] at h
        exact h
      have hfin : atomOk s.data.toList = inR (s.size : Int) 1 40 := by unfold atomOk; rw [ha2, Bool.true_and, HL.out]
      have Hfin := Lib.hid hfin
      clear hfin ha2 ha hke
      go_wp2_with (go_at_call 28; refine (within_any _ _ _ _).mono ?_; rintro e w' ⟨rfl, rfl⟩)
      go_ret
      exact ⟨ret_b Hfin.out.symm, rfl⟩
/-- The reference's test of one byte. -/
theorem atomB_iff (c : UInt8) : atomB c = true ↔ 33 ≤ (c.toNat : Int) ∧ (c.toNat : Int) ≤ 126 ∧ ¬ (c.toNat : Int) = 40 ∧ ¬ (c.toNat : Int) = 41 ∧ ¬ (c.toNat : Int) = 123 ∧ ¬ (c.toNat : Int) = 34 ∧ ¬ (c.toNat : Int) = 92 := by
  have h := u8_all (fun c => atomB c == decide (33 ≤ (c.toNat : Int) ∧ (c.toNat : Int) ≤ 126 ∧ ¬ (c.toNat : Int) = 40 ∧ ¬ (c.toNat : Int) = 41 ∧ ¬ (c.toNat : Int) = 123 ∧ ¬ (c.toNat : Int) = 34 ∧ ¬ (c.toNat : Int) = 92)) (by decide +kernel) c
  rw [beq_iff_eq.1 h, decide_eq_true_iff]
set_option maxHeartbeats 800000 in
theorem spec_AtomOk (s : ByteArray) (w : World) (hs : s.size ≤ maxLen) :
    Calls Tryd.prog 18 #[.string s] w fun e w' => e = .returned (.bool (atomOk s.data.toList)) ∧ w = w' := by
  unfold maxLen at hs
  have HL := Lib.hid (size_len s)
  go_enter Tryd.func18, Tryd.ntmps18
  go_wp2_with fail
  go_loop [3] (fun i => ∃ k : Nat, k ≤ s.size ∧ i = .int .i64 k ∧ Hid ((s.data.toList.take k).all atomB = true)) (fun i => s.size - (intOf i).toNat)
  case atStart => exact ⟨0, Nat.zero_le _, rfl, rfl⟩
  case round =>
    obtain ⟨k, hk, rfl, ha⟩ := hrel
    by_cases hlt : k < s.size
    · have hlt' : k < s.data.toList.length := by rw [← HL.out]; exact hlt
      go_wp2
      all_goals try simp only [beq_iff_eq, beq_eq_false_iff_ne, ne_eq] at *
      all_goals first
        | (go_round
           case rel => exact ⟨k + 1, by omega, by go_num, all_take_succ hlt' ha.out (show atomB s[k] = true from (atomB_iff _).2 (by omega))⟩
           case measure => simp [intOf]; omega)
        | (go_ret
           exact ⟨ret_b (by unfold atomOk; rw [all_false hlt' (show atomB s[k] = false by rw [← Bool.not_eq_true, atomB_iff]; omega)]; rfl), rfl⟩)
    · have hke : k = s.size := by omega
      have ha2 : s.data.toList.all atomB = true := by
        have h := ha.out
        rw [List.take_of_length_le (by rw [← HL.out]; omega)] at h
        exact h
      have hfin : atomOk s.data.toList = inR (s.size : Int) 1 40 := by unfold atomOk; rw [ha2, Bool.true_and, HL.out]
      have Hfin := Lib.hid hfin
      clear hfin ha2 ha hke
      go_wp2_with (go_at_call 25; refine (l1In_any _ _ _ _).mono ?_; rintro e w' ⟨rfl, rfl⟩)
      go_ret
      exact ⟨ret_b Hfin.out.symm, rfl⟩

def litText (s : Str) : Str := 123 :: (Lib.decDigits s.length ++ ([125, 13, 10] ++ s))
def litOr (s : Str) : Str := if s.length ≤ 40 then litText s else []
theorem litOr_yes {s : Str} (h : s.length ≤ 40) : litOr s = litText s := if_pos h
theorem litOr_no {s : Str} (h : ¬ s.length ≤ 40) : litOr s = [] := if_neg h
theorem empS : ({ data := #[] } : ByteArray).toList.isEmpty = true := by rw [ba_empty]; rfl
theorem empS2 : (({ data := #[] } : ByteArray).toList == []) = true := by
  have h : ({ data := #[] } : ByteArray).toList = [] := List.isEmpty_iff.1 empS
  rw [h]; rfl
def tokenText (t : Token) : Str :=
  if t.kind = 1 then (if atomOk t.text.data.toList = true then t.text.data.toList else [])
  else if t.kind = 2 then (if quote t.text.data.toList = [] then litOr t.text.data.toList else quote t.text.data.toList)
  else if t.kind = 3 then (if t.text = ⟨#[]⟩ then [40] else [])
  else if t.kind = 4 then (if t.text = ⟨#[]⟩ then [41] else []) else []
theorem tt1 (s : ByteArray) : tokenText ⟨1, s⟩ = if atomOk s.data.toList = true then s.data.toList else [] := by unfold tokenText; rw [if_pos rfl]
theorem tt2 (s : ByteArray) : tokenText ⟨2, s⟩ = if quote s.data.toList = [] then litOr s.data.toList else quote s.data.toList := by unfold tokenText; rw [if_neg (by simp), if_pos rfl]
theorem tt3 (s : ByteArray) : tokenText ⟨3, s⟩ = if s = ⟨#[]⟩ then [40] else [] := by unfold tokenText; rw [if_neg (by simp), if_neg (by simp), if_pos rfl]
theorem tt4 (s : ByteArray) : tokenText ⟨4, s⟩ = if s = ⟨#[]⟩ then [41] else [] := by unfold tokenText; rw [if_neg (by simp), if_neg (by simp), if_neg (by simp), if_pos rfl]
theorem tt5 {k : Int} (s : ByteArray) (h1 : k ≠ 1) (h2 : k ≠ 2) (h3 : k ≠ 3) (h4 : k ≠ 4) : tokenText ⟨k, s⟩ = [] := by unfold tokenText; rw [if_neg h1, if_neg h2, if_neg h3, if_neg h4]
theorem ne_facts {a : ByteArray} (h : ¬ a = ⟨#[]⟩) : a.toList.isEmpty = false ∧ (a.toList == []) = false := by
  have h1 : a.toList.isEmpty = false := by rw [ba_empty]; exact decide_eq_false h
  refine ⟨h1, ?_⟩
  rw [beq_eq_false_iff_ne]
  intro e; rw [e] at h1; cases h1
theorem quote_ne {s : Str} (h : ¬ quote s = []) : ¬ (⟨(quote s).toArray⟩ : ByteArray) = ⟨#[]⟩ := by
  intro e
  have : (⟨(quote s).toArray⟩ : ByteArray).data.toList = (⟨#[]⟩ : ByteArray).data.toList := by rw [e]
  exact h (by simpa using this)
theorem quote_size (s : Str) : (⟨(quote s).toArray⟩ : ByteArray).size ≤ 82 := by
  show (quote s).toArray.size ≤ 82
  simp only [List.size_toArray]
  unfold quote
  split
  · rename_i h
    unfold quotable at h; simp at h
    have := esc_len s
    simp; omega
  · simp
theorem litText_cat (n : Nat) (s : ByteArray) (h : s.size = n) : ({ data := #[123] } : ByteArray) ++ ⟨(Lib.decDigits n).toArray⟩ ++ { data := #[125, 13, 10] } ++ s = ⟨(litText s.data.toList).toArray⟩ := by
  refine str_eq ?_
  unfold litText
  rw [← size_len, h]
  simp
theorem litText_cat2 (n : Nat) (s : ByteArray) (h : s.size = n) : ({ data := #[123] } : ByteArray) ++ ⟨(Lib.decDigits n).toArray⟩ ++ { data := #[125] } ++ { data := #[13, 10] } ++ s = ⟨(litText s.data.toList).toArray⟩ := by
  refine str_eq ?_
  unfold litText
  rw [← size_len, h]
  simp
theorem dig_size {n : Nat} (h : n < 100) : (⟨(Lib.decDigits n).toArray⟩ : ByteArray).size ≤ 20 := by
  show (Lib.decDigits n).toArray.size ≤ 20
  simp only [List.size_toArray]
  rw [Lib.decDigits_length]; exact Lib.nDigits_le20 n (by omega)
theorem impl_Digits_small (n : Nat) (w : World) (h : n < 100) :
    Calls Tryd.prog 23 #[.int .i64 (n : Int)] w fun e w' => e = .returned (.string ⟨(Lib.decDigits n).toArray⟩) ∧ w' = w := by
  have HC := Lib.hid (Tryd.strconv_Itoa_small n h w)
  go_enter Tryd.func23, Tryd.ntmps23
  go_wp2_with fail
  refine HC.out.mono ?_
  rintro e w1 ⟨rfl, rfl⟩
  go_wp2
  go_ret
  exact ⟨rfl, rfl⟩
set_option maxHeartbeats 800000 in
theorem spec_l3Literal (s : ByteArray) (w : World) (hs : s.size ≤ 1048576) :
    Calls Tryd.prog 20 #[.string s] w fun e w' => e = .returned (.string ⟨(litOr s.data.toList).toArray⟩) ∧ Below w.heap.size w w' := by
  by_cases h40 : s.size ≤ 40
  · have HF := Lib.hid (litOr_yes (s := s.data.toList) (by rw [← size_len]; exact h40))
    have HI := Lib.hid (Lib.itoa_nonneg s.size)
    have HC := Lib.hid (litText_cat s.size s rfl)
    have hds := dig_size (n := s.size) (by omega)
    have h40i : ¬ (40 : Int) < (s.size : Int) := by omega
    go_enter Tryd.func20, Tryd.ntmps20
    go_wp2_with fail
    refine (spec_Digits (s.size : Int) w (by omega) (by omega)).mono ?_
    rintro e w1 ⟨rfl, hb⟩
    have HB := Lib.hid hb
    rw [HI.out]
    clear hb
    generalize (⟨(Lib.decDigits s.size).toArray⟩ : ByteArray) = D at *
    go_wp2
    go_ret
    exact ⟨ret_s (by rw [HF.out, ← HC.out]), HB.out⟩
  · have HF := Lib.hid (litOr_no (s := s.data.toList) (by rw [← size_len]; exact h40))
    have h40i : (40 : Int) < (s.size : Int) := by omega
    go_enter Tryd.func20, Tryd.ntmps20
    go_wp2
    go_ret
    exact ⟨ret_s (by rw [HF.out]), Below.refl _ _⟩
set_option maxHeartbeats 1600000 in
theorem spec_TokenText (x : Token) (w : World) (hx : x.text.size ≤ 1048576) :
    Calls Tryd.prog 10 #[.agg #[.int .i64 x.kind, .string x.text]] w fun e w' => e = .returned (.string ⟨(tokenText x).toArray⟩) ∧ Below w.heap.size w w' := by
  obtain ⟨k, s⟩ := x
  have hsm : s.size ≤ maxLen := by unfold maxLen; simp only [] at hx; omega
  simp only [] at hx
  dsimp only
  by_cases h1 : k = 1
  · subst h1
    have HT := Lib.hid (tt1 s)
    cases ha : atomOk s.data.toList
    · go_enter Tryd.func10, Tryd.ntmps10
      go_wp2_with (go_at_call 18; refine (spec_AtomOk s _ hsm).mono ?_; rw [ha]; rintro e w' ⟨rfl, rfl⟩)
      go_ret
      exact ⟨ret_s (by rw [HT.out, ha]; rfl), by go_grown⟩
    · go_enter Tryd.func10, Tryd.ntmps10
      go_wp2_with (go_at_call 18; refine (spec_AtomOk s _ hsm).mono ?_; rw [ha]; rintro e w' ⟨rfl, rfl⟩)
      go_ret
      exact ⟨ret_s (by rw [HT.out, if_pos ha, mk_toList]), by go_grown⟩
  by_cases h2 : k = 2
  · subst h2
    have HT := Lib.hid (tt2 s)
    go_enter Tryd.func10, Tryd.ntmps10
    go_wp2_with fail
    have hA : Below w.heap.size w (w.alloc (.cells #[.int .i64 2, .string s] 34)) := by go_grown
    have hP : Holds (w.alloc (.cells #[.int .i64 2, .string s] 34)) w.heap.size [.int .i64 2, .string s] := Holds.new w _ _
    generalize w.alloc (.cells #[.int .i64 2, .string s] 34) = w1 at *
    refine (spec_Quote s w1 hsm).mono ?_
    rintro e w2 ⟨rfl, hb⟩
    have hP2 := hP.below hb
    have p1 := hP2.2 1 (.string s) rfl
    have HB := Lib.hid (hA.trans (hb.mono hA.size))
    clear hA hP hb
    by_cases hq : quote s.data.toList = []
    · have HQ := Lib.hid hq
      have e0 : (⟨(quote s.data.toList).toArray⟩ : ByteArray) = { data := #[] } := by rw [hq]
      rw [e0]
      have emp1 := empS
      have emp2 := empS2
      clear hq e0
      clear hP2
      go_wp2_with fail
      refine (spec_l3Literal s w2 hx).mono ?_
      rintro e w3 ⟨rfl, hb3⟩
      have HB3 := Lib.hid (HB.out.trans (hb3.mono HB.out.size))
      have HF := Lib.hid (show tokenText ⟨2, s⟩ = litOr s.data.toList by rw [HT.out, if_pos HQ.out])
      clear hb3
      go_wp2
      go_ret
      exact ⟨ret_s (by rw [HF.out]), HB3.out⟩
    · have hne := quote_ne hq
      have HF := Lib.hid (show tokenText ⟨2, s⟩ = quote s.data.toList by rw [HT.out, if_neg hq])
      have hqs := quote_size s.data.toList
      obtain ⟨Q, hQ⟩ : ∃ Q, (⟨(quote s.data.toList).toArray⟩ : ByteArray) = Q := ⟨_, rfl⟩
      have HQ := Lib.hid hQ
      rw [hQ] at hne hqs ⊢
      obtain ⟨hne1, hne2⟩ := ne_facts hne
      clear hq hQ hP2 hne
      go_wp2
      go_ret
      exact ⟨ret_s (by rw [HF.out, HQ.out]), HB.out⟩
  by_cases h3 : k = 3
  · subst h3
    have HT := Lib.hid (tt3 s)
    by_cases he : s = ⟨#[]⟩
    · have HF := Lib.hid (show tokenText ⟨3, s⟩ = [40] by rw [HT.out, if_pos he])
      clear HT
      subst he
      go_enter Tryd.func10, Tryd.ntmps10
      go_wp2
      go_ret
      exact ⟨ret_s (by rw [HF.out]), by go_grown⟩
    · obtain ⟨hne1, hne2⟩ := ne_facts he
      have HF := Lib.hid (show tokenText ⟨3, s⟩ = [] by rw [HT.out, if_neg he])
      clear he
      go_enter Tryd.func10, Tryd.ntmps10
      go_wp2
      go_ret
      exact ⟨ret_s (by rw [HF.out]), by go_grown⟩
  by_cases h4 : k = 4
  · subst h4
    have HT := Lib.hid (tt4 s)
    by_cases he : s = ⟨#[]⟩
    · have HF := Lib.hid (show tokenText ⟨4, s⟩ = [41] by rw [HT.out, if_pos he])
      clear HT
      subst he
      go_enter Tryd.func10, Tryd.ntmps10
      go_wp2
      go_ret
      exact ⟨ret_s (by rw [HF.out]), by go_grown⟩
    · obtain ⟨hne1, hne2⟩ := ne_facts he
      have HF := Lib.hid (show tokenText ⟨4, s⟩ = [] by rw [HT.out, if_neg he])
      clear he
      go_enter Tryd.func10, Tryd.ntmps10
      go_wp2
      go_ret
      exact ⟨ret_s (by rw [HF.out]), by go_grown⟩
  have HF := Lib.hid (tt5 s h1 h2 h3 h4)
  go_enter Tryd.func10, Tryd.ntmps10
  go_wp2
  go_ret
  exact ⟨ret_s (by rw [HF.out]), by go_grown⟩
set_option maxHeartbeats 1600000 in
theorem impl_TokenText (x : Token) (w : World) (hx : x.text.size ≤ 1048576) (hml : ML w) :
    Calls Tryd.prog 13 #[.agg #[.int .i64 x.kind, .string x.text]] w fun e w' => e = .returned (.string ⟨(tokenText x).toArray⟩) ∧ Below w.heap.size w w' := by
  obtain ⟨k, s⟩ := x
  have hsm : s.size ≤ maxLen := by unfold maxLen; simp only [] at hx; omega
  simp only [] at hx
  dsimp only
  have HM := Lib.hid hml
  clear hml
  by_cases h1 : k = 1
  · subst h1
    have HT := Lib.hid (tt1 s)
    cases ha : atomOk s.data.toList
    · go_enter Tryd.func13, Tryd.ntmps13
      go_wp2_with (go_at_call 21; refine (impl_AtomOk s _ hsm).mono ?_; rw [ha]; rintro e w' ⟨rfl, rfl⟩)
      go_ret
      exact ⟨ret_s (by rw [HT.out, ha]; rfl), by go_grown⟩
    · go_enter Tryd.func13, Tryd.ntmps13
      go_wp2_with (go_at_call 21; refine (impl_AtomOk s _ hsm).mono ?_; rw [ha]; rintro e w' ⟨rfl, rfl⟩)
      go_ret
      exact ⟨ret_s (by rw [HT.out, if_pos ha, mk_toList]), by go_grown⟩
  by_cases h2 : k = 2
  · subst h2
    have HT := Lib.hid (tt2 s)
    go_enter Tryd.func13, Tryd.ntmps13
    go_wp2_with fail
    have hA : Below w.heap.size w (w.alloc (.cells #[.int .i64 2, .string s] 34)) := by go_grown
    have hP : Holds (w.alloc (.cells #[.int .i64 2, .string s] 34)) w.heap.size [.int .i64 2, .string s] := Holds.new w _ _
    have hm1 := HM.out.below hA
    generalize w.alloc (.cells #[.int .i64 2, .string s] 34) = w1 at *
    refine (impl_Quote s w1 hx hm1).mono ?_
    rintro e w2 ⟨rfl, hb⟩
    have hP2 := hP.below hb
    have p1 := hP2.2 1 (.string s) rfl
    have HB := Lib.hid (hA.trans (hb.mono hA.size))
    clear hA hP hb
    by_cases hq : quote s.data.toList = []
    · have HQ := Lib.hid hq
      have e0 : (⟨(quote s.data.toList).toArray⟩ : ByteArray) = { data := #[] } := by rw [hq]
      rw [e0]
      have emp1 := empS
      have emp2 := empS2
      clear hq e0
      by_cases h40 : s.size ≤ 40
      · have HF := Lib.hid (show tokenText ⟨2, s⟩ = litText s.data.toList by rw [HT.out, if_pos HQ.out, litOr_yes (by rw [← size_len]; exact h40)])
        have h40i : (s.size : Int) ≤ 40 := by omega
        have f1 : ∀ u : Later w2, u.at_.cell? ⟨w.heap.size, 1, none⟩ = some (.string s) := fun u => u.cell p1
        have HC := Lib.hid (litText_cat2 s.size s rfl)
        have hds := dig_size (n := s.size) (by omega)
        have HDg := Lib.hid (fun W => impl_Digits_small s.size W (by omega))
        clear hP2
        generalize (⟨(Lib.decDigits s.size).toArray⟩ : ByteArray) = D at *
        go_wp2
        refine wp_region_calm_lit (by kernel_rfl) (by kernel_rfl) ?_
        repeat (go_big_quiet_step (first | (go_at_call 23; exact Calls.calm_same (HDg.out _))))
        refine wpQuiet_nil ?_
        intro _ hw'
        obtain ⟨u, rfl⟩ := hw'
        have HBf := Lib.hid (HB.out.trans (u.bel.mono HB.out.size))
        go_wp2
        go_ret
        exact ⟨ret_s (by rw [HF.out, ← HC.out]), HBf.out⟩
      · have HF := Lib.hid (show tokenText ⟨2, s⟩ = [] by rw [HT.out, if_pos HQ.out, litOr_no (by rw [← size_len]; exact h40)])
        have h40i : ¬ (s.size : Int) ≤ 40 := by omega
        clear hP2
        go_wp2
        go_ret
        exact ⟨ret_s (by rw [HF.out]), HB.out⟩
    · have hne := quote_ne hq
      have HF := Lib.hid (show tokenText ⟨2, s⟩ = quote s.data.toList by rw [HT.out, if_neg hq])
      have hqs := quote_size s.data.toList
      obtain ⟨Q, hQ⟩ : ∃ Q, (⟨(quote s.data.toList).toArray⟩ : ByteArray) = Q := ⟨_, rfl⟩
      have HQ := Lib.hid hQ
      rw [hQ] at hne hqs ⊢
      obtain ⟨hne1, hne2⟩ := ne_facts hne
      clear hq hQ hP2 hne
      go_wp2
      go_ret
      exact ⟨ret_s (by rw [HF.out, HQ.out]), HB.out⟩
  by_cases h3 : k = 3
  · subst h3
    have HT := Lib.hid (tt3 s)
    by_cases he : s = ⟨#[]⟩
    · have HF := Lib.hid (show tokenText ⟨3, s⟩ = [40] by rw [HT.out, if_pos he])
      clear HT
      subst he
      go_enter Tryd.func13, Tryd.ntmps13
      go_wp2
      go_ret
      exact ⟨ret_s (by rw [HF.out]), by go_grown⟩
    · obtain ⟨hne1, hne2⟩ := ne_facts he
      have HF := Lib.hid (show tokenText ⟨3, s⟩ = [] by rw [HT.out, if_neg he])
      clear he
      go_enter Tryd.func13, Tryd.ntmps13
      go_wp2
      go_ret
      exact ⟨ret_s (by rw [HF.out]), by go_grown⟩
  by_cases h4 : k = 4
  · subst h4
    have HT := Lib.hid (tt4 s)
    by_cases he : s = ⟨#[]⟩
    · have HF := Lib.hid (show tokenText ⟨4, s⟩ = [41] by rw [HT.out, if_pos he])
      clear HT
      subst he
      go_enter Tryd.func13, Tryd.ntmps13
      go_wp2
      go_ret
      exact ⟨ret_s (by rw [HF.out]), by go_grown⟩
    · obtain ⟨hne1, hne2⟩ := ne_facts he
      have HF := Lib.hid (show tokenText ⟨4, s⟩ = [] by rw [HT.out, if_neg he])
      clear he
      go_enter Tryd.func13, Tryd.ntmps13
      go_wp2
      go_ret
      exact ⟨ret_s (by rw [HF.out]), by go_grown⟩
  have HF := Lib.hid (tt5 s h1 h2 h3 h4)
  go_enter Tryd.func13, Tryd.ntmps13
  go_wp2
  go_ret
  exact ⟨ret_s (by rw [HF.out]), by go_grown⟩

end Go.Proofs.YtahabmmaemcbcaaDoor
