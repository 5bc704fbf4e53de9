/-
  Walks: what each function returns, and that it leaves what lay in memory as it was.
-/
import Derived.Test.YtgdebejmcfcpgaaDoorProg
import Derived.Test.YtgdebejmcfcpgaaDoorPlain
import Derived.Test.YtgdebejmcfcpgaaDoorBase2
import Derived.Test.YtgdebejmcfcpgaaDoorOpen2
import Derived.Test.YtgdebejmcfcpgaaDoorShelf
import Derived.WalkKit
import Derived.WalkSpells
import Derived.WalkLawsBesides
import Derived.Lib.Hide
import Derived.Deep.LoopGhost
import Derived.Deep.QuietTactic
import Derived.BigQuiet
import Derived.Handy
import Derived.Deep.RegionHeld3
import Derived.StillTailTactics
import Derived.OpenShut
import Derived.ChangeSame
import Derived.Laws.StructEq

import Derived.Test.YtgdebejmcfcpgaaDoorPlainT

import Derived.Test.YtgdebejmcfcpgaaDoorW1

import Derived.Test.YtgdebejmcfcpgaaDoorW2

import Derived.Test.YtgdebejmcfcpgaaDoorW3

import Derived.Test.YtgdebejmcfcpgaaDoorW5

import Derived.Test.YtgdebejmcfcpgaaDoorW6

import Derived.Test.YtgdebejmcfcpgaaDoorW7

import Derived.Test.YtgdebejmcfcpgaaDoorBase3

import Derived.Lib.ItoaMem
import Derived.Lib.ItoaLen
import Derived.Lib.LaidTab

import Derived.Lib.AtoiTie
import Derived.Lib.AtoiBound
import Derived.Lib.ConvBytes

namespace Go.Proofs.YtgdebejmcfcpgaaDoor
open Go.ChangeShapes Go.WideShapes Go.ChangeAt Go.RowKit Go.Deep
set_option linter.unusedVariables false
set_option linter.unusedSimpArgs false

set_option maxRecDepth 20000

theorem dec_Byte {H : Type} {enc0 : TypeId × Value → H} {w : World} {base : Nat} {spare : Nat → Bool} {held : Bool} (n : Nat) (cs : List Value) (x : DataW H × List MemPlace)
    (h : DataW.trod enc0 Tryd.prog w base spare held n 5 cs = some x) : ∃ y : UInt8, cs = encB y ∧ True := by
  obtain ⟨a, h1, _, hw⟩ := DataW.trod_int Tryd.underlying5 h
  have h : 0 ≤ a ∧ a < 256 := by simp [Lit.wf, IntKind.min, IntKind.max, IntKind.signed, IntKind.bits] at hw; omega
  refine ⟨UInt8.ofNat a.toNat, ?_, trivial⟩
  rw [h1]
  have h2 : (UInt8.ofNat a.toNat).toNat = a.toNat := UInt8.toNat_ofNat_of_lt' (by show a.toNat < 256; omega)
  show [Value.int .u8 a] = [Value.int .u8 ((UInt8.ofNat a.toNat).toNat : Int)]
  rw [h2, Int.toNat_of_nonneg h.1]
set_option maxRecDepth 20000 in
/-- Bytes that came in. -/
theorem open_Bytes {H : Type} {enc0 : TypeId × Value → H} {w : World} {base b0 : Nat} {r : Reach} {spare : Nat → Bool} {held : Bool} {v : Value} {d : DataW H} {p : List MemPlace}
    (o : Value.okWide Tryd.prog w r b0 22 v) (h : DataW.Trod enc0 Tryd.prog w base spare held 22 v d p) :
    ∃ (A : Option Addr) (n c : Nat) (xs : List UInt8), v = .slice A n c ∧ Rd encB 1 w A n xs ∧ n ≤ 9223372036854775807 := by
  obtain ⟨A, n, c, xs, rfl, h, hc, hm, hN⟩ := open_rd encB (fun _ => True) 1 Tryd.underlying22 o h (by kernel_rfl) (by omega) (fun _ => rfl) (fun n cs x hx => dec_Byte n cs x hx)
  exact ⟨A, n, c, xs, rfl, h, by unfold maxLen at hm; omega⟩
theorem laws_big (A : Option Addr) (n c : Nat) (w : World) (hn : n ≤ 9223372036854775807) :
    Calls Tryd.prog 7 #[.slice A n c] w fun e w' => e = .returned (.bool (decide (1048576 < n))) ∧ w = w' := by
  by_cases h : 1048576 < n
  · go_enter Tryd.func7, Tryd.ntmps7
    go_wp2
    go_ret
    exact ⟨by simp [h]; try omega, rfl⟩
  · go_enter Tryd.func7, Tryd.ntmps7
    go_wp2
    go_ret
    exact ⟨by simp [h]; try omega, rfl⟩

theorem itoa_nat {n : Int} (h : 0 ≤ n) : Lib.itoa n = Lib.decDigits n.toNat := by unfold Lib.itoa; rw [if_neg (by omega)]
theorem dec_itoa {n : Int} (h : 0 ≤ n) : Lib.decFrom 0 (Lib.itoa n) = some n.toNat := by rw [itoa_nat h, decFrom_dec]
theorem dec_itoa_neg {n : Int} (h : n < 0) : Lib.decFrom 0 (Lib.itoa n) = none := by
  unfold Lib.itoa
  rw [if_pos h, Lib.decFrom]
  have : Lib.digitVal 45 = none := by decide
  rw [this]
theorem number_itoa_in {n : Int} (h0 : 0 ≤ n) (h1 : n ≤ 999999999) : number (Lib.itoa n) = (n, true) := by
  have hl := nDigits_le 8 n.toNat (by omega)
  have hp := Lib.nDigits_pos n.toNat
  have hlen : (Lib.itoa n).length = Lib.nDigits n.toNat := by rw [itoa_nat h0, Lib.decDigits_length]
  have := number_yes (s := Lib.itoa n) (n := n.toNat) (by omega) (dec_itoa h0) (by rw [Int.toNat_of_nonneg h0])
  rwa [Int.toNat_of_nonneg h0] at this
theorem number_itoa_out {n : Int} (h : n < 0 ∨ 999999999 < n) : number (Lib.itoa n) = (0, false) := by
  rcases number_cases (Lib.itoa n) with ⟨k, hl, hd, hi⟩ | h2
  · exfalso
    by_cases hn : n < 0
    · rw [dec_itoa_neg hn] at hd; cases hd
    · have hlt := decFrom_lt _ 0 k 0 (by decide) hd
      have hle : 10 ^ (0 + (Lib.itoa n).length) ≤ 10 ^ 9 := Nat.pow_le_pow_right (by decide) (by omega)
      rw [dec_itoa (by omega)] at hd
      injection hd with hd
      omega
  · exact h2
theorem number_in (s : Str) : (∃ n : Int, 0 ≤ n ∧ n ≤ 999999999 ∧ Lib.itoa n = s ∧ number s = (n, true)) ∨ number s = (0, false) := by
  rcases number_cases s with ⟨k, hl, hd, hi⟩ | h2
  · left
    have hlt := decFrom_lt s 0 k 0 (by decide) hd
    have hle : 10 ^ (0 + s.length) ≤ 10 ^ 9 := Nat.pow_le_pow_right (by decide) (by omega)
    exact ⟨k, by omega, by omega, hi, number_yes hl hd hi⟩
  · exact Or.inr h2
theorem tl48 : (⟨#[48]⟩ : ByteArray).toList = [48] := by rw [ByteArray.toList_eq]
theorem itoa_zero_ : Lib.itoa 0 = [48] := by
  unfold Lib.itoa
  rw [if_neg (by omega)]
  exact Lib.decDigits_one (by decide)
set_option maxHeartbeats 3200000 in
theorem walk_FnDigits {H : Type} {enc0 : TypeId × Value → H} {base : Nat} {d0 : DataW H} {p0 : List MemPlace} (v0 : Value) (w : World) (o0 : Value.okWide Tryd.prog w .any base 22 v0) (k0 : DataW.Trod enc0 Tryd.prog w 0 (fun _ => true) true 22 v0 d0 p0) (htab : Lib.TabIs Tryd.prog w "internal/strconv.uint64pow10" .u64 Lib.pow10Tab)
    (hE2 : ∃ pp, w.var? Tryd.prog "strconv.ErrRange" = some #[.iface 111 pp]) (hE1 : ∃ pp, w.var? Tryd.prog "strconv.ErrSyntax" = some #[.iface 111 pp]) :
    Calls Tryd.prog 6 #[v0] w fun e w' => e = .returned (.bool true) ∧ Below w.heap.size w w' := by
  obtain ⟨A0, n0, c0, ys0, rfl, h0, hn0⟩ := open_Bytes o0 k0
  clear o0 k0
  by_cases hbig : 1048576 < n0
  · have hd : decide (1048576 < n0) = true := by simpa using hbig
    have C := Lib.hid (laws_big A0 n0 c0 w hn0)
    rw [hd] at C
    clear h0 hE1 hE2 htab
    go_enter Tryd.func6, Tryd.ntmps6
    go_wp2_with fail
    refine C.out.mono ?_
    rintro e z ⟨rfl, rfl⟩
    go_wp2
    go_ret
    exact ⟨rfl, Below.refl _ _⟩
  have hd : decide (1048576 < n0) = false := by simpa using hbig
  have C := Lib.hid (laws_big A0 n0 c0 w hn0)
  rw [hd] at C
  have D := Lib.hid (spec_DrawDigits A0 n0 c0 ys0 w (by omega) h0)
  have H0 := Lib.hid h0
  have HE1 := Lib.hid hE1
  have HE2 := Lib.hid hE2
  have HT := Lib.hid htab
  clear h0 hE1 hE2 htab
  go_enter Tryd.func6, Tryd.ntmps6
  go_wp2_with fail
  refine C.out.mono ?_
  rintro e z ⟨rfl, rfl⟩
  go_wp2_with fail
  refine D.out.mono ?_
  rintro e w1 ⟨⟨n, hn, rfl⟩, hb1⟩
  have HB1 := Lib.hid hb1
  clear hb1 C D
  obtain ⟨S, hS⟩ : ∃ S : ByteArray, (⟨(Lib.itoa n).toArray⟩ : ByteArray) = S := ⟨_, rfl⟩
  have hSs : S.size ≤ 100 := by
    have h := Lib.itoa_length_le n hn.1 hn.2
    rw [← hS, size_len]; simp only [List.toList_toArray]; omega
  have HSL := Lib.hid (show S.data.toList = Lib.itoa n by rw [← hS])
  go_wp2_with fail
  refine (impl_Digits n w1 hn.1 hn.2 (tab_below HT.out HB1.out)).mono ?_
  rw [hS]
  rintro e w2 ⟨rfl, hb2⟩
  have HB2 := Lib.hid (HB1.out.trans (hb2.mono HB1.out.size))
  clear hb2 hS
  go_wp2_with fail
  have C2 := Lib.hid (impl_Number S w2 (by omega) (tab_below HT.out HB2.out) (by obtain ⟨pp, hp⟩ := HE1.out; exact ⟨pp, var_below hp HB2.out⟩) (by obtain ⟨pp, hp⟩ := HE2.out; exact ⟨pp, var_below hp HB2.out⟩))
  rw [HSL.out] at C2
  obtain ⟨m, ok, hmk⟩ : ∃ m ok, number (Lib.itoa n) = (m, ok) := ⟨_, _, rfl⟩
  rw [hmk] at C2
  have HMK := Lib.hid hmk
  clear hmk
  refine C2.out.mono ?_
  rintro e w3 ⟨rfl, hb3⟩
  have HB3 := Lib.hid (HB2.out.trans (hb3.mono HB2.out.size))
  clear hb3 C2
  go_wp2_with fail
  refine (spec_DrawNumber A0 n0 c0 ys0 w3 (by omega) (H0.out.below HB3.out)).mono ?_
  rintro e w4 ⟨⟨s, hs, rfl⟩, hb4⟩
  have HB4 := Lib.hid (HB3.out.trans (hb4.mono HB3.out.size))
  clear hb4 hbig
  go_wp2_with fail
  have C4 := Lib.hid (impl_Number s w4 (by omega) (tab_below HT.out HB4.out) (by obtain ⟨pp, hp⟩ := HE1.out; exact ⟨pp, var_below hp HB4.out⟩) (by obtain ⟨pp, hp⟩ := HE2.out; exact ⟨pp, var_below hp HB4.out⟩))
  obtain ⟨x, r, hxr⟩ : ∃ x r, number s.data.toList = (x, r) := ⟨_, _, rfl⟩
  rw [hxr] at C4
  have hxi : -9223372036854775808 ≤ x ∧ x ≤ 9223372036854775807 := by
    rcases number_in s.data.toList with ⟨k, k0, k1, _, e⟩ | e <;> rw [hxr] at e <;> injection e with e1 e2 <;> omega
  have HXR := Lib.hid hxr
  clear hxr
  refine C4.out.mono ?_
  rintro e w5 ⟨rfl, hb5⟩
  have HB5 := Lib.hid (HB4.out.trans (hb5.mono HB4.out.size))
  clear hb5 C4
  obtain ⟨X, hX⟩ : ∃ X : ByteArray, (⟨(Lib.itoa x).toArray⟩ : ByteArray) = X := ⟨_, rfl⟩
  go_wp2_with fail
  refine (spec_Digits x w5 hxi.1 hxi.2).mono ?_
  rw [hX]
  rintro e w6 ⟨rfl, hb6⟩
  have HB6 := Lib.hid (HB5.out.trans (hb6.mono HB5.out.size))
  clear hb6
  have HX := Lib.hid hX
  clear hX
  rcases number_in s.data.toList with ⟨k, k0, k1, hk, e⟩ | e
  · have e2 := HXR.out
    rw [e] at e2
    injection e2 with e3 e4
    subst e3; subst e4
    have hXs : X = s := by rw [← HX.out, hk]
    subst hXs
    clear e hk
    by_cases hs0 : X = ⟨#[48]⟩
    · subst hs0
      by_cases hn0 : n < 0
      · have hmm := HMK.out
        rw [number_itoa_out (Or.inl hn0)] at hmm
        injection hmm with hm1 hm2
        subst hm1; subst hm2
        go_wp2_with fail
        go_ret
        exact ⟨rfl, HB6.out⟩
      · by_cases hn1 : 999999999 < n
        · have hmm := HMK.out
          rw [number_itoa_out (Or.inr hn1)] at hmm
          injection hmm with hm1 hm2
          subst hm1; subst hm2
          go_wp2_with fail
          go_ret
          exact ⟨rfl, HB6.out⟩
        · have hmm := HMK.out
          rw [number_itoa_in (by omega) (by omega)] at hmm
          injection hmm with hm1 hm2
          subst hm1; subst hm2
          go_wp2_with fail
          go_ret
          exact ⟨rfl, HB6.out⟩
    · have f1 : (X.toList == [48]) = false := by rw [← tl48, ba_beq, decide_eq_false hs0]
      clear hs0
      by_cases hn0 : n < 0
      · have hmm := HMK.out
        rw [number_itoa_out (Or.inl hn0)] at hmm
        injection hmm with hm1 hm2
        subst hm1; subst hm2
        go_wp2_with fail
        go_ret
        exact ⟨rfl, HB6.out⟩
      · by_cases hn1 : 999999999 < n
        · have hmm := HMK.out
          rw [number_itoa_out (Or.inr hn1)] at hmm
          injection hmm with hm1 hm2
          subst hm1; subst hm2
          go_wp2_with fail
          go_ret
          exact ⟨rfl, HB6.out⟩
        · have hmm := HMK.out
          rw [number_itoa_in (by omega) (by omega)] at hmm
          injection hmm with hm1 hm2
          subst hm1; subst hm2
          go_wp2_with fail
          go_ret
          exact ⟨rfl, HB6.out⟩
  · have e2 := HXR.out
    rw [e] at e2
    injection e2 with e3 e4
    subst e3; subst e4
    have hX0 : X = ⟨#[48]⟩ := by
      rw [← HX.out, itoa_zero_]
    subst hX0
    clear e
    by_cases hs0 : s = ⟨#[48]⟩
    · subst hs0
      by_cases hn0 : n < 0
      · have hmm := HMK.out
        rw [number_itoa_out (Or.inl hn0)] at hmm
        injection hmm with hm1 hm2
        subst hm1; subst hm2
        go_wp2_with fail
        go_ret
        exact ⟨rfl, HB6.out⟩
      · by_cases hn1 : 999999999 < n
        · have hmm := HMK.out
          rw [number_itoa_out (Or.inr hn1)] at hmm
          injection hmm with hm1 hm2
          subst hm1; subst hm2
          go_wp2_with fail
          go_ret
          exact ⟨rfl, HB6.out⟩
        · have hmm := HMK.out
          rw [number_itoa_in (by omega) (by omega)] at hmm
          injection hmm with hm1 hm2
          subst hm1; subst hm2
          go_wp2_with fail
          go_ret
          exact ⟨rfl, HB6.out⟩
    · have f1 : (s.toList == [48]) = false := by rw [← tl48, ba_beq, decide_eq_false hs0]
      have f3 : ([48] == s.toList) = false := by rw [← tl48, ba_beq, decide_eq_false (fun h => hs0 h.symm)]
      clear hs0
      by_cases hn0 : n < 0
      · have hmm := HMK.out
        rw [number_itoa_out (Or.inl hn0)] at hmm
        injection hmm with hm1 hm2
        subst hm1; subst hm2
        go_wp2_with fail
        go_ret
        exact ⟨rfl, HB6.out⟩
      · by_cases hn1 : 999999999 < n
        · have hmm := HMK.out
          rw [number_itoa_out (Or.inr hn1)] at hmm
          injection hmm with hm1 hm2
          subst hm1; subst hm2
          go_wp2_with fail
          go_ret
          exact ⟨rfl, HB6.out⟩
        · have hmm := HMK.out
          rw [number_itoa_in (by omega) (by omega)] at hmm
          injection hmm with hm1 hm2
          subst hm1; subst hm2
          go_wp2_with fail
          go_ret
          exact ⟨rfl, HB6.out⟩

end Go.Proofs.YtgdebejmcfcpgaaDoor
