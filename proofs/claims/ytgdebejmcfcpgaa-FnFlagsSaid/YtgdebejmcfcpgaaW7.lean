/-
  Walks: what each function returns, and that it leaves what lay in memory as it was.
-/
import Derived.Test.YtgdebejmcfcpgaaProg
import Derived.Test.YtgdebejmcfcpgaaPlain
import Derived.Test.YtgdebejmcfcpgaaBase2
import Derived.Test.YtgdebejmcfcpgaaOpen2
import Derived.Test.YtgdebejmcfcpgaaShelf
import Derived.WalkKit
import Derived.WalkSpells
import Derived.WalkLawsBesides
import Derived.Lib.Hide
import Derived.Deep.LoopGhost
import Derived.Deep.QuietTactic
import Derived.BigQuiet
import Derived.Handy
import Derived.Deep.RegionHeld3
import Derived.StillTailTactics
import Derived.OpenShut
import Derived.ChangeSame
import Derived.Laws.StructEq

import Derived.Test.YtgdebejmcfcpgaaPlainT

import Derived.Test.YtgdebejmcfcpgaaW1

import Derived.Test.YtgdebejmcfcpgaaW2

import Derived.Test.YtgdebejmcfcpgaaW3

import Derived.Test.YtgdebejmcfcpgaaW4

import Derived.Test.YtgdebejmcfcpgaaW5

import Derived.Test.YtgdebejmcfcpgaaW6

import Derived.Test.YtgdebejmcfcpgaaBase3

namespace Go.Proofs.Ytgdebejmcfcpgaa
open Go.ChangeShapes Go.WideShapes Go.ChangeAt Go.RowKit Go.Deep
set_option linter.unusedVariables false
set_option linter.unusedSimpArgs false

theorem dec_Byte {H : Type} {enc0 : TypeId × Value → H} {w : World} {base : Nat} {spare : Nat → Bool} {held : Bool} (n : Nat) (cs : List Value) (x : DataW H × List MemPlace)
    (h : DataW.trod enc0 Try.prog w base spare held n 5 cs = some x) : ∃ y : UInt8, cs = encB y ∧ True := by
  obtain ⟨a, h1, _, hw⟩ := DataW.trod_int Try.underlying5 h
  have h : 0 ≤ a ∧ a < 256 := by simp [Lit.wf, IntKind.min, IntKind.max, IntKind.signed, IntKind.bits] at hw; omega
  refine ⟨UInt8.ofNat a.toNat, ?_, trivial⟩
  rw [h1]
  have h2 : (UInt8.ofNat a.toNat).toNat = a.toNat := UInt8.toNat_ofNat_of_lt' (by show a.toNat < 256; omega)
  show [Value.int .u8 a] = [Value.int .u8 ((UInt8.ofNat a.toNat).toNat : Int)]
  rw [h2, Int.toNat_of_nonneg h.1]
set_option maxRecDepth 20000 in
/-- Bytes that came in. -/
theorem open_Bytes {H : Type} {enc0 : TypeId × Value → H} {w : World} {base b0 : Nat} {r : Reach} {spare : Nat → Bool} {held : Bool} {v : Value} {d : DataW H} {p : List MemPlace}
    (o : Value.okWide Try.prog w r b0 22 v) (h : DataW.Trod enc0 Try.prog w base spare held 22 v d p) :
    ∃ (A : Option Addr) (n c : Nat) (xs : List UInt8), v = .slice A n c ∧ Rd encB 1 w A n xs ∧ n ≤ 9223372036854775807 := by
  obtain ⟨A, n, c, xs, rfl, h, hc, hm, hN⟩ := open_rd encB (fun _ => True) 1 Try.underlying22 o h (by kernel_rfl) (by omega) (fun _ => rfl) (fun n cs x hx => dec_Byte n cs x hx)
  exact ⟨A, n, c, xs, rfl, h, by unfold maxLen at hm; omega⟩
theorem laws_big (A : Option Addr) (n c : Nat) (w : World) (hn : n ≤ 9223372036854775807) :
    Calls Try.prog 5 #[.slice A n c] w fun e w' => e = .returned (.bool (decide (1048576 < n))) ∧ w = w' := by
  by_cases h : 1048576 < n
  · go_enter Try.func5, Try.ntmps5
    go_wp2
    go_ret
    exact ⟨by simp [h]; try omega, rfl⟩
  · go_enter Try.func5, Try.ntmps5
    go_wp2
    go_ret
    exact ⟨by simp [h]; try omega, rfl⟩

theorem chg_facts (op a b : Int) (ha : inR a 0 31 = true) (hb : inR b 0 31 = true) : inR (changed op a b) 0 31 = true ∧ (op = 1 → bits .and .i64 (changed op a b) b = b) ∧ (op = 2 → bits .and .i64 (changed op a b) b = 0) ∧ changed op (changed op a b) b = changed op a b := by
  have h : (List.range 32).all (fun x => (List.range 32).all (fun y =>
      decide (inR (bits .or .i64 (x : Int) (y : Int)) 0 31 = true ∧ bits .and .i64 (bits .or .i64 (x : Int) (y : Int)) (y : Int) = (y : Int) ∧ bits .or .i64 (bits .or .i64 (x : Int) (y : Int)) (y : Int) = bits .or .i64 (x : Int) (y : Int) ∧
        inR (bits .andNot .i64 (x : Int) (y : Int)) 0 31 = true ∧ bits .and .i64 (bits .andNot .i64 (x : Int) (y : Int)) (y : Int) = 0 ∧ bits .andNot .i64 (bits .andNot .i64 (x : Int) (y : Int)) (y : Int) = bits .andNot .i64 (x : Int) (y : Int)))) = true := by decide +kernel
  have ha2 : 0 ≤ a ∧ a ≤ 31 := by simpa [inR] using ha
  have hb2 : 0 ≤ b ∧ b ≤ 31 := by simpa [inR] using hb
  have h1 := List.all_eq_true.1 h a.toNat (List.mem_range.2 (by omega))
  have h2 := of_decide_eq_true (List.all_eq_true.1 h1 b.toNat (List.mem_range.2 (by omega)))
  rw [Int.toNat_of_nonneg ha2.1, Int.toNat_of_nonneg hb2.1] at h2
  obtain ⟨o1, o2, o3, n1, n2, n3⟩ := h2
  by_cases c1 : op = 1
  · subst c1
    have e : changed 1 a b = bits .or .i64 a b := by unfold changed; simp [ha, hb]
    have e2 : changed 1 (bits .or .i64 a b) b = bits .or .i64 (bits .or .i64 a b) b := by unfold changed; simp [o1, hb]
    rw [e]
    exact ⟨o1, fun _ => o2, fun h => by omega, by rw [e2]; exact o3⟩
  · by_cases c2 : op = 2
    · subst c2
      have e : changed 2 a b = bits .andNot .i64 a b := by unfold changed; simp [ha, hb]
      have e2 : changed 2 (bits .andNot .i64 a b) b = bits .andNot .i64 (bits .andNot .i64 a b) b := by unfold changed; simp [n1, hb]
      rw [e]
      exact ⟨n1, fun h => by omega, fun _ => n2, by rw [e2]; exact n3⟩
    · by_cases c3 : op = 3
      · subst c3
        have e : changed 3 a b = b := by unfold changed; simp [ha, hb]
        have e2 : changed 3 b b = b := by unfold changed; simp [hb]
        rw [e]
        exact ⟨hb, fun h => by omega, fun h => by omega, e2⟩
      · have e : changed op a b = a := by unfold changed; simp [ha, hb, c1, c2, c3]
        rw [e]
        exact ⟨ha, fun h => by omega, fun h => by omega, e⟩
theorem chg_bad {op a b : Int} (h : (inR a 0 31 && inR b 0 31) = false) : changed op a b = a := by unfold changed; rw [h]; rfl
def flagWordsOf (c : Int) : List Str := if c = 0 then [] else parts 32 (flagsText c)
theorem flags_back (c : Int) (h : inR c 0 31 = true) : readFlags (flagWordsOf c) = (c, true) := by
  have hh : (List.range 32).all (fun x => decide (readFlags (flagWordsOf (x : Int)) = ((x : Int), true))) = true := by decide +kernel
  have hc : 0 ≤ c ∧ c ≤ 31 := by simpa [inR] using h
  have := of_decide_eq_true (List.all_eq_true.1 hh c.toNat (List.mem_range.2 (by omega)))
  rw [Int.toNat_of_nonneg hc.1] at this
  exact this
theorem flags_fit (c : Int) (h : inR c 0 31 = true) : (flagWordsOf c).length ≤ 32 ∧ (∀ y ∈ flagWordsOf c, strFit y) ∧ (flagsText c).length ≤ 100 := by
  have hh : (List.range 32).all (fun x => decide ((flagWordsOf (x : Int)).length ≤ 32 ∧ (flagWordsOf (x : Int)).all (fun y => decide (y.length ≤ 100)) = true ∧ (flagsText (x : Int)).length ≤ 100)) = true := by decide +kernel
  have hc : 0 ≤ c ∧ c ≤ 31 := by simpa [inR] using h
  have := of_decide_eq_true (List.all_eq_true.1 hh c.toNat (List.mem_range.2 (by omega)))
  rw [Int.toNat_of_nonneg hc.1] at this
  refine ⟨this.1, fun y hy => ?_, this.2.2⟩
  have h3 := of_decide_eq_true (List.all_eq_true.1 this.2.1 y hy)
  unfold strFit; omega
set_option maxHeartbeats 3200000 in
set_option maxRecDepth 20000 in
theorem walk_FnFlags {H : Type} {enc0 : TypeId × Value → H} {base : Nat} {d0 : DataW H} {p0 : List MemPlace} (v0 : Value) (w : World) (o0 : Value.okWide Try.prog w .any base 22 v0) (k0 : DataW.Trod enc0 Try.prog w 0 (fun _ => true) true 22 v0 d0 p0) :
    Calls Try.prog 4 #[v0] w fun e w' => e = .returned (.bool true) ∧ Below w.heap.size w w' := by
  obtain ⟨A0, n0, c0, ys0, rfl, h0, hn0⟩ := open_Bytes o0 k0
  clear o0 k0
  by_cases hbig : 1048576 < n0
  · have hd : decide (1048576 < n0) = true := by simpa using hbig
    have C := Lib.hid (laws_big A0 n0 c0 w hn0)
    rw [hd] at C
    clear h0
    go_enter Try.func4, Try.ntmps4
    go_wp2_with fail
    refine C.out.mono ?_
    rintro e z ⟨rfl, rfl⟩
    go_wp2
    go_ret
    exact ⟨rfl, Below.refl _ _⟩
  have hd : decide (1048576 < n0) = false := by simpa using hbig
  have C := Lib.hid (laws_big A0 n0 c0 w hn0)
  rw [hd] at C
  have D := Lib.hid (spec_DrawChanged A0 n0 c0 ys0 w (by omega) h0)
  clear h0 hbig
  go_enter Try.func4, Try.ntmps4
  go_wp2_with fail
  refine C.out.mono ?_
  rintro e z ⟨rfl, rfl⟩
  go_wp2_with fail
  refine D.out.mono ?_
  rintro e w1 ⟨⟨op, a, b, hop, ha, hb, rfl⟩, hb1⟩
  have HB1 := Lib.hid hb1
  clear hb1 C D
  obtain ⟨N, hN⟩ : ∃ N, changed op a b = N := ⟨_, rfl⟩
  have HN := Lib.hid hN
  go_wp2_with fail
  refine (impl_Changed _ _ _ _).mono ?_
  rintro e z ⟨rfl, rfl⟩
  rw [hN]
  go_wp2_with fail
  refine (spec_Changed _ _ _ _).mono ?_
  rintro e z ⟨rfl, rfl⟩
  rw [hN]
  clear hN
  go_wp2_with fail
  refine (impl_FlagsOk _ _).mono ?_
  rintro e z ⟨rfl, rfl⟩
  have hA := HN.out
  cases hra : inR a 0 31 with
  | false =>
    have hNa : N = a := by rw [← HN.out]; exact chg_bad (by rw [hra]; rfl)
    go_wp2_with fail
    go_ret
    exact ⟨rfl, HB1.out⟩
  | true =>
    go_wp2_with fail
    refine (impl_FlagsOk _ _).mono ?_
    rintro e z ⟨rfl, rfl⟩
    cases hrb : inR b 0 31 with
    | false =>
      have hNa : N = a := by rw [← HN.out]; exact chg_bad (by rw [hra, hrb]; rfl)
      go_wp2_with fail
      go_ret
      exact ⟨rfl, HB1.out⟩
    | true =>
      have F := Lib.hid (chg_facts op a b hra hrb)
      rw [HN.out] at F
      have G := Lib.hid (flags_fit N F.out.1)
      have B := Lib.hid (flags_back N F.out.1)
      have HF := Lib.hid hA
      clear hA
      obtain ⟨Z, hZ⟩ : ∃ Z : ByteArray, (⟨(flagsText N).toArray⟩ : ByteArray) = Z := ⟨_, rfl⟩
      have HZ := Lib.hid hZ
      go_wp2_with fail
      refine (impl_FlagsText N w1).mono ?_
      rintro e w2 ⟨rfl, hb2⟩
      rw [hZ]
      clear hZ
      have HB2 := Lib.hid (HB1.out.trans (hb2.mono HB1.out.size))
      clear hb2
      go_wp2_with fail
      have hzs : Z.size ≤ 100 := by rw [← HZ.out, size_len]; exact G.out.2.2
      refine (spec_Parts Z 32 w2 (by omega)).mono ?_
      rintro e w3 ⟨A, c, rfl, ho, hb3⟩
      have HB3 := Lib.hid (HB2.out.trans (hb3.mono HB2.out.size))
      have HO := Lib.hid ho
      clear ho hb3 hzs
      have HZL := Lib.hid (show Z.data.toList = flagsText N by rw [← HZ.out])
      obtain ⟨ln, hln⟩ : ∃ ln, (parts 32 Z.data.toList).length = ln := ⟨_, rfl⟩
      have HLN := Lib.hid hln
      rw [hln]
      clear hln
      by_cases hz : N = 0
      · have hR : readFlags [] = (0, true) := rfl
        subst hz
        go_wp2_with fail
        refine (impl_ReadFlags _ 0 0 [] _ (by omega) (Rd.none_ _ _ _ _) (by simp)).mono ?_
        rintro e w4 ⟨rfl, hb4⟩
        rw [hR]
        clear hR
        have HB4 := Lib.hid (HB3.out.trans ((Below.alloc (Below.refl _ _) HB3.out.size _).trans (hb4.mono (by have := HB3.out.size; first | omega | (simp; omega)))))
        clear hb4
        go_wp2_with fail
        refine (impl_FlagsOk _ _).mono ?_
        rintro e z ⟨rfl, rfl⟩
        first | rw [F.out.1] | skip
        by_cases c1 : op = 1
        · have f1 := F.out.2.1 c1
          have f2 := F.out.2.2.2
          subst c1
          go_wp2_with fail
          refine (impl_Changed _ _ _ _).mono ?_
          rintro e z ⟨rfl, rfl⟩
          rw [f2]
          go_wp2_with fail
          go_ret
          exact ⟨rfl, HB4.out⟩
        · by_cases c2 : op = 2
          · have f1 := F.out.2.2.1 c2
            have f2 := F.out.2.2.2
            subst c2
            go_wp2_with fail
            refine (impl_Changed _ _ _ _).mono ?_
            rintro e z ⟨rfl, rfl⟩
            rw [f2]
            go_wp2_with fail
            go_ret
            exact ⟨rfl, HB4.out⟩
          · have f2 := F.out.2.2.2
            go_wp2_with fail
            refine (impl_Changed _ _ _ _).mono ?_
            rintro e z ⟨rfl, rfl⟩
            rw [f2]
            go_wp2_with fail
            go_ret
            exact ⟨rfl, HB4.out⟩
      · have hl : ln = (parts 32 Z.data.toList).length := HLN.out.symm
        have hfw : flagWordsOf N = parts 32 Z.data.toList := by unfold flagWordsOf; rw [if_neg hz, HZL.out]
        have HR := Lib.hid (show readFlags (parts 32 Z.data.toList) = (N, true) by rw [← hfw]; exact B.out)
        have HFit := Lib.hid (show (parts 32 Z.data.toList).length ≤ 32 ∧ ∀ y ∈ parts 32 Z.data.toList, strFit y by rw [← hfw]; exact ⟨G.out.1, G.out.2.1⟩)
        clear hfw
        go_wp2_with fail
        subst hl
        refine (impl_ReadFlags A _ c (parts 32 Z.data.toList) w3 (by have := HFit.out.1; omega) (Rd.of_own (enc := encStr) (k := 1) (fun _ => rfl) HO.out rfl) HFit.out.2).mono ?_
        have hR := HR.out
        rintro e w4 ⟨rfl, hb4⟩
        rw [hR]
        clear hR
        have HB4 := Lib.hid (HB3.out.trans ((Below.refl _ _).trans (hb4.mono (by have := HB3.out.size; first | omega | (simp; omega)))))
        clear hb4
        go_wp2_with fail
        refine (impl_FlagsOk _ _).mono ?_
        rintro e z ⟨rfl, rfl⟩
        first | rw [F.out.1] | skip
        by_cases c1 : op = 1
        · have f1 := F.out.2.1 c1
          have f2 := F.out.2.2.2
          subst c1
          go_wp2_with fail
          refine (impl_Changed _ _ _ _).mono ?_
          rintro e z ⟨rfl, rfl⟩
          rw [f2]
          go_wp2_with fail
          go_ret
          exact ⟨rfl, HB4.out⟩
        · by_cases c2 : op = 2
          · have f1 := F.out.2.2.1 c2
            have f2 := F.out.2.2.2
            subst c2
            go_wp2_with fail
            refine (impl_Changed _ _ _ _).mono ?_
            rintro e z ⟨rfl, rfl⟩
            rw [f2]
            go_wp2_with fail
            go_ret
            exact ⟨rfl, HB4.out⟩
          · have f2 := F.out.2.2.2
            go_wp2_with fail
            refine (impl_Changed _ _ _ _).mono ?_
            rintro e z ⟨rfl, rfl⟩
            rw [f2]
            go_wp2_with fail
            go_ret
            exact ⟨rfl, HB4.out⟩

end Go.Proofs.Ytgdebejmcfcpgaa
