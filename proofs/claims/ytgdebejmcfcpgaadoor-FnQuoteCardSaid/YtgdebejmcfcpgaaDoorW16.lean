/-
  Walks: what each function returns, and that it leaves what lay in memory as it was.
-/
import Derived.Test.YtgdebejmcfcpgaaDoorProg
import Derived.Test.YtgdebejmcfcpgaaDoorPlain
import Derived.Test.YtgdebejmcfcpgaaDoorBase2
import Derived.Test.YtgdebejmcfcpgaaDoorOpen2
import Derived.Test.YtgdebejmcfcpgaaDoorShelf
import Derived.WalkKit
import Derived.WalkSpells
import Derived.WalkLawsBesides
import Derived.Lib.Hide
import Derived.Deep.LoopGhost
import Derived.Deep.QuietTactic
import Derived.BigQuiet
import Derived.Handy
import Derived.Deep.RegionHeld3
import Derived.StillTailTactics
import Derived.OpenShut
import Derived.ChangeSame
import Derived.Laws.StructEq

import Derived.Test.YtgdebejmcfcpgaaDoorPlainT

import Derived.Test.YtgdebejmcfcpgaaDoorW1

import Derived.Test.YtgdebejmcfcpgaaDoorW2

import Derived.Test.YtgdebejmcfcpgaaDoorW3

import Derived.Test.YtgdebejmcfcpgaaDoorW9

import Derived.Test.YtgdebejmcfcpgaaDoorW10

import Derived.Test.YtgdebejmcfcpgaaDoorW12

import Derived.Test.YtgdebejmcfcpgaaDoorW13

import Derived.Test.YtgdebejmcfcpgaaDoorW14

import Derived.Test.YtgdebejmcfcpgaaDoorW15

namespace Go.Proofs.YtgdebejmcfcpgaaDoor
open Go.ChangeShapes Go.WideShapes Go.ChangeAt Go.RowKit Go.Deep
set_option linter.unusedVariables false
set_option linter.unusedSimpArgs false

set_option maxRecDepth 20000

theorem dec_Byte {H : Type} {enc0 : TypeId × Value → H} {w : World} {base : Nat} {spare : Nat → Bool} {held : Bool} (n : Nat) (cs : List Value) (x : DataW H × List MemPlace)
    (h : DataW.trod enc0 Tryd.prog w base spare held n 5 cs = some x) : ∃ y : UInt8, cs = encB y ∧ True := by
  obtain ⟨a, h1, _, hw⟩ := DataW.trod_int Tryd.underlying5 h
  have h : 0 ≤ a ∧ a < 256 := by simp [Lit.wf, IntKind.min, IntKind.max, IntKind.signed, IntKind.bits] at hw; omega
  refine ⟨UInt8.ofNat a.toNat, ?_, trivial⟩
  rw [h1]
  have h2 : (UInt8.ofNat a.toNat).toNat = a.toNat := UInt8.toNat_ofNat_of_lt' (by show a.toNat < 256; omega)
  show [Value.int .u8 a] = [Value.int .u8 ((UInt8.ofNat a.toNat).toNat : Int)]
  rw [h2, Int.toNat_of_nonneg h.1]
set_option maxRecDepth 20000 in
/-- Bytes that came in. -/
theorem open_Bytes {H : Type} {enc0 : TypeId × Value → H} {w : World} {base b0 : Nat} {r : Reach} {spare : Nat → Bool} {held : Bool} {v : Value} {d : DataW H} {p : List MemPlace}
    (o : Value.okWide Tryd.prog w r b0 22 v) (h : DataW.Trod enc0 Tryd.prog w base spare held 22 v d p) :
    ∃ (A : Option Addr) (n c : Nat) (xs : List UInt8), v = .slice A n c ∧ Rd encB 1 w A n xs ∧ n ≤ 9223372036854775807 := by
  obtain ⟨A, n, c, xs, rfl, h, hc, hm, hN⟩ := open_rd encB (fun _ => True) 1 Tryd.underlying22 o h (by kernel_rfl) (by omega) (fun _ => rfl) (fun n cs x hx => dec_Byte n cs x hx)
  exact ⟨A, n, c, xs, rfl, h, by unfold maxLen at hm; omega⟩
theorem laws_big (A : Option Addr) (n c : Nat) (w : World) (hn : n ≤ 9223372036854775807) :
    Calls Tryd.prog 7 #[.slice A n c] w fun e w' => e = .returned (.bool (decide (1048576 < n))) ∧ w = w' := by
  by_cases h : 1048576 < n
  · go_enter Tryd.func7, Tryd.ntmps7
    go_wp2
    go_ret
    exact ⟨by simp [h]; try omega, rfl⟩
  · go_enter Tryd.func7, Tryd.ntmps7
    go_wp2
    go_ret
    exact ⟨by simp [h]; try omega, rfl⟩

theorem unq_quote (tl : Str) : ∀ (r out : Str) (k : Nat), r.all quotB = true → (out ++ r).length ≤ 40 → unqGo out k (esc r ++ 34 :: tl) = (out ++ r, (k : Int) + (esc r).length + 1)
  | [], out, k, _, h40 => by
    have h := unq_close (s := List.replicate k (0 : UInt8) ++ 34 :: tl) (out := out) (k := k) (by simp)
    rw [if_pos (by simpa using h40)] at h
    rw [List.drop_append_of_le_length (by simp), List.drop_of_length_le (by simp)] at h
    simpa [esc] using h
  | c :: r, out, k, hq, h40 => by
    have hq1 : quotB c = true := by simp at hq; exact hq.1
    have hq2 : r.all quotB = true := by simp at hq ⊢; exact hq.2
    have he : esc (c :: r) = escB c ++ esc r := by show esc ([c] ++ r) = _; rw [esc_app, esc_one]
    have hrec := unq_quote tl r (out ++ [c])
    by_cases hc : c = 34 ∨ c = 92
    · have h := unq_esc (s := List.replicate k (0 : UInt8) ++ 92 :: c :: (esc r ++ 34 :: tl)) (out := out) (k := k) (d := c) (by simp) (by simp [List.getElem?_append])
      rw [if_pos hc] at h
      have d1 : (List.replicate k (0 : UInt8) ++ 92 :: c :: (esc r ++ 34 :: tl)).drop k = 92 :: c :: (esc r ++ 34 :: tl) := by
        rw [List.drop_append_of_le_length (by simp), List.drop_of_length_le (by simp)]; rfl
      have d2 : (List.replicate k (0 : UInt8) ++ 92 :: c :: (esc r ++ 34 :: tl)).drop (k + 2) = esc r ++ 34 :: tl := by
        rw [← List.drop_drop, d1]; rfl
      rw [d1, d2, hrec (k + 2) hq2 (by simp at h40 ⊢; omega)] at h
      rw [he, escB_esc hc]
      show unqGo out k (92 :: c :: (esc r ++ 34 :: tl)) = _
      rw [h]
      simp
      omega
    · have h1 : c ≠ 34 := fun e => hc (Or.inl e)
      have h2 : c ≠ 92 := fun e => hc (Or.inr e)
      have h := unq_plain (s := List.replicate k (0 : UInt8) ++ c :: (esc r ++ 34 :: tl)) (out := out) (k := k) (c := c) (by simp) h1 h2
      rw [if_pos hq1] at h
      have d1 : (List.replicate k (0 : UInt8) ++ c :: (esc r ++ 34 :: tl)).drop k = c :: (esc r ++ 34 :: tl) := by
        rw [List.drop_append_of_le_length (by simp), List.drop_of_length_le (by simp)]; rfl
      have d2 : (List.replicate k (0 : UInt8) ++ c :: (esc r ++ 34 :: tl)).drop (k + 1) = esc r ++ 34 :: tl := by
        rw [← List.drop_drop, d1]; rfl
      rw [d1, d2, hrec (k + 1) hq2 (by simp at h40 ⊢; omega)] at h
      rw [he, escB_plain h1 h2]
      show unqGo out k (c :: (esc r ++ 34 :: tl)) = _
      rw [h]
      simp
      omega
/-- A quoted text, wherever it stands, is read back. -/
theorem unquote_quote (s : Str) : unquote ([97, 98] ++ quote s ++ [99]) 2 = (if quote s = [] then ([], -1) else (s, 2 + ((quote s).length : Int))) := by
  by_cases hq : quotable s = true
  · have hquote : quote s = 34 :: (esc s ++ [34]) := by unfold quote; rw [if_pos hq]
    have h1 : s.all quotB = true ∧ s.length ≤ 40 := by unfold quotable at hq; simpa using hq
    rw [if_neg (by rw [hquote]; simp)]
    have := unquote_yes (s := [97, 98] ++ quote s ++ [99]) (a := 2) (by rw [hquote]; rfl)
    have e2 : ((2 : Nat) : Int) = 2 := rfl
    rw [e2] at this
    rw [this, hquote]
    have hd : ([97, 98] ++ 34 :: (esc s ++ [34]) ++ [99]).drop (2 + 1) = esc s ++ 34 :: [99] := by simp
    rw [hd, unq_quote [99] s [] 3 (by simpa using h1.1) (by simpa using h1.2)]
    simp
    omega
  · have hquote : quote s = [] := by unfold quote; rw [if_neg hq]
    rw [hquote, if_pos rfl]
    exact unquote_no2 (s := [97, 98] ++ [] ++ [99]) (a := 2) (by decide)
theorem UInv.back {t : Str} {a : Nat} {R : Str × Int} (ha : t[a]? = some 34) : ∀ (n k : Nat) (out : Str), t.length - k ≤ n → UInv t a R out k → R = ([], -1) ∨ ∃ E : Nat, a < E ∧ E ≤ t.length ∧ R.2 = (E : Int) ∧ quote R.1 = (t.drop a).take (E - a)
  | n, k, out, hn, i => by
    by_cases hk : t.length ≤ k
    · exact Or.inl (i.end_ hk)
    · have hk' : k < t.length := by omega
      have hlo := i.lo
      cases n with
      | zero => omega
      | succ n =>
        have hg : t[k]? = some t[k] := List.getElem?_eq_getElem hk'
        by_cases h34 : t[k] = 34
        · rw [h34] at hg
          rcases i.close ha hg with ⟨h1, h2⟩ | ⟨_, h2⟩
          · right
            refine ⟨k + 1, by omega, by omega, by rw [h2]; rfl, by rw [h2]; exact h1⟩
          · exact Or.inl h2
        · by_cases h92 : t[k] = 92
          · rw [h92] at hg
            by_cases hk2 : k + 1 < t.length
            · exact UInv.back ha n (k + 2) _ (by omega) (i.esc hg (List.getElem?_eq_getElem hk2))
            · exact Or.inl (i.esc_end hg (by omega))
          · exact UInv.back ha n (k + 1) _ (by omega) (i.plain hg h34 h92)
theorem unquote_back (t : Str) (x : Int) : unquote t x = ([], -1) ∨ ∃ a E : Nat, x = (a : Int) ∧ a < E ∧ E ≤ t.length ∧ (unquote t x).2 = (E : Int) ∧ quote (unquote t x).1 = (t.drop a).take (E - a) := by
  cases hin : inR x 0 ((t.length : Int) - 1) with
  | false => exact Or.inl (unquote_no hin)
  | true =>
    have hin2 : 0 ≤ x ∧ x ≤ (t.length : Int) - 1 := by simpa [inR] using hin
    obtain ⟨a, rfl⟩ := Int.eq_ofNat_of_zero_le hin2.1
    by_cases h : t[a]? = some 34
    · rcases UInv.back h t.length (a + 1) [] (by omega) (UInv.start (R := unquote t (a : Int)) (by omega) (unquote_yes h)) with h1 | ⟨E, h1, h2, h3, h4⟩
      · exact Or.inl h1
      · exact Or.inr ⟨a, E, rfl, h1, h2, h3, h4⟩
    · exact Or.inl (unquote_no2 h)
set_option maxHeartbeats 3200000 in
theorem walk_FnQuote {H : Type} {enc0 : TypeId × Value → H} {base : Nat} {d0 : DataW H} {p0 : List MemPlace} (v0 : Value) (w : World) (o0 : Value.okWide Tryd.prog w .any base 22 v0) (k0 : DataW.Trod enc0 Tryd.prog w 0 (fun _ => true) true 22 v0 d0 p0) (hS : w.ShapedOpen Tryd.prog) :
    Calls Tryd.prog 5 #[v0] w fun e w' => e = .returned (.bool true) ∧ Below w.heap.size w w' := by
  obtain ⟨A0, n0, c0, ys0, rfl, h0, hn0⟩ := open_Bytes o0 k0
  have Hml := Lib.hid (ML.of_shaped hS)
  clear o0 k0 hS
  by_cases hbig : 1048576 < n0
  · have hd : decide (1048576 < n0) = true := by simpa using hbig
    have C := Lib.hid (laws_big A0 n0 c0 w hn0)
    rw [hd] at C
    clear h0
    go_enter Tryd.func5, Tryd.ntmps5
    go_wp2_with fail
    refine C.out.mono ?_
    rintro e z ⟨rfl, rfl⟩
    go_wp2
    go_ret
    exact ⟨rfl, Below.refl _ _⟩
  have hd : decide (1048576 < n0) = false := by simpa using hbig
  have C := Lib.hid (laws_big A0 n0 c0 w hn0)
  rw [hd] at C
  have D := Lib.hid (spec_DrawQuote A0 n0 c0 ys0 w (by omega) h0)
  have H0 := Lib.hid h0
  clear h0
  go_enter Tryd.func5, Tryd.ntmps5
  go_wp2_with fail
  refine C.out.mono ?_
  rintro e z ⟨rfl, rfl⟩
  go_wp2_with fail
  refine D.out.mono ?_
  rintro e w1 ⟨⟨s, hs, rfl⟩, hb1⟩
  have HB1 := Lib.hid hb1
  clear hb1 C D
  obtain ⟨q, hq⟩ : ∃ q : ByteArray, (⟨(quote s.data.toList).toArray⟩ : ByteArray) = q := ⟨_, rfl⟩
  have hqs : q.size ≤ 202 := by
    have h1 := quote_len s.data.toList
    rw [← size_len] at h1
    rw [← hq, size_len]; simp only [List.toList_toArray]; omega
  have HQ := Lib.hid hq
  have HQL := Lib.hid (show q.data.toList = quote s.data.toList by rw [← hq])
  clear hq
  go_wp2_with fail
  refine (impl_Quote s w1 (by omega) (Hml.out.below HB1.out)).mono ?_
  rw [HQ.out]
  rintro e w2 ⟨rfl, hb2⟩
  have HB2 := Lib.hid (HB1.out.trans (hb2.mono HB1.out.size))
  clear hb2
  go_wp2_with fail
  refine (spec_Quote s w2 (by unfold maxLen; omega)).mono ?_
  rw [HQ.out]
  rintro e w3 ⟨rfl, hb3⟩
  have HB3 := Lib.hid (HB2.out.trans (hb3.mono HB2.out.size))
  clear hb3
  obtain ⟨T0, hT0⟩ : ∃ T0 : ByteArray, (⟨#[97, 98]⟩ : ByteArray) ++ q ++ (⟨#[99]⟩ : ByteArray) = T0 := ⟨_, rfl⟩
  have hT0s : T0.size ≤ 300 := by
    have h1 := ba_size_app ((⟨#[97, 98]⟩ : ByteArray) ++ q) ⟨#[99]⟩
    have h2 := ba_size_app (⟨#[97, 98]⟩ : ByteArray) q
    have h3 : (⟨#[97, 98]⟩ : ByteArray).size = 2 := rfl
    have h4 : (⟨#[99]⟩ : ByteArray).size = 1 := rfl
    rw [hT0] at h1
    omega
  have HU0 := Lib.hid (show unquote T0.data.toList 2 = (if quote s.data.toList = [] then ([], -1) else (s.data.toList, 2 + ((quote s.data.toList).length : Int))) by
    rw [← unquote_quote, ← hT0]
    congr 1
    simp [HQL.out])
  go_wp2_with fail
  refine (impl_Unquote T0 2 w3 (by omega) (Hml.out.below HB3.out) (by omega) (by omega)).mono ?_
  rintro e w4 ⟨rfl, hb4⟩
  have HB4 := Lib.hid (HB3.out.trans (hb4.mono HB3.out.size))
  rw [HU0.out]
  clear hb4 hT0
  obtain ⟨X, N, hXN⟩ : ∃ (X : ByteArray) (N : Int), (⟨(if quote s.data.toList = [] then (([], -1) : Str × Int) else (s.data.toList, 2 + ((quote s.data.toList).length : Int))).1.toArray⟩ : ByteArray) = X ∧ (if quote s.data.toList = [] then (([], -1) : Str × Int) else (s.data.toList, 2 + ((quote s.data.toList).length : Int))).2 = N := ⟨_, _, rfl, rfl⟩
  rw [hXN.1, hXN.2]
  have HXN := Lib.hid (show (q = ⟨#[]⟩ ∧ N = -1) ∨ (¬ q = ⟨#[]⟩ ∧ X = s ∧ N = 2 + (q.size : Int)) by
    by_cases h : quote s.data.toList = []
    · left
      refine ⟨by rw [← HQ.out, h], by rw [← hXN.2, if_pos h]⟩
    · right
      refine ⟨fun e => h (by rw [← HQL.out, e]), by rw [← hXN.1, if_neg h], by rw [← hXN.2, if_neg h, size_len, HQL.out]⟩)
  clear hXN
  go_wp2_with fail
  refine (spec_DrawUnquote A0 n0 c0 ys0 w4 (by omega) (H0.out.below HB4.out)).mono ?_
  rintro e w5 ⟨⟨t, x, ht, hx, rfl⟩, hb5⟩
  have HB5 := Lib.hid (HB4.out.trans (hb5.mono HB4.out.size))
  clear hb5 hbig
  obtain ⟨R, hR⟩ : ∃ R, unquote t.data.toList x = R := ⟨_, rfl⟩
  have HBk := Lib.hid (unquote_back t.data.toList x)
  rw [hR] at HBk
  have HR := Lib.hid hR
  clear hR
  obtain ⟨Y, hY⟩ : ∃ Y : ByteArray, (⟨R.1.toArray⟩ : ByteArray) = Y := ⟨_, rfl⟩
  have HY := Lib.hid hY
  clear hY
  go_wp2_with fail
  refine (impl_Unquote t x w5 (by omega) (Hml.out.below HB5.out) hx.1 hx.2).mono ?_
  rw [HR.out, HY.out]
  rintro e w6 ⟨rfl, hb6⟩
  have HB6 := Lib.hid (HB5.out.trans (hb6.mono HB5.out.size))
  clear hb6
  go_wp2_with fail
  refine (spec_Unquote t x w6 (by omega) hx.1 hx.2).mono ?_
  rw [HR.out, HY.out]
  rintro e w7 ⟨rfl, hb7⟩
  have HB7 := Lib.hid (HB6.out.trans (hb7.mono HB6.out.size))
  clear hb7
  have HM7 := Lib.hid (Hml.out.below HB7.out)
  rcases HBk.out with hbad | ⟨a, E, rfl, h1, h2, h3, h4⟩
  · obtain ⟨r2, hr2⟩ : ∃ r2, R.2 = r2 := ⟨_, rfl⟩
    have hr2v : r2 = -1 := by rw [← hr2, hbad]
    subst hr2v
    rw [hr2]
    clear hr2 hbad
    go_wp2_with fail
    refine wp_region_calm_lit (by kernel_rfl) (by kernel_rfl) ?_
    repeat (go_big_quiet_step (fail))
    refine wpQuiet_nil ?_
    intro _ hw'
    obtain ⟨u, rfl⟩ := hw'
    have HBf := Lib.hid (HB7.out.trans (u.bel.mono HB7.out.size))
    rcases HXN.out with ⟨hq0, hN⟩ | ⟨hq0, hXs, hN⟩
    · subst hq0; subst hN
      go_wp2_with fail
      go_ret
      exact ⟨rfl, HBf.out⟩
    · have f1 : q.toList.isEmpty = false := by rw [ba_empty, decide_eq_false hq0]
      have f2 : (q.toList == []) = false := by rw [← f1]; cases q.toList <;> rfl
      subst hXs; subst hN
      clear hq0
      go_wp2_with fail
      go_ret
      exact ⟨rfl, HBf.out⟩
  · rw [h3]
    have hE : E ≤ t.size := by rw [size_len]; exact h2
    have hYs : Y.size ≤ 1048576 := by
      have hl : R.1.length ≤ 40 := by
        by_cases hqq : R.1.length ≤ 40
        · exact hqq
        · exfalso
          rw [quote_long hqq] at h4
          have := congrArg List.length h4
          simp at this
          omega
      rw [← HY.out, size_len]; simp only [List.toList_toArray]; omega
    have HSeg := Lib.hid (show (⟨(quote Y.data.toList).toArray⟩ : ByteArray) = t.extract a E by
      rw [← HY.out]
      show (⟨(quote R.1).toArray⟩ : ByteArray) = _
      rw [h4, ← Lib.extract_data t a E])
    clear h2 h3 h4
    go_wp2_with fail
    refine wp_region_calm_lit (by kernel_rfl) (by kernel_rfl) ?_
    repeat (go_big_quiet_step (first | (go_at_call 22; exact Calls.calm (Calls.knownS (impl_Quote Y _ hYs (HM7.out.below (Later.bel _))) HSeg.out))))
    refine wpQuiet_nil ?_
    intro _ hw'
    obtain ⟨u, rfl⟩ := hw'
    have HBf := Lib.hid (HB7.out.trans (u.bel.mono HB7.out.size))
    rcases HXN.out with ⟨hq0, hN⟩ | ⟨hq0, hXs, hN⟩
    · subst hq0; subst hN
      go_wp2_with fail
      go_ret
      exact ⟨rfl, HBf.out⟩
    · have f1 : q.toList.isEmpty = false := by rw [ba_empty, decide_eq_false hq0]
      have f2 : (q.toList == []) = false := by rw [← f1]; cases q.toList <;> rfl
      subst hXs; subst hN
      clear hq0
      go_wp2_with fail
      go_ret
      exact ⟨rfl, HBf.out⟩

end Go.Proofs.YtgdebejmcfcpgaaDoor
