/-
  Walks: what each function returns, and that it leaves what lay in memory as it was.
-/
import Derived.Test.YtgdebejmcfcpgaaDoorProg
import Derived.Test.YtgdebejmcfcpgaaDoorPlain
import Derived.Test.YtgdebejmcfcpgaaDoorBase2
import Derived.Test.YtgdebejmcfcpgaaDoorOpen2
import Derived.Test.YtgdebejmcfcpgaaDoorShelf
import Derived.WalkKit
import Derived.WalkSpells
import Derived.WalkLawsBesides
import Derived.Lib.Hide
import Derived.Deep.LoopGhost
import Derived.Deep.QuietTactic
import Derived.BigQuiet
import Derived.Handy
import Derived.Deep.RegionHeld3
import Derived.StillTailTactics
import Derived.OpenShut
import Derived.ChangeSame
import Derived.Laws.StructEq

import Derived.Test.YtgdebejmcfcpgaaDoorPlainT

import Derived.Test.YtgdebejmcfcpgaaDoorW1

import Derived.Test.YtgdebejmcfcpgaaDoorW2

import Derived.Test.YtgdebejmcfcpgaaDoorW3

import Derived.Test.YtgdebejmcfcpgaaDoorW9

import Derived.Test.YtgdebejmcfcpgaaDoorW10

namespace Go.Proofs.YtgdebejmcfcpgaaDoor
open Go.ChangeShapes Go.WideShapes Go.ChangeAt Go.RowKit Go.Deep
set_option linter.unusedVariables false
set_option linter.unusedSimpArgs false

set_option maxRecDepth 20000

theorem dec_Byte {H : Type} {enc0 : TypeId × Value → H} {w : World} {base : Nat} {spare : Nat → Bool} {held : Bool} (n : Nat) (cs : List Value) (x : DataW H × List MemPlace)
    (h : DataW.trod enc0 Tryd.prog w base spare held n 5 cs = some x) : ∃ y : UInt8, cs = encB y ∧ True := by
  obtain ⟨a, h1, _, hw⟩ := DataW.trod_int Tryd.underlying5 h
  have h : 0 ≤ a ∧ a < 256 := by simp [Lit.wf, IntKind.min, IntKind.max, IntKind.signed, IntKind.bits] at hw; omega
  refine ⟨UInt8.ofNat a.toNat, ?_, trivial⟩
  rw [h1]
  have h2 : (UInt8.ofNat a.toNat).toNat = a.toNat := UInt8.toNat_ofNat_of_lt' (by show a.toNat < 256; omega)
  show [Value.int .u8 a] = [Value.int .u8 ((UInt8.ofNat a.toNat).toNat : Int)]
  rw [h2, Int.toNat_of_nonneg h.1]
set_option maxRecDepth 20000 in
/-- Bytes that came in. -/
theorem open_Bytes {H : Type} {enc0 : TypeId × Value → H} {w : World} {base b0 : Nat} {r : Reach} {spare : Nat → Bool} {held : Bool} {v : Value} {d : DataW H} {p : List MemPlace}
    (o : Value.okWide Tryd.prog w r b0 22 v) (h : DataW.Trod enc0 Tryd.prog w base spare held 22 v d p) :
    ∃ (A : Option Addr) (n c : Nat) (xs : List UInt8), v = .slice A n c ∧ Rd encB 1 w A n xs ∧ n ≤ 9223372036854775807 := by
  obtain ⟨A, n, c, xs, rfl, h, hc, hm, hN⟩ := open_rd encB (fun _ => True) 1 Tryd.underlying22 o h (by kernel_rfl) (by omega) (fun _ => rfl) (fun n cs x hx => dec_Byte n cs x hx)
  exact ⟨A, n, c, xs, rfl, h, by unfold maxLen at hm; omega⟩
theorem laws_big (A : Option Addr) (n c : Nat) (w : World) (hn : n ≤ 9223372036854775807) :
    Calls Tryd.prog 7 #[.slice A n c] w fun e w' => e = .returned (.bool (decide (1048576 < n))) ∧ w = w' := by
  by_cases h : 1048576 < n
  · go_enter Tryd.func7, Tryd.ntmps7
    go_wp2
    go_ret
    exact ⟨by simp [h]; try omega, rfl⟩
  · go_enter Tryd.func7, Tryd.ntmps7
    go_wp2
    go_ret
    exact ⟨by simp [h]; try omega, rfl⟩

set_option maxRecDepth 20000 in
/-- Bytes that came in, with their room. -/
theorem open_Bytes2 {H : Type} {enc0 : TypeId × Value → H} {w : World} {base b0 : Nat} {r : Reach} {spare : Nat → Bool} {held : Bool} {v : Value} {d : DataW H} {p : List MemPlace}
    (o : Value.okWide Tryd.prog w r b0 22 v) (h : DataW.Trod enc0 Tryd.prog w base spare held 22 v d p) :
    ∃ (A : Option Addr) (n c : Nat) (xs : List UInt8), v = .slice A n c ∧ Rd encB 1 w A n xs ∧ n ≤ 9223372036854775807 ∧ n ≤ c := by
  obtain ⟨A, n, c, xs, rfl, h, hc, hm, hN⟩ := open_rd encB (fun _ => True) 1 Tryd.underlying22 o h (by kernel_rfl) (by omega) (fun _ => rfl) (fun n cs x hx => dec_Byte n cs x hx)
  exact ⟨A, n, c, xs, rfl, h, by unfold maxLen at hm; omega, hc⟩

theorem under_trans {a b c : Str} (h1 : underIn a b = true) (h2 : underIn b c = true) : underIn a c = true := by
  unfold underIn at h1 h2 ⊢
  simp only [Bool.and_eq_true, Bool.or_eq_true, decide_eq_true_eq] at h1 h2 ⊢
  obtain ⟨na, nb, h1⟩ := h1
  obtain ⟨_, nc, h2⟩ := h2
  refine ⟨na, nc, ?_⟩
  rcases h1 with rfl | h1
  · exact h2
  · rcases h2 with rfl | h2
    · exact Or.inr h1
    · right
      unfold Lib.hasPrefix at h1 h2 ⊢
      rw [List.isPrefixOf_iff_prefix] at h1 h2 ⊢
      exact h2.trans ((List.prefix_append b [47]).trans h1)
theorem under_self (a : Str) : underIn a a = nameOk a := by
  unfold underIn
  cases nameOk a <;> simp
theorem name_atom {a : Str} (h : nameOk a = true) : atomOk a = true := by
  unfold nameOk at h
  unfold atomOk
  simp only [Bool.and_eq_true] at h ⊢
  obtain ⟨h1, h2⟩ := h
  refine ⟨?_, ?_⟩
  · rw [List.all_eq_true]
    intro c hc
    obtain ⟨i, hi, e⟩ := List.getElem_of_mem hc
    have h3 := List.all_eq_true.1 h1 i (List.mem_range.2 hi)
    have e2 : a[i]? = some c := by rw [List.getElem?_eq_getElem hi, e]
    have e3 : a.getD i 0 = c := by rw [List.getD_eq_getElem?_getD, e2]; rfl
    unfold badAt at h3
    rw [e3] at h3
    cases hs : slashAt a i with
    | true =>
      unfold slashAt at hs
      rw [e2] at hs
      have hc2 : c = 47 := by simpa using hs
      subst hc2
      decide
    | false =>
      rw [hs] at h3
      have h4 : lcB c = true := by simpa using h3
      have h5 := u8_all (fun c => !lcB c || atomB c) (by decide +kernel) c
      rw [h4] at h5
      simpa using h5
  · unfold inR at h2 ⊢
    simp only [Bool.and_eq_true, decide_eq_true_eq] at h2 ⊢
    omega
theorem word_name {a : Str} (h : nameOk a = true) : word a = a := by unfold word; rw [if_pos (name_atom h)]
set_option maxHeartbeats 3200000 in
theorem walk_FnUnder {H : Type} {enc0 : TypeId × Value → H} {base : Nat} {d0 : DataW H} {p0 : List MemPlace} (v0 : Value) (w : World) (o0 : Value.okWide Tryd.prog w .any base 22 v0) (k0 : DataW.Trod enc0 Tryd.prog w 0 (fun _ => true) true 22 v0 d0 p0) (hS : w.ShapedOpen Tryd.prog) :
    Calls Tryd.prog 4 #[v0] w fun e w' => e = .returned (.bool true) ∧ Below w.heap.size w w' := by
  obtain ⟨A0, n0, c0, ys0, rfl, h0, hn0, hcap⟩ := open_Bytes2 o0 k0
  have Hml := Lib.hid (ML.of_shaped hS)
  clear o0 k0 hS
  by_cases hbig : 1048576 < n0
  · have hd : decide (1048576 < n0) = true := by simpa using hbig
    have C := Lib.hid (laws_big A0 n0 c0 w hn0)
    rw [hd] at C
    clear h0
    go_enter Tryd.func4, Tryd.ntmps4
    go_wp2_with fail
    refine C.out.mono ?_
    rintro e z ⟨rfl, rfl⟩
    go_wp2
    go_ret
    exact ⟨rfl, Below.refl _ _⟩
  have hd : decide (1048576 < n0) = false := by simpa using hbig
  have C := Lib.hid (laws_big A0 n0 c0 w hn0)
  rw [hd] at C
  have D := Lib.hid (spec_DrawUnder A0 n0 c0 ys0 w (by omega) h0)
  have H0 := Lib.hid h0
  have HCap := Lib.hid hcap
  clear h0 hcap
  go_enter Tryd.func4, Tryd.ntmps4
  go_wp2_with fail
  refine C.out.mono ?_
  rintro e z ⟨rfl, rfl⟩
  go_wp2_with fail
  refine D.out.mono ?_
  rintro e w1 ⟨⟨a, b, ha, hb, rfl⟩, hb1⟩
  have HB1 := Lib.hid hb1
  clear hb1 C D
  go_wp2_with fail
  refine (laws_tail A0 n0 c0 ys0 w1 (by omega) HCap.out (H0.out.below HB1.out)).mono ?_
  rintro e z ⟨⟨A1, n1, hn1, ⟨ys1, h1⟩, ⟨c1, rfl⟩⟩, rfl⟩
  have H1 := Lib.hid h1
  clear h1
  go_wp2_with fail
  refine (spec_DrawUnder A1 n1 c1 ys1 w1 hn1 H1.out).mono ?_
  rintro e w2 ⟨⟨c, d, hc, hd2, rfl⟩, hb2⟩
  have HB2 := Lib.hid (HB1.out.trans (hb2.mono HB1.out.size))
  have Hml2 := Lib.hid (Hml.out.below HB2.out)
  clear hb2 hbig hn1 H0 H1 HCap
  obtain ⟨X, hX⟩ : ∃ X : Bool, underIn a.data.toList b.data.toList = X := ⟨_, rfl⟩
  obtain ⟨Y, hY⟩ : ∃ Y : Bool, underIn b.data.toList c.data.toList = Y := ⟨_, rfl⟩
  obtain ⟨Z, hZ⟩ : ∃ Z : Bool, underIn a.data.toList c.data.toList = Z := ⟨_, rfl⟩
  obtain ⟨N, hN⟩ : ∃ N : Bool, nameOk a.data.toList = N := ⟨_, rfl⟩
  have hXYZ : X = true → Y = true → Z = true := fun h1 h2 => by rw [← hZ]; exact under_trans (hX.trans h1) (hY.trans h2)
  have hU := (under_self a.data.toList).trans hN
  have HAt := Lib.hid (fun (h : N = true) => name_atom (hN.trans h))
  have HWd := Lib.hid (fun (h : N = true) => (show (⟨(word a.data.toList).toArray⟩ : ByteArray) = a by rw [word_name (hN.trans h)]))
  have HX := Lib.hid hX
  have HY := Lib.hid hY
  have HZ := Lib.hid hZ
  have HN := Lib.hid hN
  have HU := Lib.hid hU
  clear hX hY hZ hN hU
  cases N with
  | false =>
    have HA := HN
    have HW := HN
    clear HAt HWd
    cases X with
    | false =>
      go_wp2_with (first
    | (go_at_call 15; refine (impl_Under _ _ _ (by omega) (by omega) Hml2.out).mono ?_; (first | rw [HX.out] | rw [HY.out] | rw [HZ.out] | rw [HU.out]); rintro e z ⟨rfl, rfl⟩)
    | (go_at_call 16; refine (spec_Under _ _ _ (by omega) (by omega)).mono ?_; rw [HX.out]; rintro e z ⟨rfl, rfl⟩)
    | (go_at_call 17; refine (impl_NameOk _ _ (by omega) Hml2.out).mono ?_; rw [HN.out]; rintro e z ⟨rfl, rfl⟩)
    | (go_at_call 18; refine (spec_NameOk _ _ (by unfold maxLen; omega)).mono ?_; rw [HN.out]; rintro e z ⟨rfl, rfl⟩)
    | (go_at_call 19; refine (impl_AtomOk _ _ (by unfold maxLen; omega)).mono ?_; rw [HA.out]; rintro e z ⟨rfl, rfl⟩)
    | (go_at_call 20; refine (impl_Word _ _ (by omega) Hml2.out).mono ?_; rw [HW.out]; rintro e w3 ⟨rfl, hb3⟩; have HB3 := Lib.hid (HB2.out.trans (hb3.mono HB2.out.size)); clear hb3))
      go_ret
      exact ⟨rfl, HB2.out⟩
    | true =>
      cases Y with
      | false =>
        go_wp2_with (first
    | (go_at_call 15; refine (impl_Under _ _ _ (by omega) (by omega) Hml2.out).mono ?_; (first | rw [HX.out] | rw [HY.out] | rw [HZ.out] | rw [HU.out]); rintro e z ⟨rfl, rfl⟩)
    | (go_at_call 16; refine (spec_Under _ _ _ (by omega) (by omega)).mono ?_; rw [HX.out]; rintro e z ⟨rfl, rfl⟩)
    | (go_at_call 17; refine (impl_NameOk _ _ (by omega) Hml2.out).mono ?_; rw [HN.out]; rintro e z ⟨rfl, rfl⟩)
    | (go_at_call 18; refine (spec_NameOk _ _ (by unfold maxLen; omega)).mono ?_; rw [HN.out]; rintro e z ⟨rfl, rfl⟩)
    | (go_at_call 19; refine (impl_AtomOk _ _ (by unfold maxLen; omega)).mono ?_; rw [HA.out]; rintro e z ⟨rfl, rfl⟩)
    | (go_at_call 20; refine (impl_Word _ _ (by omega) Hml2.out).mono ?_; rw [HW.out]; rintro e w3 ⟨rfl, hb3⟩; have HB3 := Lib.hid (HB2.out.trans (hb3.mono HB2.out.size)); clear hb3))
        go_ret
        exact ⟨rfl, HB2.out⟩
      | true =>
        obtain rfl : Z = true := hXYZ rfl rfl
        go_wp2_with (first
    | (go_at_call 15; refine (impl_Under _ _ _ (by omega) (by omega) Hml2.out).mono ?_; (first | rw [HX.out] | rw [HY.out] | rw [HZ.out] | rw [HU.out]); rintro e z ⟨rfl, rfl⟩)
    | (go_at_call 16; refine (spec_Under _ _ _ (by omega) (by omega)).mono ?_; rw [HX.out]; rintro e z ⟨rfl, rfl⟩)
    | (go_at_call 17; refine (impl_NameOk _ _ (by omega) Hml2.out).mono ?_; rw [HN.out]; rintro e z ⟨rfl, rfl⟩)
    | (go_at_call 18; refine (spec_NameOk _ _ (by unfold maxLen; omega)).mono ?_; rw [HN.out]; rintro e z ⟨rfl, rfl⟩)
    | (go_at_call 19; refine (impl_AtomOk _ _ (by unfold maxLen; omega)).mono ?_; rw [HA.out]; rintro e z ⟨rfl, rfl⟩)
    | (go_at_call 20; refine (impl_Word _ _ (by omega) Hml2.out).mono ?_; rw [HW.out]; rintro e w3 ⟨rfl, hb3⟩; have HB3 := Lib.hid (HB2.out.trans (hb3.mono HB2.out.size)); clear hb3))
        go_ret
        exact ⟨rfl, HB2.out⟩
  | true =>
    have HA := Lib.hid (HAt.out rfl)
    have HW := Lib.hid (HWd.out rfl)
    clear HAt HWd
    cases X with
    | false =>
      go_wp2_with (first
    | (go_at_call 15; refine (impl_Under _ _ _ (by omega) (by omega) Hml2.out).mono ?_; (first | rw [HX.out] | rw [HY.out] | rw [HZ.out] | rw [HU.out]); rintro e z ⟨rfl, rfl⟩)
    | (go_at_call 16; refine (spec_Under _ _ _ (by omega) (by omega)).mono ?_; rw [HX.out]; rintro e z ⟨rfl, rfl⟩)
    | (go_at_call 17; refine (impl_NameOk _ _ (by omega) Hml2.out).mono ?_; rw [HN.out]; rintro e z ⟨rfl, rfl⟩)
    | (go_at_call 18; refine (spec_NameOk _ _ (by unfold maxLen; omega)).mono ?_; rw [HN.out]; rintro e z ⟨rfl, rfl⟩)
    | (go_at_call 19; refine (impl_AtomOk _ _ (by unfold maxLen; omega)).mono ?_; rw [HA.out]; rintro e z ⟨rfl, rfl⟩)
    | (go_at_call 20; refine (impl_Word _ _ (by omega) Hml2.out).mono ?_; rw [HW.out]; rintro e w3 ⟨rfl, hb3⟩; have HB3 := Lib.hid (HB2.out.trans (hb3.mono HB2.out.size)); clear hb3))
      go_ret
      exact ⟨rfl, HB3.out⟩
    | true =>
      cases Y with
      | false =>
        go_wp2_with (first
    | (go_at_call 15; refine (impl_Under _ _ _ (by omega) (by omega) Hml2.out).mono ?_; (first | rw [HX.out] | rw [HY.out] | rw [HZ.out] | rw [HU.out]); rintro e z ⟨rfl, rfl⟩)
    | (go_at_call 16; refine (spec_Under _ _ _ (by omega) (by omega)).mono ?_; rw [HX.out]; rintro e z ⟨rfl, rfl⟩)
    | (go_at_call 17; refine (impl_NameOk _ _ (by omega) Hml2.out).mono ?_; rw [HN.out]; rintro e z ⟨rfl, rfl⟩)
    | (go_at_call 18; refine (spec_NameOk _ _ (by unfold maxLen; omega)).mono ?_; rw [HN.out]; rintro e z ⟨rfl, rfl⟩)
    | (go_at_call 19; refine (impl_AtomOk _ _ (by unfold maxLen; omega)).mono ?_; rw [HA.out]; rintro e z ⟨rfl, rfl⟩)
    | (go_at_call 20; refine (impl_Word _ _ (by omega) Hml2.out).mono ?_; rw [HW.out]; rintro e w3 ⟨rfl, hb3⟩; have HB3 := Lib.hid (HB2.out.trans (hb3.mono HB2.out.size)); clear hb3))
        go_ret
        exact ⟨rfl, HB3.out⟩
      | true =>
        obtain rfl : Z = true := hXYZ rfl rfl
        go_wp2_with (first
    | (go_at_call 15; refine (impl_Under _ _ _ (by omega) (by omega) Hml2.out).mono ?_; (first | rw [HX.out] | rw [HY.out] | rw [HZ.out] | rw [HU.out]); rintro e z ⟨rfl, rfl⟩)
    | (go_at_call 16; refine (spec_Under _ _ _ (by omega) (by omega)).mono ?_; rw [HX.out]; rintro e z ⟨rfl, rfl⟩)
    | (go_at_call 17; refine (impl_NameOk _ _ (by omega) Hml2.out).mono ?_; rw [HN.out]; rintro e z ⟨rfl, rfl⟩)
    | (go_at_call 18; refine (spec_NameOk _ _ (by unfold maxLen; omega)).mono ?_; rw [HN.out]; rintro e z ⟨rfl, rfl⟩)
    | (go_at_call 19; refine (impl_AtomOk _ _ (by unfold maxLen; omega)).mono ?_; rw [HA.out]; rintro e z ⟨rfl, rfl⟩)
    | (go_at_call 20; refine (impl_Word _ _ (by omega) Hml2.out).mono ?_; rw [HW.out]; rintro e w3 ⟨rfl, hb3⟩; have HB3 := Lib.hid (HB2.out.trans (hb3.mono HB2.out.size)); clear hb3))
        go_ret
        exact ⟨rfl, HB3.out⟩

end Go.Proofs.YtgdebejmcfcpgaaDoor
