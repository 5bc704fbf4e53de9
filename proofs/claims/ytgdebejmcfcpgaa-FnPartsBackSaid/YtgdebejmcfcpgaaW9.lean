/-
  Walks: what each function returns, and that it leaves what lay in memory as it was.
-/
import Derived.Test.YtgdebejmcfcpgaaProg
import Derived.Test.YtgdebejmcfcpgaaPlain
import Derived.Test.YtgdebejmcfcpgaaBase2
import Derived.Test.YtgdebejmcfcpgaaOpen2
import Derived.Test.YtgdebejmcfcpgaaShelf
import Derived.WalkKit
import Derived.WalkSpells
import Derived.WalkLawsBesides
import Derived.Lib.Hide
import Derived.Deep.LoopGhost
import Derived.Deep.QuietTactic
import Derived.BigQuiet
import Derived.Handy
import Derived.Deep.RegionHeld3
import Derived.StillTailTactics
import Derived.OpenShut
import Derived.ChangeSame
import Derived.Laws.StructEq

import Derived.Test.YtgdebejmcfcpgaaPlainT

import Derived.Test.YtgdebejmcfcpgaaW1

import Derived.Test.YtgdebejmcfcpgaaW2

import Derived.Test.YtgdebejmcfcpgaaW4

import Derived.Test.YtgdebejmcfcpgaaW5

import Derived.Test.YtgdebejmcfcpgaaW6

import Derived.Test.YtgdebejmcfcpgaaW8

import Derived.Test.YtgdebejmcfcpgaaBase3

namespace Go.Proofs.Ytgdebejmcfcpgaa
open Go.ChangeShapes Go.WideShapes Go.ChangeAt Go.RowKit Go.Deep
set_option linter.unusedVariables false
set_option linter.unusedSimpArgs false

theorem dec_Byte {H : Type} {enc0 : TypeId × Value → H} {w : World} {base : Nat} {spare : Nat → Bool} {held : Bool} (n : Nat) (cs : List Value) (x : DataW H × List MemPlace)
    (h : DataW.trod enc0 Try.prog w base spare held n 5 cs = some x) : ∃ y : UInt8, cs = encB y ∧ True := by
  obtain ⟨a, h1, _, hw⟩ := DataW.trod_int Try.underlying5 h
  have h : 0 ≤ a ∧ a < 256 := by simp [Lit.wf, IntKind.min, IntKind.max, IntKind.signed, IntKind.bits] at hw; omega
  refine ⟨UInt8.ofNat a.toNat, ?_, trivial⟩
  rw [h1]
  have h2 : (UInt8.ofNat a.toNat).toNat = a.toNat := UInt8.toNat_ofNat_of_lt' (by show a.toNat < 256; omega)
  show [Value.int .u8 a] = [Value.int .u8 ((UInt8.ofNat a.toNat).toNat : Int)]
  rw [h2, Int.toNat_of_nonneg h.1]
set_option maxRecDepth 20000 in
/-- Bytes that came in. -/
theorem open_Bytes {H : Type} {enc0 : TypeId × Value → H} {w : World} {base b0 : Nat} {r : Reach} {spare : Nat → Bool} {held : Bool} {v : Value} {d : DataW H} {p : List MemPlace}
    (o : Value.okWide Try.prog w r b0 22 v) (h : DataW.Trod enc0 Try.prog w base spare held 22 v d p) :
    ∃ (A : Option Addr) (n c : Nat) (xs : List UInt8), v = .slice A n c ∧ Rd encB 1 w A n xs ∧ n ≤ 9223372036854775807 := by
  obtain ⟨A, n, c, xs, rfl, h, hc, hm, hN⟩ := open_rd encB (fun _ => True) 1 Try.underlying22 o h (by kernel_rfl) (by omega) (fun _ => rfl) (fun n cs x hx => dec_Byte n cs x hx)
  exact ⟨A, n, c, xs, rfl, h, by unfold maxLen at hm; omega⟩
theorem laws_big (A : Option Addr) (n c : Nat) (w : World) (hn : n ≤ 9223372036854775807) :
    Calls Try.prog 5 #[.slice A n c] w fun e w' => e = .returned (.bool (decide (1048576 < n))) ∧ w = w' := by
  by_cases h : 1048576 < n
  · go_enter Try.func5, Try.ntmps5
    go_wp2
    go_ret
    exact ⟨by simp [h]; try omega, rfl⟩
  · go_enter Try.func5, Try.ntmps5
    go_wp2
    go_ret
    exact ⟨by simp [h]; try omega, rfl⟩

theorem partsGo_ne (b : UInt8) : ∀ (r cur : Str), ∃ x l, partsGo b cur r = x :: l
  | [], cur => ⟨_, _, rfl⟩
  | c :: r, cur => by
    unfold partsGo
    split
    · exact ⟨_, _, rfl⟩
    · exact partsGo_ne b r _
theorem join_partsGo (b : UInt8) : ∀ (r cur : Str), Lib.join (partsGo b cur r) [b] = cur ++ r
  | [], cur => by simp [partsGo, Lib.join_one]
  | c :: r, cur => by
    unfold partsGo
    split
    · rename_i h
      have h' : c = b := by simpa using h
      subst h'
      have ih := join_partsGo c r []
      obtain ⟨x, l, he⟩ := partsGo_ne c r []
      rw [he] at ih ⊢
      rw [Lib.join_cons] at ih ⊢
      simp only [List.nil_append] at ih
      show cur ++ Lib.joinTail [c] (x :: l) = _
      rw [← ih]
      simp [Lib.joinTail]
    · rw [join_partsGo b r (cur ++ [c])]; simp
theorem join_parts (b : UInt8) (s : Str) : Lib.join (parts b s) [b] = s := join_partsGo b s []
theorem partsGo_fit (b : UInt8) : ∀ (r cur : Str) (y : Str), y ∈ partsGo b cur r → y.length ≤ cur.length + r.length
  | [], cur, y, h => by simp [partsGo] at h; subst h; simp
  | c :: r, cur, y, h => by
    unfold partsGo at h
    split at h
    · rcases List.mem_cons.1 h with rfl | h
      · simp
      · have := partsGo_fit b r [] y h
        simp at this ⊢; omega
    · have := partsGo_fit b r _ y h
      simp at this ⊢; omega
theorem partsGo_len (b : UInt8) : ∀ (r cur : Str), (partsGo b cur r).length ≤ r.length + 1
  | [], cur => by simp [partsGo]
  | c :: r, cur => by
    unfold partsGo
    split
    · have := partsGo_len b r []
      simp; omega
    · have := partsGo_len b r (cur ++ [c])
      simp; omega
theorem upper_upper (s : Str) : upper (upper s) = upper s := by
  unfold upper
  rw [List.map_map]
  apply List.map_congr_left
  intro c _
  show upB (upB c) = upB c
  have h : ∀ n : Fin 256, upB (upB (UInt8.ofNat n.val)) = upB (UInt8.ofNat n.val) := by decide +kernel
  have h2 := h ⟨c.toNat, c.toNat_lt⟩
  have e : UInt8.ofNat c.toNat = c := by simp
  simp only [e] at h2
  exact h2
set_option maxHeartbeats 3200000 in
set_option maxRecDepth 20000 in
theorem walk_FnPartsBack {H : Type} {enc0 : TypeId × Value → H} {base : Nat} {d0 : DataW H} {p0 : List MemPlace} (v0 : Value) (w : World) (o0 : Value.okWide Try.prog w .any base 22 v0) (k0 : DataW.Trod enc0 Try.prog w 0 (fun _ => true) true 22 v0 d0 p0) :
    Calls Try.prog 3 #[v0] w fun e w' => e = .returned (.bool true) ∧ Below w.heap.size w w' := by
  obtain ⟨A0, n0, c0, ys0, rfl, h0, hn0⟩ := open_Bytes o0 k0
  clear o0 k0
  by_cases hbig : 1048576 < n0
  · have hd : decide (1048576 < n0) = true := by simpa using hbig
    have C := Lib.hid (laws_big A0 n0 c0 w hn0)
    rw [hd] at C
    clear h0
    go_enter Try.func3, Try.ntmps3
    go_wp2_with fail
    refine C.out.mono ?_
    rintro e z ⟨rfl, rfl⟩
    go_wp2
    go_ret
    exact ⟨rfl, Below.refl _ _⟩
  have hd : decide (1048576 < n0) = false := by simpa using hbig
  have C := Lib.hid (laws_big A0 n0 c0 w hn0)
  rw [hd] at C
  have D := Lib.hid (spec_DrawParts A0 n0 c0 ys0 w (by omega) h0)
  have H0 := Lib.hid h0
  clear h0 
  go_enter Try.func3, Try.ntmps3
  go_wp2_with fail
  refine C.out.mono ?_
  rintro e z ⟨rfl, rfl⟩
  go_wp2_with fail
  refine D.out.mono ?_
  rintro e w1 ⟨⟨s, b, hs, rfl⟩, hb1⟩
  have HB1 := Lib.hid hb1
  clear hb1 C D
  go_wp2_with fail
  refine (spec_DrawUpper A0 n0 c0 ys0 w1 (by omega) (H0.out.below HB1.out)).mono ?_
  rintro e w2 ⟨⟨t, ht, rfl⟩, hb2⟩
  have HB2 := Lib.hid (HB1.out.trans (hb2.mono HB1.out.size))
  clear hb2 hbig
  have HPL := Lib.hid (partsGo_len b s.data.toList [])
  have HPF := Lib.hid (fun y (h : y ∈ parts b s.data.toList) => partsGo_fit b s.data.toList [] y h)
  have HPJ := Lib.hid (join_parts b s.data.toList)
  have HSL := Lib.hid (size_len s)
  go_wp2_with fail
  refine (impl_Parts s b w2 (by omega)).mono ?_
  rintro e w3 ⟨A, c, rfl, ho, hb3⟩
  obtain ⟨ps, hps⟩ : ∃ ps, parts b s.data.toList = ps := ⟨_, rfl⟩
  rw [hps] at ho HPF HPJ
  have HPL2 := Lib.hid (show ps.length ≤ s.data.toList.length + 1 by rw [← hps]; exact HPL.out)
  have HPS := Lib.hid hps
  rw [hps]
  clear HPL
  have HB3 := Lib.hid (HB2.out.trans (hb3.mono HB2.out.size))
  have HO := Lib.hid ho
  have HCap := Lib.hid (own_cap ho)
  have HRd := Lib.hid (Rd.of_own (enc := encStr) (k := 1) (fun _ => rfl) ho rfl)
  clear ho hb3 hps
  go_wp2_with fail
  refine (spec_Parts s b w3 (by omega)).mono ?_
  rintro e w4 ⟨A', c', rfl, ho, hb4⟩
  have HB4 := Lib.hid (HB3.out.trans (hb4.mono HB3.out.size))
  have HRd4 := Lib.hid (HRd.out.below hb4)
  rw [HPS.out]
  clear ho hb4
  have hcv := run_ofBytes (P := Try.prog) 22 9 5 Try.underlying22 Try.underlying5 Try.underlying9 (Rd.new (enc := encB) (k := 1) (fun _ => rfl) w4 #[.int .u8 (b.toNat : Int)] 5 (n := 1) [b] rfl rfl) 1
  have hal : Below w4.heap.size w4 (w4.alloc (.cells #[.int .u8 (b.toNat : Int)] 5)) := (Below.refl _ _).alloc (Nat.le_refl _) _
  have HRd5 := Lib.hid (HRd4.out.below hal)
  have HB5 := Lib.hid (HB4.out.trans (hal.mono HB4.out.size))
  clear hal
  go_wp2_with fail
  clear hcv
  have hj : (⟨(Lib.join ps (⟨#[b]⟩ : ByteArray).data.toList).toArray⟩ : ByteArray) = s := by
    show (⟨(Lib.join ps [b]).toArray⟩ : ByteArray) = s
    rw [HPJ.out]
  refine (impl_Joined A _ c ps ⟨#[b]⟩ _ (by have h1 := HPL2.out; have h2 := HSL.out; omega) HCap.out HRd5.out (by
    intro y hy
    have h1 := HPF.out y hy
    have h2 := HSL.out
    simp only [List.length_nil] at h1
    unfold strFit; omega) (by show 1 ≤ 1048576; omega)).mono ?_
  rw [hj]
  clear hj
  rintro e w5 ⟨rfl, hb5⟩
  have HB6 := Lib.hid (HB5.out.trans (hb5.mono HB5.out.size))
  clear hb5
  obtain ⟨U, hU⟩ : ∃ U : ByteArray, (⟨(upper t.data.toList).toArray⟩ : ByteArray) = U := ⟨_, rfl⟩
  have hUs : U.size = t.size := by rw [← hU, upper_size, size_len]
  have hUU : (⟨(upper U.data.toList).toArray⟩ : ByteArray) = U := by
    rw [← hU]
    show (⟨(upper (upper t.data.toList)).toArray⟩ : ByteArray) = _
    rw [upper_upper]
  have HU := Lib.hid hU
  have HUU := Lib.hid hUU
  have HUs := Lib.hid hUs
  clear hU hUU hUs
  go_wp2_with fail
  refine (impl_Upper t _ (by unfold maxLen; omega)).mono ?_
  rintro e w6 ⟨rfl, hb6⟩
  rw [HU.out]
  have HB7 := Lib.hid (HB6.out.trans (hb6.mono HB6.out.size))
  clear hb6
  go_wp2_with fail
  refine (impl_Upper U _ (by have := HUs.out; unfold maxLen; omega)).mono ?_
  rintro e w7 ⟨rfl, hb7⟩
  rw [HUU.out]
  have HB8 := Lib.hid (HB7.out.trans (hb7.mono HB7.out.size))
  clear hb7
  go_wp2_with fail
  refine (impl_Upper t _ (by unfold maxLen; omega)).mono ?_
  rintro e w8 ⟨rfl, hb8⟩
  rw [HU.out]
  have HB9 := Lib.hid (HB8.out.trans (hb8.mono HB8.out.size))
  clear hb8
  go_wp2_with fail
  refine (impl_Upper t _ (by unfold maxLen; omega)).mono ?_
  rintro e w9 ⟨rfl, hb9⟩
  rw [HU.out]
  have HB10 := Lib.hid (HB9.out.trans (hb9.mono HB9.out.size))
  clear hb9
  go_wp2_with fail
  refine (spec_Upper t _ (by unfold maxLen; omega)).mono ?_
  rintro e w10 ⟨rfl, hb10⟩
  rw [HU.out]
  have HB11 := Lib.hid (HB10.out.trans (hb10.mono HB10.out.size))
  clear hb10
  go_wp2_with fail
  go_ret
  exact ⟨rfl, HB11.out⟩

end Go.Proofs.Ytgdebejmcfcpgaa
