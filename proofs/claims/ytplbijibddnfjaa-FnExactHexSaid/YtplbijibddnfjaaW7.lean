/-
  Walks: what each function returns, and that it leaves what lay in memory as it was.
-/
import Derived.Test.YtplbijibddnfjaaProg
import Derived.Test.YtplbijibddnfjaaPlain
import Derived.Test.YtplbijibddnfjaaBase
import Derived.Test.YtplbijibddnfjaaShelf
import Derived.Test.YtplbijibddnfjaaW1
import Derived.Test.YtplbijibddnfjaaPlainB
import Derived.Test.YtplbijibddnfjaaBase2
import Derived.WalkKit
import Derived.WalkSpells
import Derived.WalkLawsBesides
import Derived.Lib.Hide
import Derived.Deep.LoopGhost
import Derived.Deep.QuietTactic
import Derived.BigQuiet
import Derived.Handy
import Derived.Deep.RegionHeld3
import Derived.StillTailTactics
namespace Go.Proofs.Ytplbijibddnfjaa
open Go.RowKit
set_option linter.unusedVariables false
set_option linter.unusedSimpArgs false

theorem spec_l1Hex (d : Nat) (w : World) (hd : d < 16) :
    Calls Try.prog 48 #[.int .u8 (d : Int)] w fun e w' => e = .returned (.int .u8 ((Lib.Hx.digit d).toNat : Int)) ∧ w = w' := by
  by_cases h : d < 10
  · have e := Lib.hid (hexDigit_low d h)
    have h' : (d : Int) < 10 := by omega
    go_enter Try.func48, Try.ntmps48
    go_wp2
    go_ret
    exact ⟨ret_i e.out.symm, rfl⟩
  · have e := Lib.hid (hexDigit_high d hd h)
    have h' : ¬ (d : Int) < 10 := by omega
    go_enter Try.func48, Try.ntmps48
    go_wp2
    go_ret
    exact ⟨ret_i e.out.symm, rfl⟩
theorem wrap_u8_div (b : UInt8) : IntKind.u8.wrap ((b.toNat : Int) / 16) = (b.toNat : Int) / 16 := by
  have := u8_lt b
  simp only [IntKind.wrap, IntKind.min, IntKind.max, IntKind.bits, IntKind.signed]
  simp
  omega
theorem tmod_u8 (b : UInt8) : ((b.toNat : Int)).tmod 16 = (b.toNat : Int) % 16 := by
  rw [Int.tmod_eq_emod_of_nonneg (by omega)]
set_option maxHeartbeats 1600000 in
theorem spec_Hex (s : ByteArray) (w : World) (hs : s.size ≤ 1099511627776) :
    Calls Try.prog 27 #[.string s] w fun e w' => e = .returned (.string ⟨(Lib.Hx.encode s.data.toList).toArray⟩) ∧ Below w.heap.size w w' := by
  have HL := Lib.hid (size_len s)
  have hnew := World.ownsRow_made (base := w.heap.size) (e := 5) (size := 1) w #[] 0 (Nat.le_refl _) (by unfold maxLen; omega) rfl
  go_enter Try.func27, Try.ntmps27
  go_wp2_with fail
  go_loopw [3, 4] (fun o i wr => ∃ (k : Nat) (l : List UInt8), k ≤ s.size ∧ i = .int .i64 k ∧ l = Lib.Hx.encode (s.data.toList.take k) ∧ l.length = 2 * k ∧ wr.ownsRow w.heap.size 5 1 o l.length (l.flatMap encB) ∧ Below w.heap.size w wr) (fun _ i _ => s.size - (intOf i).toNat)
  case atStart => exact ⟨0, [], by omega, rfl, rfl, rfl, hnew, (Below.refl _ _).alloc (Nat.le_refl _) _⟩
  case round =>
    obtain ⟨k, l, hk, rfl, hl, hll, hown, hW⟩ := hrel
    clear hnew
    by_cases hlt : k < s.size
    · have hlt' : k < s.data.toList.length := by rw [← HL.out]; exact hlt
      have hnext := hexEnc_take hlt'
      rw [← hl] at hnext
      have Hnext := Lib.hid hnext
      have hc : (s[k].toNat : Int) = ((s.data.toList[k]).toNat : Int) := rfl
      clear hnext
      have hown2 : ∀ b1 b2 : UInt8, (wr.drew.alloc (.cells #[.int .u8 (b1.toNat : Int), .int .u8 (b2.toNat : Int)] 5)).ownsRow w.heap.size 5 1 u3 l.length (l.flatMap encB) := fun b1 b2 => hown.alloc (.cells #[.int .u8 (b1.toNat : Int), .int .u8 (b2.toNat : Int)] 5)
      have hrd : ∀ b1 b2 : UInt8, Rd encB 1 (wr.drew.alloc (.cells #[.int .u8 (b1.toNat : Int), .int .u8 (b2.toNat : Int)] 5)) (some ⟨wr.heap.size, 0, none⟩) 2 [b1, b2] := fun b1 b2 => Rd.new (enc := encB) (k := 1) (fun _ => rfl) wr.drew _ 5 (n := 2) [b1, b2] rfl rfl
      have Hown2 := Lib.hid hown2
      have Hrd := Lib.hid hrd
      clear hown2 hrd hown
      have hsz := hW.size
      have hq1 : s[k].toNat / 16 < 16 := by have := u8_lt s[k]; omega
      have hq2 : s[k].toNat % 16 < 16 := by omega
      have hc1 := fun W => spec_l1Hex (s[k].toNat / 16) W hq1
      have hc2 := fun W => spec_l1Hex (s[k].toNat % 16) W hq2
      have hat : s.data.toList[k] = s[k] := rfl
      rw [hat] at Hnext
      generalize Lib.Hx.digit (s[k].toNat / 16) = d1 at *
      generalize Lib.Hx.digit (s[k].toNat % 16) = d2 at *
      have Ho := Lib.hid (Hown2.out d1 d2)
      have Hr := Lib.hid (Hrd.out d1 d2)
      clear Hown2 Hrd
      go_wp2_with fail
      go_region_law (first | (refine step_app (enc := encB) (k := 1) (fun _ => rfl) (fun _ u hu => by simp at hu; subst hu; rfl) (by omega) rfl (.tmp 12) (.tmp 23) 44 5 rfl (.int .u8 0) 1 Try.underlying44 (by kernel_rfl) rfl w.heap.size u3 l (by simp [Act.eval, Act.put]) Ho.out (some ⟨wr.heap.size, 0, none⟩) 2 2 [d1, d2] (by simp [Act.eval, Act.put]) Hr.out (by omega) (by omega) (by simp; omega) ?_; intro v' w' hown' hbel') | (refine step_call rfl 48 #[.tmp 16] _ rfl (enters_of Try.func48 (by kernel_rfl) rfl) #[.int .u8 ((s[k].toNat / 16 : Nat) : Int)] (by simp [Act.eval, Act.put]; exact wrap_u8_div _) (hc1 _) ?_; rintro e w' ⟨rfl, rfl⟩; refine ⟨_, rfl, ?_⟩) | (refine step_call rfl 48 #[.tmp 21] _ rfl (enters_of Try.func48 (by kernel_rfl) rfl) #[.int .u8 ((s[k].toNat % 16 : Nat) : Int)] (by simp [Act.eval, Act.put]; exact tmod_u8 _) (hc2 _) ?_; rintro e w' ⟨rfl, rfl⟩; refine ⟨_, rfl, ?_⟩))
      all_goals
        have HB := Lib.hid ((hW.drew.alloc (by simpa using hsz) _).trans hbel')
        have Hw := Lib.hid hown'
        clear hbel' hown' Ho Hr
        go_wp2
        go_roundw
        case rel => exact ⟨k + 1, l ++ [d1, d2], by omega, by go_num, Hnext.out.symm, by simp; omega, Hw.out, HB.out⟩
        case measure => simp [intOf]; omega
    · have hke : k = s.size := by omega
      subst hke
      rw [List.take_of_length_le (by rw [HL.out]; exact Nat.le_refl _)] at hl
      have Hl := Lib.hid hl
      obtain ⟨A, c, rfl⟩ := own_form hown
      have hcv := run_ofBytes (P := Try.prog) 44 9 5 Try.underlying44 Try.underlying5 Try.underlying9 (Rd.of_own (enc := encB) (k := 1) (fun _ => rfl) hown rfl) c
      clear hl hown hll
      go_wp2
      go_ret
      exact ⟨ret_s (by rw [Hl.out]), hW⟩
set_option maxHeartbeats 800000 in
theorem impl_Hex (s : ByteArray) (w : World) (hs : s.size ≤ 1099511627776) :
    Calls Try.prog 28 #[.string s] w fun e w' => e = .returned (.string ⟨(Lib.Hx.encode s.data.toList).toArray⟩) ∧ Below w.heap.size w w' := by
  have HL := Lib.hid (size_len s)
  go_enter Try.func28, Try.ntmps28
  go_wp2_with (refine wpList_toBytes rfl 9 44 5 _ rfl Try.underlying9 Try.underlying44 Try.underlying5 s rfl ?_; intro w1 g cap hbuf hbel hg hcap)
  go_wp2_with fail
  have hc := Try.hex_EncodeToString_bytes g 0 cap s.data.toList w1 (fun i h => by
    rw [Nat.zero_add]
    have := flat_get (enc := encB) (k := 1) (fun _ => rfl) s.data.toList i 0 _ _ (List.getElem?_eq_getElem h) rfl
    exact hbuf.cell (by simpa using this)) hbuf.lt (by rw [← HL.out]; omega)
  rw [← HL.out] at hc
  refine hc.mono ?_
  rintro e w2 ⟨rfl, hb2⟩
  have HB := Lib.hid (hbel.trans (hb2.mono hbel.size))
  clear hb2 hc hbuf hbel
  go_wp2
  go_ret
  exact ⟨rfl, HB.out⟩
theorem walk_FnExactHex (a0 : ByteArray) (w : World) (w0 : a0.size ≤ maxLen) :
    Calls Try.prog 10 #[.string a0] w fun e w' => e = .returned (.bool true) ∧ Below w.heap.size w w' := by
  unfold maxLen at w0
  by_cases hs : (1048576 : Int) < (a0.size : Int)
  · go_enter Try.func10, Try.ntmps10
    go_wp2
    go_ret
    exact ⟨rfl, Below.refl _ _⟩
  · have hs' : a0.size ≤ 1048576 := by omega
    generalize hR : (⟨(Lib.Hx.encode a0.data.toList).toArray⟩ : ByteArray) = R
    have HR := Lib.hid hR
    clear hR
    go_enter Try.func10, Try.ntmps10
    go_wp2_with fail
    refine (spec_Hex _ _ (by omega)).mono ?_
    rintro e w1 ⟨rfl, hb1⟩
    rw [HR.out]
    have HB1 := Lib.hid hb1
    clear hb1
    go_wp2_with fail
    refine (impl_Hex _ _ (by omega)).mono ?_
    rintro e w2 ⟨rfl, hb2⟩
    rw [HR.out]
    have HB2 := Lib.hid (HB1.out.trans (hb2.mono HB1.out.size))
    clear hb2
    go_wp2
    go_ret
    exact ⟨rfl, HB2.out⟩

end Go.Proofs.Ytplbijibddnfjaa
