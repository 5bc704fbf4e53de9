/-
  Walks: what each function returns, and that it leaves what lay in memory as it was.
-/
import Derived.Test.YtgdebejmcfcpgaaDoorProg
import Derived.Test.YtgdebejmcfcpgaaDoorPlain
import Derived.Test.YtgdebejmcfcpgaaDoorBase2
import Derived.Test.YtgdebejmcfcpgaaDoorOpen2
import Derived.Test.YtgdebejmcfcpgaaDoorShelf
import Derived.WalkKit
import Derived.WalkSpells
import Derived.WalkLawsBesides
import Derived.Lib.Hide
import Derived.Deep.LoopGhost
import Derived.Deep.QuietTactic
import Derived.BigQuiet
import Derived.Handy
import Derived.Deep.RegionHeld3
import Derived.StillTailTactics
import Derived.OpenShut
import Derived.ChangeSame
import Derived.Laws.StructEq

import Derived.Test.YtgdebejmcfcpgaaDoorPlainT

import Derived.Test.YtgdebejmcfcpgaaDoorW1

import Derived.Test.YtgdebejmcfcpgaaDoorW10

import Derived.Test.YtgdebejmcfcpgaaDoorW12

namespace Go.Proofs.YtgdebejmcfcpgaaDoor
open Go.ChangeShapes Go.WideShapes Go.ChangeAt Go.RowKit Go.Deep
set_option linter.unusedVariables false
set_option linter.unusedSimpArgs false

set_option maxRecDepth 20000

set_option maxHeartbeats 3200000 in
theorem spec_Unquote (s : ByteArray) (x : Int) (w : World) (hs : s.size ≤ 2097152) (hx0 : -9223372036854775808 ≤ x) (hx1 : x ≤ 9223372036854775807) :
    Calls Tryd.prog 26 #[.string s, .int .i64 x] w fun e w' => e = .returned (.tuple #[.string ⟨(unquote s.data.toList x).1.toArray⟩, .int .i64 (unquote s.data.toList x).2]) ∧ Below w.heap.size w w' := by
  have HL := Lib.hid (size_len s)
  obtain ⟨R, hR⟩ : ∃ R, unquote s.data.toList x = R := ⟨_, rfl⟩
  rw [hR]
  cases hin : inR x 0 ((s.size : Int) - 1) with
  | false =>
    have HR := Lib.hid (show R = ([], -1) by rw [← hR]; exact unquote_no (by rw [← HL.out]; exact hin))
    clear hR
    go_enter Tryd.func26, Tryd.ntmps26
    go_wp2_with (go_at_call 44; refine (l1In_any _ _ _ _).mono ?_; rw [hin]; rintro e w' ⟨rfl, rfl⟩)
    go_ret2
    exact ⟨ret_si (by rw [HR.out]) (by rw [HR.out]), Below.refl _ _⟩
  | true =>
    have hin2 : 0 ≤ x ∧ x ≤ (s.size : Int) - 1 := by simpa [inR] using hin
    obtain ⟨a, rfl⟩ := Int.eq_ofNat_of_zero_le hin2.1
    have ha : a < s.size := by omega
    have hga := getb s ha
    obtain ⟨ca, hca⟩ : ∃ ca, s[a] = ca := ⟨_, rfl⟩
    rw [hca] at hga
    by_cases h34 : (ca.toNat : Int) = 34
    · have e34 : ca = 34 := UInt8.toNat_inj.1 (by show ca.toNat = 34; omega)
      have HG := Lib.hid (show unqGo [] (a + 1) (s.data.toList.drop (a + 1)) = R by rw [← hR, unquote_yes (by rw [hga, e34])])
      have hnew := World.ownsRow_made (base := w.heap.size) (e := 5) (size := 1) w #[] 0 (Nat.le_refl _) (by unfold maxLen; omega) rfl
      clear hR hga
      subst e34
      clear h34
      go_enter Tryd.func26, Tryd.ntmps26
      go_wp2_with (go_at_call 44; refine (l1In_any _ _ _ _).mono ?_; rw [hin]; rintro e w' ⟨rfl, rfl⟩)
      go_loopw [6, 7] (fun o i wr => ∃ (k : Nat) (l : Str), a + 1 ≤ k ∧ k ≤ s.size ∧ i = .int .i64 k ∧ l.length ≤ k ∧ Hid (unqGo l k (s.data.toList.drop k) = R) ∧ wr.ownsRow w.heap.size 5 1 o l.length (l.flatMap encB) ∧ Below w.heap.size w wr) (fun _ i _ => s.size - (intOf i).toNat)
      case atStart => exact ⟨a + 1, [], by omega, by omega, by go_num, by simp, HG, hnew, (Below.refl _ _).alloc (Nat.le_refl _) _⟩
      case round =>
        obtain ⟨k, l, hk0, hk, rfl, hll, hg, hown, hW⟩ := hrel
        clear hnew HG
        have hsz := hW.size
        by_cases hlt : k < s.size
        · have hgk := getb s hlt
          obtain ⟨ch, hch⟩ : ∃ ch, s[k] = ch := ⟨_, rfl⟩
          rw [hch] at hgk
          have hch8 := u8_lt ch
          have HW := Lib.hid hW
          have Hown := Lib.hid hown
          clear hW hown
          by_cases c34 : (ch.toNat : Int) = 34
          · have e34 : ch = 34 := UInt8.toNat_inj.1 (by show ch.toNat = 34; omega)
            have HC := Lib.hid (unq_close (out := l) (by rw [hgk, e34]))
            clear hgk e34
            by_cases h40 : (40 : Int) < (l.length : Int)
            · have HF := Lib.hid (show R = ([], -1) by rw [← hg.out, HC.out, if_neg (by omega)])
              obtain ⟨A', c', rfl⟩ := own_form Hown.out
              clear HC hg
              go_wp2
              go_ret2
              exact ⟨ret_si (by rw [HF.out]) (by rw [HF.out]), HW.out⟩
            · have HF := Lib.hid (show R = (l, (k : Int) + 1) by rw [← hg.out, HC.out, if_pos (by omega)])
              obtain ⟨A', c', rfl⟩ := own_form Hown.out
              have hcv := run_ofBytes (P := Tryd.prog) 22 9 5 Tryd.underlying22 Tryd.underlying5 Tryd.underlying9 (Rd.of_own (enc := encB) (k := 1) (fun _ => rfl) Hown.out rfl) c'
              clear HC hg
              go_wp2
              go_ret2
              exact ⟨ret_si (by rw [HF.out]) (by rw [HF.out]), HW.out⟩
          · have n34 : ch ≠ 34 := by rintro rfl; exact c34 rfl
            have n34b : ((ch.toNat : Int) == 34) = false := beq_eq_false_iff_ne.2 c34
            by_cases c92 : (ch.toNat : Int) = 92
            · have e92 : ch = 92 := UInt8.toNat_inj.1 (by show ch.toNat = 92; omega)
              have c92b : ((ch.toNat : Int) == 92) = true := beq_iff_eq.2 c92
              by_cases hlt2 : k + 1 < s.size
              · have hgk2 := getb s hlt2
                obtain ⟨dh, hdh⟩ : ∃ dh, s[k + 1] = dh := ⟨_, rfl⟩
                rw [hdh] at hgk2
                have hdh8 := u8_lt dh
                have HC := Lib.hid (unq_esc (out := l) (by rw [hgk, e92]) hgk2)
                clear hgk hgk2 e92
                by_cases hd : (dh.toNat : Int) = 34 ∨ (dh.toNat : Int) = 92
                · have HG2 := Lib.hid (show unqGo (l ++ [dh]) (k + 2) (s.data.toList.drop (k + 2)) = R by
                    rw [← hg.out, HC.out, if_pos]
                    rcases hd with hd | hd
                    · exact Or.inl (UInt8.toNat_inj.1 (by show dh.toNat = 34; omega))
                    · exact Or.inr (UInt8.toNat_inj.1 (by show dh.toNat = 92; omega)))
                  rcases hd with hd | hd
                  · have edh : dh = 34 := UInt8.toNat_inj.1 (by show dh.toNat = 34; omega)
                    subst edh
                    have Hown2 := Lib.hid (Hown.out.alloc (.cells #[.int .u8 34] 5))
                    have Hrd2 := Lib.hid (Rd.new (enc := encB) (k := 1) (fun _ => rfl) wr #[.int .u8 34] 5 (n := 1) [34] rfl rfl)
                    have HB3 := Lib.hid (HW.out.alloc hsz (.cells #[.int .u8 34] 5))
                    clear HC hg hd
                    go_wp2_with (at_builtin; refine wpList_app (enc := encB) (k := 1) (fun _ => rfl) (fun _ u hu => by simp at hu; subst hu; rfl) (by omega) rfl _ _ 22 5 rfl (.int .u8 0) 1 Tryd.underlying22 (by kernel_rfl) rfl w.heap.size _ l rfl Hown2.out _ _ _ _ rfl Hrd2.out (by first | omega | (simp; omega)) (by omega) (by first | omega | (simp; omega)) ?_; intro v2 w2 hown2 hbel2)
                    have HB := Lib.hid (HB3.out.trans hbel2)
                    clear hbel2
                    go_roundw
                    case rel => exact ⟨k + 2, l ++ [34], by omega, by omega, by go_num, by simp; omega, HG2, hown2, HB.out⟩
                    case measure => simp [intOf]; omega
                  · have edh : dh = 92 := UInt8.toNat_inj.1 (by show dh.toNat = 92; omega)
                    subst edh
                    have Hown2 := Lib.hid (Hown.out.alloc (.cells #[.int .u8 92] 5))
                    have Hrd2 := Lib.hid (Rd.new (enc := encB) (k := 1) (fun _ => rfl) wr #[.int .u8 92] 5 (n := 1) [92] rfl rfl)
                    have HB3 := Lib.hid (HW.out.alloc hsz (.cells #[.int .u8 92] 5))
                    clear HC hg hd
                    go_wp2_with (at_builtin; refine wpList_app (enc := encB) (k := 1) (fun _ => rfl) (fun _ u hu => by simp at hu; subst hu; rfl) (by omega) rfl _ _ 22 5 rfl (.int .u8 0) 1 Tryd.underlying22 (by kernel_rfl) rfl w.heap.size _ l rfl Hown2.out _ _ _ _ rfl Hrd2.out (by first | omega | (simp; omega)) (by omega) (by first | omega | (simp; omega)) ?_; intro v2 w2 hown2 hbel2)
                    have HB := Lib.hid (HB3.out.trans hbel2)
                    clear hbel2
                    go_roundw
                    case rel => exact ⟨k + 2, l ++ [92], by omega, by omega, by go_num, by simp; omega, HG2, hown2, HB.out⟩
                    case measure => simp [intOf]; omega
                · have d34 : ¬ (dh.toNat : Int) = 34 := fun h => hd (Or.inl h)
                  have d92 : ¬ (dh.toNat : Int) = 92 := fun h => hd (Or.inr h)
                  have d34b : ((dh.toNat : Int) == 34) = false := beq_eq_false_iff_ne.2 d34
                  have d92b : ((dh.toNat : Int) == 92) = false := beq_eq_false_iff_ne.2 d92
                  have d34c : ((dh.toNat : Int) != 34) = true := by unfold bne; rw [d34b]; rfl
                  have d92c : ((dh.toNat : Int) != 92) = true := by unfold bne; rw [d92b]; rfl
                  have HF := Lib.hid (show R = ([], -1) by
                    rw [← hg.out, HC.out, if_neg]
                    rintro (rfl | rfl)
                    · exact d34 rfl
                    · exact d92 rfl)
                  clear HC hg hd
                  go_wp2
                  go_ret2
                  exact ⟨ret_si (by rw [HF.out]) (by rw [HF.out]), HW.out⟩
              · have HF := Lib.hid (show R = ([], -1) by rw [← hg.out, unq_esc_end (by rw [hgk, e92]) (by rw [← HL.out]; omega)])
                clear hg hgk e92
                go_wp2
                go_ret2
                exact ⟨ret_si (by rw [HF.out]) (by rw [HF.out]), HW.out⟩
            · have n92 : ch ≠ 92 := by rintro rfl; exact c92 rfl
              have n92b : ((ch.toNat : Int) == 92) = false := beq_eq_false_iff_ne.2 c92
              have HC := Lib.hid (unq_plain (out := l) hgk n34 n92)
              clear hgk
              by_cases hq : 32 ≤ (ch.toNat : Int) ∧ (ch.toNat : Int) ≤ 126
              · obtain ⟨hq1, hq2⟩ := hq
                have HG2 := Lib.hid (show unqGo (l ++ [ch]) (k + 1) (s.data.toList.drop (k + 1)) = R by rw [← hg.out, HC.out, if_pos ((quotB_iff ch).2 ⟨hq1, hq2⟩)])
                have h1d : decide ((ch.toNat : Int) < 32) = false := decide_eq_false (by omega)
                have h2d : decide ((126 : Int) < (ch.toNat : Int)) = false := decide_eq_false (by omega)
                have Hown2 := Lib.hid (Hown.out.alloc (.cells #[.int .u8 (ch.toNat : Int)] 5))
                have Hrd2 := Lib.hid (Rd.new (enc := encB) (k := 1) (fun _ => rfl) wr #[.int .u8 (ch.toNat : Int)] 5 (n := 1) [ch] rfl rfl)
                have HB3 := Lib.hid (HW.out.alloc hsz (.cells #[.int .u8 (ch.toNat : Int)] 5))
                clear HC hg
                go_wp2_with (at_builtin; refine wpList_app (enc := encB) (k := 1) (fun _ => rfl) (fun _ u hu => by simp at hu; subst hu; rfl) (by omega) rfl _ _ 22 5 rfl (.int .u8 0) 1 Tryd.underlying22 (by kernel_rfl) rfl w.heap.size _ l rfl Hown2.out _ _ _ _ rfl Hrd2.out (by first | omega | (simp; omega)) (by omega) (by first | omega | (simp; omega)) ?_; intro v2 w2 hown2 hbel2)
                have HB := Lib.hid (HB3.out.trans hbel2)
                clear hbel2
                go_roundw
                case rel => exact ⟨k + 1, l ++ [ch], by omega, by omega, by go_num, by simp; omega, HG2, hown2, HB.out⟩
                case measure => simp [intOf]; omega
              · have HF := Lib.hid (show R = ([], -1) by rw [← hg.out, HC.out, if_neg (by intro h; exact hq ((quotB_iff ch).1 h))])
                clear HC hg
                by_cases h1 : (ch.toNat : Int) < 32
                · go_wp2
                  go_ret2
                  exact ⟨ret_si (by rw [HF.out]) (by rw [HF.out]), HW.out⟩
                · have h2 : (126 : Int) < (ch.toNat : Int) := by omega
                  go_wp2
                  go_ret2
                  exact ⟨ret_si (by rw [HF.out]) (by rw [HF.out]), HW.out⟩
        · have HF := Lib.hid (show R = ([], -1) by rw [← hg.out, unq_end (by rw [← HL.out]; omega)])
          have HW := Lib.hid hW
          clear hW hown hg
          go_wp2
          go_ret2
          exact ⟨ret_si (by rw [HF.out]) (by rw [HF.out]), HW.out⟩
    · have HR := Lib.hid (show R = ([], -1) by
        rw [← hR]
        refine unquote_no2 ?_
        rw [hga]
        intro e
        injection e with e
        exact h34 (by rw [e]; rfl))
      have n34b : ((ca.toNat : Int) == 34) = false := beq_eq_false_iff_ne.2 h34
      have n34c : ((ca.toNat : Int) != 34) = true := by unfold bne; rw [n34b]; rfl
      clear hR hga
      go_enter Tryd.func26, Tryd.ntmps26
      go_wp2_with (go_at_call 44; refine (l1In_any _ _ _ _).mono ?_; rw [hin]; rintro e w' ⟨rfl, rfl⟩)
      go_ret2
      exact ⟨ret_si (by rw [HR.out]) (by rw [HR.out]), Below.refl _ _⟩

end Go.Proofs.YtgdebejmcfcpgaaDoor
