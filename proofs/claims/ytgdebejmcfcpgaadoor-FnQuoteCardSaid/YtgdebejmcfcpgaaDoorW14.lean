/-
  Walks: what each function returns, and that it leaves what lay in memory as it was.
-/
import Derived.Test.YtgdebejmcfcpgaaDoorProg
import Derived.Test.YtgdebejmcfcpgaaDoorPlain
import Derived.Test.YtgdebejmcfcpgaaDoorBase2
import Derived.Test.YtgdebejmcfcpgaaDoorOpen2
import Derived.Test.YtgdebejmcfcpgaaDoorShelf
import Derived.WalkKit
import Derived.WalkSpells
import Derived.WalkLawsBesides
import Derived.Lib.Hide
import Derived.Deep.LoopGhost
import Derived.Deep.QuietTactic
import Derived.BigQuiet
import Derived.Handy
import Derived.Deep.RegionHeld3
import Derived.StillTailTactics
import Derived.OpenShut
import Derived.ChangeSame
import Derived.Laws.StructEq

import Derived.Test.YtgdebejmcfcpgaaDoorPlainT

import Derived.Test.YtgdebejmcfcpgaaDoorW1

import Derived.Test.YtgdebejmcfcpgaaDoorW10

import Derived.Test.YtgdebejmcfcpgaaDoorW12

namespace Go.Proofs.YtgdebejmcfcpgaaDoor
open Go.ChangeShapes Go.WideShapes Go.ChangeAt Go.RowKit Go.Deep
set_option linter.unusedVariables false
set_option linter.unusedSimpArgs false

set_option maxRecDepth 20000

theorem Calls.knownS {P : Program} {f : FuncId} {args : Array Value} {w : World} {a b : ByteArray} {R : World → Prop} (h : Calls P f args w fun e w' => e = .returned (.string a) ∧ R w') (e : a = b) : Calls P f args w fun e w' => e = .returned (.string b) ∧ R w' := e ▸ h
set_option maxHeartbeats 3200000 in
theorem impl_Unquote (s : ByteArray) (x : Int) (w : World) (hs : s.size ≤ 1048576) (hml : ML w) (hx0 : -9223372036854775808 ≤ x) (hx1 : x ≤ 9223372036854775807) :
    Calls Tryd.prog 24 #[.string s, .int .i64 x] w fun e w' => e = .returned (.tuple #[.string ⟨(unquote s.data.toList x).1.toArray⟩, .int .i64 (unquote s.data.toList x).2]) ∧ Below w.heap.size w w' := by
  have HL := Lib.hid (size_len s)
  have HM := Lib.hid hml
  clear hml
  obtain ⟨R, hR⟩ : ∃ R, unquote s.data.toList x = R := ⟨_, rfl⟩
  rw [hR]
  cases hin : inR x 0 ((s.size : Int) - 1) with
  | false =>
    have HR := Lib.hid (show R = ([], -1) by rw [← hR]; exact unquote_no (by rw [← HL.out]; exact hin))
    clear hR
    go_enter Tryd.func24, Tryd.ntmps24
    go_wp2_with (go_at_call 42; refine (within_any _ _ _ _).mono ?_; rw [hin]; rintro e w' ⟨rfl, rfl⟩)
    go_ret2
    exact ⟨ret_si (by rw [HR.out]) (by rw [HR.out]), Below.refl _ _⟩
  | true =>
    have hin2 : 0 ≤ x ∧ x ≤ (s.size : Int) - 1 := by simpa [inR] using hin
    obtain ⟨a, rfl⟩ := Int.eq_ofNat_of_zero_le hin2.1
    have ha : a < s.size := by omega
    have hga := getb s ha
    obtain ⟨ca, hca⟩ : ∃ ca, s[a] = ca := ⟨_, rfl⟩
    rw [hca] at hga
    by_cases h34 : (ca.toNat : Int) = 34
    · have e34 : ca = 34 := UInt8.toNat_inj.1 (by show ca.toNat = 34; omega)
      have HG := Lib.hid (show UInv s.data.toList a R [] (a + 1) from UInv.start (by rw [← HL.out]; omega) (by rw [← hR, unquote_yes (by rw [hga, e34])]))
      have HGA := Lib.hid (show s.data.toList[a]? = some 34 by rw [hga, e34])
      have hnew := World.ownsRow_made (base := w.heap.size) (e := 5) (size := 1) w #[] 0 (Nat.le_refl _) (by unfold maxLen; omega) rfl
      clear hR hga
      subst e34
      clear h34
      go_enter Tryd.func24, Tryd.ntmps24
      go_wp2_with (go_at_call 42; refine (within_any _ _ _ _).mono ?_; rw [hin]; rintro e w' ⟨rfl, rfl⟩)
      go_loopw [6, 7] (fun o i wr => ∃ (k : Nat) (l : Str), a + 1 ≤ k ∧ k ≤ s.size ∧ i = .int .i64 k ∧ l.length ≤ k ∧ Hid (UInv s.data.toList a R l k) ∧ wr.ownsRow w.heap.size 5 1 o l.length (l.flatMap encB) ∧ Below w.heap.size w wr) (fun _ i _ => s.size - (intOf i).toNat)
      case atStart => exact ⟨a + 1, [], by omega, by omega, by go_num, by simp, HG, hnew, (Below.refl _ _).alloc (Nat.le_refl _) _⟩
      case round =>
        obtain ⟨k, l, hk0, hk, rfl, hll, hg, hown, hW⟩ := hrel
        clear hnew HG
        have hsz := hW.size
        by_cases hlt : k < s.size
        · have hgk := getb s hlt
          obtain ⟨ch, hch⟩ : ∃ ch, s[k] = ch := ⟨_, rfl⟩
          rw [hch] at hgk
          have hch8 := u8_lt ch
          have HW := Lib.hid hW
          have Hown := Lib.hid hown
          clear hW hown
          by_cases c34 : (ch.toNat : Int) = 34
          · have e34 : ch = 34 := UInt8.toNat_inj.1 (by show ch.toNat = 34; omega)
            have HC := Lib.hid (hg.out.close HGA.out (by rw [hgk, e34]))
            clear hgk
            subst e34
            clear c34
            obtain ⟨A', c', rfl⟩ := own_form Hown.out
            obtain ⟨Z, hZ⟩ : ∃ Z : ByteArray, (⟨l.toArray⟩ : ByteArray) = Z := ⟨_, rfl⟩
            have hcv : ∀ u : Later wr, (convert 22 9 (.slice A' l.length c')).run Tryd.prog u.at_ = .ok (.string Z) u.at_ := fun u => by
              rw [← hZ]
              exact run_ofBytes (P := Tryd.prog) 22 9 5 Tryd.underlying22 Tryd.underlying5 Tryd.underlying9 ((Rd.of_own (enc := encB) (k := 1) (fun _ => rfl) Hown.out rfl).below u.bel) c'
            have HZL := Lib.hid (show Z.data.toList = l by rw [← hZ])
            have HZ := Lib.hid hZ
            have hZs : Z.size ≤ 1048576 := by rw [size_len, HZL.out]; omega
            obtain ⟨Q, hQ⟩ : ∃ Q : ByteArray, (⟨(quote Z.data.toList).toArray⟩ : ByteArray) = Q := ⟨_, rfl⟩
            have HQ := Lib.hid hQ
            have HQL := Lib.hid (show Q.data.toList = quote l by rw [← hQ, HZL.out])
            have HMr := Lib.hid (HM.out.below HW.out)
            have HSeg := Lib.hid (show (s.extract a (k + 1)).data.toList = (s.data.toList.drop a).take (k + 1 - a) from Lib.extract_data s a (k + 1))
            clear hQ hZ hg
            rcases HC.out with ⟨hq, hr⟩ | ⟨hq, hr⟩
            · have HF := Lib.hid hr
              have hcmp : (Q.toList == (s.extract a (k + 1)).toList) = true := by rw [ba_beq, decide_eq_true (ba_eq.2 (by rw [HQL.out, HSeg.out, hq]))]
              clear HC hq hr
              go_wp2_with fail
              refine wp_region_calm_lit (by kernel_rfl) (by kernel_rfl) ?_
              repeat (go_big_quiet_step (first | (go_at_call 22; exact Calls.calm (Calls.knownS (impl_Quote Z _ hZs (HMr.out.below (Later.bel _))) HQ.out))))
              refine wpQuiet_nil ?_
              intro _ hw'
              obtain ⟨u, rfl⟩ := hw'
              have HBf := Lib.hid (HW.out.trans (u.bel.mono HW.out.size))
              go_wp2
              go_ret2
              exact ⟨ret_si (by rw [HF.out, HZ.out]) (by rw [HF.out]), HBf.out⟩
            · have HF := Lib.hid hr
              have hcmp : (Q.toList == (s.extract a (k + 1)).toList) = false := by rw [ba_beq, decide_eq_false (fun e => hq (by rw [← HQL.out, ← HSeg.out, e]))]
              clear HC hq hr
              go_wp2_with fail
              refine wp_region_calm_lit (by kernel_rfl) (by kernel_rfl) ?_
              repeat (go_big_quiet_step (first | (go_at_call 22; exact Calls.calm (Calls.knownS (impl_Quote Z _ hZs (HMr.out.below (Later.bel _))) HQ.out))))
              refine wpQuiet_nil ?_
              intro _ hw'
              obtain ⟨u, rfl⟩ := hw'
              have HBf := Lib.hid (HW.out.trans (u.bel.mono HW.out.size))
              go_wp2
              go_ret2
              exact ⟨ret_si (by rw [HF.out]) (by rw [HF.out]), HBf.out⟩
          · have n34 : ch ≠ 34 := by rintro rfl; exact c34 rfl
            have n34b : ((ch.toNat : Int) == 34) = false := beq_eq_false_iff_ne.2 c34
            by_cases c92 : (ch.toNat : Int) = 92
            · have e92 : ch = 92 := UInt8.toNat_inj.1 (by show ch.toNat = 92; omega)
              have c92b : ((ch.toNat : Int) == 92) = true := beq_iff_eq.2 c92
              by_cases hlt2 : k + 1 < s.size
              · have hgk2 := getb s hlt2
                obtain ⟨dh, hdh⟩ : ∃ dh, s[k + 1] = dh := ⟨_, rfl⟩
                rw [hdh] at hgk2
                have hdh8 := u8_lt dh
                have HG2 := Lib.hid (hg.out.esc (by rw [hgk, e92]) hgk2)
                clear hgk hgk2 e92 hg
                have Hown2 := Lib.hid (Hown.out.alloc (.cells #[.int .u8 (dh.toNat : Int)] 5))
                have Hrd2 := Lib.hid (Rd.new (enc := encB) (k := 1) (fun _ => rfl) wr #[.int .u8 (dh.toNat : Int)] 5 (n := 1) [dh] rfl rfl)
                have HB3 := Lib.hid (HW.out.alloc hsz (.cells #[.int .u8 (dh.toNat : Int)] 5))
                go_wp2_with (at_builtin; refine wpList_app (enc := encB) (k := 1) (fun _ => rfl) (fun _ u hu => by simp at hu; subst hu; rfl) (by omega) rfl _ _ 22 5 rfl (.int .u8 0) 1 Tryd.underlying22 (by kernel_rfl) rfl w.heap.size _ l rfl Hown2.out _ _ _ _ rfl Hrd2.out (by first | omega | (simp; omega)) (by omega) (by first | omega | (simp; omega)) ?_; intro v2 w2 hown2 hbel2)
                have HB := Lib.hid (HB3.out.trans hbel2)
                clear hbel2
                go_roundw
                case rel => exact ⟨k + 2, l ++ [dh], by omega, by omega, by go_num, by simp; omega, HG2, hown2, HB.out⟩
                case measure => simp [intOf]; omega
              · have hke : k + 1 = s.size := by omega
                have HF := Lib.hid (hg.out.esc_end (by rw [hgk, e92]) (by rw [← HL.out]; omega))
                clear hg hgk e92
                go_wp2
                go_ret2
                exact ⟨ret_si (by rw [HF.out]) (by rw [HF.out]), HW.out⟩
            · have n92 : ch ≠ 92 := by rintro rfl; exact c92 rfl
              have n92b : ((ch.toNat : Int) == 92) = false := beq_eq_false_iff_ne.2 c92
              have HG2 := Lib.hid (hg.out.plain hgk n34 n92)
              clear hgk hg
              have Hown2 := Lib.hid (Hown.out.alloc (.cells #[.int .u8 (ch.toNat : Int)] 5))
              have Hrd2 := Lib.hid (Rd.new (enc := encB) (k := 1) (fun _ => rfl) wr #[.int .u8 (ch.toNat : Int)] 5 (n := 1) [ch] rfl rfl)
              have HB3 := Lib.hid (HW.out.alloc hsz (.cells #[.int .u8 (ch.toNat : Int)] 5))
              go_wp2_with (at_builtin; refine wpList_app (enc := encB) (k := 1) (fun _ => rfl) (fun _ u hu => by simp at hu; subst hu; rfl) (by omega) rfl _ _ 22 5 rfl (.int .u8 0) 1 Tryd.underlying22 (by kernel_rfl) rfl w.heap.size _ l rfl Hown2.out _ _ _ _ rfl Hrd2.out (by first | omega | (simp; omega)) (by omega) (by first | omega | (simp; omega)) ?_; intro v2 w2 hown2 hbel2)
              have HB := Lib.hid (HB3.out.trans hbel2)
              clear hbel2
              go_roundw
              case rel => exact ⟨k + 1, l ++ [ch], by omega, by omega, by go_num, by simp; omega, HG2, hown2, HB.out⟩
              case measure => simp [intOf]; omega
        · have HF := Lib.hid (hg.out.end_ (by rw [← HL.out]; omega))
          have HW := Lib.hid hW
          clear hW hown hg
          go_wp2
          go_ret2
          exact ⟨ret_si (by rw [HF.out]) (by rw [HF.out]), HW.out⟩
    · have HR := Lib.hid (show R = ([], -1) by
        rw [← hR]
        refine unquote_no2 ?_
        rw [hga]
        intro e
        injection e with e
        exact h34 (by rw [e]; rfl))
      have n34b : ((ca.toNat : Int) == 34) = false := beq_eq_false_iff_ne.2 h34
      have n34c : ((ca.toNat : Int) != 34) = true := by unfold bne; rw [n34b]; rfl
      clear hR hga
      go_enter Tryd.func24, Tryd.ntmps24
      go_wp2_with (go_at_call 42; refine (within_any _ _ _ _).mono ?_; rw [hin]; rintro e w' ⟨rfl, rfl⟩)
      go_ret2
      exact ⟨ret_si (by rw [HR.out]) (by rw [HR.out]), Below.refl _ _⟩

end Go.Proofs.YtgdebejmcfcpgaaDoor
