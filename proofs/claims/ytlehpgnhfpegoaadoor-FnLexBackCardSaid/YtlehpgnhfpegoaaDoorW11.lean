/-
  Walks: what each function returns, and that it leaves what lay in memory as it was.
-/
import Derived.Test.YtlehpgnhfpegoaaDoorProg
import Derived.Test.YtlehpgnhfpegoaaDoorPlain
import Derived.Test.YtlehpgnhfpegoaaDoorBase2
import Derived.Test.YtlehpgnhfpegoaaDoorOpen2
import Derived.Test.YtlehpgnhfpegoaaDoorShelf
import Derived.WalkKit
import Derived.WalkSpells
import Derived.WalkLawsBesides
import Derived.Lib.Hide
import Derived.Deep.LoopGhost
import Derived.Deep.QuietTactic
import Derived.BigQuiet
import Derived.Handy
import Derived.Deep.RegionHeld3
import Derived.StillTailTactics
import Derived.OpenShut
import Derived.ChangeSame
import Derived.Laws.StructEq

import Derived.Test.YtlehpgnhfpegoaaDoorPlainT

import Derived.Test.YtlehpgnhfpegoaaDoorW1

import Derived.Test.YtlehpgnhfpegoaaDoorW2

import Derived.Test.YtlehpgnhfpegoaaDoorW3

import Derived.Test.YtlehpgnhfpegoaaDoorW4

import Derived.Test.YtlehpgnhfpegoaaDoorW5

import Derived.Test.YtlehpgnhfpegoaaDoorW6

import Derived.Test.YtlehpgnhfpegoaaDoorBase3

import Derived.Lib.ItoaMem
import Derived.Lib.ItoaLen
import Derived.Lib.LaidTab

import Derived.Lib.AtoiTie
import Derived.Lib.AtoiBound
import Derived.Lib.ConvBytes

import Derived.Test.YtlehpgnhfpegoaaDoorW7

namespace Go.Proofs.YtlehpgnhfpegoaaDoor
open Go.ChangeShapes Go.WideShapes Go.ChangeAt Go.RowKit Go.Deep
set_option linter.unusedVariables false
set_option linter.unusedSimpArgs false

set_option maxRecDepth 20000

theorem take3_iff (l : Str) : l.take 3 = sepL ↔ l[0]? = some 125 ∧ l[1]? = some 13 ∧ l[2]? = some 10 := by
  unfold sepL
  match l with
  | [] => simp
  | [a] => simp
  | [a, b] => simp
  | a :: b :: c :: l => simp
/-- What a literal gives, where its head ends at `j`. -/
theorem litTok_at {s : Str} {a j : Nat} (h123 : s[a]? = some 123) (hj : j ≤ s.length) (hw : (s.drop a).takeWhile (fun c => !decide (c = 125)) = (s.drop a).take (j - a)) :
    ∃ ok, litTok s a = litOf s a ok ((s.drop (a + 1)).take (j - (a + 1))) ∧ (ok = true ↔ s[j]? = some 125 ∧ s[j + 1]? = some 13 ∧ s[j + 2]? = some 10) ∧ a + 1 ≤ j ∧ ((s.drop (a + 1)).take (j - (a + 1))).length = j - (a + 1) := by
  obtain ⟨ha, hv⟩ := List.getElem?_eq_some_iff.1 h123
  rw [List.drop_eq_getElem_cons ha, hv, List.takeWhile_cons, if_pos (by decide)] at hw
  have hja : a + 1 ≤ j := by
    rcases Nat.lt_or_ge a j with h | h
    · exact h
    · rw [show j - a = 0 by omega] at hw; cases hw
  rw [show j - a = (j - (a + 1)) + 1 by omega, List.take_succ_cons] at hw
  have hh : headL (s.drop (a + 1)) = (s.drop (a + 1)).take (j - (a + 1)) := (List.cons.inj hw).2
  have hl : ((s.drop (a + 1)).take (j - (a + 1))).length = j - (a + 1) := by rw [List.length_take, List.length_drop]; omega
  refine ⟨_, by unfold litTok; rw [hh], ?_, hja, hl⟩
  rw [hl, List.drop_drop, show a + 1 + (j - (a + 1)) = j by omega, decide_eq_true_iff, take3_iff]
  simp [List.getElem?_drop]
set_option maxHeartbeats 6400000 in
theorem spec_l3Take_brace (s : ByteArray) (a : Nat) (w : World) (hs : s.size ≤ 1048576) (ha : a < s.size) (ca : UInt8) (hca : s[a] = ca) (h40 : ¬ (ca.toNat : Int) = 40) (h41 : ¬ (ca.toNat : Int) = 41) (h34 : ¬ (ca.toNat : Int) = 34) (h123 : (ca.toNat : Int) = 123) :
    Calls Tryd.prog 17 #[.string s, .int .i64 a] w fun e w' => (∃ t : Token, (0 ≤ (takeTok s.data.toList a).2 → t = (takeTok s.data.toList a).1) ∧ e = .returned (.tuple #[.agg #[.int .i64 t.kind, .string t.text], .int .i64 (takeTok s.data.toList a).2])) ∧ Below w.heap.size w w' := by
  have HSL := Lib.hid (size_len s)
  have hga := getb s ha
  rw [hca] at hga
  have e123 : ca = 123 := UInt8.toNat_inj.1 (by show ca.toNat = 123; omega)
  obtain ⟨R, hR⟩ : ∃ R, takeTok s.data.toList a = R := ⟨_, rfl⟩
  obtain ⟨L, hL⟩ : ∃ L, litRes (litTok s.data.toList a) = L := ⟨_, rfl⟩
  have HL := Lib.hid hL
  have HF0 := Lib.hid (show R.2 = L.2 ∧ (0 ≤ R.2 → R.1 = ⟨2, ⟨L.1.toArray⟩⟩) by
    rw [← hR, ← hL]
    unfold takeTok
    rw [hga, e123]
    cases litTok s.data.toList a with
    | none => exact ⟨rfl, fun h => absurd (show (0 : Int) ≤ -1 from h) (by decide)⟩
    | some p => exact ⟨rfl, fun _ => rfl⟩)
  have HGA := Lib.hid (show s.data.toList[a]? = some 123 by rw [hga, e123])
  rw [hR]
  clear hR hL hga
  subst e123
  have HB1 := Lib.hid (show Below w.heap.size w (w.alloc (.cells #[.int .i64 0, .string ⟨#[]⟩] 34)) by go_grown)
  have Q0 := Lib.hid (show (w.alloc (.cells #[.int .i64 0, .string ⟨#[]⟩] 34)).cell? ⟨w.heap.size, 0, none⟩ = some (.int .i64 0) by go_simp)
  have Q1 := Lib.hid (show (w.alloc (.cells #[.int .i64 0, .string ⟨#[]⟩] 34)).cell? ⟨w.heap.size, 1, none⟩ = some (.string ⟨#[]⟩) by go_simp)
  have QF := Lib.hid (show ∀ i, (w.alloc (.cells #[.int .i64 0, .string ⟨#[]⟩] 34)).frozen? ⟨w.heap.size, i, none⟩ = false from fun i => by go_simp)
  have hsz1 : w.heap.size < (w.alloc (.cells #[.int .i64 0, .string ⟨#[]⟩] 34)).heap.size := by simp
  go_enter Tryd.func17, Tryd.ntmps17
  go_wp2_with fail
  generalize (w.alloc (.cells #[.int .i64 0, .string ⟨#[]⟩] 34)) = w1 at *
  have q0 := Q0.out
  have q1 := Q1.out
  have qf := QF.out
  go_loopw [8] (fun i wr => ∃ j : Nat, a ≤ j ∧ j ≤ s.size ∧ i = .int .i64 j ∧ Hid (((s.data.toList.drop a).take (j - a)).all (fun c => !decide (c = 125)) = true) ∧ wr = w1) (fun i _ => s.size - (intOf i).toNat)
  case atStart => exact ⟨a, by omega, by omega, rfl, Lib.hid (by simp), rfl⟩
  case round =>
    obtain ⟨j, hj0, hj, rfl, hall, rfl⟩ := hrel
    by_cases hlt : j < s.size
    · have hgj := getb s hlt
      obtain ⟨cj, hcj⟩ : ∃ cj, s[j] = cj := ⟨_, rfl⟩
      rw [hcj] at hgj
      have hcj8 := u8_lt cj
      have HGJ := Lib.hid (show (s.data.toList.drop a)[j - a]? = some cj by rw [List.getElem?_drop, show a + (j - a) = j by omega]; exact hgj)
      have HGj := Lib.hid hgj
      clear hgj
      have hji : (j : Int) < (s.size : Int) := by omega
      by_cases c125 : (cj.toNat : Int) = 125
      · have e125 : cj = 125 := UInt8.toNat_inj.1 (by show cj.toNat = 125; omega)
        subst e125
        have HTk := Lib.hid (takeWhile_cut hall.out (.inr ⟨125, HGJ.out, by decide⟩))
        clear hall
        obtain ⟨ok, h1, h2, hj1, h4⟩ := litTok_at HGA.out (by rw [← HSL.out]; omega) HTk.out
        have HT1 := Lib.hid h1
        have HT2 := Lib.hid h2
        have HT4 := Lib.hid h4
        clear h1 h2 h4
        have HNO : (¬ (ok = true ∧ (number ((s.data.toList.drop (a + 1)).take (j - (a + 1)))).2 = true ∧ (number ((s.data.toList.drop (a + 1)).take (j - (a + 1)))).1 ≤ 40 ∧ (number ((s.data.toList.drop (a + 1)).take (j - (a + 1)))).1 ≤ (s.size : Int) - ((j + 3 : Nat) : Int))) → R.2 = -1 := by
          intro hc
          rw [HF0.out.1, ← HL.out, HT1.out, litRes_no]
          rw [← HSL.out, HT4.out, show a + 1 + (j - (a + 1)) + 3 = j + 3 by omega]; exact hc
        have HN := Lib.hid HNO
        clear HNO
        by_cases hj3 : j + 2 < s.size
        · have hg1 := getb s (k := j + 1) (by omega)
          have hg2 := getb s (k := j + 2) (by omega)
          have hlt1 : j + 1 < s.size := by omega
          obtain ⟨d1, hd1⟩ : ∃ d, s[j + 1] = d := ⟨_, rfl⟩
          obtain ⟨d2, hd2⟩ : ∃ d, s[j + 2] = d := ⟨_, rfl⟩
          rw [hd1] at hg1
          rw [hd2] at hg2
          have hd18 := u8_lt d1
          have hd28 := u8_lt d2
          have HG1 := Lib.hid hg1
          have HG2 := Lib.hid hg2
          clear hg1 hg2
          by_cases c13 : (d1.toNat : Int) = 13
          · have e13 : d1 = 13 := UInt8.toNat_inj.1 (by show d1.toNat = 13; omega)
            subst e13
            by_cases c10 : (d2.toNat : Int) = 10
            · have e10 : d2 = 10 := UInt8.toNat_inj.1 (by show d2.toNat = 10; omega)
              subst e10
              have hok : ok = true := HT2.out.2 ⟨HGj.out, HG1.out, HG2.out⟩
              subst hok
              have hexs : (s.extract (a + 1) j).size ≤ 1048576 := by have := ba_ext_size s (a + 1) j; omega
              have HEd := Lib.hid (ba_ext s (a + 1) j)
              obtain ⟨N, hN⟩ : ∃ N, (number ((s.data.toList.drop (a + 1)).take (j - (a + 1)))).1 = N := ⟨_, rfl⟩
              obtain ⟨fine, hf⟩ : ∃ fine, (number ((s.data.toList.drop (a + 1)).take (j - (a + 1)))).2 = fine := ⟨_, rfl⟩
              have HNn := Lib.hid hN
              have Hf := Lib.hid hf
              have hN2 : fine = true → 0 ≤ N := by intro h; rw [← hN]; exact (number_dig (by rw [hf]; exact h)).2
              clear hN hf
              go_wp2_with fail
              refine (spec_Number _ _ hexs).mono ?_
              rw [HEd.out, HNn.out, Hf.out]
              rintro e w2 ⟨rfl, hb⟩
              have q0 := (hb.cell (p := ⟨w.heap.size, 0, none⟩) hsz1).trans Q0.out
              have q1 := (hb.cell (p := ⟨w.heap.size, 1, none⟩) hsz1).trans Q1.out
              have qf : ∀ i, w2.frozen? ⟨w.heap.size, i, none⟩ = false := fun i => (hb.frozen (p := ⟨w.heap.size, i, none⟩) hsz1).trans (QF.out i)
              have HW := Lib.hid (HB1.out.trans (hb.mono HB1.out.size))
              clear hb
              cases fine with
              | false =>
                have HF := Lib.hid (HN.out (by rintro ⟨_, h, _⟩; rw [Hf.out] at h; cases h))
                go_wp2
                refine bodyPost_ret (by simp [results, Tryd.results17, go_sem, q0, q1]; try rfl) rfl ?_
                exact ⟨⟨⟨0, ⟨#[]⟩⟩, fun h => absurd h (by rw [HF.out]; decide), by rw [HF.out]; try rfl⟩, (by (repeat (with_reducible refine Below.setCell ?_ ?_ _)) <;> first | (with_reducible exact HW.out) | (simp only []; omega))⟩
              | true =>
                obtain ⟨n, rfl⟩ := Int.eq_ofNat_of_zero_le (hN2 rfl)
                clear hN2
                by_cases h40n : (40 : Int) < (n : Int)
                · have HF := Lib.hid (HN.out (by rintro ⟨_, _, h, _⟩; rw [HNn.out] at h; omega))
                  go_wp2
                  refine bodyPost_ret (by simp [results, Tryd.results17, go_sem, q0, q1]; try rfl) rfl ?_
                  exact ⟨⟨⟨0, ⟨#[]⟩⟩, fun h => absurd h (by rw [HF.out]; decide), by rw [HF.out]; try rfl⟩, (by (repeat (with_reducible refine Below.setCell ?_ ?_ _)) <;> first | (with_reducible exact HW.out) | (simp only []; omega))⟩
                · by_cases hfit : (s.size : Int) - (j : Int) - 3 < (n : Int)
                  · have HF := Lib.hid (HN.out (by rintro ⟨_, _, _, h⟩; rw [HNn.out] at h; omega))
                    go_wp2
                    refine bodyPost_ret (by simp [results, Tryd.results17, go_sem, q0, q1]; try rfl) rfl ?_
                    exact ⟨⟨⟨0, ⟨#[]⟩⟩, fun h => absurd h (by rw [HF.out]; decide), by rw [HF.out]; try rfl⟩, (by (repeat (with_reducible refine Below.setCell ?_ ?_ _)) <;> first | (with_reducible exact HW.out) | (simp only []; omega))⟩
                  · have HLy := Lib.hid (show L = ((s.data.toList.drop (j + 3)).take n, ((j + 3 + n : Nat) : Int)) by
                      rw [← HL.out, HT1.out, litRes_yes ⟨rfl, Hf.out, by rw [HNn.out]; omega, by rw [HNn.out, HT4.out, ← HSL.out]; omega⟩, HNn.out, HT4.out, show a + 1 + (j - (a + 1)) + 3 = j + 3 by omega]; simp)
                    have hle : j + 3 + n ≤ s.size := by omega
                    have HF2 := Lib.hid (show R.2 = ((j + 3 + n : Nat) : Int) by rw [HF0.out.1, HLy.out])
                    have HF1 := Lib.hid (show R.1 = ⟨2, s.extract (j + 3) (j + 3 + n)⟩ by
                      rw [HF0.out.2 (by rw [HF2.out]; omega), HLy.out]
                      congr 1
                      exact ba_eq.2 (by rw [ba_ext, show j + 3 + n - (j + 3) = n by omega]))
                    go_wp2
                    refine bodyPost_ret (by simp [results, Tryd.results17, go_sem, q0, q1]; try rfl) rfl ?_
                    exact ⟨⟨⟨2, s.extract (j + 3) (j + 3 + n)⟩, fun _ => HF1.out.symm, by rw [HF2.out]; try rfl⟩, (by (repeat (with_reducible refine Below.setCell ?_ ?_ _)) <;> first | (with_reducible exact HW.out) | (simp only []; omega))⟩
            · have HF := Lib.hid (HN.out (by rintro ⟨h, _⟩; have h2 := (HT2.out.1 h).2.2; rw [HG2.out] at h2; injection h2 with h2; rw [h2] at c10; exact c10 rfl))
              have c10b : ((d2.toNat : Int) == 10) = false := beq_eq_false_iff_ne.2 c10
              have c10c : ((d2.toNat : Int) != 10) = true := by unfold bne; rw [c10b]; rfl
              have HW := HB1
              go_wp2
              refine bodyPost_ret (by simp [results, Tryd.results17, go_sem, q0, q1]; try rfl) rfl ?_
              exact ⟨⟨⟨0, ⟨#[]⟩⟩, fun h => absurd h (by rw [HF.out]; decide), by rw [HF.out]; try rfl⟩, (by (repeat (with_reducible refine Below.setCell ?_ ?_ _)) <;> first | (with_reducible exact HW.out) | (simp only []; omega))⟩
          · have HF := Lib.hid (HN.out (by rintro ⟨h, _⟩; have h2 := (HT2.out.1 h).2.1; rw [HG1.out] at h2; injection h2 with h2; rw [h2] at c13; exact c13 rfl))
            have c13b : ((d1.toNat : Int) == 13) = false := beq_eq_false_iff_ne.2 c13
            have c13c : ((d1.toNat : Int) != 13) = true := by unfold bne; rw [c13b]; rfl
            have HW := HB1
            go_wp2
            refine bodyPost_ret (by simp [results, Tryd.results17, go_sem, q0, q1]; try rfl) rfl ?_
            exact ⟨⟨⟨0, ⟨#[]⟩⟩, fun h => absurd h (by rw [HF.out]; decide), by rw [HF.out]; try rfl⟩, (by (repeat (with_reducible refine Below.setCell ?_ ?_ _)) <;> first | (with_reducible exact HW.out) | (simp only []; omega))⟩
        · have HF := Lib.hid (HN.out (by rintro ⟨h, _⟩; have h2 := (HT2.out.1 h).2.2; have := (List.getElem?_eq_some_iff.1 h2).1; rw [← HSL.out] at this; exact hj3 this))
          have HW := HB1
          go_wp2
          refine bodyPost_ret (by simp [results, Tryd.results17, go_sem, q0, q1]; try rfl) rfl ?_
          exact ⟨⟨⟨0, ⟨#[]⟩⟩, fun h => absurd h (by rw [HF.out]; decide), by rw [HF.out]; try rfl⟩, (by (repeat (with_reducible refine Below.setCell ?_ ?_ _)) <;> first | (with_reducible exact HW.out) | (simp only []; omega))⟩
      · have n125 : cj ≠ 125 := by rintro rfl; exact c125 rfl
        have c125b : ((cj.toNat : Int) == 125) = false := beq_eq_false_iff_ne.2 c125
        have c125c : ((cj.toNat : Int) != 125) = true := by unfold bne; rw [c125b]; rfl
        have HN := Lib.hid (show ((s.data.toList.drop a).take (j + 1 - a)).all (fun c => !decide (c = 125)) = true by
          rw [show j + 1 - a = (j - a) + 1 by omega, take_snoc HGJ.out, List.all_append, hall.out]; simp [n125])
        clear hall
        go_wp2_with fail
        go_roundw
        case rel => exact ⟨j + 1, by omega, by omega, by go_num, HN, trivial⟩
        case measure => simp [intOf]; omega
    · obtain rfl : j = s.size := by omega
      have HTk := Lib.hid (takeWhile_cut hall.out (.inl (by rw [List.length_drop, ← HSL.out]; omega)))
      clear hall
      obtain ⟨ok, h1, h2, hj1, h4⟩ := litTok_at HGA.out (by rw [← HSL.out]; omega) HTk.out
      have HF := Lib.hid (show R.2 = -1 by
        rw [HF0.out.1, ← HL.out, h1, litRes_no]
        rintro ⟨h, _⟩
        have h5 := (h2.1 h).1
        have := (List.getElem?_eq_some_iff.1 h5).1
        rw [← HSL.out] at this; omega)
      clear h1 h2 h4
      have HW := HB1
      go_wp2
      refine bodyPost_ret (by simp [results, Tryd.results17, go_sem, q0, q1]; try rfl) rfl ?_
      exact ⟨⟨⟨0, ⟨#[]⟩⟩, fun h => absurd h (by rw [HF.out]; decide), by rw [HF.out]; try rfl⟩, (by (repeat (with_reducible refine Below.setCell ?_ ?_ _)) <;> first | (with_reducible exact HW.out) | (simp only []; omega))⟩

end Go.Proofs.YtlehpgnhfpegoaaDoor
