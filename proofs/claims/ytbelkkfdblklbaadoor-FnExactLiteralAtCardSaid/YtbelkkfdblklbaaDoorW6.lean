/-
  Walks: what each function returns, and that it leaves what lay in memory as it was.
-/
import Derived.Test.YtbelkkfdblklbaaDoorProg
import Derived.Test.YtbelkkfdblklbaaDoorPlain
import Derived.Test.YtbelkkfdblklbaaDoorBase2
import Derived.Test.YtbelkkfdblklbaaDoorOpen2
import Derived.Test.YtbelkkfdblklbaaDoorShelf
import Derived.WalkKit
import Derived.WalkSpells
import Derived.WalkLawsBesides
import Derived.Lib.Hide
import Derived.Deep.LoopGhost
import Derived.Deep.QuietTactic
import Derived.BigQuiet
import Derived.Handy
import Derived.Deep.RegionHeld3
import Derived.StillTailTactics
import Derived.OpenShut
import Derived.ChangeSame
import Derived.Laws.StructEq

import Derived.Test.YtbelkkfdblklbaaDoorPlainT

import Derived.Test.YtbelkkfdblklbaaDoorW1

import Derived.Test.YtbelkkfdblklbaaDoorW2

import Derived.Test.YtbelkkfdblklbaaDoorW5

import Derived.Test.YtbelkkfdblklbaaDoorBase3

import Derived.Lib.ItoaMem
import Derived.Lib.ItoaLen
import Derived.Lib.LaidTab

import Derived.Lib.AtoiTie
import Derived.Lib.AtoiBound
import Derived.Lib.ConvBytes

import Derived.Lib.LastIndexByte
import Derived.Lib.Bytealg

namespace Go.Proofs.YtbelkkfdblklbaaDoor
open Go.ChangeShapes Go.WideShapes Go.ChangeAt Go.RowKit Go.Deep
set_option linter.unusedVariables false
set_option linter.unusedSimpArgs false

theorem byte_bang (s : ByteArray) (j : Nat) (h : j < s.size) : s.data[j]! = s[j] := by
  rw [getElem!_pos s.data j h]; rfl
def litPart (s : ByteArray) (i : Nat) : Str := (s.data.toList.take (s.size - 1)).drop (i + 1)
def litAt (s : ByteArray) : Int :=
  if s.size = 0 ∨ ¬ ((s.data[s.size - 1]!).toNat : Int) = 125 then -1
  else if Lib.lastIndexByte s 123 = -1 then -1
  else if (number (litPart s (Lib.lastIndexByte s 123).toNat)).2 = true then (number (litPart s (Lib.lastIndexByte s 123).toNat)).1 else -1
theorem lit_end {s : ByteArray} (h : s.size = 0 ∨ ¬ ((s.data[s.size - 1]!).toNat : Int) = 125) : litAt s = -1 := by unfold litAt; rw [if_pos h]
theorem lit_none {s : ByteArray} (h : Lib.lastIndexByte s 123 = -1) : litAt s = -1 := by
  unfold litAt
  by_cases h0 : s.size = 0 ∨ ¬ ((s.data[s.size - 1]!).toNat : Int) = 125
  · rw [if_pos h0]
  · rw [if_neg h0, if_pos h]
theorem lit_some {s : ByteArray} {i : Nat} (h0 : ¬ (s.size = 0 ∨ ¬ ((s.data[s.size - 1]!).toNat : Int) = 125)) (h : Lib.lastIndexByte s 123 = (i : Int)) : litAt s = if (number (litPart s i)).2 = true then (number (litPart s i)).1 else -1 := by
  unfold litAt; rw [if_neg h0, if_neg (by omega), h, Int.toNat_natCast]
theorem number_nil : number [] = (0, false) := number_len (by simp)
theorem lit_short {s : ByteArray} (h : s.size < 3) : litAt s = -1 := by
  by_cases h0 : s.size = 0 ∨ ¬ ((s.data[s.size - 1]!).toNat : Int) = 125
  · exact lit_end h0
  · rcases Lib.lastIndexByte_spec s 123 with ⟨e, _⟩ | ⟨i, hi, e, hc, _⟩
    · exact lit_none e
    · have hne : i ≠ s.size - 1 := by
        rintro rfl
        apply h0; right; rw [hc]; decide
      rw [lit_some h0 e]
      have : litPart s i = [] := by
        unfold litPart
        apply List.drop_eq_nil_of_le
        rw [List.length_take]; omega
      rw [this, number_nil]; rfl
theorem idx_none {c : UInt8} : ∀ l : Str, (∀ b ∈ l, b ≠ c) → Lib.indexByte l c = -1
  | [], _ => rfl
  | a :: r, h => by
    have ih := idx_none r (fun b hb => h b (List.mem_cons_of_mem _ hb))
    have ha : (a == c) = false := beq_eq_false_iff_ne.2 (h a (List.mem_cons_self ..))
    rw [Lib.indexByte, ha, ih]; rfl
theorem idx_some {c : UInt8} : ∀ l : Str, c ∈ l → 0 ≤ Lib.indexByte l c
  | a :: r, h => by
    rw [Lib.indexByte]
    by_cases ha : a = c
    · rw [beq_iff_eq.2 ha]; simp
    · rw [beq_eq_false_iff_ne.2 ha]
      have hr : c ∈ r := by
        rcases List.mem_cons.1 h with e | e
        · exact absurd e.symm ha
        · exact e
      have ih := idx_some r hr
      have : (Lib.indexByte r c == -1) = false := by rw [beq_eq_false_iff_ne]; omega
      rw [this]
      simp only [Bool.false_eq_true, if_false]
      omega
theorem open_mem {s : ByteArray} {i : Nat} (hi : i < s.size) (h : ((s.data[i]!).toNat : Int) = 123) : (123 : UInt8) ∈ s.data.toList := by
  rw [byte_bang s i hi] at h
  have e : s[i] = 123 := UInt8.toNat_inj.1 (by show s[i].toNat = 123; omega)
  have hl : i < s.data.toList.length := by rw [← size_len]; exact hi
  have : s.data.toList[i] = s[i] := rfl
  rw [← e, ← this]; exact List.getElem_mem hl
theorem open_not {s : ByteArray} (h : ∀ j, j < s.size → ((s.data[j]!).toNat : Int) ≠ 123) : ∀ b ∈ s.data.toList, b ≠ (123 : UInt8) := by
  rintro b hb rfl
  obtain ⟨j, hj, e⟩ := List.getElem_of_mem hb
  have hj' : j < s.size := by rw [size_len]; exact hj
  apply h j hj'
  rw [byte_bang s j hj']
  have : s.data.toList[j] = s[j] := rfl
  rw [← this, e]; rfl
theorem suffix_last (s : ByteArray) (c : UInt8) : Lib.hasSuffix s.data.toList [c] = (decide (0 < s.size) && decide (s.data[s.size - 1]! = c)) := by
  rw [← Lib.hasSuffix_of_drop]
  by_cases h0 : 0 < s.size
  · have hl : s.data.toList.length = s.size := (size_len s).symm
    have h1 : s.size - 1 < s.data.toList.length := by omega
    rw [decide_eq_true (show [c].length ≤ s.data.toList.length by rw [hl, List.length_singleton]; omega), decide_eq_true h0, hl, Bool.true_and, Bool.true_and]
    show (s.data.toList.drop (s.size - 1) == [c]) = _
    rw [List.drop_eq_getElem_cons h1, List.drop_eq_nil_of_le (by omega), byte_bang s _ (by omega)]
    have : s.data.toList[s.size - 1] = s[s.size - 1] := rfl
    rw [this, Bool.eq_iff_iff]; simp
  · have hl : s.data.toList.length = s.size := (size_len s).symm
    rw [decide_eq_false (show ¬ [c].length ≤ s.data.toList.length by rw [hl, List.length_singleton]; omega), decide_eq_false h0]; rfl
theorem litPart_ext (s : ByteArray) (i : Nat) : (s.extract (i + 1) (s.size - 1)).data.toList = litPart s i := by
  rw [extract_str]; rfl
theorem ext_size (s : ByteArray) (i j : Nat) : (s.extract i j).size ≤ s.size := by
  rw [extract_str, size_len]
  have hl : s.data.toList.length = s.size := (size_len s).symm
  show ((s.data.toList.take j).drop i).length ≤ s.size
  rw [List.length_drop, List.length_take, hl]; omega
set_option maxHeartbeats 1600000 in
theorem spec_LiteralAt (s : ByteArray) (w : World) (hs : s.size ≤ 1048576) :
    Calls Tryd.prog 16 #[.string s] w fun e w' => e = .returned (.int .i64 (litAt s)) ∧ Below w.heap.size w w' := by
  by_cases h3 : (s.size : Int) < 3
  · have HF := Lib.hid (lit_short (s := s) (by omega))
    go_enter Tryd.func16, Tryd.ntmps16
    go_wp2
    go_ret
    exact ⟨ret_i HF.out.symm, Below.refl _ _⟩
  · have hn1 : (s.size : Int) - 1 = ((s.size - 1 : Nat) : Int) := by omega
    have hn1n : s.size - 1 < s.size := by omega
    have HLast := Lib.hid (byte_bang s (s.size - 1) hn1n)
    by_cases hl : (s[s.size - 1].toNat : Int) = 125
    · have H0 := Lib.hid (show ¬ (s.size = 0 ∨ ¬ ((s.data[s.size - 1]!).toNat : Int) = 125) by rw [HLast.out]; omega)
      have hlb : ((s[s.size - 1].toNat : Int) != 125) = false := by rw [hl]; rfl
      go_enter Tryd.func16, Tryd.ntmps16
      go_wp2_with fail
      go_loop [4] (fun i => ∃ (k : Nat) (v : Int), k ≤ s.size - 1 ∧ i = .int .i64 v ∧ Hid (v = (k : Int) - 1) ∧ Hid (∀ j, k ≤ j → j < s.size → ((s.data[j]!).toNat : Int) ≠ 123)) (fun i => (intOf i + 1).toNat)
      case atStart => exact ⟨s.size - 1, _, Nat.le_refl _, rfl, Lib.hid (by omega), Lib.hid (fun j h1 h2 => by
        have : j = s.size - 1 := by omega
        subst this
        rw [HLast.out]; omega)⟩
      case round =>
        obtain ⟨k, v, hk, rfl, hv, ha⟩ := hrel
        cases k with
        | zero =>
          have hv0 : v = -1 := by have := hv.out; omega
          subst hv0
          have HF := Lib.hid (lit_none (s := s) (by
            rcases Lib.lastIndexByte_spec s 123 with ⟨e, _⟩ | ⟨i, hi, e, hc, _⟩
            · exact e
            · exact absurd hc (ha.out i (Nat.zero_le _) hi)))
          clear ha hv
          go_wp2
          go_ret
          exact ⟨ret_i HF.out.symm, Below.refl _ _⟩
        | succ j =>
          have hvj : v = (j : Int) := by have := hv.out; omega
          subst hvj
          have hjs : j < s.size := by omega
          have hjn : j + 1 ≤ s.size - 1 := hk
          have HB := Lib.hid (byte_bang s j hjs)
          clear hv
          by_cases hc : (s[j].toNat : Int) = 123
          · have HF := Lib.hid (lit_some H0.out (i := j) (by
              rcases Lib.lastIndexByte_spec s 123 with ⟨e, hn⟩ | ⟨i, hi, e, hci, hn⟩
              · exact absurd (by rw [HB.out]; exact hc) (hn j hjs)
              · have h1 : ¬ j < i := fun h => ha.out i (by omega) hi hci
                have h2 : ¬ i < j := fun h => hn j h hjs (by rw [HB.out]; exact hc)
                rw [e, show i = j by omega]))
            have hcb : ((s[j].toNat : Int) == 123) = true := beq_iff_eq.2 hc
            have hsz := ext_size s (j + 1) (s.size - 1)
            have HP := Lib.hid (litPart_ext s j)
            clear ha
            go_wp2_with fail
            refine (spec_Number (s.extract (j + 1) (s.size - 1)) w (by omega)).mono ?_
            rintro e w1 ⟨rfl, hb⟩
            have HBl := Lib.hid hb
            rw [HP.out]
            obtain ⟨R, hR⟩ : ∃ R, (number (litPart s j)).1 = R := ⟨_, rfl⟩
            have HR := Lib.hid hR
            rw [hR]
            cases hq : (number (litPart s j)).2
            · have HE := Lib.hid (show litAt s = -1 by rw [HF.out, hq]; rfl)
              clear hb hR hq
              go_wp2
              go_ret
              exact ⟨ret_i HE.out.symm, HBl.out⟩
            · have HE := Lib.hid (show litAt s = R by rw [HF.out, if_pos hq, HR.out])
              clear hb hR hq
              go_wp2
              go_ret
              exact ⟨ret_i HE.out.symm, HBl.out⟩
          · have hcb : ((s[j].toNat : Int) == 123) = false := beq_eq_false_iff_ne.2 hc
            have HN := Lib.hid (show ∀ i, j ≤ i → i < s.size → ((s.data[i]!).toNat : Int) ≠ 123 from fun i h1 h2 => by
              by_cases e : i = j
              · subst e; rw [HB.out]; exact hc
              · exact ha.out i (by omega) h2)
            clear ha
            go_wp2
            go_round
            case rel => exact ⟨j, (j : Int) - 1, by omega, by go_num, Lib.hid rfl, HN.out⟩
            case measure => simp [intOf]
    · have HF := Lib.hid (lit_end (s := s) (Or.inr (by rw [HLast.out]; exact hl)))
      have hlb : ((s[s.size - 1].toNat : Int) != 125) = true := bne_iff_ne.2 hl
      go_enter Tryd.func16, Tryd.ntmps16
      go_wp2
      go_ret
      exact ⟨ret_i HF.out.symm, Below.refl _ _⟩
set_option maxHeartbeats 1600000 in
theorem impl_LiteralAt (s : ByteArray) (w : World) (hs : s.size ≤ 1048576) (htab : Lib.TabIs Tryd.prog w "internal/strconv.uint64pow10" .u64 Lib.pow10Tab)
    (hE1 : ∃ pp, w.var? Tryd.prog "strconv.ErrSyntax" = some #[.iface 77 pp]) (hE2 : ∃ pp, w.var? Tryd.prog "strconv.ErrRange" = some #[.iface 77 pp]) :
    Calls Tryd.prog 17 #[.string s] w fun e w' => e = .returned (.int .i64 (litAt s)) ∧ Below w.heap.size w w' := by
  have HC := Lib.hid (fun z (hz : z.size ≤ 1048576) => impl_Number z w hz htab hE1 hE2)
  have HSuf := Lib.hid (suffix_last s 125)
  clear htab hE1 hE2
  by_cases h0 : 0 < s.size ∧ s.data[s.size - 1]! = 125
  · have hsuf : Lib.hasSuffix s.data.toList [125] = true := by rw [HSuf.out, decide_eq_true h0.1, decide_eq_true h0.2]; rfl
    have H0 := Lib.hid (show ¬ (s.size = 0 ∨ ¬ ((s.data[s.size - 1]!).toNat : Int) = 125) by rw [h0.2]; intro h; rcases h with h | h; exact absurd h (by have := h0.1; omega); exact h (by decide))
    have hpos := h0.1
    have hn1 : (s.size : Int) - 1 = ((s.size - 1 : Nat) : Int) := by omega
    have hlast := Lib.hid h0.2
    clear h0
    rcases Lib.lastIndexByte_spec s 123 with ⟨e, hn⟩ | ⟨i, hi, e, hci, hn⟩
    · have HF := Lib.hid (lit_none e)
      have hidx : decide (0 ≤ Lib.indexByte s.data.toList 123) = false := decide_eq_false (by rw [idx_none _ (open_not hn)]; omega)
      have hsz := ext_size s 0 (s.size - 1)
      clear hn
      go_enter Tryd.func17, Tryd.ntmps17
      go_wp2_with (first | (go_at_call 30; refine (Tryd.strings_HasSuffix _ _ _ (by omega)).mono ?_; rw [show Lib.hasSuffix s.data.toList (⟨#[125]⟩ : ByteArray).data.toList = true from hsuf]; rintro e w' ⟨rfl, rfl⟩) | (go_at_call 31; refine (Tryd.strings_LastIndexByte _ _ (by omega) _).mono ?_; rw [e]; rintro e w' ⟨rfl, rfl⟩))
      refine (HC.out _ (by first | exact Nat.le_trans hsz hs | (simp; omega))).mono ?_
      rintro e w1 ⟨rfl, hb⟩
      have HB := Lib.hid hb
      clear hb
      generalize (number (s.extract 0 (s.size - 1)).data.toList).1 = R at *
      cases hq : (number (s.extract 0 (s.size - 1)).data.toList).2
      · clear hq
        go_wp2
        go_ret
        exact ⟨ret_i HF.out.symm, HB.out⟩
      · clear hq
        go_wp2_with (go_at_call 32; refine (Tryd.strings_Contains_one _ _ _).mono ?_; rw [hidx]; rintro e w' ⟨rfl, rfl⟩)
        go_ret
        exact ⟨ret_i HF.out.symm, HB.out⟩
    · have HF := Lib.hid (lit_some H0.out e)
      have hidx : decide (0 ≤ Lib.indexByte s.data.toList 123) = true := decide_eq_true (idx_some _ (open_mem hi hci))
      have hine : i ≠ s.size - 1 := by
        rintro rfl
        rw [hlast.out] at hci
        exact absurd hci (by decide)
      have hin : i + 1 ≤ s.size - 1 := by omega
      have hsz := ext_size s (i + 1) (s.size - 1)
      have HP := Lib.hid (litPart_ext s i)
      clear hn hci
      go_enter Tryd.func17, Tryd.ntmps17
      go_wp2_with (first | (go_at_call 30; refine (Tryd.strings_HasSuffix _ _ _ (by omega)).mono ?_; rw [show Lib.hasSuffix s.data.toList (⟨#[125]⟩ : ByteArray).data.toList = true from hsuf]; rintro e w' ⟨rfl, rfl⟩) | (go_at_call 31; refine (Tryd.strings_LastIndexByte _ _ (by omega) _).mono ?_; rw [e]; rintro e w' ⟨rfl, rfl⟩))
      refine (HC.out (s.extract (i + 1) (s.size - 1)) (Nat.le_trans hsz hs)).mono ?_
      rintro e w1 ⟨rfl, hb⟩
      have HB := Lib.hid hb
      clear hb
      rw [HP.out]
      obtain ⟨R, hR⟩ : ∃ R, (number (litPart s i)).1 = R := ⟨_, rfl⟩
      have HR := Lib.hid hR
      rw [hR]
      cases hq : (number (litPart s i)).2
      · have HE := Lib.hid (show litAt s = -1 by rw [HF.out, hq]; rfl)
        clear hR hq
        go_wp2
        go_ret
        exact ⟨ret_i HE.out.symm, HB.out⟩
      · have HE := Lib.hid (show litAt s = R by rw [HF.out, if_pos hq, HR.out])
        clear hR hq
        go_wp2_with (go_at_call 32; refine (Tryd.strings_Contains_one _ _ _).mono ?_; rw [hidx]; rintro e w' ⟨rfl, rfl⟩)
        go_ret
        exact ⟨ret_i HE.out.symm, HB.out⟩
  · have hsuf : Lib.hasSuffix s.data.toList [125] = false := by
      rw [HSuf.out]
      by_cases hp : 0 < s.size
      · rw [decide_eq_true hp, decide_eq_false (fun h => h0 ⟨hp, h⟩)]; rfl
      · rw [decide_eq_false hp]; rfl
    have HF := Lib.hid (lit_end (s := s) (by
      by_cases hp : 0 < s.size
      · right; intro h; apply h0; refine ⟨hp, UInt8.toNat_inj.1 ?_⟩
        show (s.data[s.size - 1]!).toNat = 125
        omega
      · left; omega))
    clear h0
    go_enter Tryd.func17, Tryd.ntmps17
    go_wp2_with (go_at_call 30; refine (Tryd.strings_HasSuffix _ _ _ (by omega)).mono ?_; rw [show Lib.hasSuffix s.data.toList (⟨#[125]⟩ : ByteArray).data.toList = false from hsuf]; rintro e w' ⟨rfl, rfl⟩)
    go_ret
    exact ⟨ret_i HF.out.symm, Below.refl _ _⟩
theorem walk_FnExactLiteralAt (a0 : ByteArray) (w : World) (w0 : a0.size ≤ maxLen) (htab : Lib.TabIs Tryd.prog w "internal/strconv.uint64pow10" .u64 Lib.pow10Tab)
    (hE2 : ∃ pp, w.var? Tryd.prog "strconv.ErrRange" = some #[.iface 77 pp]) (hE1 : ∃ pp, w.var? Tryd.prog "strconv.ErrSyntax" = some #[.iface 77 pp]) :
    Calls Tryd.prog 7 #[.string a0] w fun e w' => e = .returned (.bool true) ∧ Below w.heap.size w w' := by
  unfold maxLen at w0
  have HT := Lib.hid htab
  have HE1 := Lib.hid hE1
  have HE2 := Lib.hid hE2
  clear htab hE1 hE2
  by_cases hs : (1048576 : Int) < (a0.size : Int)
  · go_enter Tryd.func7, Tryd.ntmps7
    go_wp2
    go_ret
    exact ⟨rfl, Below.refl _ _⟩
  · have hs' : a0.size ≤ 1048576 := by omega
    obtain ⟨R, hR⟩ : ∃ R, litAt a0 = R := ⟨_, rfl⟩
    have HR := Lib.hid hR
    clear hR
    go_enter Tryd.func7, Tryd.ntmps7
    go_wp2_with fail
    refine (spec_LiteralAt _ _ hs').mono ?_
    rintro e w1 ⟨rfl, hb1⟩
    rw [HR.out]
    have HB1 := Lib.hid hb1
    obtain ⟨p1, hp1⟩ := HE1.out
    obtain ⟨p2, hp2⟩ := HE2.out
    have HC := Lib.hid (impl_LiteralAt a0 w1 hs' (tab_below HT.out hb1) ⟨p1, var_below hp1 hb1⟩ ⟨p2, var_below hp2 hb1⟩)
    clear hb1 hp1 hp2
    go_wp2_with fail
    refine HC.out.mono ?_
    rintro e w2 ⟨rfl, hb2⟩
    rw [HR.out]
    have HB2 := Lib.hid (HB1.out.trans (hb2.mono HB1.out.size))
    clear hb2 HC
    go_wp2
    go_ret
    exact ⟨rfl, HB2.out⟩

end Go.Proofs.YtbelkkfdblklbaaDoor
