/-
  Walks: what each function returns, and that it leaves what lay in memory as it was.
-/
import Derived.Test.YtgdebejmcfcpgaaProg
import Derived.Test.YtgdebejmcfcpgaaPlain
import Derived.Test.YtgdebejmcfcpgaaBase2
import Derived.Test.YtgdebejmcfcpgaaOpen2
import Derived.Test.YtgdebejmcfcpgaaShelf
import Derived.WalkKit
import Derived.WalkSpells
import Derived.WalkLawsBesides
import Derived.Lib.Hide
import Derived.Deep.LoopGhost
import Derived.Deep.QuietTactic
import Derived.BigQuiet
import Derived.Handy
import Derived.Deep.RegionHeld3
import Derived.StillTailTactics
import Derived.OpenShut
import Derived.ChangeSame
import Derived.Laws.StructEq

import Derived.Test.YtgdebejmcfcpgaaPlainT

import Derived.Test.YtgdebejmcfcpgaaW1

import Derived.Test.YtgdebejmcfcpgaaW4

import Derived.Test.YtgdebejmcfcpgaaW5

import Derived.Test.YtgdebejmcfcpgaaBase3

namespace Go.Proofs.Ytgdebejmcfcpgaa
open Go.ChangeShapes Go.WideShapes Go.ChangeAt Go.RowKit Go.Deep
set_option linter.unusedVariables false
set_option linter.unusedSimpArgs false

abbrev bsOf (xs : List Str) : List ByteArray := xs.map fun l => (⟨l.toArray⟩ : ByteArray)
theorem bsOf_back (xs : List Str) : (bsOf xs).map (·.data.toList) = xs := by simp [bsOf, List.map_map, Function.comp_def]
/-- strings.Join at a slice that reads as a list. -/
theorem join_rd (A : Option Addr) (n c : Nat) (xs : List Str) (sep : ByteArray) (w : World) (hn : n ≤ 1048576) (hcap : n ≤ c) (h : Rd encStr 1 w A n xs) (hf : ∀ y ∈ xs, strFit y) (hs : sep.size ≤ 1048576) :
    Calls Try.prog 25 #[.slice A n c, .string sep] w fun e w' => e = .returned (.string ⟨(Lib.join xs sep.data.toList).toArray⟩) ∧ Below w.heap.size w w' := by
  have hb := join_bound (xs := xs) (sep := sep.data.toList) (by rw [h.1]; exact hn) hf (by rw [← size_len]; exact hs)
  rcases Nat.eq_zero_or_pos n with h0 | h0
  · subst h0
    obtain rfl : xs = [] := List.eq_nil_of_length_eq_zero h.1
    refine (Try.strings_Join_none A c sep w).mono ?_
    rintro e w' ⟨rfl, rfl⟩
    exact ⟨rfl, Below.refl _ _⟩
  · obtain ⟨b, off, rfl, hbk, hc⟩ := h.2 h0
    have hl : (bsOf xs).length = n := by rw [List.length_map]; exact h.1
    have hk := Try.strings_Join b off c (bsOf xs) sep w (fun j x hx => by
      rw [List.getElem?_map] at hx
      obtain ⟨y, hy, rfl⟩ := Option.map_eq_some_iff.1 hx
      simpa using hc j y hy 0 _ rfl) hbk (by rw [hl]; omega) (by rw [hl]; exact hcap) (by rw [bsOf_back]; omega)
    rw [hl, bsOf_back] at hk
    exact hk
theorem impl_Joined (A : Option Addr) (n c : Nat) (xs : List Str) (sep : ByteArray) (w : World) (hn : n ≤ 1048576) (hcap : n ≤ c) (h : Rd encStr 1 w A n xs) (hf : ∀ y ∈ xs, strFit y) (hs : sep.size ≤ 1048576) :
    Calls Try.prog 10 #[.slice A n c, .string sep] w fun e w' => e = .returned (.string ⟨(Lib.join xs sep.data.toList).toArray⟩) ∧ Below w.heap.size w w' := by
  have HC := Lib.hid (fun W hb => join_rd A n c xs sep W hn hcap (h.below hb) hf hs)
  clear h hf
  go_enter Try.func10, Try.ntmps10
  go_wp2_with fail
  refine (HC.out _ (by go_grown)).mono ?_
  rintro e w1 ⟨rfl, hb⟩
  have HB := Lib.hid hb
  clear hb HC
  go_wp2
  go_ret
  exact ⟨rfl, HB.out⟩

set_option maxHeartbeats 1600000 in
theorem impl_namesOf (A : Option Addr) (n c : Nat) (b : Int) (ws : List Str) (w : World) (hn : n ≤ 64) (h : Rd encStr 1 w A n ws) (hf : ∀ y ∈ ws, strFit y) :
    Calls Try.prog 29 #[.slice A n c, .int .i64 b] w (RetOwn encStr 1 9 w (selTo b ws n)) := by
  have HL := Lib.hid h.1
  have H := Lib.hid h
  clear h
  have hnew := World.ownsRow_made (base := w.heap.size) (e := 9) (size := 1) w #[] 0 (Nat.le_refl _) (by unfold maxLen; omega) rfl
  go_enter Try.func29, Try.ntmps29
  go_wp2_with fail
  go_loopw [5, 11] (fun o i wr => ∃ (k : Nat) (l : List Str), k ≤ n ∧ i = .int .i64 k ∧ l = selTo b ws k ∧ l.length ≤ k ∧ wr.ownsRow w.heap.size 9 1 o l.length (l.flatMap encStr) ∧ Below w.heap.size w wr) (fun _ i _ => n - (intOf i).toNat)
  case atStart => exact ⟨0, [], by omega, rfl, rfl, Nat.le_refl _, hnew, (Below.refl _ _).alloc (Nat.le_refl _) _⟩
  case round =>
    obtain ⟨k, l, hk, rfl, hl, hll, hown, hW⟩ := hrel
    clear hnew
    by_cases hlt : k < n
    · obtain ⟨bk, off, x, rfl, _, hx, hc⟩ := (H.out.below hW).elem hlt
      have g0 : wr.cell? ⟨bk, off + k, none⟩ = some (.string ⟨x.toArray⟩) := by simpa using hc 0 _ rfl
      have hk64 : (k : Int) ≤ 64 := by omega
      cases hb : hasBit b k
      · have hbe : (bits .and .i64 (b / 2 ^ k) 1 == 1) = false := hb
        have HN := Lib.hid (show l = selTo b ws (k + 1) by rw [selTo_no hb, hl])
        have Hown := Lib.hid hown
        have HW := Lib.hid hW
        clear hl hown hW hc hx hb
        go_wp2
        go_roundw
        case rel => exact ⟨k + 1, l, by omega, by go_num, HN.out, by omega, Hown.out, HW.out⟩
        case measure => simp [intOf]; omega
      · have hbe : (bits .and .i64 (b / 2 ^ k) 1 == 1) = true := hb
        have HN := Lib.hid (show l ++ [x] = selTo b ws (k + 1) by rw [selTo_yes hx hb, hl])
        have Hown2 := Lib.hid (hown.alloc (.cells #[.string ⟨x.toArray⟩] 9))
        have Hrd := Lib.hid (Rd.new (enc := encStr) (k := 1) (fun _ => rfl) wr #[.string ⟨x.toArray⟩] 9 (n := 1) [x] rfl rfl)
        have HB := Lib.hid (hW.alloc hW.size (.cells #[.string ⟨x.toArray⟩] 9))
        have hsz := hW.size
        clear hl hown hW hc hx hb
        go_wp2_with (at_builtin; refine wpList_app (enc := encStr) (k := 1) (fun _ => rfl) (fun _ u hu => by simp at hu; subst hu; rfl) (by omega) rfl _ _ 27 9 rfl (.string ByteArray.empty) 16 Try.underlying27 (by kernel_rfl) rfl w.heap.size _ l rfl Hown2.out _ _ _ _ rfl Hrd.out (by omega) (by omega) (by simp; omega) ?_; intro v' w' hown' hbel')
        go_roundw
        case rel => exact ⟨k + 1, l ++ [x], by omega, by go_num, HN.out, by simp; omega, hown', HB.out.trans hbel'⟩
        case measure => simp [intOf]; omega
    · have hke : k = n := by omega
      subst hke
      have Hl := Lib.hid hl
      have Hown := Lib.hid hown
      have HB := Lib.hid hW
      clear hl hown hW
      go_wp2
      go_ret
      have ho := Hown.out
      rw [Hl.out] at ho
      exact retOwn_mk ho HB.out
set_option maxHeartbeats 800000 in
theorem impl_FlagsText (b : Int) (w : World) :
    Calls Try.prog 17 #[.int .i64 b] w fun e w' => e = .returned (.string ⟨(flagsText b).toArray⟩) ∧ Below w.heap.size w w' := by
  cases hr : inR b 0 31
  · have HF := Lib.hid (show flagsText b = [] by unfold flagsText; rw [hr]; rfl)
    go_enter Try.func17, Try.ntmps17
    go_wp2_with (go_at_call 16; refine (impl_FlagsOk _ _).mono ?_; rintro e w' ⟨rfl, rfl⟩; rw [hr])
    go_ret
    exact ⟨ret_s (by rw [HF.out]), Below.refl _ _⟩
  · have HF := Lib.hid (show flagsText b = Lib.join (selTo b flagList 5) [32] by unfold flagsText; rw [hr]; rfl)
    have HR := Lib.hid (flagList_rd w 9)
    go_enter Try.func17, Try.ntmps17
    go_wp2_with (first | (go_at_call 16; refine (impl_FlagsOk _ _).mono ?_; rintro e w' ⟨rfl, rfl⟩; rw [hr]) | (go_at_call 30; refine (impl_flagWords _).mono ?_; rintro e w' ⟨rfl, rfl⟩))
    refine (impl_namesOf _ 5 5 b flagList _ (by omega) HR.out flagList_fit).mono ?_
    rintro e w2 ⟨A2, c2, rfl, hown, hb2⟩
    have HB2 := Lib.hid (Below.trans (by go_grown : Below w.heap.size w _) (hb2.mono (by simp)))
    have hcap := own_cap hown
    have hlen := selTo_len b flagList 5
    have Hrd := Lib.hid (Rd.of_own (enc := encStr) (k := 1) (fun _ => rfl) hown rfl)
    clear hown hb2
    go_wp2_with fail
    refine (impl_Joined _ _ _ (selTo b flagList 5) ⟨#[32]⟩ _ (by omega) hcap Hrd.out (fun y hy => flagList_fit y (selTo_mem hy)) (by decide)).mono ?_
    rintro e w3 ⟨rfl, hb3⟩
    have HB3 := Lib.hid (HB2.out.trans (hb3.mono HB2.out.size))
    clear hb3
    go_wp2
    go_ret
    exact ⟨ret_s (by rw [HF.out]), HB3.out⟩

end Go.Proofs.Ytgdebejmcfcpgaa
