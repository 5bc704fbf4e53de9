/-
  Walks: what each function returns, and that it leaves what lay in memory as it was.
-/
import Derived.Test.YtjpkceimokkpgaaGreatDoorProg
import Derived.Test.YtjpkceimokkpgaaGreatDoorPlain
import Derived.Test.YtjpkceimokkpgaaGreatDoorBase2
import Derived.Test.YtjpkceimokkpgaaGreatDoorOpen2
import Derived.Test.YtjpkceimokkpgaaGreatDoorShelf
import Derived.WalkKit
import Derived.WalkSpells
import Derived.WalkLawsBesides
import Derived.Lib.Hide
import Derived.Deep.LoopGhost
import Derived.Deep.QuietTactic
import Derived.BigQuiet
import Derived.Handy
import Derived.Deep.RegionHeld3
import Derived.StillTailTactics
import Derived.OpenShut
import Derived.ChangeSame
import Derived.Laws.StructEq

import Derived.Test.YtjpkceimokkpgaaGreatDoorPlainT

import Derived.Test.YtjpkceimokkpgaaGreatDoorBase3

import Derived.Test.YtjpkceimokkpgaaGreatDoorW1

import Derived.Test.YtjpkceimokkpgaaGreatDoorW2

import Derived.Test.YtjpkceimokkpgaaGreatDoorW3

namespace Go.Proofs.YtjpkceimokkpgaaGreatDoor
open Go.ChangeShapes Go.WideShapes Go.ChangeAt Go.RowKit Go.Deep
set_option linter.unusedVariables false
set_option linter.unusedSimpArgs false

abbrev bsOf (xs : List Str) : List ByteArray := xs.map fun l => (⟨l.toArray⟩ : ByteArray)
theorem bsOf_back (xs : List Str) : (bsOf xs).map (·.data.toList) = xs := by simp [bsOf, List.map_map, Function.comp_def]
/-- strings.Join at a slice that reads as a list. -/
theorem join_rd (A : Option Addr) (n c : Nat) (xs : List Str) (sep : ByteArray) (w : World) (hn : n ≤ 1048576) (hcap : n ≤ c) (h : Rd encStr 1 w A n xs) (hf : ∀ y ∈ xs, strFit y) (hs : sep.size ≤ 1048576) :
    Calls Tryz.prog 110 #[.slice A n c, .string sep] w fun e w' => e = .returned (.string ⟨(Lib.join xs sep.data.toList).toArray⟩) ∧ Below w.heap.size w w' := by
  have hb := join_bound (xs := xs) (sep := sep.data.toList) (by rw [h.1]; exact hn) hf (by rw [← size_len]; exact hs)
  rcases Nat.eq_zero_or_pos n with h0 | h0
  · subst h0
    obtain rfl : xs = [] := List.eq_nil_of_length_eq_zero h.1
    refine (Tryz.strings_Join_none A c sep w).mono ?_
    rintro e w' ⟨rfl, rfl⟩
    exact ⟨rfl, Below.refl _ _⟩
  · obtain ⟨b, off, rfl, hbk, hc⟩ := h.2 h0
    have hl : (bsOf xs).length = n := by rw [List.length_map]; exact h.1
    have hk := Tryz.strings_Join b off c (bsOf xs) sep w (fun j x hx => by
      rw [List.getElem?_map] at hx
      obtain ⟨y, hy, rfl⟩ := Option.map_eq_some_iff.1 hx
      simpa using hc j y hy 0 _ rfl) hbk (by rw [hl]; omega) (by rw [hl]; exact hcap) (by rw [bsOf_back]; omega)
    rw [hl, bsOf_back] at hk
    exact hk
theorem impl_Joined (A : Option Addr) (n c : Nat) (xs : List Str) (sep : ByteArray) (w : World) (hn : n ≤ 1048576) (hcap : n ≤ c) (h : Rd encStr 1 w A n xs) (hf : ∀ y ∈ xs, strFit y) (hs : sep.size ≤ 1048576) :
    Calls Tryz.prog 79 #[.slice A n c, .string sep] w fun e w' => e = .returned (.string ⟨(Lib.join xs sep.data.toList).toArray⟩) ∧ Below w.heap.size w w' := by
  have HC := Lib.hid (fun W hb => join_rd A n c xs sep W hn hcap (h.below hb) hf hs)
  clear h hf
  go_enter Tryz.func79, Tryz.ntmps79
  go_wp2_with fail
  refine (HC.out _ (by go_grown)).mono ?_
  rintro e w1 ⟨rfl, hb⟩
  have HB := Lib.hid hb
  clear hb HC
  go_wp2
  go_ret
  exact ⟨rfl, HB.out⟩
set_option maxHeartbeats 1600000 in
theorem spec_Joined (A : Option Addr) (n c : Nat) (xs : List Str) (sep : ByteArray) (w : World) (hn : n ≤ 1048576) (h : Rd encStr 1 w A n xs) (hf : ∀ y ∈ xs, strFit y) (hs : sep.size ≤ 1048576) :
    Calls Tryz.prog 60 #[.slice A n c, .string sep] w fun e w' => e = .returned (.string ⟨(Lib.join xs sep.data.toList).toArray⟩) ∧ Below w.heap.size w w' := by
  have HL := Lib.hid h.1
  have H := Lib.hid h
  have HF := Lib.hid hf
  have HT := Lib.hid (fun k => join_take_bound (xs := xs) (sep := sep.data.toList) k (by rw [h.1]; exact hn) hf (by rw [← size_len]; exact hs))
  have HSz := Lib.hid (size_len sep)
  clear h hf
  have hnew := World.ownsRow_made (base := w.heap.size) (e := 5) (size := 1) w #[] 0 (Nat.le_refl _) (by unfold maxLen; omega) rfl
  go_enter Tryz.func60, Tryz.ntmps60
  go_wp2_with fail
  go_loopw [5, 6] (fun o i wr => ∃ (k : Nat) (l : Str), k ≤ n ∧ i = .int .i64 k ∧ l = Lib.join (xs.take k) sep.data.toList ∧ wr.ownsRow w.heap.size 5 1 o l.length (l.flatMap encB) ∧ Below w.heap.size w wr) (fun _ i _ => n - (intOf i).toNat)
  case atStart => exact ⟨0, [], by omega, rfl, rfl, hnew, (Below.refl _ _).alloc (Nat.le_refl _) _⟩
  case round =>
    obtain ⟨k, l, hk, rfl, hl, hown, hW⟩ := hrel
    clear hnew
    have hll : l.length ≤ 2199023255552 := by rw [hl]; exact HT.out k
    by_cases hlt : k < n
    · obtain ⟨b, off, x, rfl, hbw, hx, hc⟩ := H.out.elem hlt
      have g0w : w.cell? ⟨b, off + k, none⟩ = some (.string ⟨x.toArray⟩) := by simpa using hc 0 _ rfl
      have hxl : x.length ≤ 1048576 := HF.out x (List.mem_of_getElem? hx)
      have Hnext := Lib.hid (join_take_succ sep.data.toList hx)
      obtain ⟨zx, hzx⟩ : ∃ z : ByteArray, (⟨x.toArray⟩ : ByteArray) = z := ⟨_, rfl⟩
      rw [hzx] at g0w
      have HC := Lib.hid (fun W (hb : Below w.heap.size w W) => (hb.cell (p := ⟨b, off + k, none⟩) hbw).trans g0w)
      have g0 := HC.out wr hW
      have hsz := hW.size
      have HW := Lib.hid hW
      have Hown := Lib.hid hown
      have Hl := Lib.hid hl
      clear hc hx hown hW hl g0w
      have HZ := Lib.hid (show zx.data.toList = x by rw [← hzx])
      have hzl : zx.size ≤ 1048576 := by rw [← hzx]; show x.toArray.size ≤ _; simpa using hxl
      clear hzx
      by_cases hk0 : k = 0
      · have hk0d : decide ((0 : Int) < (k : Int)) = false := by rw [hk0]; rfl
        have hk0e : decide (0 < k) = false := by rw [hk0]; rfl
        have hle : l = [] := by rw [Hl.out, hk0]; rfl
        have HN := Lib.hid (show l ++ zx.data.toList = Lib.join (xs.take (k + 1)) sep.data.toList by rw [Hnext.out, if_pos hk0, HZ.out, hle]; rfl)
        clear hk0 hle Hnext Hl
        go_wp2_with (at_builtin; refine wpList_appS rfl _ _ 88 9 5 rfl Tryz.underlying88 Tryz.underlying9 (by kernel_rfl) w.heap.size _ l rfl Hown.out zx rfl (by omega) (by omega) ?_; intro v' w' hown' hbel')
        have HB := Lib.hid (HW.out.trans hbel')
        clear hbel'
        go_roundw
        case rel => exact ⟨k + 1, l ++ zx.data.toList, by omega, by go_num, HN.out, hown', HB.out⟩
        case measure => simp [intOf]; omega
      · have hk0i : (0 : Int) < (k : Int) := by omega
        have hk0n : 0 < k := by omega
        have HN := Lib.hid (show (l ++ sep.data.toList) ++ zx.data.toList = Lib.join (xs.take (k + 1)) sep.data.toList by rw [Hnext.out, if_neg hk0, HZ.out, Hl.out])
        have hlen2 : (l ++ sep.data.toList).length ≤ 2199024304128 := by rw [List.length_append, ← HSz.out]; omega
        clear Hnext Hl
        go_wp2_with (first
          | (at_builtin; refine wpList_appS rfl _ _ 88 9 5 rfl Tryz.underlying88 Tryz.underlying9 (by kernel_rfl) w.heap.size _ l rfl Hown.out sep rfl (by omega) (by omega) ?_; intro v1 w1 hown1 hbel1; have HB1 := Lib.hid (HW.out.trans hbel1); have g1 := HC.out w1 HB1.out; have hsz1 := HB1.out.size; have Hown1 := Lib.hid hown1; clear hown1 hbel1)
          | (at_builtin; refine wpList_appS rfl _ _ 88 9 5 rfl Tryz.underlying88 Tryz.underlying9 (by kernel_rfl) w.heap.size _ (l ++ sep.data.toList) rfl Hown1.out zx rfl (by omega) (by omega) ?_; intro v2 w2 hown2 hbel2))
        have HB := Lib.hid (HB1.out.trans hbel2)
        clear hbel2
        go_roundw
        case rel => exact ⟨k + 1, (l ++ sep.data.toList) ++ zx.data.toList, by omega, by go_num, HN.out, hown2, HB.out⟩
        case measure => simp [intOf]; omega
    · have hke : k = n := by omega
      subst hke
      rw [List.take_of_length_le (by rw [HL.out]; exact Nat.le_refl _)] at hl
      have Hl := Lib.hid hl
      obtain ⟨A', c', rfl⟩ := own_form hown
      have hcv := run_ofBytes (P := Tryz.prog) 88 9 5 Tryz.underlying88 Tryz.underlying5 Tryz.underlying9 (Rd.of_own (enc := encB) (k := 1) (fun _ => rfl) hown rfl) c'
      clear hl hown
      go_wp2
      go_ret
      exact ⟨ret_s (by rw [Hl.out]), hW⟩

end Go.Proofs.YtjpkceimokkpgaaGreatDoor
