/-
  Walks: what each function returns, and that it leaves what lay in memory as it was.
-/
import Derived.Test.YtjiboekeeafpoaaProg
import Derived.Test.YtjiboekeeafpoaaPlain
import Derived.Test.YtjiboekeeafpoaaBase2
import Derived.Test.YtjiboekeeafpoaaOpen2
import Derived.Test.YtjiboekeeafpoaaShelf
import Derived.WalkKit
import Derived.WalkSpells
import Derived.WalkLawsBesides
import Derived.Lib.Hide
import Derived.Deep.LoopGhost
import Derived.Deep.QuietTactic
import Derived.BigQuiet
import Derived.Handy
import Derived.Deep.RegionHeld3
import Derived.StillTailTactics
import Derived.OpenShut
import Derived.ChangeSame
import Derived.Laws.StructEq

import Derived.Test.YtjiboekeeafpoaaPlainT

import Derived.Test.YtjiboekeeafpoaaW1

import Derived.Test.YtjiboekeeafpoaaW3

import Derived.Test.YtjiboekeeafpoaaBase3

import Derived.Test.YtjiboekeeafpoaaW11

namespace Go.Proofs.Ytjiboekeeafpoaa
open Go.ChangeShapes Go.WideShapes Go.ChangeAt Go.RowKit Go.Deep
set_option linter.unusedVariables false
set_option linter.unusedSimpArgs false

def flagList : List Str := [[115, 101, 101, 110], [97, 110, 115, 119, 101, 114, 101, 100], [102, 108, 97, 103, 103, 101, 100], [100, 101, 108, 101, 116, 101, 100], [100, 114, 97, 102, 116]]
def hasBit (b : Int) (k : Nat) : Bool := bits .and .i64 (b / 2 ^ k) 1 == 1
def selTo (b : Int) (ws : List Str) (k : Nat) : List Str := ((List.range k).filter (hasBit b)).filterMap (fun j => ws[j]?)
theorem selTo_yes {b : Int} {ws : List Str} {k : Nat} {x : Str} (h : ws[k]? = some x) (hb : hasBit b k = true) : selTo b ws (k + 1) = selTo b ws k ++ [x] := by
  unfold selTo
  rw [List.range_succ, List.filter_append, List.filterMap_append, List.filter_cons_of_pos (by simpa using hb)]
  simp [h]
theorem selTo_no {b : Int} {ws : List Str} {k : Nat} (hb : hasBit b k = false) : selTo b ws (k + 1) = selTo b ws k := by
  unfold selTo
  rw [List.range_succ, List.filter_append, List.filterMap_append, List.filter_cons_of_neg (by simp [hb])]
  simp
theorem selTo_len (b : Int) (ws : List Str) : ∀ k, (selTo b ws k).length ≤ k
  | 0 => by simp [selTo]
  | k + 1 => by
    have ih := selTo_len b ws k
    unfold selTo at ih ⊢
    rw [List.range_succ, List.filter_append, List.filterMap_append, List.length_append]
    have h1 := List.length_filterMap_le (fun j => ws[j]?) (List.filter (hasBit b) [k])
    have h2 := List.length_filter_le (hasBit b) [k]
    simp only [List.length_singleton] at h2
    omega
theorem selTo_mem {b : Int} {ws : List Str} {k : Nat} {x : Str} (h : x ∈ selTo b ws k) : x ∈ ws := by
  unfold selTo at h
  obtain ⟨j, _, hj⟩ := List.mem_filterMap.1 h
  exact List.mem_of_getElem? hj
def flagsText (b : Int) : Str := if inR b 0 31 = true then Lib.join (selTo b flagList 5) [32] else []
theorem flagList_fit : ∀ y ∈ flagList, strFit y := by
  intro y hy
  unfold strFit
  simp [flagList] at hy
  rcases hy with rfl | rfl | rfl | rfl | rfl <;> simp
theorem impl_flagWords (w : World) :
    Calls Try.prog 94 #[] w fun e w' => e = .returned (.slice (some ⟨w.heap.size, 0, none⟩) 5 5) ∧ w' = w.alloc (.cells (flagList.map fun l => Value.string ⟨l.toArray⟩).toArray 9) := by
  go_enter Try.func94, Try.ntmps94
  go_wp2
  go_ret
  exact ⟨rfl, rfl⟩
theorem spec_l5Words (w : World) :
    Calls Try.prog 93 #[] w fun e w' => e = .returned (.slice (some ⟨w.heap.size, 0, none⟩) 5 5) ∧ w' = w.alloc (.cells (flagList.map fun l => Value.string ⟨l.toArray⟩).toArray 9) := by
  go_enter Try.func93, Try.ntmps93
  go_wp2
  go_ret
  exact ⟨rfl, rfl⟩
theorem flagList_rd (w : World) (e : TypeId) : Rd encStr 1 (w.alloc (.cells (flagList.map fun l => Value.string ⟨l.toArray⟩).toArray e)) (some ⟨w.heap.size, 0, none⟩) 5 flagList :=
  Rd.new (enc := encStr) (k := 1) (fun _ => rfl) w _ e (n := 5) flagList (by rfl) rfl
set_option maxHeartbeats 1600000 in
theorem impl_namesOf (A : Option Addr) (n c : Nat) (b : Int) (ws : List Str) (w : World) (hn : n ≤ 64) (h : Rd encStr 1 w A n ws) (hf : ∀ y ∈ ws, strFit y) :
    Calls Try.prog 76 #[.slice A n c, .int .i64 b] w (RetOwn encStr 1 9 w (selTo b ws n)) := by
  have HL := Lib.hid h.1
  have H := Lib.hid h
  clear h
  have hnew := World.ownsRow_made (base := w.heap.size) (e := 9) (size := 1) w #[] 0 (Nat.le_refl _) (by unfold maxLen; omega) rfl
  go_enter Try.func76, Try.ntmps76
  go_wp2_with fail
  go_loopw [5, 11] (fun o i wr => ∃ (k : Nat) (l : List Str), k ≤ n ∧ i = .int .i64 k ∧ l = selTo b ws k ∧ l.length ≤ k ∧ wr.ownsRow w.heap.size 9 1 o l.length (l.flatMap encStr) ∧ Below w.heap.size w wr) (fun _ i _ => n - (intOf i).toNat)
  case atStart => exact ⟨0, [], by omega, rfl, rfl, Nat.le_refl _, hnew, (Below.refl _ _).alloc (Nat.le_refl _) _⟩
  case round =>
    obtain ⟨k, l, hk, rfl, hl, hll, hown, hW⟩ := hrel
    clear hnew
    by_cases hlt : k < n
    · obtain ⟨bk, off, x, rfl, _, hx, hc⟩ := (H.out.below hW).elem hlt
      have g0 : wr.cell? ⟨bk, off + k, none⟩ = some (.string ⟨x.toArray⟩) := by simpa using hc 0 _ rfl
      have hk64 : (k : Int) ≤ 64 := by omega
      cases hb : hasBit b k
      · have hbe : (bits .and .i64 (b / 2 ^ k) 1 == 1) = false := hb
        have HN := Lib.hid (show l = selTo b ws (k + 1) by rw [selTo_no hb, hl])
        have Hown := Lib.hid hown
        have HW := Lib.hid hW
        clear hl hown hW hc hx hb
        go_wp2
        go_roundw
        case rel => exact ⟨k + 1, l, by omega, by go_num, HN.out, by omega, Hown.out, HW.out⟩
        case measure => simp [intOf]; omega
      · have hbe : (bits .and .i64 (b / 2 ^ k) 1 == 1) = true := hb
        have HN := Lib.hid (show l ++ [x] = selTo b ws (k + 1) by rw [selTo_yes hx hb, hl])
        have Hown2 := Lib.hid (hown.alloc (.cells #[.string ⟨x.toArray⟩] 9))
        have Hrd := Lib.hid (Rd.new (enc := encStr) (k := 1) (fun _ => rfl) wr #[.string ⟨x.toArray⟩] 9 (n := 1) [x] rfl rfl)
        have HB := Lib.hid (hW.alloc hW.size (.cells #[.string ⟨x.toArray⟩] 9))
        have hsz := hW.size
        clear hl hown hW hc hx hb
        go_wp2_with (at_builtin; refine wpList_app (enc := encStr) (k := 1) (fun _ => rfl) (fun _ u hu => by simp at hu; subst hu; rfl) (by omega) rfl _ _ 51 9 rfl (.string ByteArray.empty) 16 Try.underlying51 (by kernel_rfl) rfl w.heap.size _ l rfl Hown2.out _ _ _ _ rfl Hrd.out (by omega) (by omega) (by simp; omega) ?_; intro v' w' hown' hbel')
        go_roundw
        case rel => exact ⟨k + 1, l ++ [x], by omega, by go_num, HN.out, by simp; omega, hown', HB.out.trans hbel'⟩
        case measure => simp [intOf]; omega
    · have hke : k = n := by omega
      subst hke
      have Hl := Lib.hid hl
      have Hown := Lib.hid hown
      have HB := Lib.hid hW
      clear hl hown hW
      go_wp2
      go_ret
      have ho := Hown.out
      rw [Hl.out] at ho
      exact retOwn_mk ho HB.out
set_option maxHeartbeats 800000 in
theorem impl_FlagsText (b : Int) (w : World) :
    Calls Try.prog 45 #[.int .i64 b] w fun e w' => e = .returned (.string ⟨(flagsText b).toArray⟩) ∧ Below w.heap.size w w' := by
  cases hr : inR b 0 31
  · have HF := Lib.hid (show flagsText b = [] by unfold flagsText; rw [hr]; rfl)
    go_enter Try.func45, Try.ntmps45
    go_wp2_with (go_at_call 63; refine (impl_FlagsOk _ _).mono ?_; rintro e w' ⟨rfl, rfl⟩; rw [hr])
    go_ret
    exact ⟨ret_s (by rw [HF.out]), Below.refl _ _⟩
  · have HF := Lib.hid (show flagsText b = Lib.join (selTo b flagList 5) [32] by unfold flagsText; rw [hr]; rfl)
    have HR := Lib.hid (flagList_rd w 9)
    go_enter Try.func45, Try.ntmps45
    go_wp2_with (first | (go_at_call 63; refine (impl_FlagsOk _ _).mono ?_; rintro e w' ⟨rfl, rfl⟩; rw [hr]) | (go_at_call 94; refine (impl_flagWords _).mono ?_; rintro e w' ⟨rfl, rfl⟩))
    refine (impl_namesOf _ 5 5 b flagList _ (by omega) HR.out flagList_fit).mono ?_
    rintro e w2 ⟨A2, c2, rfl, hown, hb2⟩
    have HB2 := Lib.hid (Below.trans (by go_grown : Below w.heap.size w _) (hb2.mono (by simp)))
    have hcap := own_cap hown
    have hlen := selTo_len b flagList 5
    have Hrd := Lib.hid (Rd.of_own (enc := encStr) (k := 1) (fun _ => rfl) hown rfl)
    clear hown hb2
    go_wp2_with fail
    refine (impl_Joined _ _ _ (selTo b flagList 5) ⟨#[32]⟩ _ (by omega) hcap Hrd.out (fun y hy => flagList_fit y (selTo_mem hy)) (by decide)).mono ?_
    rintro e w3 ⟨rfl, hb3⟩
    have HB3 := Lib.hid (HB2.out.trans (hb3.mono HB2.out.size))
    clear hb3
    go_wp2
    go_ret
    exact ⟨ret_s (by rw [HF.out]), HB3.out⟩
set_option maxHeartbeats 1600000 in
theorem spec_FlagsText (b : Int) (w : World) :
    Calls Try.prog 44 #[.int .i64 b] w fun e w' => e = .returned (.string ⟨(flagsText b).toArray⟩) ∧ Below w.heap.size w w' := by
  have hnew := World.ownsRow_made (base := w.heap.size) (e := 9) (size := 1) w #[] 0 (Nat.le_refl _) (by unfold maxLen; omega) rfl
  cases hr : inR b 0 31
  · have HF := Lib.hid (show flagsText b = [] by unfold flagsText; rw [hr]; rfl)
    go_enter Try.func44, Try.ntmps44
    go_wp2_with fail
    go_loopw [3, 4] (fun o i wr => i = .int .i64 0 ∧ o = .slice (some ⟨w.heap.size, 0, none⟩) 0 0 ∧ Below w.heap.size w wr) (fun _ i _ => 0)
    case atStart => exact ⟨rfl, rfl, (Below.refl _ _).alloc (Nat.le_refl _) _⟩
    case round =>
      obtain ⟨rfl, rfl, hW⟩ := hrel
      have HW := Lib.hid hW
      clear hW hnew
      go_wp2_with (go_at_call 53; refine (spec_FlagsOk _ _).mono ?_; rintro e w' ⟨rfl, rfl⟩; rw [hr])
      refine (spec_Joined _ 0 _ [] ⟨#[32]⟩ _ (by omega) (Rd.none_ _ _ _ _) (fun y hy => by cases hy) (by decide)).mono ?_
      rintro e w3 ⟨rfl, hb3⟩
      have HB3 := Lib.hid (HW.out.trans (hb3.mono HW.out.size))
      clear hb3
      go_wp2
      go_ret
      exact ⟨ret_s (by rw [HF.out]; rfl), HB3.out⟩
  · have HF := Lib.hid (show flagsText b = Lib.join (selTo b flagList 5) [32] by unfold flagsText; rw [hr]; rfl)
    go_enter Try.func44, Try.ntmps44
    go_wp2_with fail
    go_loopw [3, 4] (fun o i wr => ∃ (k : Nat) (l : List Str), k ≤ 5 ∧ i = .int .i64 k ∧ l = selTo b flagList k ∧ l.length ≤ k ∧ wr.ownsRow w.heap.size 9 1 o l.length (l.flatMap encStr) ∧ Below w.heap.size w wr) (fun _ i _ => 5 - (intOf i).toNat)
    case atStart => exact ⟨0, [], by omega, rfl, rfl, Nat.le_refl _, hnew, (Below.refl _ _).alloc (Nat.le_refl _) _⟩
    case round =>
      obtain ⟨k, l, hk, rfl, hl, hll, hown, hW⟩ := hrel
      clear hnew
      by_cases hlt : k < 5
      · have hki : (k : Int) < 5 := by omega
        have hk64 : (k : Int) ≤ 64 := by omega
        obtain ⟨x, hx⟩ : ∃ x, flagList[k]? = some x := ⟨_, List.getElem?_eq_getElem (show k < flagList.length from hlt)⟩
        cases hb : hasBit b k
        · have hbe : (bits .and .i64 (b / 2 ^ k) 1 == 1) = false := hb
          have HN := Lib.hid (show l = selTo b flagList (k + 1) by rw [selTo_no hb, hl])
          have Hown := Lib.hid hown
          have HW := Lib.hid hW
          clear hl hown hW hx hb
          go_wp2_with (go_at_call 53; refine (spec_FlagsOk _ _).mono ?_; rintro e w' ⟨rfl, rfl⟩; rw [hr])
          go_roundw
          case rel => exact ⟨k + 1, l, by omega, by go_num, HN.out, by omega, Hown.out, HW.out⟩
          case measure => simp [intOf]; omega
        · have hbe : (bits .and .i64 (b / 2 ^ k) 1 == 1) = true := hb
          have HN := Lib.hid (show l ++ [x] = selTo b flagList (k + 1) by rw [selTo_yes hx hb, hl])
          have hcell : (wr.alloc (.cells (flagList.map fun l => Value.string ⟨l.toArray⟩).toArray 9)).cell? ⟨wr.heap.size, k, none⟩ = some (.string ⟨x.toArray⟩) := by
            rw [World.cell?_alloc_mark, List.getElem?_toArray, List.getElem?_map, hx]; rfl
          generalize hw1 : wr.alloc (.cells (flagList.map fun l => Value.string ⟨l.toArray⟩).toArray 9) = w1 at hcell
          have hown1 : w1.ownsRow w.heap.size 9 1 u3 l.length (l.flatMap encStr) := by rw [← hw1]; exact hown.alloc _
          have hW1 : Below w.heap.size w w1 := by rw [← hw1]; exact hW.alloc hW.size _
          have Hown2 := Lib.hid (hown1.alloc (.cells #[.string ⟨x.toArray⟩] 9))
          have Hrd := Lib.hid (Rd.new (enc := encStr) (k := 1) (fun _ => rfl) w1 #[.string ⟨x.toArray⟩] 9 (n := 1) [x] rfl rfl)
          have HB := Lib.hid (hW1.alloc hW1.size (.cells #[.string ⟨x.toArray⟩] 9))
          have hsz := hW1.size
          have HW1 := Lib.hid hw1
          clear hl hown hW hx hb hown1 hW1 hw1
          go_wp2_with (first
            | (go_at_call 53; refine (spec_FlagsOk _ _).mono ?_; rintro e w' ⟨rfl, rfl⟩; rw [hr])
            | (go_at_call 93; refine (spec_l5Words _).mono ?_; rw [HW1.out]; rintro e w' ⟨rfl, rfl⟩)
            | (at_builtin; refine wpList_app (enc := encStr) (k := 1) (fun _ => rfl) (fun _ u hu => by simp at hu; subst hu; rfl) (by omega) rfl _ _ 51 9 rfl (.string ByteArray.empty) 16 Try.underlying51 (by kernel_rfl) rfl w.heap.size _ l rfl Hown2.out _ _ _ _ rfl Hrd.out (by omega) (by omega) (by simp; omega) ?_; intro v' w' hown' hbel'))
          go_roundw
          case rel => exact ⟨k + 1, l ++ [x], by omega, by go_num, HN.out, by simp; omega, hown', HB.out.trans hbel'⟩
          case measure => simp [intOf]; omega
      · have hke : k = 5 := by omega
        subst hke
        have Hl := Lib.hid hl
        obtain ⟨A2, c2, rfl⟩ := own_form hown
        have Hrd := Lib.hid (Rd.of_own (enc := encStr) (k := 1) (fun _ => rfl) hown rfl)
        have HB := Lib.hid hW
        clear hl hown hW
        go_wp2_with fail
        refine (spec_Joined _ _ _ l ⟨#[32]⟩ _ (by omega) Hrd.out (fun y hy => flagList_fit y (selTo_mem (by rw [← Hl.out]; exact hy))) (by decide)).mono ?_
        rintro e w3 ⟨rfl, hb3⟩
        have HB3 := Lib.hid (HB.out.trans (hb3.mono HB.out.size))
        clear hb3
        go_wp2
        go_ret
        exact ⟨ret_s (by rw [HF.out, Hl.out]), HB3.out⟩
theorem walk_FnExactFlagsText (a0 : Int) (w : World) (_w0 : (Lit.int .i64 a0).wf = true) :
    Calls Try.prog 11 #[.int .i64 a0] w fun e w' => e = .returned (.bool true) ∧ Below w.heap.size w w' := by
  generalize hR : (⟨(flagsText a0).toArray⟩ : ByteArray) = R
  have HR := Lib.hid hR
  clear hR
  go_enter Try.func11, Try.ntmps11
  go_wp2_with fail
  refine (spec_FlagsText _ _).mono ?_
  rintro e w1 ⟨rfl, hb1⟩
  rw [HR.out]
  have HB1 := Lib.hid hb1
  clear hb1
  go_wp2_with fail
  refine (impl_FlagsText _ _).mono ?_
  rintro e w2 ⟨rfl, hb2⟩
  rw [HR.out]
  have HB2 := Lib.hid (HB1.out.trans (hb2.mono HB1.out.size))
  clear hb2
  go_wp2
  go_ret
  exact ⟨rfl, HB2.out⟩

end Go.Proofs.Ytjiboekeeafpoaa
