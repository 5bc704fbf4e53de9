/-
  Walks: what each function returns, and that it leaves what lay in memory as it was.
-/
import Derived.Test.YthccfnoebbimjaaProg
import Derived.Test.YthccfnoebbimjaaPlain
import Derived.Test.YthccfnoebbimjaaBase2
import Derived.Test.YthccfnoebbimjaaOpen2
import Derived.Test.YthccfnoebbimjaaShelf
import Derived.WalkKit
import Derived.WalkSpells
import Derived.WalkLawsBesides
import Derived.Lib.Hide
import Derived.Deep.LoopGhost
import Derived.Deep.QuietTactic
import Derived.BigQuiet
import Derived.Handy
import Derived.Deep.RegionHeld3
import Derived.StillTailTactics
import Derived.OpenShut
import Derived.ChangeSame
import Derived.Laws.StructEq

import Derived.Test.YthccfnoebbimjaaPlainT

import Derived.Test.YthccfnoebbimjaaW1

import Derived.Test.YthccfnoebbimjaaW3

import Derived.Test.YthccfnoebbimjaaBase3

namespace Go.Proofs.Ythccfnoebbimjaa
open Go.ChangeShapes Go.WideShapes Go.ChangeAt Go.RowKit Go.Deep
set_option linter.unusedVariables false
set_option linter.unusedSimpArgs false

set_option maxRecDepth 20000

set_option maxHeartbeats 1600000 in
theorem impl_hasNumber (A : Option Addr) (n c : Nat) (xs : List Span) (x last : Int) (w : World) (hn : n ≤ 4611686018427387904) (h : Rd encSpan 2 w A n xs) :
    Calls Try.prog 31 #[.slice A n c, .int .i64 x, .int .i64 last] w fun e w' => e = .returned (.bool (hasNum xs x last)) ∧ Below w.heap.size w w' := by
  have hb1 : Below w.heap.size w (w.alloc (.cells #[.int .i64 x] 3)) := (Below.refl _ _).alloc (Nat.le_refl _) _
  have hb2 : Below w.heap.size w ((w.alloc (.cells #[.int .i64 x] 3)).alloc (.cells #[.int .i64 last] 3)) := hb1.alloc hb1.size _
  have q2 : ((w.alloc (.cells #[.int .i64 x] 3)).alloc (.cells #[.int .i64 last] 3)).cell? ⟨w.heap.size, 0, none⟩ = some (.int .i64 x) := by
    have h1 := (Holds.new w [.int .i64 x] 3)
    have h2 := h1.below ((Below.refl _ _).alloc (Nat.le_refl _) (.cells #[.int .i64 last] 3))
    exact h2.2 0 _ rfl
  have q1 : ((w.alloc (.cells #[.int .i64 x] 3)).alloc (.cells #[.int .i64 last] 3)).cell? ⟨w.heap.size + 1, 0, none⟩ = some (.int .i64 last) := by
    have h1 := (Holds.new (w.alloc (.cells #[.int .i64 x] 3)) [.int .i64 last] 3)
    have h2 := h1.2 0 _ rfl
    exact (by simp : (w.alloc (.cells #[.int .i64 x] 3)).heap.size = w.heap.size + 1) ▸ h2
  have hc := slices_ContainsFunc_Span A n c 63 #[.pointer (some ⟨w.heap.size + 1, 0, none⟩), .pointer (some ⟨w.heap.size, 0, none⟩)] (spanIn x last) xs _ hn (h.below hb2) (enters_of Try.func63 (by kernel_rfl) rfl)
    (fun W p hb => impl_hasNumber_1 p x last _ _ W ((hb.cell (p := ⟨w.heap.size + 1, 0, none⟩) (World.block_lt_of_cell? _ _ q1)).trans q1) ((hb.cell (p := ⟨w.heap.size, 0, none⟩) (World.block_lt_of_cell? _ _ q2)).trans q2))
  have HC := Lib.hid hc
  have HB := Lib.hid hb2
  clear hc h q1 q2 hb1 hb2
  go_enter Try.func31, Try.ntmps31
  go_wp2_with fail
  refine HC.out.mono ?_
  rintro e w2 ⟨rfl, hb⟩
  have HB2 := Lib.hid (HB.out.trans (hb.mono HB.out.size))
  go_wp2
  go_ret
  exact ⟨rfl, HB2.out⟩
def memTo (xs : List Span) (last : Int) (k : Nat) : List Int := ((List.range k).map (fun (j : Nat) => (j : Int) + 1)).filter (fun x => hasNum xs x last)
theorem memTo_yes {xs : List Span} {last : Int} {k : Nat} (h : hasNum xs ((k : Int) + 1) last = true) : memTo xs last (k + 1) = memTo xs last k ++ [(k : Int) + 1] := by
  unfold memTo; rw [List.range_succ, List.map_append, List.filter_append]; simp [h]
theorem memTo_no {xs : List Span} {last : Int} {k : Nat} (h : hasNum xs ((k : Int) + 1) last = false) : memTo xs last (k + 1) = memTo xs last k := by
  unfold memTo; rw [List.range_succ, List.map_append, List.filter_append]; simp [h]
theorem memTo_len (xs : List Span) (last : Int) (k : Nat) : (memTo xs last k).length ≤ k := by
  unfold memTo; have := List.length_filter_le (fun x => hasNum xs x last) ((List.range k).map (fun (j : Nat) => (j : Int) + 1)); simpa using this
def members (xs : List Span) (n : Int) : List Int := memTo xs (iMin n 999) (iMin n 999).toNat
theorem members_len (xs : List Span) (n : Int) : (members xs n).length ≤ 999 := by
  unfold members
  have := memTo_len xs (iMin n 999) (iMin n 999).toNat
  have h2 : (iMin n 999) ≤ 999 := by unfold iMin; split <;> omega
  omega
set_option maxHeartbeats 1600000 in
theorem spec_Members (A : Option Addr) (n c : Nat) (xs : List Span) (m : Int) (w : World) (hn : n ≤ 4611686018427387904) (hm0 : -9223372036854775808 ≤ m) (h : Rd encSpan 2 w A n xs) :
    Calls Try.prog 11 #[.slice A n c, .int .i64 m] w (RetOwn encI 1 3 w (members xs m)) := by
  obtain ⟨M, hM⟩ : ∃ M, iMin m 999 = M := ⟨_, rfl⟩
  have hM1 : M ≤ 999 := by rw [← hM]; unfold iMin; split <;> omega
  have hM0 : -9223372036854775808 ≤ M := by rw [← hM]; unfold iMin; split <;> omega
  obtain ⟨R, hR⟩ : ∃ R, members xs m = R := ⟨_, rfl⟩
  have HR := Lib.hid (show memTo xs M M.toNat = R by rw [← hR, ← hM]; rfl)
  rw [hR]
  have H := Lib.hid h
  have HM := Lib.hid hM
  have hnew := World.ownsRow_made (base := w.heap.size) (e := 3) (size := 1) w #[] 0 (Nat.le_refl _) (by unfold maxLen; omega) rfl
  clear h hR hM
  go_enter Try.func11, Try.ntmps11
  go_wp2_with (go_at_call 32; refine (spec_l1Min _ _ _).mono ?_; rw [HM.out]; rintro e w' ⟨rfl, rfl⟩)
  go_loopw [5, 6] (fun o i wr => ∃ (k : Nat) (l : List Int), (k : Int) ≤ max M 0 ∧ i = .int .i64 ((k : Int) + 1) ∧ Hid (memTo xs M k = l) ∧ l.length ≤ k ∧ wr.ownsRow w.heap.size 3 1 o l.length (l.flatMap encI) ∧ Below w.heap.size w wr) (fun _ i _ => (M + 1 - intOf i).toNat)
  case atStart => exact ⟨0, [], by omega, rfl, Lib.hid rfl, by simp, hnew, (Below.refl _ _).alloc (Nat.le_refl _) _⟩
  case round =>
    obtain ⟨k, l, hk, rfl, hq, hll, hown, hW⟩ := hrel
    clear hnew
    have HW := Lib.hid hW
    have Hown := Lib.hid hown
    have hsz := hW.size
    clear hW hown
    by_cases hlt : (k : Int) + 1 ≤ M
    · have HC := Lib.hid (spec_l4In A n c xs ((k : Int) + 1) M wr hn (H.out.below HW.out))
      obtain ⟨b, hb⟩ : ∃ b, hasNum xs ((k : Int) + 1) M = b := ⟨_, rfl⟩
      rw [hb] at HC
      cases b with
      | true =>
        have HN := Lib.hid (show memTo xs M (k + 1) = l ++ [(k : Int) + 1] by rw [memTo_yes hb, hq.out])
        have Hown2 := Lib.hid (Hown.out.alloc (.cells #[.int .i64 ((k : Int) + 1)] 3))
        have Hrd2 := Lib.hid (Rd.new (enc := encI) (k := 1) (fun _ => rfl) wr #[.int .i64 ((k : Int) + 1)] 3 (n := 1) [(k : Int) + 1] rfl rfl)
        have HB3 := Lib.hid (HW.out.alloc hsz (.cells #[.int .i64 ((k : Int) + 1)] 3))
        clear hq hb
        go_wp2_with (first | (go_at_call 33; refine HC.out.mono ?_; rintro e w' ⟨rfl, rfl⟩) | (at_builtin; refine wpList_app (enc := encI) (k := 1) (fun _ => rfl) (fun _ u hu => by simp at hu; subst hu; rfl) (by omega) rfl _ _ 27 3 rfl (.int .i64 0) 8 Try.underlying27 (by kernel_rfl) rfl w.heap.size _ l rfl Hown2.out _ _ _ _ rfl Hrd2.out (by first | omega | (simp; omega)) (by omega) (by first | omega | (simp; omega)) ?_; intro v2 w2 hown2 hbel2))
        have HB := Lib.hid (HB3.out.trans hbel2)
        clear hbel2
        go_roundw
        case rel => exact ⟨k + 1, l ++ [(k : Int) + 1], by omega, by go_num, HN, by simp; omega, hown2, HB.out⟩
        case measure => simp [intOf]; omega
      | false =>
        have HN := Lib.hid (show memTo xs M (k + 1) = l by rw [memTo_no hb, hq.out])
        clear hq hb
        go_wp2_with (go_at_call 33; refine HC.out.mono ?_; rintro e w' ⟨rfl, rfl⟩)
        go_roundw
        case rel => exact ⟨k + 1, l, by omega, by go_num, HN, by omega, Hown.out, HW.out⟩
        case measure => simp [intOf]; omega
    · have hke : k = M.toNat := by omega
      have HF := Lib.hid (show l = R by rw [← HR.out, ← hke, hq.out])
      clear hq
      go_wp2
      go_ret
      have := Hown.out
      rw [HF.out] at this
      exact retOwn_mk this HW.out
set_option maxHeartbeats 1600000 in
theorem impl_Members (A : Option Addr) (n c : Nat) (xs : List Span) (m : Int) (w : World) (hn : n ≤ 4611686018427387904) (hm0 : -9223372036854775808 ≤ m) (h : Rd encSpan 2 w A n xs) :
    Calls Try.prog 9 #[.slice A n c, .int .i64 m] w (RetOwn encI 1 3 w (members xs m)) := by
  by_cases hm1 : m < 1
  · have HF := Lib.hid (show members xs m = [] by
      unfold members
      have : (iMin m 999).toNat = 0 := by unfold iMin; split <;> omega
      rw [this]; rfl)
    clear h
    go_enter Try.func9, Try.ntmps9
    go_wp2
    go_ret
    rw [HF.out]
    exact ⟨none, 0, rfl, World.ownsRow_nil _ _ _ _, Below.refl _ _⟩
  obtain ⟨M, hM⟩ : ∃ M, iMin m 999 = M := ⟨_, rfl⟩
  have hM1 : M ≤ 999 := by rw [← hM]; unfold iMin; split <;> omega
  have hM0 : 1 ≤ M := by rw [← hM]; unfold iMin; split <;> omega
  have hmin : min m 999 = M := by rw [← hM]; unfold iMin; split <;> omega
  obtain ⟨R, hR⟩ : ∃ R, members xs m = R := ⟨_, rfl⟩
  have HR := Lib.hid (show memTo xs M M.toNat = R by rw [← hR, ← hM]; rfl)
  rw [hR]
  have H := Lib.hid h
  have HM := Lib.hid hM
  have hnew := World.ownsRow_made (base := w.heap.size) (e := 3) (size := 1) w #[] 0 (Nat.le_refl _) (by unfold maxLen; omega) rfl
  clear h hR hM
  go_enter Try.func9, Try.ntmps9
  go_wp2_with fail
  go_loopw [5, 6] (fun o i wr => ∃ (k : Nat) (l : List Int), (k : Int) ≤ max M 0 ∧ i = .int .i64 ((k : Int) + 1) ∧ Hid (memTo xs M k = l) ∧ l.length ≤ k ∧ wr.ownsRow w.heap.size 3 1 o l.length (l.flatMap encI) ∧ Below w.heap.size w wr) (fun _ i _ => (M + 1 - intOf i).toNat)
  case atStart => exact ⟨0, [], by omega, rfl, Lib.hid rfl, by simp, hnew, (Below.refl _ _).alloc (Nat.le_refl _) _⟩
  case round =>
    obtain ⟨k, l, hk, rfl, hq, hll, hown, hW⟩ := hrel
    clear hnew
    have HW := Lib.hid hW
    have Hown := Lib.hid hown
    have hsz := hW.size
    clear hW hown
    by_cases hlt : (k : Int) + 1 ≤ M
    · have HC := Lib.hid (impl_hasNumber A n c xs ((k : Int) + 1) M wr hn (H.out.below HW.out))
      obtain ⟨b, hb⟩ : ∃ b, hasNum xs ((k : Int) + 1) M = b := ⟨_, rfl⟩
      rw [hb] at HC
      cases b with
      | true =>
        have HN := Lib.hid (show memTo xs M (k + 1) = l ++ [(k : Int) + 1] by rw [memTo_yes hb, hq.out])
        clear hq hb
        go_wp2_with fail
        refine HC.out.mono ?_
        rintro e w1 ⟨rfl, hb1⟩
        have HW1 := Lib.hid (HW.out.trans (hb1.mono hsz))
        have hsz1 := HW1.out.size
        have Hown2 := Lib.hid ((own_below Hown.out hb1).alloc (.cells #[.int .i64 ((k : Int) + 1)] 3))
        have Hrd2 := Lib.hid (Rd.new (enc := encI) (k := 1) (fun _ => rfl) w1 #[.int .i64 ((k : Int) + 1)] 3 (n := 1) [(k : Int) + 1] rfl rfl)
        have HB3 := Lib.hid (HW1.out.alloc hsz1 (.cells #[.int .i64 ((k : Int) + 1)] 3))
        clear hb1
        go_wp2_with (at_builtin; refine wpList_app (enc := encI) (k := 1) (fun _ => rfl) (fun _ u hu => by simp at hu; subst hu; rfl) (by omega) rfl _ _ 27 3 rfl (.int .i64 0) 8 Try.underlying27 (by kernel_rfl) rfl w.heap.size _ l rfl Hown2.out _ _ _ _ rfl Hrd2.out (by first | omega | (simp; omega)) (by omega) (by first | omega | (simp; omega)) ?_; intro v2 w2 hown2 hbel2)
        have HB := Lib.hid (HB3.out.trans hbel2)
        clear hbel2
        go_roundw
        case rel => exact ⟨k + 1, l ++ [(k : Int) + 1], by omega, by go_num, HN, by simp; omega, hown2, HB.out⟩
        case measure => simp [intOf]; omega
      | false =>
        have HN := Lib.hid (show memTo xs M (k + 1) = l by rw [memTo_no hb, hq.out])
        clear hq hb
        go_wp2_with fail
        refine HC.out.mono ?_
        rintro e w1 ⟨rfl, hb1⟩
        have HW1 := Lib.hid (HW.out.trans (hb1.mono hsz))
        have Hown2 := Lib.hid (own_below Hown.out hb1)
        clear hb1
        go_wp2
        go_roundw
        case rel => exact ⟨k + 1, l, by omega, by go_num, HN, by omega, Hown2.out, HW1.out⟩
        case measure => simp [intOf]; omega
    · have hke : k = M.toNat := by omega
      have HF := Lib.hid (show l = R by rw [← HR.out, ← hke, hq.out])
      clear hq
      go_wp2
      go_ret
      have := Hown.out
      rw [HF.out] at this
      exact retOwn_mk this HW.out

end Go.Proofs.Ythccfnoebbimjaa
