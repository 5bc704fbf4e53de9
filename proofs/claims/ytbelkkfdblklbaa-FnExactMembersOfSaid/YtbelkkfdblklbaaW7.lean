/-
  Walks: what each function returns, and that it leaves what lay in memory as it was.
-/
import Derived.Test.YtbelkkfdblklbaaProg
import Derived.Test.YtbelkkfdblklbaaPlain
import Derived.Test.YtbelkkfdblklbaaBase2
import Derived.Test.YtbelkkfdblklbaaOpen2
import Derived.Test.YtbelkkfdblklbaaShelf
import Derived.WalkKit
import Derived.WalkSpells
import Derived.WalkLawsBesides
import Derived.Lib.Hide
import Derived.Deep.LoopGhost
import Derived.Deep.QuietTactic
import Derived.BigQuiet
import Derived.Handy
import Derived.Deep.RegionHeld3
import Derived.StillTailTactics
import Derived.OpenShut
import Derived.ChangeSame
import Derived.Laws.StructEq

import Derived.Test.YtbelkkfdblklbaaPlainT

import Derived.Test.YtbelkkfdblklbaaW1

import Derived.Test.YtbelkkfdblklbaaW5

import Derived.Test.YtbelkkfdblklbaaW6

import Derived.Test.YtbelkkfdblklbaaBase3

namespace Go.Proofs.Ytbelkkfdblklbaa
open Go.ChangeShapes Go.WideShapes Go.ChangeAt Go.RowKit Go.Deep
set_option linter.unusedVariables false
set_option linter.unusedSimpArgs false

set_option maxRecDepth 20000

def membersOf (xs : List Span) (ids : List Int) : List Int := ids.filter (fun x => hasNum xs x (Lib.maxOf ids))
def mxTo (ids : List Int) (k : Nat) : Int := (ids.take k).foldl max (ids.headD 0)
theorem mxTo_succ {ids : List Int} {k : Nat} {x : Int} (h : ids[k]? = some x) : mxTo ids (k + 1) = iMax (mxTo ids k) x := by
  obtain ⟨h1, h2⟩ := List.getElem?_eq_some_iff.1 h
  unfold mxTo
  rw [List.take_succ_eq_append_getElem h1, List.foldl_append, h2, iMax_eq]
  rfl
theorem mxTo_all (ids : List Int) {k : Nat} (h : ids.length ≤ k) : mxTo ids k = Lib.maxOf ids := by
  unfold mxTo Lib.maxOf; rw [List.take_of_length_le h]
theorem filt_yes {p : Int → Bool} {ids : List Int} {k : Nat} {x : Int} (h : ids[k]? = some x) (hp : p x = true) : (ids.take (k + 1)).filter p = (ids.take k).filter p ++ [x] := by
  obtain ⟨h1, h2⟩ := List.getElem?_eq_some_iff.1 h
  rw [List.take_succ_eq_append_getElem h1, List.filter_append, h2]; simp [hp]
theorem filt_no {p : Int → Bool} {ids : List Int} {k : Nat} {x : Int} (h : ids[k]? = some x) (hp : p x = false) : (ids.take (k + 1)).filter p = (ids.take k).filter p := by
  obtain ⟨h1, h2⟩ := List.getElem?_eq_some_iff.1 h
  rw [List.take_succ_eq_append_getElem h1, List.filter_append, h2]; simp [hp]
theorem filt_len (p : Int → Bool) (ids : List Int) (k : Nat) : ((ids.take k).filter p).length ≤ k := by
  have h1 := List.length_filter_le p (ids.take k)
  have h2 : (ids.take k).length ≤ k := by simp; omega
  omega
set_option maxHeartbeats 1600000 in
theorem impl_MembersOf (A B : Option Addr) (n c m d : Nat) (xs : List Span) (ids : List Int) (w : World) (hn : n ≤ 4611686018427387904) (hm : m ≤ 1048576) (h : Rd encSpan 2 w A n xs) (hi : Rd encI 1 w B m ids) :
    Calls Try.prog 22 #[.slice A n c, .slice B m d] w (RetOwn encI 1 3 w (membersOf xs ids)) := by
  obtain ⟨R, hR⟩ : ∃ R, membersOf xs ids = R := ⟨_, rfl⟩
  obtain ⟨M, hM⟩ : ∃ M, Lib.maxOf ids = M := ⟨_, rfl⟩
  have HR := Lib.hid (show ids.filter (fun x => hasNum xs x M) = R by rw [← hR, ← hM]; rfl)
  rw [hR]
  have H := Lib.hid h
  have HI := Lib.hid hi
  have HL := Lib.hid hi.1
  have HM := Lib.hid hM
  have hnew := World.ownsRow_made (base := w.heap.size) (e := 3) (size := 1) w #[] 0 (Nat.le_refl _) (by unfold maxLen; omega) rfl
  clear h hi hR hM
  go_enter Try.func22, Try.ntmps22
  go_wp2_with fail
  go_loopw [5, 11] (fun o i wr => ∃ (k : Nat) (l : List Int), k ≤ m ∧ i = .int .i64 k ∧ Hid ((ids.take k).filter (fun x => hasNum xs x M) = l) ∧ l.length ≤ k ∧ wr.ownsRow w.heap.size 3 1 o l.length (l.flatMap encI) ∧ Below w.heap.size w wr) (fun _ i _ => m - (intOf i).toNat)
  case atStart => exact ⟨0, [], by omega, rfl, Lib.hid (by simp), by simp, hnew, (Below.refl _ _).alloc (Nat.le_refl _) _⟩
  case round =>
    obtain ⟨k, l, hk, rfl, hq, hll, hown, hW⟩ := hrel
    clear hnew
    have HW := Lib.hid hW
    have Hown := Lib.hid hown
    have hsz := hW.size
    clear hW hown
    by_cases hlt : k < m
    · obtain ⟨bk, off, x, rfl, hbk, hx, hc⟩ := (HI.out.below HW.out).elem hlt
      have g0 : wr.cell? ⟨bk, off + k, none⟩ = some (.int .i64 x) := by simpa using hc 0 _ rfl
      obtain ⟨b2, off2, he2, _, hc2⟩ := (HI.out.below HW.out).2 (by omega)
      injection he2 with he2; injection he2 with e1 e2
      subst e1; subst e2
      have HMx := Lib.hid (Try.slices_Max_int bk off m d ids wr (by omega) (by rw [HL.out]; omega) (by omega) (fun j hj => by
        have h1 : ids[j]? = some ids[j] := List.getElem?_eq_getElem hj
        have h2 := hc2 j _ h1 0 _ rfl
        rw [List.getD_eq_getElem?_getD, h1]
        simpa using h2))
      rw [List.take_of_length_le (by rw [HL.out]; omega), HM.out] at HMx
      have HC := Lib.hid (impl_hasNumber A n c xs x M wr hn (H.out.below HW.out))
      obtain ⟨b, hb⟩ : ∃ b, hasNum xs x M = b := ⟨_, rfl⟩
      rw [hb] at HC
      clear hc hc2
      cases b with
      | true =>
        have HN := Lib.hid (show (ids.take (k + 1)).filter (fun x => hasNum xs x M) = l ++ [x] by rw [filt_yes hx hb, hq.out])
        clear hq hb hx
        go_wp2_with fail
        refine HMx.out.mono ?_
        rintro e w0 ⟨rfl, rfl⟩
        go_wp2_with fail
        refine HC.out.mono ?_
        rintro e w1 ⟨rfl, hb1⟩
        have HW1 := Lib.hid (HW.out.trans (hb1.mono hsz))
        have hsz1 := HW1.out.size
        have Hown2 := Lib.hid ((own_below Hown.out hb1).alloc (.cells #[.int .i64 x] 3))
        have Hrd2 := Lib.hid (Rd.new (enc := encI) (k := 1) (fun _ => rfl) w1 #[.int .i64 x] 3 (n := 1) [x] rfl rfl)
        have HB3 := Lib.hid (HW1.out.alloc hsz1 (.cells #[.int .i64 x] 3))
        clear hb1
        go_wp2_with (at_builtin; refine wpList_app (enc := encI) (k := 1) (fun _ => rfl) (fun _ u hu => by simp at hu; subst hu; rfl) (by omega) rfl _ _ 31 3 rfl (.int .i64 0) 8 Try.underlying31 (by kernel_rfl) rfl w.heap.size _ l rfl Hown2.out _ _ _ _ rfl Hrd2.out (by first | omega | (simp; omega)) (by omega) (by first | omega | (simp; omega)) ?_; intro v2 w2 hown2 hbel2)
        have HB := Lib.hid (HB3.out.trans hbel2)
        clear hbel2
        go_roundw
        case rel => exact ⟨k + 1, l ++ [x], by omega, by go_num, HN, by simp; omega, hown2, HB.out⟩
        case measure => simp [intOf]; omega
      | false =>
        have HN := Lib.hid (show (ids.take (k + 1)).filter (fun x => hasNum xs x M) = l by rw [filt_no hx hb, hq.out])
        clear hq hb hx
        go_wp2_with fail
        refine HMx.out.mono ?_
        rintro e w0 ⟨rfl, rfl⟩
        go_wp2_with fail
        refine HC.out.mono ?_
        rintro e w1 ⟨rfl, hb1⟩
        have HW1 := Lib.hid (HW.out.trans (hb1.mono hsz))
        have Hown2 := Lib.hid (own_below Hown.out hb1)
        clear hb1
        go_wp2
        go_roundw
        case rel => exact ⟨k + 1, l, by omega, by go_num, HN, by omega, Hown2.out, HW1.out⟩
        case measure => simp [intOf]; omega
    · have hke : k = m := by omega
      have HF := Lib.hid (show l = R by
        have h := hq.out
        rw [List.take_of_length_le (by rw [HL.out]; omega)] at h
        rw [← HR.out, h])
      clear hq
      go_wp2
      go_ret
      have := Hown.out
      rw [HF.out] at this
      exact retOwn_mk this HW.out
set_option maxHeartbeats 1600000 in
theorem spec_MembersOf (A B : Option Addr) (n c m d : Nat) (xs : List Span) (ids : List Int) (w : World) (hn : n ≤ 4611686018427387904) (hm : m ≤ 1048576) (h : Rd encSpan 2 w A n xs) (hi : Rd encI 1 w B m ids) :
    Calls Try.prog 20 #[.slice A n c, .slice B m d] w (RetOwn encI 1 3 w (membersOf xs ids)) := by
  have hnew := World.ownsRow_made (base := w.heap.size) (e := 3) (size := 1) w #[] 0 (Nat.le_refl _) (by unfold maxLen; omega) rfl
  by_cases hm0 : m = 0
  · subst hm0
    have hids : ids = [] := List.eq_nil_of_length_eq_zero hi.1
    subst hids
    clear h hi
    go_enter Try.func20, Try.ntmps20
    go_wp2
    go_ret
    exact retOwn_mk (xs := membersOf xs []) hnew ((Below.refl _ _).alloc (Nat.le_refl _) _)
  obtain ⟨R, hR⟩ : ∃ R, membersOf xs ids = R := ⟨_, rfl⟩
  obtain ⟨M, hM⟩ : ∃ M, Lib.maxOf ids = M := ⟨_, rfl⟩
  have HR := Lib.hid (show ids.filter (fun x => hasNum xs x M) = R by rw [← hR, ← hM]; rfl)
  rw [hR]
  have H := Lib.hid h
  have HI := Lib.hid hi
  have HL := Lib.hid hi.1
  have HM := Lib.hid hM
  obtain ⟨bk, off, x0, rfl, hbk, hx0, hc0⟩ := hi.elem (show 0 < m by omega)
  have hA : Below w.heap.size w (w.alloc (.cells #[] 3)) := (Below.refl _ _).alloc (Nat.le_refl _) _
  have g0 : (w.alloc (.cells #[] 3)).cell? ⟨bk, off, none⟩ = some (.int .i64 x0) := (hA.cell (p := ⟨bk, off, none⟩) hbk).trans (by simpa using hc0 0 _ rfl)
  have HX0 := Lib.hid (show mxTo ids 0 = x0 by
    unfold mxTo
    cases ids with
    | nil => simp at hx0
    | cons a r => simp at hx0; subst hx0; rfl)
  have HA := Lib.hid hA
  have Hnew := Lib.hid hnew
  clear h hi hR hM hx0 hc0 hnew hA
  have hmz : ((m : Int) == 0) = false := beq_eq_false_iff_ne.2 (by omega)
  generalize hw1 : w.alloc (.cells #[] 3) = w1 at *
  go_enter Try.func20, Try.ntmps20
  go_wp2_with fail
  go_loopw [6, 7] (fun o i wr => ∃ (k : Nat), k ≤ m ∧ i = .int .i64 k ∧ o = .int .i64 (mxTo ids k) ∧ wr = w1) (fun _ i _ => m - (intOf i).toNat)
  case atStart => exact ⟨0, by omega, rfl, by rw [HX0.out], rfl⟩
  case round =>
    obtain ⟨k, hk, rfl, rfl, rfl⟩ := hrel
    by_cases hlt : k < m
    · obtain ⟨bk2, off2, x, he, hbk2, hx, hc⟩ := (HI.out.below HA.out).elem hlt
      injection he with he; injection he with e1 e2
      subst e1; subst e2
      have g1 : wr.cell? ⟨bk, off + k, none⟩ = some (.int .i64 x) := by simpa using hc 0 _ rfl
      have HS := Lib.hid (mxTo_succ hx)
      clear hc hx
      go_wp2_with (go_at_call 32; refine (spec_l1Max _ _ _).mono ?_; rw [← HS.out]; rintro e w' ⟨rfl, rfl⟩)
      go_roundw
      case rel => exact ⟨k + 1, by omega, by go_num, rfl, trivial⟩
      case measure => simp [intOf]; omega
    · have hke : k = m := by omega
      subst hke
      have HMM := Lib.hid (show mxTo ids k = M by rw [mxTo_all ids (by rw [HL.out]; omega), HM.out])
      rw [HMM.out]
      go_wp2_with fail
      go_loopw [5, 8] (fun o i wq => ∃ (j : Nat) (l : List Int), j ≤ k ∧ i = .int .i64 j ∧ Hid ((ids.take j).filter (fun x => hasNum xs x M) = l) ∧ l.length ≤ j ∧ wq.ownsRow w.heap.size 3 1 o l.length (l.flatMap encI) ∧ Below w.heap.size w wq) (fun _ i _ => k - (intOf i).toNat)
      case atStart => exact ⟨0, [], by omega, rfl, Lib.hid (by simp), by simp, Hnew.out, HA.out⟩
      case round =>
        obtain ⟨j, l, hj, rfl, hq, hll, hown, hW⟩ := hrel
        have HW := Lib.hid hW
        have Hown := Lib.hid hown
        have hsz := hW.size
        clear hW hown
        by_cases hlt2 : j < k
        · obtain ⟨bk2, off2, x, he, hbk2, hx, hc⟩ := (HI.out.below HW.out).elem hlt2
          injection he with he; injection he with e1 e2
          subst e1; subst e2
          have g1 : wr.cell? ⟨bk, off + j, none⟩ = some (.int .i64 x) := by simpa using hc 0 _ rfl
          have HC := Lib.hid (spec_l4In A n c xs x M wr hn (H.out.below HW.out))
          obtain ⟨b, hb⟩ : ∃ b, hasNum xs x M = b := ⟨_, rfl⟩
          rw [hb] at HC
          clear hc
          cases b with
          | true =>
            have HN := Lib.hid (show (ids.take (j + 1)).filter (fun x => hasNum xs x M) = l ++ [x] by rw [filt_yes hx hb, hq.out])
            have Hown2 := Lib.hid (Hown.out.alloc (.cells #[.int .i64 x] 3))
            have Hrd2 := Lib.hid (Rd.new (enc := encI) (k := 1) (fun _ => rfl) wr #[.int .i64 x] 3 (n := 1) [x] rfl rfl)
            have HB3 := Lib.hid (HW.out.alloc hsz (.cells #[.int .i64 x] 3))
            clear hq hb hx
            go_wp2_with (first | (go_at_call 28; refine HC.out.mono ?_; rintro e w' ⟨rfl, rfl⟩) | (at_builtin; refine wpList_app (enc := encI) (k := 1) (fun _ => rfl) (fun _ u hu => by simp at hu; subst hu; rfl) (by omega) rfl _ _ 31 3 rfl (.int .i64 0) 8 Try.underlying31 (by kernel_rfl) rfl w.heap.size _ l rfl Hown2.out _ _ _ _ rfl Hrd2.out (by first | omega | (simp; omega)) (by omega) (by first | omega | (simp; omega)) ?_; intro v2 w2 hown2 hbel2))
            have HB := Lib.hid (HB3.out.trans hbel2)
            clear hbel2
            go_roundw
            case rel => exact ⟨j + 1, l ++ [x], by omega, by go_num, HN, by simp; omega, hown2, HB.out⟩
            case measure => simp [intOf]; omega
          | false =>
            have HN := Lib.hid (show (ids.take (j + 1)).filter (fun x => hasNum xs x M) = l by rw [filt_no hx hb, hq.out])
            clear hq hb hx
            go_wp2_with (go_at_call 28; refine HC.out.mono ?_; rintro e w' ⟨rfl, rfl⟩)
            go_roundw
            case rel => exact ⟨j + 1, l, by omega, by go_num, HN, by omega, Hown.out, HW.out⟩
            case measure => simp [intOf]; omega
        · have hke : j = k := by omega
          have HF := Lib.hid (show l = R by
            have h := hq.out
            rw [List.take_of_length_le (by rw [HL.out]; omega)] at h
            rw [← HR.out, h])
          clear hq
          go_wp2
          go_ret
          have := Hown.out
          rw [HF.out] at this
          exact retOwn_mk this HW.out

end Go.Proofs.Ytbelkkfdblklbaa
