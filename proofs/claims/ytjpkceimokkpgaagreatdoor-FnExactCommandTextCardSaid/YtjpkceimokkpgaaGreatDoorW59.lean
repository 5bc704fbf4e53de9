/-
  Walks: what each function returns, and that it leaves what lay in memory as it was.
-/
import Derived.Test.YtjpkceimokkpgaaGreatDoorProg
import Derived.Test.YtjpkceimokkpgaaGreatDoorPlain
import Derived.Test.YtjpkceimokkpgaaGreatDoorBase2
import Derived.Test.YtjpkceimokkpgaaGreatDoorOpen2
import Derived.Test.YtjpkceimokkpgaaGreatDoorShelf
import Derived.WalkKit
import Derived.WalkSpells
import Derived.WalkLawsBesides
import Derived.Lib.Hide
import Derived.Deep.LoopGhost
import Derived.Deep.QuietTactic
import Derived.BigQuiet
import Derived.Handy
import Derived.Deep.RegionHeld3
import Derived.StillTailTactics
import Derived.OpenShut
import Derived.ChangeSame
import Derived.Laws.StructEq

import Derived.Test.YtjpkceimokkpgaaGreatDoorPlainT

import Derived.Test.YtjpkceimokkpgaaGreatDoorBase3

import Derived.Test.YtjpkceimokkpgaaGreatDoorW1

import Derived.Test.YtjpkceimokkpgaaGreatDoorW2

import Derived.Test.YtjpkceimokkpgaaGreatDoorW30

import Derived.Test.YtjpkceimokkpgaaGreatDoorW33

import Derived.Test.YtjpkceimokkpgaaGreatDoorW40

import Derived.Test.YtjpkceimokkpgaaGreatDoorW56

import Derived.Test.YtjpkceimokkpgaaGreatDoorW57

import Derived.Test.YtjpkceimokkpgaaGreatDoorW58

import Derived.Lib.Builder
import Derived.Lib.AppendStr
import Derived.Lib.UnsafeStr
import Derived.Laws.Externs

import Derived.Lib.ItoaMem
import Derived.Lib.ItoaLen
import Derived.Lib.LaidTab

namespace Go.Proofs.YtjpkceimokkpgaaGreatDoor
open Go.ChangeShapes Go.WideShapes Go.ChangeAt Go.RowKit Go.Deep
set_option linter.unusedVariables false
set_option linter.unusedSimpArgs false

set_option maxRecDepth 20000

def gapT (a b : Token) : Bool := !(a.kind == 3) && !(b.kind == 4)
def sepAt (l : List Token) (k : Nat) : Str := if k = 0 then [] else (if gapT (l.getD (k - 1) zeroToken) (l.getD k zeroToken) = true then [32] else [])
def lineTo (l : List Token) (k : Nat) : Str := (List.range k).flatMap (fun j => sepAt l j ++ tokenText (l.getD j zeroToken))
def lineOf (l : List Token) : Str := if l.all (fun t => !(tokenText t).isEmpty) = true then lineTo l l.length else []
theorem lineTo_succ (l : List Token) (k : Nat) : lineTo l (k + 1) = lineTo l k ++ (sepAt l k ++ tokenText (l.getD k zeroToken)) := by
  unfold lineTo; rw [List.range_succ, List.flatMap_append]; simp
theorem getD_of {l : List Token} {k : Nat} {x : Token} (h : l[k]? = some x) : l.getD k zeroToken = x := by rw [List.getD_eq_getElem?_getD, h]; rfl
theorem sepAt_first (l : List Token) : sepAt l 0 = [] := rfl
theorem sepAt_later {l : List Token} {k : Nat} {a b : Token} (h0 : 0 < k) (ha : l[k - 1]? = some a) (hb : l[k]? = some b) : sepAt l k = if gapT a b = true then [32] else [] := by
  unfold sepAt; rw [if_neg (by omega), getD_of ha, getD_of hb]
theorem sepAt_len (l : List Token) (k : Nat) : (sepAt l k).length ≤ 1 := by unfold sepAt; split; simp; split <;> simp
theorem tokenText_len (t : Token) : (tokenText t).length ≤ 100 := by
  unfold tokenText
  split
  · split
    · rename_i h; unfold atomOk inR at h; simp at h; rw [← size_len]; omega
    · simp
  · split
    · split
      · unfold litOr; split
        · rename_i h
          unfold litText
          have h1 : (Lib.decDigits t.text.data.toList.length).length ≤ 20 := by
            have := dig_size (n := t.text.data.toList.length) (by omega)
            rw [size_len] at this; simpa using this
          simp only [List.length_cons, List.length_append, List.length_nil]; omega
        · simp
      · have := quote_size t.text.data.toList
        rw [size_len] at this; simp only [List.toList_toArray] at this; omega
    · split
      · split <;> simp
      · split
        · split <;> simp
        · simp
theorem lineTo_len (l : List Token) (k : Nat) : (lineTo l k).length ≤ k * 101 := by
  induction k with
  | zero => simp [lineTo]
  | succ k ih =>
    rw [lineTo_succ, List.length_append, List.length_append]
    have h1 := sepAt_len l k
    have h2 := tokenText_len (l.getD k zeroToken)
    omega
theorem lineOf_bad {l : List Token} {x : Token} (h : x ∈ l) (hx : tokenText x = []) : lineOf l = [] := by
  unfold lineOf
  rw [if_neg]
  intro ha
  have := List.all_eq_true.1 ha x h
  rw [hx] at this
  cases this
theorem lineOf_good {l : List Token} (h : ∀ (j : Nat) (x : Token), j < l.length → l[j]? = some x → ¬ tokenText x = []) : lineOf l = lineTo l l.length := by
  unfold lineOf
  rw [if_pos]
  rw [List.all_eq_true]
  intro x hx
  obtain ⟨j, hj, e⟩ := List.getElem_of_mem hx
  have := h j x hj (by rw [List.getElem?_eq_getElem hj, e])
  cases ht : tokenText x with
  | nil => exact absurd ht this
  | cons a b => rfl
theorem bytes_empty {l : Str} : (⟨l.toArray⟩ : ByteArray).toList.isEmpty = l.isEmpty := by rw [ByteArray.toList_eq]
theorem bytes_empty2 {l : Str} : ((⟨l.toArray⟩ : ByteArray).toList == []) = l.isEmpty := by rw [ByteArray.toList_eq]; cases l <;> rfl

theorem impl_isApart (a b : Int) (w : World) :
    Calls Tryz.prog 90 #[.int .i64 a, .int .i64 b] w fun e w' => e = .returned (.bool (!(a == 3) && !(b == 4))) ∧ w = w' := by
  obtain ⟨R, hR⟩ : ∃ R, (!(a == 3) && !(b == 4)) = R := ⟨_, rfl⟩
  rw [hR]
  by_cases h3 : a = 3 <;> by_cases h4 : b = 4
  · have HR := Lib.hid (show R = false by rw [← hR]; simp [h3, h4])
    clear hR
    go_enter Tryz.func90, Tryz.ntmps90
    go_wp2
    go_ret
    exact ⟨ret_b (HR.out.symm), rfl⟩
  · have HR := Lib.hid (show R = false by rw [← hR]; simp [h3, h4])
    clear hR
    go_enter Tryz.func90, Tryz.ntmps90
    go_wp2
    go_ret
    exact ⟨ret_b (HR.out.symm), rfl⟩
  · have HR := Lib.hid (show R = false by rw [← hR]; simp [h3, h4])
    clear hR
    go_enter Tryz.func90, Tryz.ntmps90
    go_wp2
    go_ret
    exact ⟨ret_b (HR.out.symm), rfl⟩
  · have HR := Lib.hid (show R = true by rw [← hR]; simp [h3, h4])
    clear hR
    go_enter Tryz.func90, Tryz.ntmps90
    go_wp2
    go_ret
    exact ⟨ret_b (by rw [HR.out]; simp [h3, h4]), rfl⟩
theorem spec_l3Gap (x y : Token) (w : World) :
    Calls Tryz.prog 88 #[.agg #[.int .i64 x.kind, .string x.text], .agg #[.int .i64 y.kind, .string y.text]] w fun e w' => e = .returned (.bool (gapT x y)) ∧ Below w.heap.size w w' := by
  obtain ⟨xk, xt⟩ := x
  obtain ⟨yk, yt⟩ := y
  obtain ⟨R, hR⟩ : ∃ R, gapT ⟨xk, xt⟩ ⟨yk, yt⟩ = R := ⟨_, rfl⟩
  rw [hR]
  unfold gapT at hR
  simp only [] at hR ⊢
  by_cases h3 : xk = 3 <;> by_cases h4 : yk = 4
  · have HR := Lib.hid (show R = false by rw [← hR]; simp [h3, h4])
    clear hR
    go_enter Tryz.func88, Tryz.ntmps88
    go_wp2
    go_ret
    exact ⟨ret_b (HR.out.symm), by go_grown⟩
  · have HR := Lib.hid (show R = false by rw [← hR]; simp [h3, h4])
    clear hR
    go_enter Tryz.func88, Tryz.ntmps88
    go_wp2
    go_ret
    exact ⟨ret_b (HR.out.symm), by go_grown⟩
  · have HR := Lib.hid (show R = false by rw [← hR]; simp [h3, h4])
    clear hR
    go_enter Tryz.func88, Tryz.ntmps88
    go_wp2
    go_ret
    exact ⟨ret_b (HR.out.symm), by go_grown⟩
  · have HR := Lib.hid (show R = true by rw [← hR]; simp [h3, h4])
    clear hR
    go_enter Tryz.func88, Tryz.ntmps88
    go_wp2
    go_ret
    exact ⟨ret_b (by rw [HR.out]; simp [h3, h4]), by go_grown⟩
set_option maxHeartbeats 3200000 in
theorem impl_LineOf (A : Option Addr) (n c : Nat) (xs : List Token) (w : World) (hn : n ≤ 1048576) (h : Rd encToken 2 w A n xs) (hf : ∀ y ∈ xs, y.Fit) (hml : ML w) :
    Calls Tryz.prog 47 #[.slice A n c] w fun e w' => e = .returned (.string ⟨(lineOf xs).toArray⟩) ∧ Below w.heap.size w w' := by
  have HL := Lib.hid h.1
  have H := Lib.hid h
  have HF := Lib.hid hf
  have HM := Lib.hid hml
  clear h hf hml
  obtain ⟨R, hR⟩ : ∃ R : ByteArray, (⟨(lineOf xs).toArray⟩ : ByteArray) = R := ⟨_, rfl⟩
  have HR := Lib.hid hR
  rw [hR]
  clear hR
  have HFresh := Lib.hid (Lib.fresh_isBuilder 92 5 w)
  have HB0 := Lib.hid (show Below w.heap.size w (w.alloc (.cells #[.pointer none, .slice none 0 0] 92)) from (Below.refl _ _).alloc (Nat.le_refl _) _)
  go_enter Tryz.func47, Tryz.ntmps47
  go_wp2_with fail
  go_loopw [10] (fun i wr => ∃ k : Nat, k ≤ n ∧ i = .int .i64 k ∧ Lib.IsBuilder 92 5 w.heap.size w.heap.size (Lib.byteCells (lineTo xs k)) wr ∧ Below w.heap.size w wr ∧ Hid (∀ (j : Nat) (x : Token), j < k → xs[j]? = some x → ¬ tokenText x = [])) (fun i _ => n - (intOf i).toNat)
  case atStart => exact ⟨0, by omega, rfl, HFresh.out, HB0.out, Lib.hid (fun j x hj => absurd hj (by omega))⟩
  case round =>
    clear HFresh HB0
    obtain ⟨k, hk, rfl, hB, hW, ha⟩ := hrel
    have HBd := Lib.hid hB
    have HW := Lib.hid hW
    have hsz := hW.size
    have hll := lineTo_len xs k
    clear hB
    by_cases hlt : k < n
    · obtain ⟨b, off, x, rfl, hbl, hx, hc⟩ := (H.out.below hW).elem hlt
      have g0 : wr.cell? ⟨b, off + k * 2, none⟩ = some (.int .i64 x.kind) := by simpa using hc 0 _ rfl
      have g1 : wr.cell? ⟨b, off + k * 2 + 1, none⟩ = some (.string x.text) := hc 1 _ rfl
      have HX := Lib.hid hx
      have hxm := List.mem_of_getElem? hx
      have hfit : x.text.size ≤ 1048576 := HF.out x hxm
      have HXm := Lib.hid hxm
      have HRr := Lib.hid (H.out.below hW)
      clear hc hx hxm hW
      have hal : Below wr.heap.size wr (wr.alloc (.cells #[.int .i64 x.kind, .string x.text] 48)) := (Below.refl _ _).alloc (Nat.le_refl _) _
      have HP := Lib.hid (Holds.new wr [.int .i64 x.kind, .string x.text] 48)
      have HT := Lib.hid (impl_TokenText x (wr.alloc (.cells #[.int .i64 x.kind, .string x.text] 48)) hfit ((HM.out.below HW.out).below hal))
      have HAl := Lib.hid hal
      clear hal
      obtain ⟨T, hT⟩ : ∃ T : ByteArray, (⟨(tokenText x).toArray⟩ : ByteArray) = T := ⟨_, rfl⟩
      have hTs : T.size ≤ 100 := by rw [← hT, size_len]; simpa using tokenText_len x
      have hTe : T.toList.isEmpty = (tokenText x).isEmpty := by rw [← hT]; exact bytes_empty
      have hTe2 : (T.toList == []) = (tokenText x).isEmpty := by rw [← hT]; exact bytes_empty2
      rw [hT] at HT
      have HTd := Lib.hid (show T.data.toList = tokenText x by rw [← hT])
      clear hT
      obtain ⟨te, hte⟩ : ∃ b, (tokenText x).isEmpty = b := ⟨_, rfl⟩
      rw [hte] at hTe hTe2
      have HTe := Lib.hid hte
      clear hte
      go_wp2_with fail
      refine HT.out.mono ?_
      rintro e w2 ⟨rfl, hb2⟩
      have hb2' := HAl.out.trans (hb2.mono HAl.out.size)
      have HBd2 := Lib.hid (bld_below HBd.out hb2')
      have HW2 := Lib.hid (HW.out.trans (hb2'.mono hsz))
      have HP2 := Lib.hid (HP.out.below hb2)
      have HR2 := Lib.hid (HRr.out.below hb2')
      have g02 : w2.cell? ⟨b, off + k * 2, none⟩ = some (.int .i64 x.kind) := (hb2'.cell (p := ⟨b, off + k * 2, none⟩) hbl).trans g0
      clear hb2 hb2' HBd HW HP HRr HAl HT g0 g1
      have hsz2 := HW2.out.size
      cases te with
      | true =>
        have hnil : tokenText x = [] := List.isEmpty_iff.1 HTe.out
        have HFin := Lib.hid (show R = ⟨#[]⟩ by rw [← HR.out, lineOf_bad HXm.out hnil])
        clear hnil
        go_wp2
        go_ret
        exact ⟨ret_s HFin.out.symm, HW2.out⟩
      | false =>
        have HNn := Lib.hid (show ¬ tokenText x = [] from fun e => by have h := HTe.out; rw [e] at h; cases h)
        have HNa := Lib.hid (show ∀ (j : Nat) (z : Token), j < k + 1 → xs[j]? = some z → ¬ tokenText z = [] from fun j z hj hz => by
          by_cases h : j < k
          · exact ha.out j z h hz
          · rw [show j = k by omega, HX.out] at hz; injection hz with hz; rw [← hz]; exact HNn.out)
        have HSucc := Lib.hid (show lineTo xs (k + 1) = lineTo xs k ++ (sepAt xs k ++ T.data.toList) by rw [lineTo_succ, getD_of HX.out, HTd.out])
        clear ha
        have f5 : ∀ u : Later w2, u.at_.cell? ⟨wr.heap.size, 0, none⟩ = some (.int .i64 x.kind) := fun u => u.cell (HP2.out.2 0 _ rfl)
        by_cases k0 : k = 0
        · have hj0 : decide ((0 : Int) < (k : Int)) = false := decide_eq_false (by omega)
          have hj0n : decide (0 < k) = false := decide_eq_false (by omega)
          have HSep := Lib.hid (show sepAt xs k = [] by rw [k0]; rfl)
          have HK0 := Lib.hid k0
          clear k0
          go_wp2_with fail
          refine wp_region_calm_lit (by kernel_rfl) (by kernel_rfl) ?_
          repeat (go_big_quiet_step (fail))
          refine wpQuiet_nil ?_
          intro _ hw'
          obtain ⟨u, rfl⟩ := hw'
          have HBd3 := Lib.hid (bld_below HBd2.out u.bel)
          have HW3 := Lib.hid (HW2.out.trans (u.bel.mono hsz2))
          have hsz3 := HW3.out.size
          go_wp2_with fail
          refine (bld_WriteString w.heap.size w.heap.size (lineTo xs k) T _ HBd3.out (by omega) hsz3).mono ?_
          rintro e w4 ⟨rfl, hB4, hb4⟩
          have HB4 := Lib.hid (show Lib.IsBuilder 92 5 w.heap.size w.heap.size (Lib.byteCells (lineTo xs (k + 1))) w4 by rw [HSucc.out, HSep.out, List.nil_append]; exact hB4)
          have HW4 := Lib.hid (HW3.out.trans hb4)
          clear hB4 hb4
          go_wp2_with fail
          go_roundw
          case rel => exact ⟨k + 1, by omega, by go_num, HB4.out, HW4.out, HNa⟩
          case measure => simp [intOf]; omega
        · obtain ⟨b', off', y, he, _, hy, hcp⟩ := HR2.out.elem (show k - 1 < n by omega)
          obtain ⟨rfl, rfl⟩ : b' = b ∧ off' = off := by simpa using he.symm
          have r0 : w2.cell? ⟨b', off' + (k - 1) * 2, none⟩ = some (.int .i64 y.kind) := by simpa using hcp 0 _ rfl
          obtain ⟨G, hG⟩ : ∃ G, (!(y.kind == 3) && !(x.kind == 4)) = G := ⟨_, rfl⟩
          have HG := Lib.hid hG
          have HSep := Lib.hid (show sepAt xs k = if G = true then [32] else [] by rw [sepAt_later (by omega) hy HX.out, ← hG]; rfl)
          have hj0 : decide ((0 : Int) < (k : Int)) = true := decide_eq_true (by omega)
          have hj0n : decide (0 < k) = true := decide_eq_true (by omega)
          have hj1 : (k : Int) - 1 = ((k - 1 : Nat) : Int) := by omega
          have hj1n : k - 1 < n := by omega
          have f6 : ∀ u : Later w2, u.at_.cell? ⟨b', off' + (k - 1) * 2, none⟩ = some (.int .i64 y.kind) := fun u => u.cell r0
          clear hcp he hy hG
          go_wp2_with fail
          refine wp_region_calm_lit (by kernel_rfl) (by kernel_rfl) ?_
          repeat (go_big_quiet_step (first | (go_at_call 90; exact Calls.calm_same (Calls.flip (Calls.known (impl_isApart _ _ _) HG.out)))))
          refine wpQuiet_nil ?_
          intro _ hw'
          obtain ⟨u, rfl⟩ := hw'
          have HBd3 := Lib.hid (bld_below HBd2.out u.bel)
          have HW3 := Lib.hid (HW2.out.trans (u.bel.mono hsz2))
          have hsz3 := HW3.out.size
          clear f5 f6
          cases G with
          | false =>
            go_wp2_with fail
            refine (bld_WriteString w.heap.size w.heap.size (lineTo xs k) T _ HBd3.out (by omega) hsz3).mono ?_
            rintro e w4 ⟨rfl, hB4, hb4⟩
            have HB4 := Lib.hid (show Lib.IsBuilder 92 5 w.heap.size w.heap.size (Lib.byteCells (lineTo xs (k + 1))) w4 by rw [HSucc.out, HSep.out, if_neg (by decide), List.nil_append]; exact hB4)
            have HW4 := Lib.hid (HW3.out.trans hb4)
            clear hB4 hb4
            go_wp2_with fail
            go_roundw
            case rel => exact ⟨k + 1, by omega, by go_num, HB4.out, HW4.out, HNa⟩
            case measure => simp [intOf]; omega
          | true =>
            go_wp2_with fail
            refine (bld_WriteString w.heap.size w.heap.size (lineTo xs k) ⟨#[32]⟩ _ HBd3.out (by show _ + 1 ≤ _; omega) hsz3).mono ?_
            rintro e w3 ⟨rfl, hB3, hb3⟩
            have HBd4 := Lib.hid hB3
            have HW4 := Lib.hid (HW3.out.trans hb3)
            have hsz4 := HW4.out.size
            clear hB3 hb3
            go_wp2_with fail
            refine (bld_WriteString w.heap.size w.heap.size (lineTo xs k ++ (⟨#[32]⟩ : ByteArray).data.toList) T _ HBd4.out (by rw [List.length_append]; show _ + 1 + _ ≤ _; omega) hsz4).mono ?_
            rintro e w4 ⟨rfl, hB4, hb4⟩
            have HB4 := Lib.hid (show Lib.IsBuilder 92 5 w.heap.size w.heap.size (Lib.byteCells (lineTo xs (k + 1))) w4 by rw [HSucc.out, HSep.out, if_pos trivial, ← List.append_assoc]; exact hB4)
            have HW5 := Lib.hid (HW4.out.trans hb4)
            clear hB4 hb4
            go_wp2_with fail
            go_roundw
            case rel => exact ⟨k + 1, by omega, by go_num, HB4.out, HW5.out, HNa⟩
            case measure => simp [intOf]; omega
    · have hke : k = n := by omega
      subst hke
      have HFin := Lib.hid (show (⟨(lineTo xs k).toArray⟩ : ByteArray) = R by
        rw [← HR.out, lineOf_good (fun j x hj hx => ha.out j x (by rw [← HL.out]; exact hj) hx), HL.out])
      have HSt := Lib.hid (Tryz.Builder_String_any w.heap.size w.heap.size (lineTo xs k) wr HBd.out hsz)
      clear ha
      go_wp2_with fail
      refine HSt.out.mono ?_
      rw [HFin.out]
      rintro e w2 ⟨rfl, hb2⟩
      have HW2 := Lib.hid (HW.out.trans hb2)
      clear hb2
      go_wp2
      go_ret
      exact ⟨rfl, HW2.out⟩
set_option maxHeartbeats 3200000 in
theorem spec_LineOf (A : Option Addr) (n c : Nat) (xs : List Token) (w : World) (hn : n ≤ 1048576) (h : Rd encToken 2 w A n xs) (hf : ∀ y ∈ xs, y.Fit) :
    Calls Tryz.prog 46 #[.slice A n c] w fun e w' => e = .returned (.string ⟨(lineOf xs).toArray⟩) ∧ Below w.heap.size w w' := by
  have HL := Lib.hid h.1
  have H := Lib.hid h
  have HF := Lib.hid hf
  clear h hf
  obtain ⟨R, hR⟩ : ∃ R : ByteArray, (⟨(lineOf xs).toArray⟩ : ByteArray) = R := ⟨_, rfl⟩
  have HR := Lib.hid hR
  rw [hR]
  clear hR
  have hnew := World.ownsRow_made (base := w.heap.size) (e := 5) (size := 1) w #[] 0 (Nat.le_refl _) (by unfold maxLen; omega) rfl
  go_enter Tryz.func46, Tryz.ntmps46
  go_wp2_with fail
  go_loopw [3, 4] (fun o i wr => ∃ (k : Nat) (l : Str), k ≤ n ∧ i = .int .i64 k ∧ Hid (lineTo xs k = l) ∧ l.length ≤ k * 101 ∧ wr.ownsRow w.heap.size 5 1 o l.length (l.flatMap encB) ∧ Below w.heap.size w wr ∧ Hid (∀ (j : Nat) (x : Token), j < k → xs[j]? = some x → ¬ tokenText x = [])) (fun _ i _ => n - (intOf i).toNat)
  case atStart => exact ⟨0, [], by omega, rfl, Lib.hid rfl, by simp, hnew, (Below.refl _ _).alloc (Nat.le_refl _) _, Lib.hid (fun j x hj => absurd hj (by omega))⟩
  case round =>
    clear hnew
    obtain ⟨k, l, hk, rfl, hq, hll, ho, hW, ha⟩ := hrel
    have HO := Lib.hid ho
    have HW := Lib.hid hW
    have hsz := hW.size
    clear ho
    by_cases hlt : k < n
    · obtain ⟨b, off, x, rfl, hbl, hx, hc⟩ := (H.out.below hW).elem hlt
      have g0 : wr.cell? ⟨b, off + k * 2, none⟩ = some (.int .i64 x.kind) := by simpa using hc 0 _ rfl
      have g1 : wr.cell? ⟨b, off + k * 2 + 1, none⟩ = some (.string x.text) := hc 1 _ rfl
      have HX := Lib.hid hx
      have hxm := List.mem_of_getElem? hx
      have hfit : x.text.size ≤ 1048576 := HF.out x hxm
      have HXm := Lib.hid hxm
      have HRr := Lib.hid (H.out.below hW)
      clear hc hx hxm hW
      have HT := Lib.hid (spec_TokenText x wr hfit)
      obtain ⟨T, hT⟩ : ∃ T : ByteArray, (⟨(tokenText x).toArray⟩ : ByteArray) = T := ⟨_, rfl⟩
      have hTs : T.size ≤ 100 := by rw [← hT, size_len]; simpa using tokenText_len x
      have hTe : T.toList.isEmpty = (tokenText x).isEmpty := by rw [← hT]; exact bytes_empty
      have hTe2 : (T.toList == []) = (tokenText x).isEmpty := by rw [← hT]; exact bytes_empty2
      rw [hT] at HT
      have HTd := Lib.hid (show T.data.toList = tokenText x by rw [← hT])
      have HTl := Lib.hid (size_len T)
      clear hT
      obtain ⟨te, hte⟩ : ∃ b, (tokenText x).isEmpty = b := ⟨_, rfl⟩
      rw [hte] at hTe hTe2
      have HTe := Lib.hid hte
      clear hte
      go_wp2_with fail
      refine HT.out.mono ?_
      rintro e w2 ⟨rfl, hb2⟩
      have HO2 := Lib.hid (own_below HO.out hb2)
      have HW2 := Lib.hid (HW.out.trans (hb2.mono hsz))
      have HR2 := Lib.hid (HRr.out.below hb2)
      have g02 : w2.cell? ⟨b, off + k * 2, none⟩ = some (.int .i64 x.kind) := (hb2.cell (p := ⟨b, off + k * 2, none⟩) hbl).trans g0
      have g12 : w2.cell? ⟨b, off + k * 2 + 1, none⟩ = some (.string x.text) := (hb2.cell (p := ⟨b, off + k * 2 + 1, none⟩) hbl).trans g1
      clear hb2 HO HW HRr HT g0 g1
      have hsz2 := HW2.out.size
      cases te with
      | true =>
        have hnil : tokenText x = [] := List.isEmpty_iff.1 HTe.out
        have HFin := Lib.hid (show R = ⟨#[]⟩ by rw [← HR.out, lineOf_bad HXm.out hnil])
        clear hnil
        go_wp2
        go_ret
        exact ⟨ret_s HFin.out.symm, HW2.out⟩
      | false =>
        have HNn := Lib.hid (show ¬ tokenText x = [] from fun e => by have h := HTe.out; rw [e] at h; cases h)
        have HNa := Lib.hid (show ∀ (j : Nat) (z : Token), j < k + 1 → xs[j]? = some z → ¬ tokenText z = [] from fun j z hj hz => by
          by_cases h : j < k
          · exact ha.out j z h hz
          · rw [show j = k by omega, HX.out] at hz; injection hz with hz; rw [← hz]; exact HNn.out)
        have HSucc := Lib.hid (show lineTo xs (k + 1) = l ++ (sepAt xs k ++ T.data.toList) by rw [lineTo_succ, getD_of HX.out, HTd.out, hq.out])
        clear ha hq
        by_cases k0 : k = 0
        · have hj0 : decide ((0 : Int) < (k : Int)) = false := decide_eq_false (by omega)
          have hj0n : decide (0 < k) = false := decide_eq_false (by omega)
          have HSep := Lib.hid (show sepAt xs k = [] by rw [k0]; rfl)
          have HK0 := Lib.hid k0
          clear k0
          go_wp2_with fail
          refine wp_region_calm_lit (by kernel_rfl) (by kernel_rfl) ?_
          repeat (go_big_quiet_step (fail))
          refine wpQuiet_nil ?_
          intro _ hw'
          obtain ⟨u, rfl⟩ := hw'
          have HO3 := Lib.hid (own_below HO2.out u.bel)
          have HW3 := Lib.hid (HW2.out.trans (u.bel.mono hsz2))
          have hsz3 := HW3.out.size
          go_wp2_with (at_builtin; refine wpList_appS rfl _ _ 88 9 5 rfl Tryz.underlying88 Tryz.underlying9 (by kernel_rfl) w.heap.size _ l rfl HO3.out T rfl (by omega) (by omega) ?_; intro v2 w4 hown4 hbel4)
          have HN := Lib.hid (show lineTo xs (k + 1) = l ++ T.data.toList by rw [HSucc.out, HSep.out, List.nil_append])
          go_roundw
          case rel => exact ⟨k + 1, l ++ T.data.toList, by omega, by go_num, HN, by rw [List.length_append, ← HTl.out]; omega, hown4, HW3.out.trans hbel4, HNa⟩
          case measure => simp [intOf]; omega
        · obtain ⟨b', off', y, he, _, hy, hcp⟩ := HR2.out.elem (show k - 1 < n by omega)
          obtain ⟨rfl, rfl⟩ : b' = b ∧ off' = off := by simpa using he.symm
          have r0 : w2.cell? ⟨b', off' + (k - 1) * 2, none⟩ = some (.int .i64 y.kind) := by simpa using hcp 0 _ rfl
          have r1 : w2.cell? ⟨b', off' + (k - 1) * 2 + 1, none⟩ = some (.string y.text) := hcp 1 _ rfl
          obtain ⟨G, hG⟩ : ∃ G, gapT y x = G := ⟨_, rfl⟩
          have HG := Lib.hid hG
          have HSep := Lib.hid (show sepAt xs k = if G = true then [32] else [] by rw [sepAt_later (by omega) hy HX.out, hG])
          have hj0 : decide ((0 : Int) < (k : Int)) = true := decide_eq_true (by omega)
          have hj0n : decide (0 < k) = true := decide_eq_true (by omega)
          have hj1 : (k : Int) - 1 = ((k - 1 : Nat) : Int) := by omega
          have hj1n : k - 1 < n := by omega
          have f5 : ∀ u : Later w2, u.at_.cell? ⟨b', off' + k * 2, none⟩ = some (.int .i64 x.kind) := fun u => u.cell g02
          have f55 : ∀ u : Later w2, u.at_.cell? ⟨b', off' + k * 2 + 1, none⟩ = some (.string x.text) := fun u => u.cell g12
          have f6 : ∀ u : Later w2, u.at_.cell? ⟨b', off' + (k - 1) * 2, none⟩ = some (.int .i64 y.kind) := fun u => u.cell r0
          have f66 : ∀ u : Later w2, u.at_.cell? ⟨b', off' + (k - 1) * 2 + 1, none⟩ = some (.string y.text) := fun u => u.cell r1
          clear hcp he hy hG
          go_wp2_with fail
          refine wp_region_calm_lit (by kernel_rfl) (by kernel_rfl) ?_
          repeat (go_big_quiet_step (first | (go_at_call 88; exact Calls.calm (Calls.known (spec_l3Gap y x _) HG.out))))
          refine wpQuiet_nil ?_
          intro _ hw'
          obtain ⟨u, rfl⟩ := hw'
          have HO3 := Lib.hid (own_below HO2.out u.bel)
          have HW3 := Lib.hid (HW2.out.trans (u.bel.mono hsz2))
          have hsz3 := HW3.out.size
          clear f5 f6 f55 f66
          cases G with
          | false =>
            go_wp2_with (at_builtin; refine wpList_appS rfl _ _ 88 9 5 rfl Tryz.underlying88 Tryz.underlying9 (by kernel_rfl) w.heap.size _ l rfl HO3.out T rfl (by omega) (by omega) ?_; intro v2 w4 hown4 hbel4)
            have HN := Lib.hid (show lineTo xs (k + 1) = l ++ T.data.toList by rw [HSucc.out, HSep.out, if_neg (by decide), List.nil_append])
            go_roundw
            case rel => exact ⟨k + 1, l ++ T.data.toList, by omega, by go_num, HN, by rw [List.length_append, ← HTl.out]; omega, hown4, HW3.out.trans hbel4, HNa⟩
            case measure => simp [intOf]; omega
          | true =>
            obtain ⟨w3, hw3⟩ : ∃ w3, u.at_ = w3 := ⟨_, rfl⟩
            rw [hw3] at HO3 HW3 hsz3 ⊢
            clear hw3
            have Hown2 := Lib.hid (HO3.out.alloc (.cells #[.int .u8 32] 5))
            have Hrd2 := Lib.hid (Rd.new (enc := encB) (k := 1) (fun _ => rfl) w3 #[.int .u8 32] 5 (n := 1) [32] rfl rfl)
            have HW4 := Lib.hid (HW3.out.alloc hsz3 (.cells #[.int .u8 32] 5))
            go_wp2_with (first | (at_builtin; refine wpList_app (enc := encB) (k := 1) (fun _ => rfl) (fun _ u hu => by simp at hu; subst hu; rfl) (by omega) rfl _ _ 88 5 rfl (.int .u8 0) 1 Tryz.underlying88 (by kernel_rfl) rfl w.heap.size _ l rfl Hown2.out _ _ _ _ rfl Hrd2.out (by omega) (by omega) (by simp; omega) ?_; intro v2 w5 hown5 hbel5; have HO5 := Lib.hid hown5; have HW5 := Lib.hid (HW4.out.trans hbel5); have hsz5 := HW5.out.size; clear hown5 hbel5 Hown2 Hrd2) | (at_builtin; refine wpList_appS rfl _ _ 88 9 5 rfl Tryz.underlying88 Tryz.underlying9 (by kernel_rfl) w.heap.size _ (l ++ [32]) rfl HO5.out T rfl (by simp; omega) (by omega) ?_; intro v3 w6 hown6 hbel6))
            have HN := Lib.hid (show lineTo xs (k + 1) = l ++ [32] ++ T.data.toList by rw [HSucc.out, HSep.out]; simp)
            go_roundw
            case rel => exact ⟨k + 1, l ++ [32] ++ T.data.toList, by omega, by go_num, HN, by rw [List.length_append, List.length_append, ← HTl.out]; simp; omega, hown6, HW5.out.trans hbel6, HNa⟩
            case measure => simp [intOf]; omega
    · have hke : k = n := by omega
      subst hke
      have HFin := Lib.hid (show (⟨l.toArray⟩ : ByteArray) = R by
        rw [← HR.out, lineOf_good (fun j x hj hx => ha.out j x (by rw [← HL.out]; exact hj) hx), HL.out, hq.out])
      rcases own_form HO.out with ⟨Aq, cq, rfl⟩
      have hcv := run_ofBytes (P := Tryz.prog) 88 9 5 Tryz.underlying88 Tryz.underlying5 Tryz.underlying9 (Rd.of_own (enc := encB) (k := 1) (fun _ => rfl) HO.out rfl) cq
      clear ha hq hll
      go_wp2
      go_ret
      exact ⟨ret_s HFin.out, HW.out⟩

end Go.Proofs.YtjpkceimokkpgaaGreatDoor
