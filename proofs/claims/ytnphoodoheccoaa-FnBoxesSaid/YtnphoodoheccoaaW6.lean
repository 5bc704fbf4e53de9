/-
  Walks: what each function returns, and that it leaves what lay in memory as it was.
-/
import Derived.Test.YtnphoodoheccoaaProg
import Derived.Test.YtnphoodoheccoaaPlain
import Derived.Test.YtnphoodoheccoaaBase2
import Derived.Test.YtnphoodoheccoaaOpen2
import Derived.Test.YtnphoodoheccoaaShelf
import Derived.WalkKit
import Derived.WalkSpells
import Derived.WalkLawsBesides
import Derived.Lib.Hide
import Derived.Deep.LoopGhost
import Derived.Deep.QuietTactic
import Derived.BigQuiet
import Derived.Handy
import Derived.Deep.RegionHeld3
import Derived.StillTailTactics
import Derived.OpenShut
import Derived.ChangeSame
import Derived.Laws.StructEq

import Derived.Test.YtnphoodoheccoaaPlainT

import Derived.Test.YtnphoodoheccoaaW1

import Derived.Test.YtnphoodoheccoaaW2

import Derived.Test.YtnphoodoheccoaaW3

import Derived.Test.YtnphoodoheccoaaW5

namespace Go.Proofs.Ytnphoodoheccoaa
open Go.ChangeShapes Go.WideShapes Go.ChangeAt Go.RowKit Go.Deep
set_option linter.unusedVariables false
set_option linter.unusedSimpArgs false

theorem fit_of {α β : Type} {P : α → Prop} {rs zs : List (α × β)} {ys : List α} (hf : ∀ p ∈ rs, P p.1) (hy : rs.map Prod.fst = ys) (hz : zs.map Prod.fst = ys) : ∀ p ∈ zs, P p.1 := by
  intro p hp
  have h1 : p.1 ∈ rs.map Prod.fst := by rw [hy, ← hz]; exact List.mem_map_of_mem hp
  obtain ⟨q, hq, e⟩ := List.mem_map.1 h1
  rw [← e]; exact hf q hq
theorem ixOf_map {α β : Type} (f : α → β) (p : β → Bool) (l : List α) : ixOf (fun x => p (f x)) l = ixOf p (l.map f) := by
  unfold ixOf
  rw [List.findIdx?_map]
  rfl
def boxNamed (l : List Box) (s : ByteArray) : Int := ixOf (fun b : Box => decide (b.name = s)) l
def boxWith (l : List Box) (v : Int) : Int := ixOf (fun b : Box => decide (b.validity = v)) l
theorem beq_ba {a b : ByteArray} (h : a = b) : (a.toList == b.toList) = true := by rw [beq_iff_eq, h]
theorem bne_ba {a b : ByteArray} (h : ¬ a = b) : (a.toList == b.toList) = false := by
  rw [beq_eq_false_iff_ne]
  intro e
  rw [ByteArray.toList_eq, ByteArray.toList_eq] at e
  exact h (by cases a; cases b; simp at e; subst e; rfl)
set_option maxHeartbeats 800000 in
set_option maxRecDepth 20000 in
theorem impl_BoxNamed_1 (x : Box × Hd) (s : ByteArray) (g : Nat) (w : World) (hc : w.cell? ⟨g, 0, none⟩ = some (.string s)) (hg : g < w.heap.size) :
    Calls Try.prog 36 #[.agg #[.string x.1.name, .int .i64 x.1.validity, .int .i64 x.1.next, .slice x.2.A x.2.n x.2.c], .pointer (some ⟨g, 0, none⟩)] w fun e w' => e = .returned (.bool (decide (x.1.name = s))) ∧ Below w.heap.size w w' := by
  have hne : g ≠ w.heap.size := by omega
  by_cases hq : x.1.name = s
  · have hb := beq_ba hq
    have HQ := Lib.hid (decide_eq_true hq)
    clear hq
    go_enter Try.func36, Try.ntmps36
    go_wp2
    go_ret
    exact ⟨ret_b (by rw [HQ.out]), by go_grown⟩
  · have hb := bne_ba hq
    have HQ := Lib.hid (decide_eq_false hq)
    clear hq
    go_enter Try.func36, Try.ntmps36
    go_wp2
    go_ret
    exact ⟨ret_b (by rw [HQ.out]), by go_grown⟩
set_option maxHeartbeats 800000 in
set_option maxRecDepth 20000 in
theorem impl_BoxNamed (A : Option Addr) (n c : Nat) (rs : List (Box × Hd)) (s : ByteArray) (w : World) (hn : n ≤ 1048576) (h : Rd encBox 4 w A n rs) :
    Calls Try.prog 13 #[.slice A n c, .string s] w fun e w' => e = .returned (.int .i64 (boxNamed (rs.map Prod.fst) s)) ∧ Below w.heap.size w w' := by
  have HR := Lib.hid h
  have HM := Lib.hid (ixOf_map Prod.fst (fun b : Box => decide (b.name = s)) rs)
  clear h
  go_enter Try.func13, Try.ntmps13
  go_wp2_with fail
  refine (slices_IndexFunc_Box _ _ _ _ _ (fun p : Box × Hd => decide (p.1.name = s)) rs _ (by omega) (HR.out.below (by go_grown)) (enters_of Try.func36 (by kernel_rfl) rfl) ?_).mono ?_
  · intro W y _ hb
    refine impl_BoxNamed_1 y s w.heap.size W ?_ ?_
    · exact (hb.cell (p := ⟨w.heap.size, 0, none⟩) (by simp)).trans (by go_simp)
    · have := hb.size; simp at this; omega
  · rintro e w1 ⟨rfl, hb1⟩
    have HW := Lib.hid (Below.trans (by go_grown : Below w.heap.size w _) (hb1.mono (by simp)))
    have HM2 := Lib.hid (show ixOf (fun p : Box × Hd => decide (p.1.name = s)) rs = boxNamed (rs.map Prod.fst) s from HM.out)
    clear hb1 HM
    go_wp2
    go_ret
    exact ⟨ret_i HM2.out, HW.out⟩
set_option maxHeartbeats 800000 in
set_option maxRecDepth 20000 in
theorem spec_BoxWith (A : Option Addr) (n c : Nat) (rs : List (Box × Hd)) (s : Int) (w : World) (hn : n ≤ 1048576) (h : Rd encBox 4 w A n rs) :
    Calls Try.prog 34 #[.slice A n c, .int .i64 s] w fun e w' => e = .returned (.int .i64 (boxWith (rs.map Prod.fst) s)) ∧ w = w' := by
  have HL := Lib.hid h.1
  have H := Lib.hid h
  have HM := Lib.hid (ixOf_map Prod.fst (fun b : Box => decide (b.validity = s)) rs)
  clear h
  have hfold : ∀ r, ixOf (fun p : Box × Hd => decide (p.1.validity = s)) rs = r → r = boxWith (rs.map Prod.fst) s := fun r e => by rw [← e]; exact HM.out
  have HF := Lib.hid hfold
  generalize boxWith (rs.map Prod.fst) s = R at *
  clear hfold HM
  go_enter Try.func34, Try.ntmps34
  go_wp2_with fail
  go_loop [5] (fun i => ∃ k : Nat, k ≤ n ∧ i = .int .i64 k ∧ Hid (∀ (j : Nat) (y : Box × Hd), j < k → rs[j]? = some y → decide (y.1.validity = s) = false)) (fun i => n - (intOf i).toNat)
  case atStart => exact ⟨0, Nat.zero_le _, rfl, fun j y hj => absurd hj (by omega)⟩
  case round =>
    obtain ⟨k, hk, rfl, ha⟩ := hrel
    by_cases hlt : k < n
    · obtain ⟨b, off, y, rfl, _, hy, hc⟩ := H.out.elem hlt
      have g0 : w.cell? ⟨b, off + k * 4 + 1, none⟩ = some (.int .i64 y.1.validity) := hc 1 _ rfl
      have HX := Lib.hid hy
      clear hc hy H
      by_cases hq : y.1.validity = s
      · have hb := (by rw [beq_iff_eq]; exact hq : (y.1.validity == s) = true)
        have hfin := Lib.hid (HF.out _ (ixOf_hit (p := fun p : Box × Hd => decide (p.1.validity = s)) HX.out (decide_eq_true hq) ha.out))
        clear ha hq
        go_wp2
        go_ret
        exact ⟨ret_i hfin.out, rfl⟩
      · have hb := (by rw [beq_eq_false_iff_ne]; exact hq : (y.1.validity == s) = false)
        have hs := Lib.hid (anyF_succ (p := fun p : Box × Hd => decide (p.1.validity = s)) ha.out HX.out (decide_eq_false hq))
        clear ha hq
        go_wp2
        go_round
        case rel => exact ⟨k + 1, by omega, by go_num, hs.out⟩
        case measure => simp [intOf]; omega
    · have hke : k = n := by omega
      have hfin := Lib.hid (HF.out _ (ixOf_miss (p := fun p : Box × Hd => decide (p.1.validity = s)) (l := rs) (fun j y hy => ha.out j y (by rw [hke, ← HL.out]; exact (List.getElem?_eq_some_iff.1 hy).1) hy)))
      clear ha hke
      go_wp2
      go_ret
      exact ⟨ret_i hfin.out, rfl⟩
set_option maxHeartbeats 800000 in
set_option maxRecDepth 20000 in
theorem impl_BoxWith_1 (x : Box × Hd) (s : Int) (g : Nat) (w : World) (hc : w.cell? ⟨g, 0, none⟩ = some (.int .i64 s)) (hg : g < w.heap.size) :
    Calls Try.prog 37 #[.agg #[.string x.1.name, .int .i64 x.1.validity, .int .i64 x.1.next, .slice x.2.A x.2.n x.2.c], .pointer (some ⟨g, 0, none⟩)] w fun e w' => e = .returned (.bool (decide (x.1.validity = s))) ∧ Below w.heap.size w w' := by
  have hne : g ≠ w.heap.size := by omega
  by_cases hq : x.1.validity = s
  · have hb := (by rw [beq_iff_eq]; exact hq : (x.1.validity == s) = true)
    have HQ := Lib.hid (decide_eq_true hq)
    clear hq
    go_enter Try.func37, Try.ntmps37
    go_wp2
    go_ret
    exact ⟨ret_b (by rw [HQ.out]), by go_grown⟩
  · have hb := (by rw [beq_eq_false_iff_ne]; exact hq : (x.1.validity == s) = false)
    have HQ := Lib.hid (decide_eq_false hq)
    clear hq
    go_enter Try.func37, Try.ntmps37
    go_wp2
    go_ret
    exact ⟨ret_b (by rw [HQ.out]), by go_grown⟩
set_option maxHeartbeats 800000 in
set_option maxRecDepth 20000 in
theorem impl_BoxWith (A : Option Addr) (n c : Nat) (rs : List (Box × Hd)) (s : Int) (w : World) (hn : n ≤ 1048576) (h : Rd encBox 4 w A n rs) :
    Calls Try.prog 14 #[.slice A n c, .int .i64 s] w fun e w' => e = .returned (.int .i64 (boxWith (rs.map Prod.fst) s)) ∧ Below w.heap.size w w' := by
  have HR := Lib.hid h
  have HM := Lib.hid (ixOf_map Prod.fst (fun b : Box => decide (b.validity = s)) rs)
  clear h
  go_enter Try.func14, Try.ntmps14
  go_wp2_with fail
  refine (slices_IndexFunc_Box _ _ _ _ _ (fun p : Box × Hd => decide (p.1.validity = s)) rs _ (by omega) (HR.out.below (by go_grown)) (enters_of Try.func37 (by kernel_rfl) rfl) ?_).mono ?_
  · intro W y _ hb
    refine impl_BoxWith_1 y s w.heap.size W ?_ ?_
    · exact (hb.cell (p := ⟨w.heap.size, 0, none⟩) (by simp)).trans (by go_simp)
    · have := hb.size; simp at this; omega
  · rintro e w1 ⟨rfl, hb1⟩
    have HW := Lib.hid (Below.trans (by go_grown : Below w.heap.size w _) (hb1.mono (by simp)))
    have HM2 := Lib.hid (show ixOf (fun p : Box × Hd => decide (p.1.validity = s)) rs = boxWith (rs.map Prod.fst) s from HM.out)
    clear hb1 HM
    go_wp2
    go_ret
    exact ⟨ret_i HM2.out, HW.out⟩

end Go.Proofs.Ytnphoodoheccoaa
