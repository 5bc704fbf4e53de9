/-
  Walks: what each function returns, and that it leaves what lay in memory as it was.
-/
import Derived.Test.YtmkhmgompajdaaaProg
import Derived.Test.YtmkhmgompajdaaaPlain
import Derived.Test.YtmkhmgompajdaaaBase2
import Derived.Test.YtmkhmgompajdaaaOpen2
import Derived.Test.YtmkhmgompajdaaaShelf
import Derived.WalkKit
import Derived.WalkSpells
import Derived.WalkLawsBesides
import Derived.Lib.Hide
import Derived.Deep.LoopGhost
import Derived.Deep.QuietTactic
import Derived.BigQuiet
import Derived.Handy
import Derived.Deep.RegionHeld3
import Derived.StillTailTactics
import Derived.OpenShut
import Derived.ChangeSame
import Derived.Laws.StructEq

import Derived.Test.YtmkhmgompajdaaaPlainT

import Derived.Test.YtmkhmgompajdaaaW1

import Derived.Test.YtmkhmgompajdaaaW2

import Derived.Test.YtmkhmgompajdaaaW3

import Derived.Test.YtmkhmgompajdaaaW5

namespace Go.Proofs.Ytmkhmgompajdaaa
open Go.ChangeShapes Go.WideShapes Go.ChangeAt Go.RowKit Go.Deep
set_option linter.unusedVariables false
set_option linter.unusedSimpArgs false

theorem laws_toBoxS' (A : Option Addr) (n c : Nat) (rs : List (Box × Hd)) (ys : List Box) (w : World) (hn : n ≤ 1048576) (h : Rd encBox 4 w A n rs) (hx : ∀ p ∈ rs, BoxIs w p.1 p.2) (hf : ∀ p ∈ rs, p.1.Fit) (hy : rs.map Prod.fst = ys) :
    Calls Try.prog 22 #[.slice A n c] w (RetOwnBoxS w ys) := hy ▸ laws_toBoxS A n c rs w hn h hx hf
theorem fit_of {α β : Type} {P : α → Prop} {rs zs : List (α × β)} {ys : List α} (hf : ∀ p ∈ rs, P p.1) (hy : rs.map Prod.fst = ys) (hz : zs.map Prod.fst = ys) : ∀ p ∈ zs, P p.1 := by
  intro p hp
  have h1 : p.1 ∈ rs.map Prod.fst := by rw [hy, ← hz]; exact List.mem_map_of_mem hp
  obtain ⟨q, hq, e⟩ := List.mem_map.1 h1
  rw [← e]; exact hf q hq
theorem ixOf_map {α β : Type} (f : α → β) (p : β → Bool) (l : List α) : ixOf (fun x => p (f x)) l = ixOf p (l.map f) := by
  unfold ixOf
  rw [List.findIdx?_map]
  rfl
def boxNamed (l : List Box) (s : ByteArray) : Int := ixOf (fun b : Box => decide (b.name = s)) l
def boxWith (l : List Box) (v : Int) : Int := ixOf (fun b : Box => decide (b.validity = v)) l
theorem beq_ba {a b : ByteArray} (h : a = b) : (a.toList == b.toList) = true := by rw [beq_iff_eq, h]
theorem bne_ba {a b : ByteArray} (h : ¬ a = b) : (a.toList == b.toList) = false := by
  rw [beq_eq_false_iff_ne]
  intro e
  rw [ByteArray.toList_eq, ByteArray.toList_eq] at e
  exact h (by cases a; cases b; simp at e; subst e; rfl)
set_option maxHeartbeats 800000 in
set_option maxRecDepth 20000 in
theorem spec_BoxNamed (A : Option Addr) (n c : Nat) (rs : List (Box × Hd)) (s : ByteArray) (w : World) (hn : n ≤ 1048576) (h : Rd encBox 4 w A n rs) :
    Calls Try.prog 41 #[.slice A n c, .string s] w fun e w' => e = .returned (.int .i64 (boxNamed (rs.map Prod.fst) s)) ∧ w = w' := by
  have HL := Lib.hid h.1
  have H := Lib.hid h
  have HM := Lib.hid (ixOf_map Prod.fst (fun b : Box => decide (b.name = s)) rs)
  clear h
  have hfold : ∀ r, ixOf (fun p : Box × Hd => decide (p.1.name = s)) rs = r → r = boxNamed (rs.map Prod.fst) s := fun r e => by rw [← e]; exact HM.out
  have HF := Lib.hid hfold
  generalize boxNamed (rs.map Prod.fst) s = R at *
  clear hfold HM
  go_enter Try.func41, Try.ntmps41
  go_wp2_with fail
  go_loop [5] (fun i => ∃ k : Nat, k ≤ n ∧ i = .int .i64 k ∧ Hid (∀ (j : Nat) (y : Box × Hd), j < k → rs[j]? = some y → decide (y.1.name = s) = false)) (fun i => n - (intOf i).toNat)
  case atStart => exact ⟨0, Nat.zero_le _, rfl, fun j y hj => absurd hj (by omega)⟩
  case round =>
    obtain ⟨k, hk, rfl, ha⟩ := hrel
    by_cases hlt : k < n
    · obtain ⟨b, off, y, rfl, _, hy, hc⟩ := H.out.elem hlt
      have g0 : w.cell? ⟨b, off + k * 4, none⟩ = some (.string y.1.name) := by simpa using hc 0 _ rfl
      have HX := Lib.hid hy
      clear hc hy H
      by_cases hq : y.1.name = s
      · have hb := beq_ba hq
        have hfin := Lib.hid (HF.out _ (ixOf_hit (p := fun p : Box × Hd => decide (p.1.name = s)) HX.out (decide_eq_true hq) ha.out))
        clear ha hq
        go_wp2
        go_ret
        exact ⟨ret_i hfin.out, rfl⟩
      · have hb := bne_ba hq
        have hs := Lib.hid (anyF_succ (p := fun p : Box × Hd => decide (p.1.name = s)) ha.out HX.out (decide_eq_false hq))
        clear ha hq
        go_wp2
        go_round
        case rel => exact ⟨k + 1, by omega, by go_num, hs.out⟩
        case measure => simp [intOf]; omega
    · have hke : k = n := by omega
      have hfin := Lib.hid (HF.out _ (ixOf_miss (p := fun p : Box × Hd => decide (p.1.name = s)) (l := rs) (fun j y hy => ha.out j y (by rw [hke, ← HL.out]; exact (List.getElem?_eq_some_iff.1 hy).1) hy)))
      clear ha hke
      go_wp2
      go_ret
      exact ⟨ret_i hfin.out, rfl⟩
set_option maxHeartbeats 800000 in
set_option maxRecDepth 20000 in
theorem impl_BoxNamed_1 (x : Box × Hd) (s : ByteArray) (g : Nat) (w : World) (hc : w.cell? ⟨g, 0, none⟩ = some (.string s)) (hg : g < w.heap.size) :
    Calls Try.prog 68 #[.agg #[.string x.1.name, .int .i64 x.1.validity, .int .i64 x.1.next, .slice x.2.A x.2.n x.2.c], .pointer (some ⟨g, 0, none⟩)] w fun e w' => e = .returned (.bool (decide (x.1.name = s))) ∧ Below w.heap.size w w' := by
  have hne : g ≠ w.heap.size := by omega
  by_cases hq : x.1.name = s
  · have hb := beq_ba hq
    have HQ := Lib.hid (decide_eq_true hq)
    clear hq
    go_enter Try.func68, Try.ntmps68
    go_wp2
    go_ret
    exact ⟨ret_b (by rw [HQ.out]), by go_grown⟩
  · have hb := bne_ba hq
    have HQ := Lib.hid (decide_eq_false hq)
    clear hq
    go_enter Try.func68, Try.ntmps68
    go_wp2
    go_ret
    exact ⟨ret_b (by rw [HQ.out]), by go_grown⟩
set_option maxHeartbeats 800000 in
set_option maxRecDepth 20000 in
theorem impl_BoxNamed (A : Option Addr) (n c : Nat) (rs : List (Box × Hd)) (s : ByteArray) (w : World) (hn : n ≤ 1048576) (h : Rd encBox 4 w A n rs) :
    Calls Try.prog 27 #[.slice A n c, .string s] w fun e w' => e = .returned (.int .i64 (boxNamed (rs.map Prod.fst) s)) ∧ Below w.heap.size w w' := by
  have HR := Lib.hid h
  have HM := Lib.hid (ixOf_map Prod.fst (fun b : Box => decide (b.name = s)) rs)
  clear h
  go_enter Try.func27, Try.ntmps27
  go_wp2_with fail
  refine (slices_IndexFunc_Box _ _ _ _ _ (fun p : Box × Hd => decide (p.1.name = s)) rs _ (by omega) (HR.out.below (by go_grown)) (enters_of Try.func68 (by kernel_rfl) rfl) ?_).mono ?_
  · intro W y _ hb
    refine impl_BoxNamed_1 y s w.heap.size W ?_ ?_
    · exact (hb.cell (p := ⟨w.heap.size, 0, none⟩) (by simp)).trans (by go_simp)
    · have := hb.size; simp at this; omega
  · rintro e w1 ⟨rfl, hb1⟩
    have HW := Lib.hid (Below.trans (by go_grown : Below w.heap.size w _) (hb1.mono (by simp)))
    have HM2 := Lib.hid (show ixOf (fun p : Box × Hd => decide (p.1.name = s)) rs = boxNamed (rs.map Prod.fst) s from HM.out)
    clear hb1 HM
    go_wp2
    go_ret
    exact ⟨ret_i HM2.out, HW.out⟩
set_option maxHeartbeats 1600000 in
set_option maxRecDepth 20000 in
theorem walk_FnExactBoxNamed {H : Type} {enc0 : TypeId × Value → H} {base : Nat} {d0 : DataW H} {p0 : List MemPlace} (v0 : Value) (s : ByteArray) (w : World) (o0 : Value.okWide Try.prog w .any base 33 v0)
    (h0 : DataW.Trod enc0 Try.prog w 0 (fun _ => true) true 33 v0 d0 p0) (w0 : s.size ≤ maxLen) :
    Calls Try.prog 10 #[v0, .string s] w fun e w' => e = .returned (.bool true) ∧ Below w.heap.size w w' := by
  obtain ⟨A, n, c, rs, rfl, h, hn, hi⟩ := open_BoxS o0 h0
  clear o0 h0
  unfold maxLen at w0
  by_cases hbig : (1048576 : Int) < (s.size : Int)
  · go_enter Try.func10, Try.ntmps10
    go_wp2
    go_ret
    exact ⟨rfl, Below.refl _ _⟩
  obtain ⟨ys, hy⟩ : ∃ ys, rs.map Prod.fst = ys := ⟨_, rfl⟩
  have hlen : n = ys.length := by rw [← hy, List.length_map]; exact h.1.symm
  subst hlen
  have H := Lib.hid h
  have HI := Lib.hid hi
  have HY := Lib.hid hy
  clear h hi hy
  go_enter Try.func10, Try.ntmps10
  go_wp2_with fail
  refine (laws_szBoxS A ys.length c rs 1048576 w (by omega) (by omega) hn H.out HI.out).mono ?_
  rintro e w1 ⟨⟨v, rfl, hv1, hv2, hfit⟩, hb1⟩
  have HB1 := Lib.hid hb1
  clear hb1
  by_cases hneg : v < 0
  · clear hfit
    go_wp2
    go_ret
    exact ⟨rfl, HB1.out⟩
  have hf := hfit (by omega)
  have hn2 := hf.1
  have HF := Lib.hid hf.2
  clear hf hfit
  obtain ⟨R, hR⟩ : ∃ R, boxNamed ys s = R := ⟨_, rfl⟩
  have HR := Lib.hid hR
  clear hR
  have HC := Lib.hid (laws_toBoxS' A ys.length c rs ys w1 hn2 (H.out.below HB1.out) (fun p hp => (HI.out p hp).below HB1.out) HF.out HY.out)
  go_wp2_with fail
  refine HC.out.mono ?_
  rintro e w2 ⟨A2, c2, rs2, rfl, hm2, ho2, hi2, hb2⟩
  have HB2 := Lib.hid (HB1.out.trans (hb2.mono HB1.out.size))
  have R2 := Rd.of_own (enc := encBox) (k := 4) (fun _ => rfl) ho2 (by rw [← hm2, List.length_map])
  have hspec := spec_BoxNamed A2 ys.length c2 rs2 s w2 hn2 R2
  rw [hm2, HR.out] at hspec
  have HS := Lib.hid hspec
  clear hb2 ho2 hi2 hspec R2 hm2 HC
  go_wp2_with fail
  refine HS.out.mono ?_
  rintro e w' ⟨rfl, rfl⟩
  clear HS
  have HC := Lib.hid (laws_toBoxS' A ys.length c rs ys w2 hn2 (H.out.below HB2.out) (fun p hp => (HI.out p hp).below HB2.out) HF.out HY.out)
  go_wp2_with fail
  refine HC.out.mono ?_
  rintro e w3 ⟨A3, c3, rs3, rfl, hm3, ho3, hi3, hb3⟩
  have HB3 := Lib.hid (HB2.out.trans (hb3.mono HB2.out.size))
  have R3 := Lib.hid (Rd.of_own (enc := encBox) (k := 4) (fun _ => rfl) ho3 (by rw [← hm3, List.length_map]))
  have HM3 := Lib.hid hm3
  have HI3 := Lib.hid (show ∀ p ∈ rs3, BoxIs w3 p.1 p.2 from fun p hp => (hi3 p hp).is)
  have himpl := impl_BoxNamed A3 ys.length c3 rs3 s w3 hn2 R3.out
  rw [hm3, HR.out] at himpl
  have HS := Lib.hid himpl
  clear hb3 ho3 hi3 hm3 himpl HC
  go_wp2_with fail
  refine HS.out.mono ?_
  rintro e w4 ⟨rfl, hb4⟩
  have HB34 := Lib.hid hb4
  have HB4 := Lib.hid (HB3.out.trans (hb4.mono HB3.out.size))
  clear hb4 HS
  have HC := Lib.hid (laws_toBoxS' A ys.length c rs ys w4 hn2 (H.out.below HB4.out) (fun p hp => (HI.out p hp).below HB4.out) HF.out HY.out)
  go_wp2_with fail
  refine HC.out.mono ?_
  rintro e w5 ⟨A5, c5, rs5, rfl, hm5, ho5, hi5, hb5⟩
  have HB5 := Lib.hid (HB4.out.trans (hb5.mono HB4.out.size))
  have R5 := Rd.of_own (enc := encBox) (k := 4) (fun _ => rfl) ho5 (by rw [← hm5, List.length_map])
  have hb35 := HB34.out.trans (hb5.mono HB34.out.size)
  have heq := laws_eqBoxS A3 A5 ys.length c3 c5 rs3 rs5 w5 (by omega) (R3.out.below hb35) R5 (fun p hp => (HI3.out p hp).below hb35) (fun p hp => (hi5 p hp).is) (fit_of HF.out HY.out HM3.out) (HM3.out.trans hm5.symm)
  have HE := Lib.hid heq
  clear heq hb35 hb5 ho5 hi5 hm5 R5 HC
  go_wp2_with fail
  refine HE.out.mono ?_
  rintro e w6 ⟨rfl, hb6⟩
  have HB6 := Lib.hid (HB5.out.trans (hb6.mono HB5.out.size))
  clear hb6 HE
  go_wp2
  go_ret
  exact ⟨rfl, HB6.out⟩
set_option maxHeartbeats 800000 in
set_option maxRecDepth 20000 in
theorem spec_BoxWith (A : Option Addr) (n c : Nat) (rs : List (Box × Hd)) (s : Int) (w : World) (hn : n ≤ 1048576) (h : Rd encBox 4 w A n rs) :
    Calls Try.prog 42 #[.slice A n c, .int .i64 s] w fun e w' => e = .returned (.int .i64 (boxWith (rs.map Prod.fst) s)) ∧ w = w' := by
  have HL := Lib.hid h.1
  have H := Lib.hid h
  have HM := Lib.hid (ixOf_map Prod.fst (fun b : Box => decide (b.validity = s)) rs)
  clear h
  have hfold : ∀ r, ixOf (fun p : Box × Hd => decide (p.1.validity = s)) rs = r → r = boxWith (rs.map Prod.fst) s := fun r e => by rw [← e]; exact HM.out
  have HF := Lib.hid hfold
  generalize boxWith (rs.map Prod.fst) s = R at *
  clear hfold HM
  go_enter Try.func42, Try.ntmps42
  go_wp2_with fail
  go_loop [5] (fun i => ∃ k : Nat, k ≤ n ∧ i = .int .i64 k ∧ Hid (∀ (j : Nat) (y : Box × Hd), j < k → rs[j]? = some y → decide (y.1.validity = s) = false)) (fun i => n - (intOf i).toNat)
  case atStart => exact ⟨0, Nat.zero_le _, rfl, fun j y hj => absurd hj (by omega)⟩
  case round =>
    obtain ⟨k, hk, rfl, ha⟩ := hrel
    by_cases hlt : k < n
    · obtain ⟨b, off, y, rfl, _, hy, hc⟩ := H.out.elem hlt
      have g0 : w.cell? ⟨b, off + k * 4 + 1, none⟩ = some (.int .i64 y.1.validity) := hc 1 _ rfl
      have HX := Lib.hid hy
      clear hc hy H
      by_cases hq : y.1.validity = s
      · have hb := (by rw [beq_iff_eq]; exact hq : (y.1.validity == s) = true)
        have hfin := Lib.hid (HF.out _ (ixOf_hit (p := fun p : Box × Hd => decide (p.1.validity = s)) HX.out (decide_eq_true hq) ha.out))
        clear ha hq
        go_wp2
        go_ret
        exact ⟨ret_i hfin.out, rfl⟩
      · have hb := (by rw [beq_eq_false_iff_ne]; exact hq : (y.1.validity == s) = false)
        have hs := Lib.hid (anyF_succ (p := fun p : Box × Hd => decide (p.1.validity = s)) ha.out HX.out (decide_eq_false hq))
        clear ha hq
        go_wp2
        go_round
        case rel => exact ⟨k + 1, by omega, by go_num, hs.out⟩
        case measure => simp [intOf]; omega
    · have hke : k = n := by omega
      have hfin := Lib.hid (HF.out _ (ixOf_miss (p := fun p : Box × Hd => decide (p.1.validity = s)) (l := rs) (fun j y hy => ha.out j y (by rw [hke, ← HL.out]; exact (List.getElem?_eq_some_iff.1 hy).1) hy)))
      clear ha hke
      go_wp2
      go_ret
      exact ⟨ret_i hfin.out, rfl⟩
set_option maxHeartbeats 800000 in
set_option maxRecDepth 20000 in
theorem impl_BoxWith_1 (x : Box × Hd) (s : Int) (g : Nat) (w : World) (hc : w.cell? ⟨g, 0, none⟩ = some (.int .i64 s)) (hg : g < w.heap.size) :
    Calls Try.prog 69 #[.agg #[.string x.1.name, .int .i64 x.1.validity, .int .i64 x.1.next, .slice x.2.A x.2.n x.2.c], .pointer (some ⟨g, 0, none⟩)] w fun e w' => e = .returned (.bool (decide (x.1.validity = s))) ∧ Below w.heap.size w w' := by
  have hne : g ≠ w.heap.size := by omega
  by_cases hq : x.1.validity = s
  · have hb := (by rw [beq_iff_eq]; exact hq : (x.1.validity == s) = true)
    have HQ := Lib.hid (decide_eq_true hq)
    clear hq
    go_enter Try.func69, Try.ntmps69
    go_wp2
    go_ret
    exact ⟨ret_b (by rw [HQ.out]), by go_grown⟩
  · have hb := (by rw [beq_eq_false_iff_ne]; exact hq : (x.1.validity == s) = false)
    have HQ := Lib.hid (decide_eq_false hq)
    clear hq
    go_enter Try.func69, Try.ntmps69
    go_wp2
    go_ret
    exact ⟨ret_b (by rw [HQ.out]), by go_grown⟩
set_option maxHeartbeats 800000 in
set_option maxRecDepth 20000 in
theorem impl_BoxWith (A : Option Addr) (n c : Nat) (rs : List (Box × Hd)) (s : Int) (w : World) (hn : n ≤ 1048576) (h : Rd encBox 4 w A n rs) :
    Calls Try.prog 28 #[.slice A n c, .int .i64 s] w fun e w' => e = .returned (.int .i64 (boxWith (rs.map Prod.fst) s)) ∧ Below w.heap.size w w' := by
  have HR := Lib.hid h
  have HM := Lib.hid (ixOf_map Prod.fst (fun b : Box => decide (b.validity = s)) rs)
  clear h
  go_enter Try.func28, Try.ntmps28
  go_wp2_with fail
  refine (slices_IndexFunc_Box _ _ _ _ _ (fun p : Box × Hd => decide (p.1.validity = s)) rs _ (by omega) (HR.out.below (by go_grown)) (enters_of Try.func69 (by kernel_rfl) rfl) ?_).mono ?_
  · intro W y _ hb
    refine impl_BoxWith_1 y s w.heap.size W ?_ ?_
    · exact (hb.cell (p := ⟨w.heap.size, 0, none⟩) (by simp)).trans (by go_simp)
    · have := hb.size; simp at this; omega
  · rintro e w1 ⟨rfl, hb1⟩
    have HW := Lib.hid (Below.trans (by go_grown : Below w.heap.size w _) (hb1.mono (by simp)))
    have HM2 := Lib.hid (show ixOf (fun p : Box × Hd => decide (p.1.validity = s)) rs = boxWith (rs.map Prod.fst) s from HM.out)
    clear hb1 HM
    go_wp2
    go_ret
    exact ⟨ret_i HM2.out, HW.out⟩
set_option maxHeartbeats 1600000 in
set_option maxRecDepth 20000 in
theorem walk_FnExactBoxWith {H : Type} {enc0 : TypeId × Value → H} {base : Nat} {d0 : DataW H} {p0 : List MemPlace} (v0 : Value) (s : Int) (w : World) (o0 : Value.okWide Try.prog w .any base 33 v0)
    (h0 : DataW.Trod enc0 Try.prog w 0 (fun _ => true) true 33 v0 d0 p0) (_w1 : (Lit.int .i64 s).wf = true) :
    Calls Try.prog 11 #[v0, .int .i64 s] w fun e w' => e = .returned (.bool true) ∧ Below w.heap.size w w' := by
  obtain ⟨A, n, c, rs, rfl, h, hn, hi⟩ := open_BoxS o0 h0
  clear o0 h0
  obtain ⟨ys, hy⟩ : ∃ ys, rs.map Prod.fst = ys := ⟨_, rfl⟩
  have hlen : n = ys.length := by rw [← hy, List.length_map]; exact h.1.symm
  subst hlen
  have H := Lib.hid h
  have HI := Lib.hid hi
  have HY := Lib.hid hy
  clear h hi hy
  go_enter Try.func11, Try.ntmps11
  go_wp2_with fail
  refine (laws_szBoxS A ys.length c rs 1048576 w (by omega) (by omega) hn H.out HI.out).mono ?_
  rintro e w1 ⟨⟨v, rfl, hv1, hv2, hfit⟩, hb1⟩
  have HB1 := Lib.hid hb1
  clear hb1
  by_cases hneg : v < 0
  · clear hfit
    go_wp2
    go_ret
    exact ⟨rfl, HB1.out⟩
  have hf := hfit (by omega)
  have hn2 := hf.1
  have HF := Lib.hid hf.2
  clear hf hfit
  obtain ⟨R, hR⟩ : ∃ R, boxWith ys s = R := ⟨_, rfl⟩
  have HR := Lib.hid hR
  clear hR
  have HC := Lib.hid (laws_toBoxS' A ys.length c rs ys w1 hn2 (H.out.below HB1.out) (fun p hp => (HI.out p hp).below HB1.out) HF.out HY.out)
  go_wp2_with fail
  refine HC.out.mono ?_
  rintro e w2 ⟨A2, c2, rs2, rfl, hm2, ho2, hi2, hb2⟩
  have HB2 := Lib.hid (HB1.out.trans (hb2.mono HB1.out.size))
  have R2 := Rd.of_own (enc := encBox) (k := 4) (fun _ => rfl) ho2 (by rw [← hm2, List.length_map])
  have hspec := spec_BoxWith A2 ys.length c2 rs2 s w2 hn2 R2
  rw [hm2, HR.out] at hspec
  have HS := Lib.hid hspec
  clear hb2 ho2 hi2 hspec R2 hm2 HC
  go_wp2_with fail
  refine HS.out.mono ?_
  rintro e w' ⟨rfl, rfl⟩
  clear HS
  have HC := Lib.hid (laws_toBoxS' A ys.length c rs ys w2 hn2 (H.out.below HB2.out) (fun p hp => (HI.out p hp).below HB2.out) HF.out HY.out)
  go_wp2_with fail
  refine HC.out.mono ?_
  rintro e w3 ⟨A3, c3, rs3, rfl, hm3, ho3, hi3, hb3⟩
  have HB3 := Lib.hid (HB2.out.trans (hb3.mono HB2.out.size))
  have R3 := Lib.hid (Rd.of_own (enc := encBox) (k := 4) (fun _ => rfl) ho3 (by rw [← hm3, List.length_map]))
  have HM3 := Lib.hid hm3
  have HI3 := Lib.hid (show ∀ p ∈ rs3, BoxIs w3 p.1 p.2 from fun p hp => (hi3 p hp).is)
  have himpl := impl_BoxWith A3 ys.length c3 rs3 s w3 hn2 R3.out
  rw [hm3, HR.out] at himpl
  have HS := Lib.hid himpl
  clear hb3 ho3 hi3 hm3 himpl HC
  go_wp2_with fail
  refine HS.out.mono ?_
  rintro e w4 ⟨rfl, hb4⟩
  have HB34 := Lib.hid hb4
  have HB4 := Lib.hid (HB3.out.trans (hb4.mono HB3.out.size))
  clear hb4 HS
  have HC := Lib.hid (laws_toBoxS' A ys.length c rs ys w4 hn2 (H.out.below HB4.out) (fun p hp => (HI.out p hp).below HB4.out) HF.out HY.out)
  go_wp2_with fail
  refine HC.out.mono ?_
  rintro e w5 ⟨A5, c5, rs5, rfl, hm5, ho5, hi5, hb5⟩
  have HB5 := Lib.hid (HB4.out.trans (hb5.mono HB4.out.size))
  have R5 := Rd.of_own (enc := encBox) (k := 4) (fun _ => rfl) ho5 (by rw [← hm5, List.length_map])
  have hb35 := HB34.out.trans (hb5.mono HB34.out.size)
  have heq := laws_eqBoxS A3 A5 ys.length c3 c5 rs3 rs5 w5 (by omega) (R3.out.below hb35) R5 (fun p hp => (HI3.out p hp).below hb35) (fun p hp => (hi5 p hp).is) (fit_of HF.out HY.out HM3.out) (HM3.out.trans hm5.symm)
  have HE := Lib.hid heq
  clear heq hb35 hb5 ho5 hi5 hm5 R5 HC
  go_wp2_with fail
  refine HE.out.mono ?_
  rintro e w6 ⟨rfl, hb6⟩
  have HB6 := Lib.hid (HB5.out.trans (hb6.mono HB5.out.size))
  clear hb6 HE
  go_wp2
  go_ret
  exact ⟨rfl, HB6.out⟩

end Go.Proofs.Ytmkhmgompajdaaa
