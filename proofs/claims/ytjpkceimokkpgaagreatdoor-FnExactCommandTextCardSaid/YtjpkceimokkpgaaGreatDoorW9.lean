/-
  Walks: what each function returns, and that it leaves what lay in memory as it was.
-/
import Derived.Test.YtjpkceimokkpgaaGreatDoorProg
import Derived.Test.YtjpkceimokkpgaaGreatDoorPlain
import Derived.Test.YtjpkceimokkpgaaGreatDoorBase2
import Derived.Test.YtjpkceimokkpgaaGreatDoorOpen2
import Derived.Test.YtjpkceimokkpgaaGreatDoorShelf
import Derived.WalkKit
import Derived.WalkSpells
import Derived.WalkLawsBesides
import Derived.Lib.Hide
import Derived.Deep.LoopGhost
import Derived.Deep.QuietTactic
import Derived.BigQuiet
import Derived.Handy
import Derived.Deep.RegionHeld3
import Derived.StillTailTactics
import Derived.OpenShut
import Derived.ChangeSame
import Derived.Laws.StructEq

import Derived.Test.YtjpkceimokkpgaaGreatDoorPlainT

import Derived.Test.YtjpkceimokkpgaaGreatDoorW1

import Derived.Test.YtjpkceimokkpgaaGreatDoorW2

import Derived.Test.YtjpkceimokkpgaaGreatDoorW3

import Derived.Test.YtjpkceimokkpgaaGreatDoorW4

import Derived.Test.YtjpkceimokkpgaaGreatDoorW5

namespace Go.Proofs.YtjpkceimokkpgaaGreatDoor
open Go.ChangeShapes Go.WideShapes Go.ChangeAt Go.RowKit Go.Deep
set_option linter.unusedVariables false
set_option linter.unusedSimpArgs false

def filterOk (f : Filter) : Bool := if f.on = true then inR (f.scopes.length : Int) 1 3 && !f.scopes.any (fun s => !scopeOk s) else decide (f.scopes.length = 0)
theorem filterOk_off {f : Filter} (h : f.on = false) : filterOk f = decide (f.scopes.length = 0) := by unfold filterOk; rw [h]; rfl
theorem filterOk_on {f : Filter} {rs : List (Scope × Hd)} (h : f.on = true) (hm : rs.map Prod.fst = f.scopes) : filterOk f = (inR (f.scopes.length : Int) 1 3 && !rs.any (fun q => !scopeOk q.1)) := by
  unfold filterOk; rw [if_pos h, any_fst (fun s => !scopeOk s), hm]
theorem filterOk_bad {f : Filter} {rs : List (Scope × Hd)} {k : Nat} {q : Scope × Hd} (hm : rs.map Prod.fst = f.scopes) (hk : rs[k]? = some q) (h : scopeOk q.1 = false) : filterOk f = false := by
  cases ho : f.on
  · rw [filterOk_off ho, ← hm]
    have := (List.getElem?_eq_some_iff.1 hk).1
    exact decide_eq_false (by rw [List.length_map]; omega)
  · rw [filterOk_on ho hm]
    have : rs.any (fun q => !scopeOk q.1) = true := List.any_eq_true.2 ⟨q, List.mem_of_getElem? hk, by rw [h]; rfl⟩
    rw [this]; simp
theorem filterOk_all {f : Filter} {rs : List (Scope × Hd)} (hm : rs.map Prod.fst = f.scopes) (ha : ∀ (j : Nat) (q : Scope × Hd), rs[j]? = some q → scopeOk q.1 = true) : filterOk f = if f.on = true then inR (f.scopes.length : Int) 1 3 else decide (f.scopes.length = 0) := by
  cases ho : f.on
  · rw [filterOk_off ho]; rfl
  · rw [filterOk_on ho hm]
    have : rs.any (fun q => !scopeOk q.1) = false := by
      rw [List.any_eq_false]
      intro q hq
      obtain ⟨j, hj⟩ := List.getElem?_of_mem hq
      rw [ha j q hj]; simp
    rw [this]; simp
theorem impl_FilterOk_1 (x : Scope × Hd) (w : World) (i : ScopeIs w x.1 x.2) (f : x.1.Fit) (hml : ML w) :
    Calls Tryz.prog 104 #[.agg #[.int .i64 x.1.kind, .slice x.2.A x.2.n x.2.c, .int .i64 x.1.events]] w fun e w' => e = .returned (.bool (!scopeOk x.1)) ∧ Below w.heap.size w w' := by
  have HI := Lib.hid i
  have HM := Lib.hid hml
  clear i hml
  cases hR : scopeOk x.1
  all_goals
    have HR := Lib.hid hR
    clear hR
    go_enter Tryz.func104, Tryz.ntmps104
    go_wp2_with (go_at_call 105; refine (impl_ScopeOk x.1 x.2 _ (HI.out.below (by go_grown)) f (HM.out.below (by go_grown))).mono ?_; rw [HR.out]; rintro e w1 ⟨rfl, hb⟩)
    go_ret
    exact ⟨rfl, Below.trans (by go_grown : Below w.heap.size w _) (hb.mono (by simp))⟩
set_option maxHeartbeats 1600000 in
set_option maxRecDepth 20000 in
theorem impl_FilterOk (x : Filter) (h : FHd) (w : World) (i : FilterIs w x h) (f : x.Fit) (hml : ML w) :
    Calls Tryz.prog 74 #[.agg #[.bool x.on, .slice h.A h.n h.c]] w fun e w' => e = .returned (.bool (filterOk x)) ∧ Below w.heap.size w w' := by
  have hlen := i.len
  have hn : h.n ≤ 1048576 := by rw [i.len]; exact f.1
  have HI := Lib.hid i
  have HF := Lib.hid (fits_of f i.2.2.2)
  have HM := Lib.hid hml
  clear hml f
  cases hon : x.on
  · have HFin := Lib.hid (show filterOk x = decide (h.n = 0) by rw [filterOk_off hon, hlen])
    clear hlen
    by_cases h0 : h.n = 0
    · have HQ := Lib.hid (decide_eq_true h0)
      have hnb : ((h.n : Int) == 0) = true := beq_iff_eq.2 (by omega)
      go_enter Tryz.func74, Tryz.ntmps74
      go_wp2
      go_ret
      exact ⟨ret_b (by rw [HFin.out, HQ.out]), by go_grown⟩
    · have HQ := Lib.hid (decide_eq_false h0)
      have hnb : ((h.n : Int) == 0) = false := beq_eq_false_iff_ne.2 (by omega)
      go_enter Tryz.func74, Tryz.ntmps74
      go_wp2
      go_ret
      exact ⟨ret_b (by rw [HFin.out, HQ.out]), by go_grown⟩
  · have HFin := Lib.hid (filterOk_on hon i.2.2.2)
    cases hr : inR (h.n : Int) 1 3
    · have HQ := Lib.hid (show filterOk x = false by rw [HFin.out, ← hlen, hr, Bool.false_and])
      clear i hlen
      go_enter Tryz.func74, Tryz.ntmps74
      go_wp2_with (go_at_call 76; refine (within_any _ _ _ _).mono ?_; rintro e w' ⟨rfl, rfl⟩; rw [hr])
      go_ret
      exact ⟨ret_b HQ.out.symm, by go_grown⟩
    · have HQ := Lib.hid (show filterOk x = !h.rs.any (fun q => !scopeOk q.1) by rw [HFin.out, ← hlen, hr, Bool.true_and])
      clear i hlen
      go_enter Tryz.func74, Tryz.ntmps74
      go_wp2_with (go_at_call 76; refine (within_any _ _ _ _).mono ?_; rintro e w' ⟨rfl, rfl⟩; rw [hr])
      refine (slices_ContainsFunc_Scope _ _ _ _ _ (fun q : Scope × Hd => !scopeOk q.1) h.rs _ (by omega) (HI.out.1.below (by go_grown)) (enters_of Tryz.func104 (by kernel_rfl) rfl) ?_).mono ?_
      · intro W y hy hb
        have hb0 : Below w.heap.size w W := Below.trans (by go_grown : Below w.heap.size w _) (hb.mono (by simp))
        exact impl_FilterOk_1 y W ((HI.out.2.2.1 y hy).below hb0) (HF.out y hy) (HM.out.below hb0)
      · rintro e w1 ⟨rfl, hb1⟩
        have HW := Lib.hid (Below.trans (by go_grown : Below w.heap.size w _) (hb1.mono (by simp)))
        clear hb1
        cases ha : h.rs.any (fun q : Scope × Hd => !scopeOk q.1)
        · have HA := Lib.hid ha
          clear ha
          go_wp2
          go_ret
          exact ⟨ret_b (by rw [HQ.out, HA.out]; rfl), HW.out⟩
        · have HA := Lib.hid ha
          clear ha
          go_wp2
          go_ret
          exact ⟨ret_b (by rw [HQ.out, HA.out]; rfl), HW.out⟩
set_option maxHeartbeats 1600000 in
set_option maxRecDepth 20000 in
theorem spec_FilterOk (x : Filter) (h : FHd) (w : World) (i : FilterIs w x h) (f : x.Fit) :
    Calls Tryz.prog 58 #[.agg #[.bool x.on, .slice h.A h.n h.c]] w fun e w' => e = .returned (.bool (filterOk x)) ∧ Below w.heap.size w w' := by
  have hlen := Lib.hid i.len
  have hn : h.n ≤ 1048576 := by rw [i.len]; exact f.1
  have HI := Lib.hid i
  have HF := Lib.hid (fits_of f i.2.2.2)
  have HMp := Lib.hid i.2.2.2
  clear f i
  obtain ⟨A, n, c, rs⟩ := h
  simp only [] at hn HI HF hlen HMp
  go_enter Tryz.func58, Tryz.ntmps58
  go_wp2_with fail
  have hW : Below w.heap.size w (w.alloc (.cells #[.bool x.on, .slice A n c] 34)) := by go_grown
  have hP : Holds (w.alloc (.cells #[.bool x.on, .slice A n c] 34)) w.heap.size [.bool x.on, .slice A n c] := Holds.new w _ _
  have p0w := hP.2 0 (.bool x.on) rfl
  have p1w := hP.2 1 (.slice A n c) rfl
  generalize w.alloc (.cells #[.bool x.on, .slice A n c] 34) = w1 at *
  have HW := Lib.hid hW
  have HP := Lib.hid hP
  have H := Lib.hid (HI.out.below hW)
  clear hW hP HI
  go_loopw [3] (fun i wr => ∃ k : Nat, k ≤ n ∧ i = .int .i64 k ∧ Below w1.heap.size w1 wr ∧ Hid (∀ (j : Nat) (y : Scope × Hd), j < k → rs[j]? = some y → scopeOk y.1 = true)) (fun i _ => n - (intOf i).toNat)
  case atStart => exact ⟨0, Nat.zero_le _, rfl, Below.refl _ _, fun j y hj => absurd hj (by omega)⟩
  case round =>
    obtain ⟨k, hk, rfl, hb, ha⟩ := hrel
    have p0 := (HP.out.below hb).2 0 (.bool x.on) rfl
    have p1 := (HP.out.below hb).2 1 (.slice A n c) rfl
    clear p0w p1w
    by_cases hlt : k < n
    · obtain ⟨b, off, y, rfl, _, hy, hc⟩ := (H.out.below hb).1.elem hlt
      have g0 : wr.cell? ⟨b, off + k * 3, none⟩ = some (.int .i64 y.1.kind) := by simpa using hc 0 _ rfl
      have g1 : wr.cell? ⟨b, off + k * 3 + 1, none⟩ = some (.slice y.2.A y.2.n y.2.c) := hc 1 _ rfl
      have g2 : wr.cell? ⟨b, off + k * 3 + 2, none⟩ = some (.int .i64 y.1.events) := hc 2 _ rfl
      have J := Lib.hid ((H.out.2.2.1 y (List.mem_of_getElem? hy)).below hb)
      have K := Lib.hid (HF.out y (List.mem_of_getElem? hy))
      have HB := Lib.hid hb
      have HD := Lib.hid (fun h => filterOk_bad HMp.out hy h)
      have HS := Lib.hid (show scopeOk y.1 = true → ∀ (j : Nat) (z : Scope × Hd), j < k + 1 → rs[j]? = some z → scopeOk z.1 = true from fun h => allP_succ (p := fun z : Scope × Hd => scopeOk z.1 = true) ha.out hy h)
      clear hc hy hb H ha
      cases hq : scopeOk y.1
      · have HE := Lib.hid (HD.out hq)
        have Hq := Lib.hid hq
        clear HS HD hq
        go_wp2_with (go_at_call 96; refine (spec_ScopeOk y.1 y.2 _ J.out K.out).mono ?_; rw [Hq.out]; rintro e w3 ⟨rfl, hb3⟩)
        go_ret
        exact ⟨ret_b HE.out.symm, HW.out.trans ((HB.out.trans (hb3.mono HB.out.size)).mono HW.out.size)⟩
      · have HE := Lib.hid (HS.out hq)
        have Hq := Lib.hid hq
        clear HS HD hq
        go_wp2_with (go_at_call 96; refine (spec_ScopeOk y.1 y.2 _ J.out K.out).mono ?_; rw [Hq.out]; rintro e w3 ⟨rfl, hb3⟩)
        go_roundw
        case rel => exact ⟨k + 1, by omega, by go_num, HB.out.trans (hb3.mono HB.out.size), HE.out⟩
        case measure => simp [intOf]; omega
    · have hke : k = n := by omega
      have hkb : decide ((k : Int) < (n : Int)) = false := decide_eq_false (by omega)
      have HE := Lib.hid (show filterOk x = if x.on = true then inR (n : Int) 1 3 else decide (n = 0) by rw [filterOk_all HMp.out (fun j y hy => ha.out j y (by have h1 := (List.getElem?_eq_some_iff.1 hy).1; have h2 : rs.length = n := H.out.1.1; omega) hy), hlen.out])
      have HB := Lib.hid (HW.out.trans (hb.mono HW.out.size))
      clear ha hke hb
      cases hon : x.on
      · have HE2 := Lib.hid (show filterOk x = decide (n = 0) by rw [HE.out, hon]; rfl)
        rw [hon] at p0
        by_cases h0 : n = 0
        · have HQ := Lib.hid (decide_eq_true h0)
          have hnb : ((n : Int) == 0) = true := beq_iff_eq.2 (by omega)
          go_wp2
          go_ret
          exact ⟨ret_b (by rw [HE2.out, HQ.out]), HB.out⟩
        · have HQ := Lib.hid (decide_eq_false h0)
          have hnb : ((n : Int) == 0) = false := beq_eq_false_iff_ne.2 (by omega)
          go_wp2
          go_ret
          exact ⟨ret_b (by rw [HE2.out, HQ.out]), HB.out⟩
      · have HE2 := Lib.hid (show filterOk x = inR (n : Int) 1 3 by rw [HE.out, hon]; rfl)
        rw [hon] at p0
        go_wp2_with (go_at_call 50; refine (l1In_any _ _ _ _).mono ?_; rintro e w' ⟨rfl, rfl⟩)
        go_ret
        exact ⟨ret_b HE2.out.symm, HB.out⟩

end Go.Proofs.YtjpkceimokkpgaaGreatDoor
