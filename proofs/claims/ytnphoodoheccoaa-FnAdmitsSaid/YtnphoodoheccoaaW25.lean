/-
  Walks: what each function returns, and that it leaves what lay in memory as it was.
-/
import Derived.Test.YtnphoodoheccoaaProg
import Derived.Test.YtnphoodoheccoaaPlain
import Derived.Test.YtnphoodoheccoaaBase2
import Derived.Test.YtnphoodoheccoaaOpen2
import Derived.Test.YtnphoodoheccoaaShelf
import Derived.WalkKit
import Derived.WalkSpells
import Derived.WalkLawsBesides
import Derived.Lib.Hide
import Derived.Deep.LoopGhost
import Derived.Deep.QuietTactic
import Derived.BigQuiet
import Derived.Handy
import Derived.Deep.RegionHeld3
import Derived.StillTailTactics
import Derived.OpenShut
import Derived.ChangeSame
import Derived.Laws.StructEq

import Derived.Test.YtnphoodoheccoaaPlainT

import Derived.Test.YtnphoodoheccoaaW1

import Derived.Test.YtnphoodoheccoaaW9

import Derived.Test.YtnphoodoheccoaaW21

import Derived.Test.YtnphoodoheccoaaW22

import Derived.Test.YtnphoodoheccoaaW24

namespace Go.Proofs.Ytnphoodoheccoaa
open Go.ChangeShapes Go.WideShapes Go.ChangeAt Go.RowKit Go.Deep
set_option linter.unusedVariables false
set_option linter.unusedSimpArgs false

def admit1 (sel name : ByteArray) (ev : Int) (s : Scope) : Bool := covers s sel name && !decide (bits .and .i64 s.events ev = 0)
def admits (f : Filter) (sel name : ByteArray) (ev : Int) : Bool := f.on && f.scopes.any (admit1 sel name ev)
theorem admits_off {f : Filter} {sel name : ByteArray} {ev : Int} (h : f.on = false) : admits f sel name ev = false := by unfold admits; rw [h, Bool.false_and]
theorem any_fst {α β : Type} (p : α → Bool) (rs : List (α × β)) : rs.any (fun q => p q.1) = (rs.map Prod.fst).any p := by rw [List.any_map]; rfl
theorem admits_on {f : Filter} {rs : List (Scope × Hd)} {sel name : ByteArray} {ev : Int} (h : f.on = true) (hm : rs.map Prod.fst = f.scopes) : admits f sel name ev = rs.any (fun q => admit1 sel name ev q.1) := by unfold admits; rw [h, Bool.true_and, any_fst, hm]
set_option maxHeartbeats 1600000 in
set_option maxRecDepth 20000 in
theorem impl_Admits_1 (x : Scope × Hd) (sel name : ByteArray) (ev : Int) (g1 g2 g3 : Nat) (w : World) (hs : sel.size ≤ 1048576) (ht : name.size ≤ 1048576) (i : ScopeIs w x.1 x.2) (f : x.1.Fit)
    (c1 : w.cell? ⟨g1, 0, none⟩ = some (.string sel)) (c2 : w.cell? ⟨g2, 0, none⟩ = some (.string name)) (c3 : w.cell? ⟨g3, 0, none⟩ = some (.int .i64 ev)) (hml : ML w) :
    Calls Try.prog 25 #[.agg #[.int .i64 x.1.kind, .slice x.2.A x.2.n x.2.c, .int .i64 x.1.events], .pointer (some ⟨g1, 0, none⟩), .pointer (some ⟨g2, 0, none⟩), .pointer (some ⟨g3, 0, none⟩)] w fun e w' => e = .returned (.bool (admit1 sel name ev x.1)) ∧ Below w.heap.size w w' := by
  have HI := Lib.hid i
  have HM := Lib.hid hml
  have HFin := Lib.hid (show admit1 sel name ev x.1 = (covers x.1 sel name && !decide (bits .and .i64 x.1.events ev = 0)) from rfl)
  have l1 := World.block_lt_of_cell? w _ c1
  have l2 := World.block_lt_of_cell? w _ c2
  have l3 := World.block_lt_of_cell? w _ c3
  simp only [] at l1 l2 l3
  clear i hml
  go_enter Try.func25, Try.ntmps25
  have hA : Below w.heap.size w (w.alloc (.cells #[.int .i64 x.1.kind, .slice x.2.A x.2.n x.2.c, .int .i64 x.1.events] 32)) := by go_grown
  have hQ : Holds (w.alloc (.cells #[.int .i64 x.1.kind, .slice x.2.A x.2.n x.2.c, .int .i64 x.1.events] 32)) w.heap.size [.int .i64 x.1.kind, .slice x.2.A x.2.n x.2.c, .int .i64 x.1.events] := Holds.new w _ _
  have d1 : (w.alloc (.cells #[.int .i64 x.1.kind, .slice x.2.A x.2.n x.2.c, .int .i64 x.1.events] 32)).cell? ⟨g1, 0, none⟩ = some (.string sel) := (hA.cell (p := ⟨g1, 0, none⟩) l1).trans c1
  have d2 : (w.alloc (.cells #[.int .i64 x.1.kind, .slice x.2.A x.2.n x.2.c, .int .i64 x.1.events] 32)).cell? ⟨g2, 0, none⟩ = some (.string name) := (hA.cell (p := ⟨g2, 0, none⟩) l2).trans c2
  have d3 : (w.alloc (.cells #[.int .i64 x.1.kind, .slice x.2.A x.2.n x.2.c, .int .i64 x.1.events] 32)).cell? ⟨g3, 0, none⟩ = some (.int .i64 ev) := (hA.cell (p := ⟨g3, 0, none⟩) l3).trans c3
  go_wp2_with fail
  generalize w.alloc (.cells #[.int .i64 x.1.kind, .slice x.2.A x.2.n x.2.c, .int .i64 x.1.events] 32) = w1 at *
  refine (impl_Covers x.1 x.2 sel name w1 hs ht (HI.out.below hA) f (HM.out.below hA)).mono ?_
  rintro e w2 ⟨rfl, hb⟩
  have q2 := (hQ.below hb).2 2 (.int .i64 x.1.events) rfl
  have e3 : w2.cell? ⟨g3, 0, none⟩ = some (.int .i64 ev) := (hb.cell (p := ⟨g3, 0, none⟩) (World.block_lt_of_cell? w1 _ d3)).trans d3
  have HB := Lib.hid (hA.trans (hb.mono hA.size))
  clear hA hQ hb d1 d2 d3 c1 c2 c3
  cases hc : covers x.1 sel name
  · have HC := Lib.hid hc
    clear hc
    go_wp2
    go_ret
    exact ⟨ret_b (by rw [HFin.out, HC.out]; rfl), HB.out⟩
  · have HC := Lib.hid hc
    clear hc
    go_wp2
    go_ret
    exact ⟨ret_b (by rw [HFin.out, HC.out, Bool.true_and]; rfl), HB.out⟩
set_option maxHeartbeats 1600000 in
set_option maxRecDepth 20000 in
theorem impl_Admits (x : Filter) (h : FHd) (sel name : ByteArray) (ev : Int) (w : World) (hs : sel.size ≤ 1048576) (ht : name.size ≤ 1048576) (i : FilterIs w x h) (f : x.Fit) (hml : ML w) :
    Calls Try.prog 7 #[.agg #[.bool x.on, .slice h.A h.n h.c], .string sel, .string name, .int .i64 ev] w fun e w' => e = .returned (.bool (admits x sel name ev)) ∧ Below w.heap.size w w' := by
  have hn : h.n ≤ 1048576 := by rw [i.len]; exact f.1
  have HI := Lib.hid i
  have HF := Lib.hid (fits_of f i.2.2.2)
  have HM := Lib.hid hml
  clear hml f
  cases hon : x.on
  · have HFin := Lib.hid (admits_off (sel := sel) (name := name) (ev := ev) hon)
    go_enter Try.func7, Try.ntmps7
    go_wp2
    go_ret
    exact ⟨ret_b HFin.out.symm, by go_grown⟩
  · have HFin := Lib.hid (admits_on (sel := sel) (name := name) (ev := ev) hon i.2.2.2)
    clear i
    go_enter Try.func7, Try.ntmps7
    go_wp2_with fail
    refine (slices_ContainsFunc_Scope _ _ _ _ _ (fun q : Scope × Hd => admit1 sel name ev q.1) h.rs _ (by omega) (HI.out.1.below (by go_grown)) (enters_of Try.func25 (by kernel_rfl) rfl) ?_).mono ?_
    · intro W y hy hb
      have hb0 : Below w.heap.size w W := Below.trans (by go_grown : Below w.heap.size w _) (hb.mono (by simp; omega))
      refine impl_Admits_1 y sel name ev (w.heap.size + 1) (w.heap.size + 1 + 1) (w.heap.size + 1 + 1 + 1) W hs ht ((HI.out.2.2.1 y hy).below hb0) (HF.out y hy) ?_ ?_ ?_ (HM.out.below hb0)
      · exact (hb.cell (p := ⟨w.heap.size + 1, 0, none⟩) (by simp)).trans (by go_simp)
      · exact (hb.cell (p := ⟨w.heap.size + 1 + 1, 0, none⟩) (by simp)).trans (by go_simp)
      · exact (hb.cell (p := ⟨w.heap.size + 1 + 1 + 1, 0, none⟩) (by simp)).trans (by go_simp)
    · rintro e w1 ⟨rfl, hb1⟩
      have HW := Lib.hid (Below.trans (by go_grown : Below w.heap.size w _) (hb1.mono (by simp; omega)))
      clear hb1
      go_wp2
      go_ret
      exact ⟨ret_b HFin.out.symm, HW.out⟩
set_option maxHeartbeats 1600000 in
set_option maxRecDepth 20000 in
theorem spec_Admits (x : Filter) (h : FHd) (sel name : ByteArray) (ev : Int) (w : World) (hs : sel.size ≤ 1048576) (ht : name.size ≤ 1048576) (i : FilterIs w x h) (f : x.Fit) :
    Calls Try.prog 8 #[.agg #[.bool x.on, .slice h.A h.n h.c], .string sel, .string name, .int .i64 ev] w fun e w' => e = .returned (.bool (admits x sel name ev)) ∧ Below w.heap.size w w' := by
  have hn : h.n ≤ 1048576 := by rw [i.len]; exact f.1
  have HI := Lib.hid i
  have HF := Lib.hid (fits_of f i.2.2.2)
  clear f
  obtain ⟨on, scs⟩ := x
  obtain ⟨A, n, c, rs⟩ := h
  simp only [] at hn HI HF
  cases on
  · have HFin := Lib.hid (admits_off (f := ⟨false, scs⟩) (sel := sel) (name := name) (ev := ev) rfl)
    clear i
    dsimp only
    go_enter Try.func8, Try.ntmps8
    go_wp2_with fail
    have hW : Below w.heap.size w (w.alloc (.cells #[.bool false, .slice A n c] 26)) := by go_grown
    have hP : Holds (w.alloc (.cells #[.bool false, .slice A n c] 26)) w.heap.size [.bool false, .slice A n c] := Holds.new w _ _
    have p0 := hP.2 0 (.bool false) rfl
    have p1 := hP.2 1 (.slice A n c) rfl
    generalize w.alloc (.cells #[.bool false, .slice A n c] 26) = w1 at *
    have HW := Lib.hid hW
    clear hW hP HI HF
    go_loop [9] (fun i => i = .int .i64 0) (fun _ => 0)
    case atStart => rfl
    case round =>
      subst hrel
      by_cases h0 : (0 : Int) < (n : Int)
      · have h0' : 0 < n := by omega
        go_wp2
        go_ret
        exact ⟨ret_b HFin.out.symm, HW.out⟩
      · have h0' : n = 0 := by omega
        have h0b : decide ((0 : Int) < (n : Int)) = false := decide_eq_false h0
        subst h0'
        go_wp2
        go_ret
        exact ⟨ret_b HFin.out.symm, HW.out⟩
  · have HFin := Lib.hid (admits_on (f := ⟨true, scs⟩) (sel := sel) (name := name) (ev := ev) rfl i.2.2.2)
    clear i
    dsimp only
    go_enter Try.func8, Try.ntmps8
    go_wp2_with fail
    have hW : Below w.heap.size w (w.alloc (.cells #[.bool true, .slice A n c] 26)) := by go_grown
    have hP : Holds (w.alloc (.cells #[.bool true, .slice A n c] 26)) w.heap.size [.bool true, .slice A n c] := Holds.new w _ _
    have p0w := hP.2 0 (.bool true) rfl
    have p1w := hP.2 1 (.slice A n c) rfl
    generalize w.alloc (.cells #[.bool true, .slice A n c] 26) = w1 at *
    have HW := Lib.hid hW
    have HP := Lib.hid hP
    have H := Lib.hid (HI.out.below hW)
    clear hW hP HI
    go_loopw [9] (fun i wr => ∃ k : Nat, k ≤ n ∧ i = .int .i64 k ∧ Below w1.heap.size w1 wr ∧ Hid (∀ (j : Nat) (y : Scope × Hd), j < k → rs[j]? = some y → admit1 sel name ev y.1 = false)) (fun i _ => n - (intOf i).toNat)
    case atStart => exact ⟨0, Nat.zero_le _, rfl, Below.refl _ _, fun j y hj => absurd hj (by omega)⟩
    case round =>
      obtain ⟨k, hk, rfl, hb, ha⟩ := hrel
      have p0 := (HP.out.below hb).2 0 (.bool true) rfl
      have p1 := (HP.out.below hb).2 1 (.slice A n c) rfl
      clear p0w p1w
      by_cases hlt : k < n
      · obtain ⟨b, off, y, rfl, _, hy, hc⟩ := (H.out.below hb).1.elem hlt
        have g0 : wr.cell? ⟨b, off + k * 3, none⟩ = some (.int .i64 y.1.kind) := by simpa using hc 0 _ rfl
        have g1 : wr.cell? ⟨b, off + k * 3 + 1, none⟩ = some (.slice y.2.A y.2.n y.2.c) := hc 1 _ rfl
        have g2 : wr.cell? ⟨b, off + k * 3 + 2, none⟩ = some (.int .i64 y.1.events) := hc 2 _ rfl
        have J := Lib.hid ((H.out.2.2.1 y (List.mem_of_getElem? hy)).below hb)
        have K := Lib.hid (HF.out y (List.mem_of_getElem? hy))
        have HX := Lib.hid hy
        have HB := Lib.hid hb
        have HA1 := Lib.hid (show admit1 sel name ev y.1 = (covers y.1 sel name && !decide (bits .and .i64 y.1.events ev = 0)) from rfl)
        clear hc hy hb H
        by_cases hz : bits .and .i64 y.1.events ev = 0
        · have hs1 := Lib.hid (anyF_succ (p := fun q : Scope × Hd => admit1 sel name ev q.1) ha.out HX.out (by rw [HA1.out, hz]; simp))
          have hzb : (bits .and .i64 y.1.events ev == 0) = true := beq_iff_eq.2 hz
          clear ha HA1
          go_wp2
          go_roundw
          case rel => exact ⟨k + 1, by omega, by go_num, HB.out, hs1.out⟩
          case measure => simp [intOf]; omega
        · have HZ := Lib.hid (decide_eq_false hz)
          have hzb : (bits .and .i64 y.1.events ev == 0) = false := beq_eq_false_iff_ne.2 hz
          cases hq : covers y.1 sel name
          · have hs1 := Lib.hid (anyF_succ (p := fun q : Scope × Hd => admit1 sel name ev q.1) ha.out HX.out (by rw [HA1.out, hq]; rfl))
            have Hq := Lib.hid hq
            clear ha hq
            go_wp2_with (go_at_call 26; refine (spec_Covers y.1 y.2 sel name _ hs ht J.out K.out).mono ?_; rw [Hq.out]; rintro e w3 ⟨rfl, hb3⟩)
            go_roundw
            case rel => exact ⟨k + 1, by omega, by go_num, HB.out.trans (hb3.mono HB.out.size), hs1.out⟩
            case measure => simp [intOf]; omega
          · have hfin := Lib.hid (any_hit (p := fun q : Scope × Hd => admit1 sel name ev q.1) HX.out (by rw [HA1.out, hq, HZ.out]; rfl))
            have Hq := Lib.hid hq
            clear ha hq
            go_wp2_with (go_at_call 26; refine (spec_Covers y.1 y.2 sel name _ hs ht J.out K.out).mono ?_; rw [Hq.out]; rintro e w3 ⟨rfl, hb3⟩)
            go_ret
            exact ⟨ret_b (by rw [HFin.out, hfin.out]), HW.out.trans ((HB.out.trans (hb3.mono HB.out.size)).mono HW.out.size)⟩
      · have hke : k = n := by omega
        have hkb : decide ((k : Int) < (n : Int)) = false := decide_eq_false (by omega)
        have hfin := Lib.hid (any_miss (p := fun q : Scope × Hd => admit1 sel name ev q.1) (l := rs) (fun j y hy => ha.out j y (by have h1 := (List.getElem?_eq_some_iff.1 hy).1; have h2 : rs.length = n := H.out.1.1; omega) hy))
        have HB := Lib.hid hb
        clear ha hke hb
        go_wp2
        go_ret
        exact ⟨ret_b (by rw [HFin.out, hfin.out]), HW.out.trans (HB.out.mono HW.out.size)⟩

end Go.Proofs.Ytnphoodoheccoaa
