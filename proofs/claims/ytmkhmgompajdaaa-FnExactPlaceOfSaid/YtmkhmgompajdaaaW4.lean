/-
  Walks: what each function returns, and that it leaves what lay in memory as it was.
-/
import Derived.Test.YtmkhmgompajdaaaProg
import Derived.Test.YtmkhmgompajdaaaPlain
import Derived.Test.YtmkhmgompajdaaaBase2
import Derived.Test.YtmkhmgompajdaaaOpen2
import Derived.Test.YtmkhmgompajdaaaShelf
import Derived.WalkKit
import Derived.WalkSpells
import Derived.WalkLawsBesides
import Derived.Lib.Hide
import Derived.Deep.LoopGhost
import Derived.Deep.QuietTactic
import Derived.BigQuiet
import Derived.Handy
import Derived.Deep.RegionHeld3
import Derived.StillTailTactics
import Derived.OpenShut
import Derived.ChangeSame

import Derived.Test.YtmkhmgompajdaaaPlainT

import Derived.Test.YtmkhmgompajdaaaW1

import Derived.Test.YtmkhmgompajdaaaW2

import Derived.Test.YtmkhmgompajdaaaW3

namespace Go.Proofs.Ytmkhmgompajdaaa
open Go.ChangeShapes Go.WideShapes Go.ChangeAt Go.RowKit Go.Deep
set_option linter.unusedVariables false
set_option linter.unusedSimpArgs false

set_option maxHeartbeats 800000 in
set_option maxRecDepth 20000 in
theorem slices_IndexFunc_Msg (A : Option Addr) (n c g : Nat) (lb : Array Value) (p : Msg → Bool) (xs : List (Msg)) (w : World) (hn : n ≤ 4611686018427387904) (h : Rd encMsg 3 w A n xs)
    (eg : ∀ args w, (callFunc g args).run Try.prog w = .ok (.enter g args) w) (hp : PaysAt Try.prog g lb (fun x : Msg => .agg #[.int .i64 x.uid, .int .i64 x.flags, .string x.text]) p w xs) :
    Calls Try.prog 70 #[.slice A n c, .func (.func g) #[] lb] w fun e w' => e = .returned (.int .i64 (ixOf p xs)) ∧ Below w.heap.size w w' := by
  have HL := Lib.hid h.1
  have H := Lib.hid h
  have HP := Lib.hid hp
  clear h hp
  go_enter Try.func70, Try.ntmps70
  go_wp2_with fail
  go_loopw [8] (fun i wr => ∃ k : Nat, k ≤ n ∧ i = .int .i64 k ∧ Below w.heap.size w wr ∧ Hid (∀ (j : Nat) (y : Msg), j < k → xs[j]? = some y → p y = false)) (fun i _ => n - (intOf i).toNat)
  case atStart => exact ⟨0, Nat.zero_le _, rfl, Below.refl _ _, fun j y hj => absurd hj (by omega)⟩
  case round =>
    obtain ⟨k, hk, rfl, hW, ha⟩ := hrel
    by_cases hlt : k < n
    · obtain ⟨b, off, x, rfl, _, hx, hc⟩ := (H.out.below hW).elem hlt
      have g0 : wr.cell? ⟨b, off + k * 3, none⟩ = some (.int .i64 x.uid) := by simpa using hc 0 _ rfl
      have g1 : wr.cell? ⟨b, off + k * 3 + 1, none⟩ = some (.int .i64 x.flags) := hc 1 _ rfl
      have g2 : wr.cell? ⟨b, off + k * 3 + 2, none⟩ = some (.string x.text) := hc 2 _ rfl
      have hcall := HP.out wr x (List.mem_of_getElem? hx) hW
      have HX := Lib.hid hx
      have HW := Lib.hid hW
      clear hc hx hW H HP
      cases hq : p x with
      | true =>
        rw [hq] at hcall
        have hfin := Lib.hid (ixOf_hit HX.out hq ha.out)
        clear hq ha
        go_wp2_with (go_at_fn g; refine hcall.mono ?_; rintro e w' ⟨rfl, hb'⟩)
        go_ret
        exact ⟨ret_i hfin.out.symm, HW.out.trans (hb'.mono HW.out.size)⟩
      | false =>
        rw [hq] at hcall
        have hs := Lib.hid (anyF_succ ha.out HX.out hq)
        clear hq ha
        go_wp2_with (go_at_fn g; refine hcall.mono ?_; rintro e w' ⟨rfl, hb'⟩)
        go_roundw
        case rel => exact ⟨k + 1, by omega, by go_num, HW.out.trans (hb'.mono HW.out.size), hs.out⟩
        case measure => simp [intOf]; omega
    · have hke : k = n := by omega
      have hfin := Lib.hid (ixOf_miss (p := p) (l := xs) (fun j y hy => ha.out j y (by rw [hke, ← HL.out]; exact (List.getElem?_eq_some_iff.1 hy).1) hy))
      clear ha hke
      go_wp2
      go_ret
      exact ⟨ret_i hfin.out.symm, hW⟩

def placeOf (l : List Msg) (uid : Int) : Int := ixOf (fun m : Msg => decide (m.uid = uid)) l
set_option maxHeartbeats 800000 in
set_option maxRecDepth 20000 in
theorem spec_PlaceOf (x : Box) (h : Hd) (u : Int) (w : World) (hx : BoxIs w x h) (hf : x.msgs.length ≤ 1048576) :
    Calls Try.prog 32 #[.agg #[.string x.name, .int .i64 x.validity, .int .i64 x.next, .slice h.A h.n h.c], .int .i64 u] w fun e w' => e = .returned (.int .i64 (placeOf x.msgs u)) ∧ Below w.heap.size w w' := by
  obtain ⟨A, n, c⟩ := h
  have hr := hx.2.1
  simp only [] at hr
  have HL := Lib.hid hr.1
  have hn : n ≤ 1048576 := by rw [← hr.1]; exact hf
  have HR := Lib.hid hr
  clear hx hr hf
  go_enter Try.func32, Try.ntmps32
  go_wp2_with fail
  have hW : Below w.heap.size w (w.alloc (.cells #[.string x.name, .int .i64 x.validity, .int .i64 x.next, .slice A n c] 29)) := by go_grown
  have p3 : (w.alloc (.cells #[.string x.name, .int .i64 x.validity, .int .i64 x.next, .slice A n c] 29)).cell? ⟨w.heap.size, 3, none⟩ = some (.slice A n c) := by go_simp
  generalize w.alloc (.cells #[.string x.name, .int .i64 x.validity, .int .i64 x.next, .slice A n c] 29) = w1 at *
  have HW := Lib.hid hW
  have H := Lib.hid (HR.out.below hW)
  clear hW HR
  go_loop [5] (fun i => ∃ k : Nat, k ≤ n ∧ i = .int .i64 k ∧ Hid (∀ (j : Nat) (y : Msg), j < k → x.msgs[j]? = some y → decide (y.uid = u) = false)) (fun i => n - (intOf i).toNat)
  case atStart => exact ⟨0, Nat.zero_le _, rfl, fun j y hj => absurd hj (by omega)⟩
  case round =>
    obtain ⟨k, hk, rfl, ha⟩ := hrel
    by_cases hlt : k < n
    · obtain ⟨b, off, y, rfl, _, hy, hc⟩ := H.out.elem hlt
      have g0 : w1.cell? ⟨b, off + k * 3, none⟩ = some (.int .i64 y.uid) := by simpa using hc 0 _ rfl
      have HX := Lib.hid hy
      clear hc hy H
      by_cases hq : y.uid = u
      · have hb : (y.uid == u) = true := by rw [beq_iff_eq]; exact hq
        have hfin := Lib.hid (ixOf_hit (p := fun m : Msg => decide (m.uid = u)) HX.out (decide_eq_true hq) ha.out)
        clear ha hq
        go_wp2
        go_ret
        exact ⟨ret_i hfin.out.symm, HW.out⟩
      · have hb : (y.uid == u) = false := by rw [beq_eq_false_iff_ne]; exact hq
        have hs := Lib.hid (anyF_succ (p := fun m : Msg => decide (m.uid = u)) ha.out HX.out (decide_eq_false hq))
        clear ha hq
        go_wp2
        go_round
        case rel => exact ⟨k + 1, by omega, by go_num, hs.out⟩
        case measure => simp [intOf]; omega
    · have hke : k = n := by omega
      have hfin := Lib.hid (ixOf_miss (p := fun m : Msg => decide (m.uid = u)) (l := x.msgs) (fun j y hy => ha.out j y (by rw [hke, ← HL.out]; exact (List.getElem?_eq_some_iff.1 hy).1) hy))
      clear ha hke
      go_wp2
      go_ret
      exact ⟨ret_i hfin.out.symm, HW.out⟩
set_option maxHeartbeats 800000 in
set_option maxRecDepth 20000 in
theorem impl_PlaceOf_1 (x : Msg) (u : Int) (g : Nat) (w : World) (hc : w.cell? ⟨g, 0, none⟩ = some (.int .i64 u)) (hg : g < w.heap.size) :
    Calls Try.prog 71 #[.agg #[.int .i64 x.uid, .int .i64 x.flags, .string x.text], .pointer (some ⟨g, 0, none⟩)] w fun e w' => e = .returned (.bool (decide (x.uid = u))) ∧ Below w.heap.size w w' := by
  have hne : g ≠ w.heap.size := by omega
  by_cases hq : x.uid = u
  · have hb : (x.uid == u) = true := by rw [beq_iff_eq]; exact hq
    have HQ := Lib.hid (decide_eq_true hq)
    clear hq
    go_enter Try.func71, Try.ntmps71
    go_wp2
    go_ret
    exact ⟨ret_b (by rw [HQ.out]), by go_grown⟩
  · have hb : (x.uid == u) = false := by rw [beq_eq_false_iff_ne]; exact hq
    have HQ := Lib.hid (decide_eq_false hq)
    clear hq
    go_enter Try.func71, Try.ntmps71
    go_wp2
    go_ret
    exact ⟨ret_b (by rw [HQ.out]), by go_grown⟩
set_option maxHeartbeats 800000 in
set_option maxRecDepth 20000 in
theorem impl_PlaceOf (x : Box) (h : Hd) (u : Int) (w : World) (hx : BoxIs w x h) (hf : x.msgs.length ≤ 1048576) :
    Calls Try.prog 30 #[.agg #[.string x.name, .int .i64 x.validity, .int .i64 x.next, .slice h.A h.n h.c], .int .i64 u] w fun e w' => e = .returned (.int .i64 (placeOf x.msgs u)) ∧ Below w.heap.size w w' := by
  obtain ⟨A, n, c⟩ := h
  have hr := hx.2.1
  simp only [] at hr
  have hn : n ≤ 1048576 := by rw [← hr.1]; exact hf
  have HR := Lib.hid hr
  clear hx hr hf
  go_enter Try.func30, Try.ntmps30
  go_wp2_with fail
  refine (slices_IndexFunc_Msg _ _ _ _ _ (fun m : Msg => decide (m.uid = u)) x.msgs _ (by omega) (HR.out.below (by go_grown)) (enters_of Try.func71 (by kernel_rfl) rfl) ?_).mono ?_
  · intro W y _ hb
    refine impl_PlaceOf_1 y u (w.heap.size + 1) W ?_ ?_
    · exact (hb.cell (p := ⟨w.heap.size + 1, 0, none⟩) (by simp)).trans (by go_simp)
    · have := hb.size; simp at this; omega
  · rintro e w1 ⟨rfl, hb1⟩
    have HW := Lib.hid (Below.trans (by go_grown : Below w.heap.size w _) (hb1.mono (by simp; omega)))
    clear hb1
    go_wp2
    go_ret
    exact ⟨rfl, HW.out⟩
set_option maxHeartbeats 1600000 in
set_option maxRecDepth 20000 in
theorem walk_FnExactPlaceOf {H : Type} {enc0 : TypeId × Value → H} {base : Nat} {d0 : DataW H} {p0 : List MemPlace} (v0 : Value) (u : Int) (w : World) (o0 : Value.okWide Try.prog w .any base 24 v0)
    (h0 : DataW.Trod enc0 Try.prog w 0 (fun _ => true) true 24 v0 d0 p0) (_wu : (Lit.int .i64 u).wf = true) :
    Calls Try.prog 6 #[v0, .int .i64 u] w fun e w' => e = .returned (.bool true) ∧ Below w.heap.size w w' := by
  obtain ⟨x, h, rfl, hi⟩ := open_Box o0 h0
  clear o0 h0
  go_enter Try.func6, Try.ntmps6
  go_wp2_with fail
  have hW : Below w.heap.size w (w.alloc (.cells #[.string x.name, .int .i64 x.validity, .int .i64 x.next, .slice h.A h.n h.c] 24)) := by go_grown
  have hP : Holds (w.alloc (.cells #[.string x.name, .int .i64 x.validity, .int .i64 x.next, .slice h.A h.n h.c] 24)) w.heap.size [.string x.name, .int .i64 x.validity, .int .i64 x.next, .slice h.A h.n h.c] := Holds.new w _ _
  generalize w.alloc (.cells #[.string x.name, .int .i64 x.validity, .int .i64 x.next, .slice h.A h.n h.c] 24) = W0 at *
  refine (laws_szBox x h 1048576 W0 (by omega) (by omega) (hi.below hW)).mono ?_
  rintro e w1 ⟨⟨v, rfl, hv1, hv2, hfit⟩, hb1⟩
  have i1 := (hi.below hW).below hb1
  have P1 := hP.below hb1
  have B1 := hW.trans (hb1.mono hW.size)
  clear hi hW hP hb1 W0
  by_cases hneg : v < 0
  · have HB := Lib.hid B1
    clear i1 P1 B1 hfit
    go_wp2
    go_ret
    exact ⟨rfl, HB.out⟩
  have hf := hfit (by omega)
  clear hfit
  have Hf := Lib.hid hf
  have Hi := Lib.hid i1
  have HP := Lib.hid P1
  have HB := Lib.hid B1
  have p0 := P1.2 0 (.string x.name) rfl
  have p1 := P1.2 1 (.int .i64 x.validity) rfl
  have p2 := P1.2 2 (.int .i64 x.next) rfl
  have p3 := P1.2 3 (.slice h.A h.n h.c) rfl
  clear i1 P1 B1 hf
  go_wp2_with fail
  refine (laws_toBox x h w1 Hi.out Hf.out).mono ?_
  rintro e w2 ⟨⟨h2, rfl, o2⟩, hb2⟩
  go_wp2_with fail
  refine (spec_PlaceOf x h2 u w2 o2.is Hf.out.2.1).mono ?_
  rintro e w3 ⟨rfl, hb3⟩
  have hb13 := hb2.trans (hb3.mono hb2.size)
  have i3 := Hi.out.below hb13
  have P3 := HP.out.below hb13
  have B3 := HB.out.trans (hb13.mono HB.out.size)
  clear p0 p1 p2 p3 o2 hb2 hb3 hb13 Hi HP HB
  have Hi := Lib.hid i3
  have HP := Lib.hid P3
  have HB := Lib.hid B3
  have p0 := P3.2 0 (.string x.name) rfl
  have p1 := P3.2 1 (.int .i64 x.validity) rfl
  have p2 := P3.2 2 (.int .i64 x.next) rfl
  have p3 := P3.2 3 (.slice h.A h.n h.c) rfl
  clear i3 P3 B3
  go_wp2_with fail
  refine (laws_toBox x h w3 Hi.out Hf.out).mono ?_
  rintro e w4 ⟨⟨h4, rfl, o4⟩, hb4⟩
  have i4 := Hi.out.below hb4
  have P4 := HP.out.below hb4
  have B4 := HB.out.trans (hb4.mono HB.out.size)
  have o4' := o4.is
  clear p0 p1 p2 p3 hb4 Hi HP HB o4
  have Hi := Lib.hid i4
  have Ho := Lib.hid o4'
  have HP := Lib.hid P4
  have HB := Lib.hid B4
  clear i4 o4' P4 B4
  go_wp2_with fail
  have hW : Below w4.heap.size w4 (w4.alloc (.cells #[.string x.name, .int .i64 x.validity, .int .i64 x.next, .slice h4.A h4.n h4.c] 29)) := by go_grown
  have hQ : Holds (w4.alloc (.cells #[.string x.name, .int .i64 x.validity, .int .i64 x.next, .slice h4.A h4.n h4.c] 29)) w4.heap.size [.string x.name, .int .i64 x.validity, .int .i64 x.next, .slice h4.A h4.n h4.c] := Holds.new w4 _ _
  generalize w4.alloc (.cells #[.string x.name, .int .i64 x.validity, .int .i64 x.next, .slice h4.A h4.n h4.c] 29) = W5 at *
  refine (impl_PlaceOf x h4 u W5 (Ho.out.below hW) Hf.out.2.1).mono ?_
  rintro e w6 ⟨rfl, hb6⟩
  have hb46 := hW.trans (hb6.mono hW.size)
  have Q6 := hQ.below hb6
  have P6 := HP.out.below hb46
  have i6 := Hi.out.below hb46
  have o6 := Ho.out.below hb46
  have B6 := HB.out.trans (hb46.mono HB.out.size)
  generalize w4.heap.size = G at *
  clear hW hQ hb6 hb46 Hi Ho HP HB
  have Hi := Lib.hid i6
  have Ho := Lib.hid o6
  have HP := Lib.hid P6
  have HQ := Lib.hid Q6
  have HB := Lib.hid B6
  have p0 := P6.2 0 (.string x.name) rfl
  have p1 := P6.2 1 (.int .i64 x.validity) rfl
  have p2 := P6.2 2 (.int .i64 x.next) rfl
  have p3 := P6.2 3 (.slice h.A h.n h.c) rfl
  have q0 := Q6.2 0 (.string x.name) rfl
  have q1 := Q6.2 1 (.int .i64 x.validity) rfl
  have q2 := Q6.2 2 (.int .i64 x.next) rfl
  have q3 := Q6.2 3 (.slice h4.A h4.n h4.c) rfl
  have hS : Eight w6 w.heap.size G (.string x.name) (.int .i64 x.validity) (.int .i64 x.next) (.slice h.A h.n h.c) (.slice h4.A h4.n h4.c) := ⟨p0, p1, p2, p3, q0, q1, q2, q3⟩
  clear i6 o6 P6 Q6 B6
  go_wp2
  go_region_held3 (fun w' => w'.cell? ⟨w.heap.size, 0, none⟩ = some (.string x.name) ∧ w'.cell? ⟨w.heap.size, 1, none⟩ = some (.int .i64 x.validity) ∧ w'.cell? ⟨w.heap.size, 2, none⟩ = some (.int .i64 x.next) ∧ w'.cell? ⟨w.heap.size, 3, none⟩ = some (.slice h.A h.n h.c) ∧
      w'.cell? ⟨G, 0, none⟩ = some (.string x.name) ∧ w'.cell? ⟨G, 1, none⟩ = some (.int .i64 x.validity) ∧ w'.cell? ⟨G, 2, none⟩ = some (.int .i64 x.next) ∧ w'.cell? ⟨G, 3, none⟩ = some (.slice h4.A h4.n h4.c)) (first | exact hS | assumption)
    ((first
      | (go_at_call 17; refine (laws_toBox x h _ (Hi.out.below (by go_grown)) Hf.out).mono ?_; rintro e w7 ⟨⟨h7, rfl, o7⟩, hb7⟩
         have hb7' : Below w6.heap.size w6 w7 := (Below.refl _ w6).drew.trans hb7
         have hS7 := hS.below hb7' HP.out.1 HQ.out.1)
      | (go_at_call 19; refine (laws_eqBox x h4 h7 _ (Ho.out.below hb7') o7.is Hf.out.2.1).mono ?_; rintro e w8 ⟨rfl, hb8⟩
         have hS8 := hS7.below hb8 (Nat.lt_of_lt_of_le HP.out.1 hb7'.size) (Nat.lt_of_lt_of_le HQ.out.1 hb7'.size))))
  have HE := Lib.hid (HB.out.trans ((hb7'.trans (hb8.mono hb7'.size)).mono HB.out.size))
  clear hb7 hb7' hb8 hS hS7 hS8 HB
  go_wp2
  go_ret
  exact ⟨rfl, HE.out⟩

end Go.Proofs.Ytmkhmgompajdaaa
