/-
  Walks: what each function returns, and that it leaves what lay in memory as it was.
-/
import Derived.Test.YtjpkceimokkpgaaGreatDoorProg
import Derived.Test.YtjpkceimokkpgaaGreatDoorPlain
import Derived.Test.YtjpkceimokkpgaaGreatDoorBase2
import Derived.Test.YtjpkceimokkpgaaGreatDoorOpen2
import Derived.Test.YtjpkceimokkpgaaGreatDoorShelf
import Derived.WalkKit
import Derived.WalkSpells
import Derived.WalkLawsBesides
import Derived.Lib.Hide
import Derived.Deep.LoopGhost
import Derived.Deep.QuietTactic
import Derived.BigQuiet
import Derived.Handy
import Derived.Deep.RegionHeld3
import Derived.StillTailTactics
import Derived.OpenShut
import Derived.ChangeSame
import Derived.Laws.StructEq

import Derived.Test.YtjpkceimokkpgaaGreatDoorPlainT

import Derived.Test.YtjpkceimokkpgaaGreatDoorW1

import Derived.Test.YtjpkceimokkpgaaGreatDoorW3

import Derived.Test.YtjpkceimokkpgaaGreatDoorW5

namespace Go.Proofs.YtjpkceimokkpgaaGreatDoor
open Go.ChangeShapes Go.WideShapes Go.ChangeAt Go.RowKit Go.Deep
set_option linter.unusedVariables false
set_option linter.unusedSimpArgs false

theorem laws_szSpanS0 (A : Option Addr) (n c : Nat) (left : Int) (w : World) (h0 : 0 ≤ left) (h1 : left ≤ 1048576) (hn : n ≤ 9223372036854775807) :
    Calls Tryz.prog 16 #[.slice A n c, .int .i64 left] w fun e w' => e = .returned (.int .i64 (szLeft left n)) ∧ w = w' := by
  by_cases h : left < (n : Int)
  · have hs := Lib.hid (show szLeft left n = -1 by unfold szLeft; rw [if_pos h])
    go_enter Tryz.func16, Tryz.ntmps16
    go_wp2
    go_ret
    exact ⟨ret_i hs.out.symm, rfl⟩
  · have hs := Lib.hid (show szLeft left n = left - n by unfold szLeft; rw [if_neg h])
    go_enter Tryz.func16, Tryz.ntmps16
    go_wp2
    go_ret
    exact ⟨ret_i hs.out.symm, rfl⟩
theorem laws_toSpan (a b : Int) (w : World) :
    Calls Tryz.prog 64 #[.agg #[.int .i64 a, .int .i64 b]] w fun e w' => e = .returned (.agg #[.int .i64 a, .int .i64 b]) ∧ Below w.heap.size w w' := by
  go_enter Tryz.func64, Tryz.ntmps64
  go_wp2
  go_returns
  exact ⟨rfl, by go_grown⟩
set_option maxHeartbeats 1600000 in
theorem laws_toSpanS (A : Option Addr) (n c : Nat) (xs : List Span) (w : World) (hn : n ≤ 1048576) (h : Rd encSpan 2 w A n xs) :
    Calls Tryz.prog 28 #[.slice A n c] w (RetOwn encSpan 2 75 w xs) := by
  have HL := Lib.hid h.1
  have H := Lib.hid h
  clear h
  go_enter Tryz.func28, Tryz.ntmps28
  go_wp2_with (at_make; refine wpList_mk (enc := encSpan) (0, 0) (k := 2) (by omega) rfl rfl _ _ 31 75 rfl (.agg #[.int .i64 0, .int .i64 0]) 16 Tryz.underlying31 (by kernel_rfl) rfl n rfl rfl (by omega) (by omega) ?_; intro w1 g hown hg hb1)
  go_wp2_with fail
  go_loopw [4] (fun i wr => ∃ j : Nat, j ≤ n ∧ i = .int .i64 j ∧ wr.ownsRow w.heap.size 75 2 (.slice (some ⟨g, 0, none⟩) n n) n ((xs.take j ++ List.replicate (n - j) (0, 0)).flatMap encSpan) ∧ Below w.heap.size w wr) (fun i _ => n - (intOf i).toNat)
  case atStart => exact ⟨0, Nat.zero_le _, rfl, hown, hb1⟩
  case round =>
    obtain ⟨j, hj, rfl, ho, hW⟩ := hrel
    clear hown hb1
    by_cases hlt : j < n
    · obtain ⟨b, off, x, rfl, hb, hx, hc⟩ := (H.out.below hW).elem hlt
      have g0 : wr.cell? ⟨b, off + j * 2, none⟩ = some (.int .i64 x.1) := by simpa using hc 0 _ rfl
      have g1 : wr.cell? ⟨b, off + j * 2 + 1, none⟩ = some (.int .i64 x.2) := hc 1 _ rfl
      have HX := Lib.hid hx
      have Ho := Lib.hid ho
      have HW := Lib.hid hW
      clear hc hx ho hW H
      go_wp2_with fail
      refine (laws_toSpan _ _ _).mono ?_
      rintro e w2 ⟨rfl, hb2⟩
      have ho1 := own_below Ho.out hb2
      have hat := take_at xs (0, 0) n j HL.out hlt
      have c0 : w2.cell? ⟨g, j * 2, none⟩ = some (.int .i64 0) := (ho1.cellAt (j * 2) (by omega)).trans (flat_get (enc := encSpan) (k := 2) (fun _ => rfl) _ j 0 _ _ hat rfl)
      have c1 : w2.cell? ⟨g, j * 2 + 1, none⟩ = some (.int .i64 0) := (ho1.cellAt (j * 2 + 1) (by omega)).trans (flat_get (enc := encSpan) (k := 2) (fun _ => rfl) _ j 1 _ _ hat rfl)
      have f0 := ho1.frozenAt (j * 2)
      have f1 := ho1.frozenAt (j * 2 + 1)
      have s1 := ho1.stored (j * 2) (.int .i64 x.1)
      have s2 := s1.1.stored (j * 2 + 1) (.int .i64 x.2)
      have hfin := s2.1
      rw [flat_set2, take_set xs (0, 0) x n j HL.out hlt HX.out] at hfin
      have Hfin := Lib.hid hfin
      have Hbel := Lib.hid ((HW.out.trans (hb2.mono HW.out.size)).trans ((gb_to_below (B := w.heap.size) s1.2 (Nat.le_trans HW.out.size hb2.size) (fun k hk => by simp at hk; omega)).trans (gb_to_below s2.2 (by have h1 := HW.out.size; have h2 := hb2.size; simp; omega) (fun k hk => by simp at hk; omega))))
      clear s1 s2 hfin hat ho1 hb2
      go_wp2
      go_roundw
      case rel => exact ⟨j + 1, by omega, by go_num, Hfin.out, Hbel.out⟩
      case measure => simp [intOf]; omega
    · have hke : j = n := by omega
      subst hke
      rw [Nat.sub_self, List.replicate_zero, List.append_nil, List.take_of_length_le (by rw [HL.out]; exact Nat.le_refl _)] at ho
      have Ho := Lib.hid ho
      clear ho hlt
      go_wp2
      go_ret
      have ho2 := Ho.out
      have hl := HL.out
      subst hl
      exact ⟨_, _, rfl, ho2, hW⟩
theorem laws_eqSpan (a b : Int) (w : World) :
    Calls Tryz.prog 84 #[.agg #[.int .i64 a, .int .i64 b], .agg #[.int .i64 a, .int .i64 b]] w fun e w' => e = .returned (.bool true) ∧ Below w.heap.size w w' := by
  go_enter Tryz.func84, Tryz.ntmps84
  go_wp2
  go_ret
  exact ⟨rfl, by go_grown⟩
set_option maxHeartbeats 800000 in
set_option maxRecDepth 20000 in
theorem laws_eqSpanS (A1 A2 : Option Addr) (n c1 c2 : Nat) (xs : List Span) (w : World) (hn : n ≤ 4611686018427387904) (h1 : Rd encSpan 2 w A1 n xs) (h2 : Rd encSpan 2 w A2 n xs) :
    Calls Tryz.prog 41 #[.slice A1 n c1, .slice A2 n c2] w fun e w' => e = .returned (.bool true) ∧ Below w.heap.size w w' := by
  have H1 := Lib.hid h1
  have H2 := Lib.hid h2
  clear h1 h2
  go_enter Tryz.func41, Tryz.ntmps41
  go_wp2_with fail
  go_loopw [5] (fun i wr => ∃ k : Nat, k ≤ n ∧ i = .int .i64 k ∧ Below w.heap.size w wr) (fun i _ => n - (intOf i).toNat)
  case atStart => exact ⟨0, Nat.zero_le _, rfl, Below.refl _ _⟩
  case round =>
    obtain ⟨k, hk, rfl, hW⟩ := hrel
    by_cases hlt : k < n
    · obtain ⟨b1, o1, x, rfl, _, hx, hc1⟩ := (H1.out.below hW).elem hlt
      obtain ⟨b2, o2, x', rfl, _, hx', hc2⟩ := (H2.out.below hW).elem hlt
      have hxx : x' = x := by rw [hx] at hx'; exact (Option.some.inj hx').symm
      subst hxx
      have g1 : wr.cell? ⟨b1, o1 + k * 2, none⟩ = some (.int .i64 x'.1) := by simpa using hc1 0 _ rfl
      have g2 : wr.cell? ⟨b1, o1 + k * 2 + 1, none⟩ = some (.int .i64 x'.2) := hc1 1 _ rfl
      have g3 : wr.cell? ⟨b2, o2 + k * 2, none⟩ = some (.int .i64 x'.1) := by simpa using hc2 0 _ rfl
      have g4 : wr.cell? ⟨b2, o2 + k * 2 + 1, none⟩ = some (.int .i64 x'.2) := hc2 1 _ rfl
      have HW := Lib.hid hW
      clear hc1 hc2 hx hx' hW H1 H2
      have hkn : (k : Int) < (n : Int) := by omega
      have hk0 : (0 : Int) ≤ (k : Int) := by omega
      go_wp2_with fail
      go_still_tail 8, (by kernel_rfl)
      change wpList _ _ _ _ _ wr.drew
      replace g1 : wr.drew.cell? ⟨b1, o1 + k * 2, none⟩ = some (.int .i64 x'.1) := g1
      replace g2 : wr.drew.cell? ⟨b1, o1 + k * 2 + 1, none⟩ = some (.int .i64 x'.2) := g2
      replace g3 : wr.drew.cell? ⟨b2, o2 + k * 2, none⟩ = some (.int .i64 x'.1) := g3
      replace g4 : wr.drew.cell? ⟨b2, o2 + k * 2 + 1, none⟩ = some (.int .i64 x'.2) := g4
      have HW2 := Lib.hid (HW.out.drew)
      clear HW
      generalize wr.drew = w2 at *
      go_wp2_with (go_at_call 84; refine (laws_eqSpan _ _ _).mono ?_; rintro e w3 ⟨rfl, hb3⟩)
      go_roundw
      case rel => exact ⟨k + 1, by omega, by go_num, HW2.out.trans (hb3.mono HW2.out.size)⟩
      case measure => simp [intOf]; omega
    · go_wp2
      go_ret
      exact ⟨rfl, hW⟩
set_option maxHeartbeats 800000 in
theorem spec_SetOk (A : Option Addr) (n c : Nat) (xs : List Span) (w : World) (hn : n ≤ 4611686018427387904) (h : Rd encSpan 2 w A n xs) :
    Calls Tryz.prog 56 #[.slice A n c] w fun e w' => e = .returned (.bool (setOk xs)) ∧ w = w' := by
  have HL := Lib.hid h.1
  have H := Lib.hid h
  clear h
  go_enter Tryz.func56, Tryz.ntmps56
  go_wp2_with fail
  go_loop [3] (fun i => ∃ k : Nat, k ≤ n ∧ i = .int .i64 k ∧ Hid (∀ (j : Nat) (y : Span), j < k → xs[j]? = some y → spanOk y = true)) (fun i => n - (intOf i).toNat)
  case atStart => exact ⟨0, Nat.zero_le _, rfl, fun j y hj => absurd hj (by omega)⟩
  case round =>
    obtain ⟨k, hk, rfl, ha⟩ := hrel
    by_cases hlt : k < n
    · obtain ⟨b, off, x, rfl, _, hx, hc⟩ := H.out.elem hlt
      have g1 : w.cell? ⟨b, off + k * 2, none⟩ = some (.int .i64 x.1) := by simpa using hc 0 _ rfl
      have g2 : w.cell? ⟨b, off + k * 2 + 1, none⟩ = some (.int .i64 x.2) := hc 1 _ rfl
      have HX := Lib.hid hx
      clear hc hx
      cases h1 : inR x.1 0 999999999 <;> cases h2 : inR x.2 0 999999999
      all_goals
        go_wp2_with (go_at_call 50; refine (l1In_any _ _ _ _).mono ?_; rintro e w' ⟨rfl, rfl⟩)
        first
          | (go_round
             case rel => exact ⟨k + 1, by omega, by go_num, allB_succ ha.out HX.out (by simp [spanOk, h1, h2])⟩
             case measure => simp [intOf]; omega)
          | (go_ret
             exact ⟨ret_b (by unfold setOk; rw [allB_false HX.out (by simp [spanOk, h1, h2])]; rfl), rfl⟩)
    · have hke : k = n := by omega
      have hfin : setOk xs = inR (n : Int) 1 5 := by unfold setOk; rw [allB_true (fun j y hy => ha.out j y (by rw [hke, ← HL.out]; exact (List.getElem?_eq_some_iff.1 hy).1) hy), Bool.true_and, HL.out]
      have Hfin := Lib.hid hfin
      clear hfin ha hke
      go_wp2_with (go_at_call 50; refine (l1In_any _ _ _ _).mono ?_; rintro e w' ⟨rfl, rfl⟩)
      go_ret
      exact ⟨ret_b Hfin.out.symm, rfl⟩
set_option maxHeartbeats 800000 in
theorem slices_IndexFunc_Span (A : Option Addr) (n c g : Nat) (lb : Array Value) (p : Span → Bool) (xs : List Span) (w : World) (hn : n ≤ 4611686018427387904) (h : Rd encSpan 2 w A n xs)
    (eg : ∀ args w, (callFunc g args).run Tryz.prog w = .ok (.enter g args) w) (hp : Pays Tryz.prog g lb (fun x : Span => .agg #[.int .i64 x.1, .int .i64 x.2]) p w) :
    Calls Tryz.prog 124 #[.slice A n c, .func (.func g) #[] lb] w fun e w' => e = .returned (.int .i64 (ixOf p xs)) ∧ Below w.heap.size w w' := by
  have HL := Lib.hid h.1
  have H := Lib.hid h
  have HP := Lib.hid hp
  clear h hp
  go_enter Tryz.func124, Tryz.ntmps124
  go_wp2_with fail
  go_loopw [8] (fun i wr => ∃ k : Nat, k ≤ n ∧ i = .int .i64 k ∧ Below w.heap.size w wr ∧ Hid (∀ (j : Nat) (y : Span), j < k → xs[j]? = some y → p y = false)) (fun i _ => n - (intOf i).toNat)
  case atStart => exact ⟨0, Nat.zero_le _, rfl, Below.refl _ _, fun j y hj => absurd hj (by omega)⟩
  case round =>
    obtain ⟨k, hk, rfl, hW, ha⟩ := hrel
    by_cases hlt : k < n
    · obtain ⟨b, off, x, rfl, _, hx, hc⟩ := (H.out.below hW).elem hlt
      have g1 : wr.cell? ⟨b, off + k * 2, none⟩ = some (.int .i64 x.1) := by simpa using hc 0 _ rfl
      have g2 : wr.cell? ⟨b, off + k * 2 + 1, none⟩ = some (.int .i64 x.2) := hc 1 _ rfl
      have hcall := HP.out wr x hW
      have HX := Lib.hid hx
      have HW := Lib.hid hW
      clear hc hx hW H HP
      cases hq : p x with
      | true =>
        rw [hq] at hcall
        have hfin := Lib.hid (ixOf_hit HX.out hq ha.out)
        clear hq ha
        go_wp2_with (go_at_fn g; refine hcall.mono ?_; rintro e w' ⟨rfl, hb'⟩)
        go_ret
        exact ⟨ret_i hfin.out.symm, HW.out.trans (hb'.mono HW.out.size)⟩
      | false =>
        rw [hq] at hcall
        have hs := Lib.hid (anyF_succ ha.out HX.out hq)
        clear hq ha
        go_wp2_with (go_at_fn g; refine hcall.mono ?_; rintro e w' ⟨rfl, hb'⟩)
        go_roundw
        case rel => exact ⟨k + 1, by omega, by go_num, HW.out.trans (hb'.mono HW.out.size), hs.out⟩
        case measure => simp [intOf]; omega
    · have hke : k = n := by omega
      have hfin := Lib.hid (ixOf_miss (p := p) (l := xs) (fun j y hy => ha.out j y (by rw [hke, ← HL.out]; exact (List.getElem?_eq_some_iff.1 hy).1) hy))
      clear ha hke
      go_wp2
      go_ret
      exact ⟨ret_i hfin.out.symm, hW⟩
theorem slices_ContainsFunc_Span (A : Option Addr) (n c g : Nat) (lb : Array Value) (p : Span → Bool) (xs : List Span) (w : World) (hn : n ≤ 4611686018427387904) (h : Rd encSpan 2 w A n xs)
    (eg : ∀ args w, (callFunc g args).run Tryz.prog w = .ok (.enter g args) w) (hp : Pays Tryz.prog g lb (fun x : Span => .agg #[.int .i64 x.1, .int .i64 x.2]) p w) :
    Calls Tryz.prog 101 #[.slice A n c, .func (.func g) #[] lb] w fun e w' => e = .returned (.bool (xs.any p)) ∧ Below w.heap.size w w' := by
  have hc := slices_IndexFunc_Span A n c g lb p xs w hn h eg hp
  have hr := Lib.hid (ixOf_any p xs)
  generalize ixOf p xs = r at *
  clear h hp
  go_enter Tryz.func101, Tryz.ntmps101
  go_wp2_with (go_at_call 124; refine hc.mono ?_; rintro e w' ⟨rfl, hb'⟩)
  go_ret
  exact ⟨ret_b hr.out, hb'⟩
theorem impl_SetOk_1 (x : Span) (w : World) :
    Calls Tryz.prog 102 #[.agg #[.int .i64 x.1, .int .i64 x.2]] w fun e w' => e = .returned (.bool (!spanOk x)) ∧ Below w.heap.size w w' := by
  unfold spanOk
  cases h1 : inR x.1 0 999999999 <;> cases h2 : inR x.2 0 999999999
  all_goals
    go_enter Tryz.func102, Tryz.ntmps102
    go_wp2_with (go_at_call 76; refine (within_any _ _ _ _).mono ?_; rintro e w' ⟨rfl, rfl⟩)
    go_ret
    exact ⟨rfl, by go_grown⟩
set_option maxHeartbeats 800000 in
theorem impl_SetOk (A : Option Addr) (n c : Nat) (xs : List Span) (w : World) (hn : n ≤ 4611686018427387904) (h : Rd encSpan 2 w A n xs) :
    Calls Tryz.prog 71 #[.slice A n c] w fun e w' => e = .returned (.bool (setOk xs)) ∧ Below w.heap.size w w' := by
  have hc := slices_ContainsFunc_Span A n c 102 #[] (fun x => !spanOk x) xs w hn h (enters_of Tryz.func102 (by kernel_rfl) rfl) (fun W x _ => impl_SetOk_1 x W)
  have HC := Lib.hid hc
  have hq : setOk xs = (inR (n : Int) 1 5 && !(xs.any fun x => !spanOk x)) := by
    unfold setOk; rw [h.1, Bool.and_comm]; congr 1; rw [List.not_any_eq_all_not]; simp
  have HQ := Lib.hid hq
  clear hq hc h
  generalize setOk xs = R at *
  cases h1 : inR (n : Int) 1 5 <;> cases h2 : xs.any fun x => !spanOk x
  all_goals
    have hr := Lib.hid (HQ.out.trans (by rw [h1, h2]))
    have hc2 := HC.out
    rw [h2] at hc2
    clear HQ HC h2
    go_enter Tryz.func71, Tryz.ntmps71
    go_wp2_with (first | (go_at_call 76; refine (within_any _ _ _ _).mono ?_; rintro e w' ⟨rfl, rfl⟩) | (go_at_call 101; refine hc2.mono ?_; rintro e w' ⟨rfl, hb'⟩))
    go_ret
    exact ⟨ret_b (by rw [hr.out]; rfl), by first | exact hb' | go_grown⟩
set_option maxRecDepth 20000 in
theorem dec_span {H : Type} {enc0 : TypeId × Value → H} {w : World} {base : Nat} {spare : Nat → Bool} {held : Bool} (n : Nat) (cs : List Value) (x : DataW H × List MemPlace)
    (h : DataW.trod enc0 Tryz.prog w base spare held n 81 cs = some x) : ∃ y : Span, cs = encSpan y ∧ True := by
  obtain ⟨y0, y1, m, _, hl, h0, h1⟩ := trod_struct2 (P := Tryz.prog) (t := 81) Tryz.underlying81 h
  have hl2 : cs.length = 2 := hl
  match cs, hl2 with
  | [c0, c1], _ =>
    have e0 : DataW.trod enc0 Tryz.prog w base spare held m 3 [c0] = some y0 := h0
    have e1 : DataW.trod enc0 Tryz.prog w base spare held m 3 [c1] = some y1 := h1
    obtain ⟨a, ha, _⟩ := DataW.trod_int Tryz.underlying3 e0
    obtain ⟨b, hb, _⟩ := DataW.trod_int Tryz.underlying3 e1
    simp at ha hb
    subst ha; subst hb
    exact ⟨(a, b), rfl, trivial⟩
theorem laws_szSpanS (A : Option Addr) (n c : Nat) (xs : List Span) (left : Int) (w : World) (h0 : 0 ≤ left) (h1 : left ≤ 1048576) (hn : n ≤ 9223372036854775807) (h : Rd encSpan 2 w A n xs) :
    Calls Tryz.prog 16 #[.slice A n c, .int .i64 left] w fun e w' => (∃ v : Int, e = .returned (.int .i64 v) ∧ -1 ≤ v ∧ v ≤ left ∧ (0 ≤ v → n ≤ 1048576)) ∧ Below w.heap.size w w' := by
  refine (laws_szSpanS0 A n c left w h0 h1 hn).mono ?_
  rintro e w' ⟨rfl, rfl⟩
  refine ⟨⟨_, rfl, ?_, ?_, ?_⟩, Below.refl _ _⟩
  all_goals unfold szLeft
  all_goals split
  all_goals omega
set_option maxRecDepth 20000 in
theorem open_SpanS {H : Type} {enc0 : TypeId × Value → H} {w : World} {base b0 : Nat} {r : Reach} {spare : Nat → Bool} {held : Bool} {v : Value} {d : DataW H} {p : List MemPlace}
    (o : Value.okWide Tryz.prog w r b0 22 v) (h : DataW.Trod enc0 Tryz.prog w base spare held 22 v d p) :
    ∃ (A : Option Addr) (n c : Nat) (xs : List Span), v = .slice A n c ∧ Rd encSpan 2 w A n xs ∧ n ≤ 9223372036854775807 ∧ ∀ y ∈ xs, True := by
  obtain ⟨A, n, c, xs, rfl, h, hc, hm, _⟩ := open_rd encSpan (fun _ => True) 2 Tryz.underlying22 o h (by kernel_rfl) (by omega) (fun _ => rfl) (fun n cs x hx => dec_span n cs x hx)
  exact ⟨A, n, c, xs, rfl, h, by unfold maxLen at hm; omega, fun _ _ => trivial⟩

structure Command where
  tag : ByteArray
  kind : Int
  box : ByteArray
  dest : ByteArray
  uid : Bool
  set : List Span
  op : Int
  flags : Int
  text : ByteArray
  filter : Filter
instance : Inhabited Command := ⟨⟨ByteArray.empty, 0, ByteArray.empty, ByteArray.empty, false, [], 0, 0, ByteArray.empty, default⟩⟩
/-- A command's handle: its set's slice, its filter's. -/
structure CHd where
  s : Hd
  f : FHd
instance : Inhabited CHd := ⟨⟨default, default⟩⟩
abbrev encCommand (p : Command × CHd) : List Value := [.string p.1.tag, .int .i64 p.1.kind, .string p.1.box, .string p.1.dest, .bool p.1.uid, .slice p.2.s.A p.2.s.n p.2.s.c, .int .i64 p.1.op, .int .i64 p.1.flags, .string p.1.text, .bool p.1.filter.on, .slice p.2.f.A p.2.f.n p.2.f.c]
def Command.Fit (x : Command) : Prop := (x.tag.size ≤ 1048576 ∧ x.box.size ≤ 1048576 ∧ x.dest.size ≤ 1048576 ∧ x.text.size ≤ 1048576) ∧ x.set.length ≤ 1048576 ∧ x.filter.Fit

def CommandIs (w : World) (x : Command) (h : CHd) : Prop := (x.tag.size ≤ maxLen ∧ x.box.size ≤ maxLen ∧ x.dest.size ≤ maxLen ∧ x.text.size ≤ maxLen) ∧ Rd encSpan 2 w h.s.A h.s.n x.set ∧ h.s.n ≤ maxLen ∧ FilterIs w x.filter h.f
theorem CommandIs.below {w w' : World} {x : Command} {h : CHd} (i : CommandIs w x h) (hb : Below w.heap.size w w') : CommandIs w' x h := ⟨i.1, i.2.1.below hb, i.2.2.1, i.2.2.2.below hb⟩
def CommandOwn (base : Nat) (w : World) (x : Command) (h : CHd) : Prop := (x.tag.size ≤ maxLen ∧ x.box.size ≤ maxLen ∧ x.dest.size ≤ maxLen ∧ x.text.size ≤ maxLen) ∧ w.ownsRow base 75 2 (.slice h.s.A h.s.n h.s.c) h.s.n (x.set.flatMap encSpan) ∧ x.set.length = h.s.n ∧ h.s.n ≤ 1048576 ∧ FilterOwn base w x.filter h.f
theorem CommandOwn.below {base : Nat} {w w' : World} {x : Command} {h : CHd} (i : CommandOwn base w x h) (hb : Below w.heap.size w w') : CommandOwn base w' x h := ⟨i.1, own_below i.2.1 hb, i.2.2.1, i.2.2.2.1, i.2.2.2.2.below hb⟩
theorem CommandOwn.mono {base base' : Nat} {w : World} {x : Command} {h : CHd} (i : CommandOwn base w x h) (hb : base' ≤ base) : CommandOwn base' w x h := ⟨i.1, own_mono i.2.1 hb, i.2.2.1, i.2.2.2.1, i.2.2.2.2.mono hb⟩
theorem CommandOwn.is {base : Nat} {w : World} {x : Command} {h : CHd} (i : CommandOwn base w x h) : CommandIs w x h := ⟨i.1, Rd.of_own (enc := encSpan) (k := 2) (fun _ => rfl) i.2.1 i.2.2.1, by have := i.2.2.2.1; unfold maxLen; omega, i.2.2.2.2.is⟩
theorem FilterOwn.setCell {base : Nat} {w : World} {x : Filter} {h : FHd} (i : FilterOwn base w x h) {p : Addr} (hp : p.block < base) (u : Value) : FilterOwn base (w.setCell p u) x h := ⟨own_setCell i.1 hp u, i.2.1, i.2.2.1, fun q hq => (i.2.2.2.1 q hq).setCell hp u, i.2.2.2.2⟩
set_option maxHeartbeats 3200000 in
set_option maxRecDepth 20000 in
theorem laws_szCommand (x : Command) (h : CHd) (left : Int) (w : World) (h0 : 0 ≤ left) (h1 : left ≤ 1048576) (hx : CommandIs w x h) :
    Calls Tryz.prog 5 #[.agg #[.string x.tag, .int .i64 x.kind, .string x.box, .string x.dest, .bool x.uid, .slice h.s.A h.s.n h.s.c, .int .i64 x.op, .int .i64 x.flags, .string x.text, .bool x.filter.on, .slice h.f.A h.f.n h.f.c], .int .i64 left] w fun e w' => (∃ v : Int, e = .returned (.int .i64 v) ∧ -1 ≤ v ∧ v ≤ left ∧ (0 ≤ v → x.Fit)) ∧ Below w.heap.size w w' := by
  obtain ⟨⟨hs1, hs2, hs3, hs4⟩, hr, hn, hfi⟩ := hx
  unfold maxLen at hs1 hs2 hs3 hs4 hn
  have HR := Lib.hid hr
  have HI := Lib.hid hfi
  have HN := Lib.hid hr.1
  clear hr hfi
  by_cases c1 : left - x.tag.size < 0
  · go_enter Tryz.func5, Tryz.ntmps5
    go_wp2
    go_ret
    exact ⟨⟨_, rfl, by omega, by omega, by omega⟩, by go_grown⟩
  by_cases c2 : left - x.tag.size - x.box.size < 0
  · go_enter Tryz.func5, Tryz.ntmps5
    go_wp2
    go_ret
    exact ⟨⟨_, rfl, by omega, by omega, by omega⟩, by go_grown⟩
  by_cases c3 : left - x.tag.size - x.box.size - x.dest.size < 0
  · go_enter Tryz.func5, Tryz.ntmps5
    go_wp2
    go_ret
    exact ⟨⟨_, rfl, by omega, by omega, by omega⟩, by go_grown⟩
  go_enter Tryz.func5, Tryz.ntmps5
  go_wp2_with fail
  have nB : Below w.heap.size w (w.alloc (.cells #[.string x.tag, .int .i64 x.kind, .string x.box, .string x.dest, .bool x.uid, .slice h.s.A h.s.n h.s.c, .int .i64 x.op, .int .i64 x.flags, .string x.text, .bool x.filter.on, .slice h.f.A h.f.n h.f.c] 27)) := by go_grown
  have nP : Holds (w.alloc (.cells #[.string x.tag, .int .i64 x.kind, .string x.box, .string x.dest, .bool x.uid, .slice h.s.A h.s.n h.s.c, .int .i64 x.op, .int .i64 x.flags, .string x.text, .bool x.filter.on, .slice h.f.A h.f.n h.f.c] 27)) w.heap.size [.string x.tag, .int .i64 x.kind, .string x.box, .string x.dest, .bool x.uid, .slice h.s.A h.s.n h.s.c, .int .i64 x.op, .int .i64 x.flags, .string x.text, .bool x.filter.on, .slice h.f.A h.f.n h.f.c] := Holds.new w _ _
  generalize w.alloc (.cells #[.string x.tag, .int .i64 x.kind, .string x.box, .string x.dest, .bool x.uid, .slice h.s.A h.s.n h.s.c, .int .i64 x.op, .int .i64 x.flags, .string x.text, .bool x.filter.on, .slice h.f.A h.f.n h.f.c] 27) = W0 at *
  refine (laws_szSpanS _ _ _ x.set _ W0 (by omega) (by omega) (by omega) (HR.out.below nB)).mono ?_
  rintro e w1 ⟨⟨v1, rfl, hm1, hle, hfit⟩, hb1⟩
  have HP := Lib.hid (nP.below hb1)
  have HB := Lib.hid (nB.trans (hb1.mono nB.size))
  clear nP nB hb1
  have p8 := HP.out.2 8 (.string x.text) rfl
  have p9 := HP.out.2 9 (.bool x.filter.on) rfl
  have p10 := HP.out.2 10 (.slice h.f.A h.f.n h.f.c) rfl
  by_cases c4 : v1 < 0
  · go_wp2
    go_ret
    exact ⟨⟨-1, rfl, by omega, by omega, by omega⟩, HB.out⟩
  by_cases c5 : v1 - x.text.size < 0
  · go_wp2
    go_ret
    exact ⟨⟨-1, rfl, by omega, by omega, by omega⟩, HB.out⟩
  have hset := hfit (by omega)
  clear hfit
  go_wp2_with fail
  refine (laws_szFilter x.filter h.f _ w1 (by omega) (by omega) (HI.out.below HB.out)).mono ?_
  rintro e w2 ⟨⟨v2, rfl, hm2, hle2, hfit2⟩, hb2⟩
  have HB2 := Lib.hid (HB.out.trans (hb2.mono HB.out.size))
  have HF := Lib.hid hfit2
  clear hb2 hfit2 p8 p9 p10 HP
  by_cases c6 : v2 < 0
  · go_wp2
    go_ret
    exact ⟨⟨-1, rfl, by omega, by omega, by omega⟩, HB2.out⟩
  go_wp2
  go_ret
  exact ⟨⟨v2, rfl, by omega, by omega, fun hv => ⟨⟨by omega, by omega, by omega, by omega⟩, by rw [HN.out]; exact hset, HF.out hv⟩⟩, HB2.out⟩
set_option maxHeartbeats 6400000 in
set_option maxRecDepth 20000 in
theorem laws_toCommand (x : Command) (h : CHd) (w : World) (hx : CommandIs w x h) (hf : x.Fit) :
    Calls Tryz.prog 7 #[.agg #[.string x.tag, .int .i64 x.kind, .string x.box, .string x.dest, .bool x.uid, .slice h.s.A h.s.n h.s.c, .int .i64 x.op, .int .i64 x.flags, .string x.text, .bool x.filter.on, .slice h.f.A h.f.n h.f.c]] w fun e w' => (∃ h' : CHd, e = .returned (.agg #[.string x.tag, .int .i64 x.kind, .string x.box, .string x.dest, .bool x.uid, .slice h'.s.A h'.s.n h'.s.c, .int .i64 x.op, .int .i64 x.flags, .string x.text, .bool x.filter.on, .slice h'.f.A h'.f.n h'.f.c]) ∧ CommandOwn w.heap.size w' x h') ∧ Below w.heap.size w w' := by
  obtain ⟨hs, hr, hn, hfi⟩ := hx
  have HR := Lib.hid hr
  have HI := Lib.hid hfi
  have HF := Lib.hid hf
  have HS := Lib.hid hs
  have hlen : h.s.n ≤ 1048576 := by rw [← hr.1]; exact hf.2.1
  have hlx : x.set.length ≤ 1048576 := hf.2.1
  clear hr hfi hf hs hn
  go_enter Tryz.func7, Tryz.ntmps7
  go_wp2_with fail
  refine (laws_toSpanS _ _ _ x.set _ hlen (HR.out.below (by (repeat (with_reducible refine Below.setCell ?_ ?_ _)) <;> first | (simp only []; omega) | go_grown))).mono ?_
  rintro e w1 ⟨A1, c1, rfl, ho, hb1⟩
  have p0 : w1.cell? ⟨w.heap.size + 1 + 1, 0, none⟩ = some (.string x.tag) := (hb1.cell (p := ⟨w.heap.size + 1 + 1, 0, none⟩) (by first | (simp; done) | (simp; omega))).trans (by go_simp)
  have p1 : w1.cell? ⟨w.heap.size + 1 + 1, 1, none⟩ = some (.int .i64 x.kind) := (hb1.cell (p := ⟨w.heap.size + 1 + 1, 1, none⟩) (by first | (simp; done) | (simp; omega))).trans (by go_simp)
  have p2 : w1.cell? ⟨w.heap.size + 1 + 1, 2, none⟩ = some (.string x.box) := (hb1.cell (p := ⟨w.heap.size + 1 + 1, 2, none⟩) (by first | (simp; done) | (simp; omega))).trans (by go_simp)
  have p3 : w1.cell? ⟨w.heap.size + 1 + 1, 3, none⟩ = some (.string x.dest) := (hb1.cell (p := ⟨w.heap.size + 1 + 1, 3, none⟩) (by first | (simp; done) | (simp; omega))).trans (by go_simp)
  have p4 : w1.cell? ⟨w.heap.size + 1 + 1, 4, none⟩ = some (.bool x.uid) := (hb1.cell (p := ⟨w.heap.size + 1 + 1, 4, none⟩) (by first | (simp; done) | (simp; omega))).trans (by go_simp)
  have p5 : w1.cell? ⟨w.heap.size + 1 + 1, 5, none⟩ = some (.slice none 0 0) := (hb1.cell (p := ⟨w.heap.size + 1 + 1, 5, none⟩) (by first | (simp; done) | (simp; omega))).trans (by go_simp)
  have p6 : w1.cell? ⟨w.heap.size + 1 + 1, 6, none⟩ = some (.int .i64 0) := (hb1.cell (p := ⟨w.heap.size + 1 + 1, 6, none⟩) (by first | (simp; done) | (simp; omega))).trans (by go_simp)
  have p7 : w1.cell? ⟨w.heap.size + 1 + 1, 7, none⟩ = some (.int .i64 0) := (hb1.cell (p := ⟨w.heap.size + 1 + 1, 7, none⟩) (by first | (simp; done) | (simp; omega))).trans (by go_simp)
  have p8 : w1.cell? ⟨w.heap.size + 1 + 1, 8, none⟩ = some (.string ⟨#[]⟩) := (hb1.cell (p := ⟨w.heap.size + 1 + 1, 8, none⟩) (by first | (simp; done) | (simp; omega))).trans (by go_simp)
  have p9 : w1.cell? ⟨w.heap.size + 1 + 1, 9, none⟩ = some (.bool false) := (hb1.cell (p := ⟨w.heap.size + 1 + 1, 9, none⟩) (by first | (simp; done) | (simp; omega))).trans (by go_simp)
  have p10 : w1.cell? ⟨w.heap.size + 1 + 1, 10, none⟩ = some (.slice none 0 0) := (hb1.cell (p := ⟨w.heap.size + 1 + 1, 10, none⟩) (by first | (simp; done) | (simp; omega))).trans (by go_simp)
  have q0 : w1.cell? ⟨w.heap.size + 1, 0, none⟩ = some (.string ⟨#[]⟩) := (hb1.cell (p := ⟨w.heap.size + 1, 0, none⟩) (by first | (simp; done) | (simp; omega))).trans (by go_simp)
  have q1 : w1.cell? ⟨w.heap.size + 1, 1, none⟩ = some (.int .i64 0) := (hb1.cell (p := ⟨w.heap.size + 1, 1, none⟩) (by first | (simp; done) | (simp; omega))).trans (by go_simp)
  have q2 : w1.cell? ⟨w.heap.size + 1, 2, none⟩ = some (.string ⟨#[]⟩) := (hb1.cell (p := ⟨w.heap.size + 1, 2, none⟩) (by first | (simp; done) | (simp; omega))).trans (by go_simp)
  have q3 : w1.cell? ⟨w.heap.size + 1, 3, none⟩ = some (.string ⟨#[]⟩) := (hb1.cell (p := ⟨w.heap.size + 1, 3, none⟩) (by first | (simp; done) | (simp; omega))).trans (by go_simp)
  have q4 : w1.cell? ⟨w.heap.size + 1, 4, none⟩ = some (.bool false) := (hb1.cell (p := ⟨w.heap.size + 1, 4, none⟩) (by first | (simp; done) | (simp; omega))).trans (by go_simp)
  have q5 : w1.cell? ⟨w.heap.size + 1, 5, none⟩ = some (.slice none 0 0) := (hb1.cell (p := ⟨w.heap.size + 1, 5, none⟩) (by first | (simp; done) | (simp; omega))).trans (by go_simp)
  have q6 : w1.cell? ⟨w.heap.size + 1, 6, none⟩ = some (.int .i64 0) := (hb1.cell (p := ⟨w.heap.size + 1, 6, none⟩) (by first | (simp; done) | (simp; omega))).trans (by go_simp)
  have q7 : w1.cell? ⟨w.heap.size + 1, 7, none⟩ = some (.int .i64 0) := (hb1.cell (p := ⟨w.heap.size + 1, 7, none⟩) (by first | (simp; done) | (simp; omega))).trans (by go_simp)
  have q8 : w1.cell? ⟨w.heap.size + 1, 8, none⟩ = some (.string ⟨#[]⟩) := (hb1.cell (p := ⟨w.heap.size + 1, 8, none⟩) (by first | (simp; done) | (simp; omega))).trans (by go_simp)
  have q9 : w1.cell? ⟨w.heap.size + 1, 9, none⟩ = some (.bool false) := (hb1.cell (p := ⟨w.heap.size + 1, 9, none⟩) (by first | (simp; done) | (simp; omega))).trans (by go_simp)
  have q10 : w1.cell? ⟨w.heap.size + 1, 10, none⟩ = some (.slice none 0 0) := (hb1.cell (p := ⟨w.heap.size + 1, 10, none⟩) (by first | (simp; done) | (simp; omega))).trans (by go_simp)
  have f0 : ∀ i, w1.frozen? ⟨w.heap.size + 1 + 1, i, none⟩ = false := fun i => (hb1.frozen (p := ⟨w.heap.size + 1 + 1, i, none⟩) (by first | (simp; done) | (simp; omega))).trans (by go_simp)
  have f1 : ∀ i, w1.frozen? ⟨w.heap.size + 1, i, none⟩ = false := fun i => (hb1.frozen (p := ⟨w.heap.size + 1, i, none⟩) (by first | (simp; done) | (simp; omega))).trans (by go_simp)
  have s6 : w1.cell? ⟨w.heap.size, 6, none⟩ = some (.int .i64 x.op) := (hb1.cell (p := ⟨w.heap.size, 6, none⟩) (by first | (simp; done) | (simp; omega))).trans (by go_simp)
  have s7 : w1.cell? ⟨w.heap.size, 7, none⟩ = some (.int .i64 x.flags) := (hb1.cell (p := ⟨w.heap.size, 7, none⟩) (by first | (simp; done) | (simp; omega))).trans (by go_simp)
  have s8 : w1.cell? ⟨w.heap.size, 8, none⟩ = some (.string x.text) := (hb1.cell (p := ⟨w.heap.size, 8, none⟩) (by first | (simp; done) | (simp; omega))).trans (by go_simp)
  have s9 : w1.cell? ⟨w.heap.size, 9, none⟩ = some (.bool x.filter.on) := (hb1.cell (p := ⟨w.heap.size, 9, none⟩) (by first | (simp; done) | (simp; omega))).trans (by go_simp)
  have s10 : w1.cell? ⟨w.heap.size, 10, none⟩ = some (.slice h.f.A h.f.n h.f.c) := (hb1.cell (p := ⟨w.heap.size, 10, none⟩) (by first | (simp; done) | (simp; omega))).trans (by go_simp)
  have hsz1 : w.heap.size + 1 + 1 < w1.heap.size := World.block_lt_of_cell? w1 _ p0
  have HW := Lib.hid (show Below w.heap.size w w1 from Below.trans (by (repeat (with_reducible refine Below.setCell ?_ ?_ _)) <;> first | (simp only []; omega) | go_grown) (hb1.mono (by first | (simp; done) | (simp; omega))))
  have HO := Lib.hid (own_mono ho (base' := w.heap.size + 1 + 1 + 1) (by first | (simp; done) | (simp; omega)))
  clear hb1 ho
  go_wp2_with fail
  refine (laws_toFilter x.filter h.f _ (HI.out.below (by (repeat (with_reducible refine Below.setCell ?_ ?_ _)) <;> first | exact HW.out | (simp only []; omega))) HF.out.2.2).mono ?_
  rintro e w2 ⟨⟨hf2, rfl, of2⟩, hb2⟩
  have r0 : w2.cell? ⟨w.heap.size + 1 + 1, 0, none⟩ = some (.string x.tag) := (hb2.cell (p := ⟨w.heap.size + 1 + 1, 0, none⟩) (by first | (simp; done) | (simp; omega))).trans (by go_simp)
  have r1 : w2.cell? ⟨w.heap.size + 1 + 1, 1, none⟩ = some (.int .i64 x.kind) := (hb2.cell (p := ⟨w.heap.size + 1 + 1, 1, none⟩) (by first | (simp; done) | (simp; omega))).trans (by go_simp)
  have r2 : w2.cell? ⟨w.heap.size + 1 + 1, 2, none⟩ = some (.string x.box) := (hb2.cell (p := ⟨w.heap.size + 1 + 1, 2, none⟩) (by first | (simp; done) | (simp; omega))).trans (by go_simp)
  have r3 : w2.cell? ⟨w.heap.size + 1 + 1, 3, none⟩ = some (.string x.dest) := (hb2.cell (p := ⟨w.heap.size + 1 + 1, 3, none⟩) (by first | (simp; done) | (simp; omega))).trans (by go_simp)
  have r4 : w2.cell? ⟨w.heap.size + 1 + 1, 4, none⟩ = some (.bool x.uid) := (hb2.cell (p := ⟨w.heap.size + 1 + 1, 4, none⟩) (by first | (simp; done) | (simp; omega))).trans (by go_simp)
  have r5 : w2.cell? ⟨w.heap.size + 1 + 1, 5, none⟩ = some (.slice A1 x.set.length c1) := (hb2.cell (p := ⟨w.heap.size + 1 + 1, 5, none⟩) (by first | (simp; done) | (simp; omega))).trans (by go_simp)
  have r6 : w2.cell? ⟨w.heap.size + 1 + 1, 6, none⟩ = some (.int .i64 x.op) := (hb2.cell (p := ⟨w.heap.size + 1 + 1, 6, none⟩) (by first | (simp; done) | (simp; omega))).trans (by go_simp)
  have r7 : w2.cell? ⟨w.heap.size + 1 + 1, 7, none⟩ = some (.int .i64 x.flags) := (hb2.cell (p := ⟨w.heap.size + 1 + 1, 7, none⟩) (by first | (simp; done) | (simp; omega))).trans (by go_simp)
  have r8 : w2.cell? ⟨w.heap.size + 1 + 1, 8, none⟩ = some (.string x.text) := (hb2.cell (p := ⟨w.heap.size + 1 + 1, 8, none⟩) (by first | (simp; done) | (simp; omega))).trans (by go_simp)
  have r9 : w2.cell? ⟨w.heap.size + 1 + 1, 9, none⟩ = some (.bool false) := (hb2.cell (p := ⟨w.heap.size + 1 + 1, 9, none⟩) (by first | (simp; done) | (simp; omega))).trans (by go_simp)
  have r10 : w2.cell? ⟨w.heap.size + 1 + 1, 10, none⟩ = some (.slice none 0 0) := (hb2.cell (p := ⟨w.heap.size + 1 + 1, 10, none⟩) (by first | (simp; done) | (simp; omega))).trans (by go_simp)
  have t0 : w2.cell? ⟨w.heap.size + 1, 0, none⟩ = some (.string ⟨#[]⟩) := (hb2.cell (p := ⟨w.heap.size + 1, 0, none⟩) (by first | (simp; done) | (simp; omega))).trans (by go_simp)
  have t1 : w2.cell? ⟨w.heap.size + 1, 1, none⟩ = some (.int .i64 0) := (hb2.cell (p := ⟨w.heap.size + 1, 1, none⟩) (by first | (simp; done) | (simp; omega))).trans (by go_simp)
  have t2 : w2.cell? ⟨w.heap.size + 1, 2, none⟩ = some (.string ⟨#[]⟩) := (hb2.cell (p := ⟨w.heap.size + 1, 2, none⟩) (by first | (simp; done) | (simp; omega))).trans (by go_simp)
  have t3 : w2.cell? ⟨w.heap.size + 1, 3, none⟩ = some (.string ⟨#[]⟩) := (hb2.cell (p := ⟨w.heap.size + 1, 3, none⟩) (by first | (simp; done) | (simp; omega))).trans (by go_simp)
  have t4 : w2.cell? ⟨w.heap.size + 1, 4, none⟩ = some (.bool false) := (hb2.cell (p := ⟨w.heap.size + 1, 4, none⟩) (by first | (simp; done) | (simp; omega))).trans (by go_simp)
  have t5 : w2.cell? ⟨w.heap.size + 1, 5, none⟩ = some (.slice none 0 0) := (hb2.cell (p := ⟨w.heap.size + 1, 5, none⟩) (by first | (simp; done) | (simp; omega))).trans (by go_simp)
  have t6 : w2.cell? ⟨w.heap.size + 1, 6, none⟩ = some (.int .i64 0) := (hb2.cell (p := ⟨w.heap.size + 1, 6, none⟩) (by first | (simp; done) | (simp; omega))).trans (by go_simp)
  have t7 : w2.cell? ⟨w.heap.size + 1, 7, none⟩ = some (.int .i64 0) := (hb2.cell (p := ⟨w.heap.size + 1, 7, none⟩) (by first | (simp; done) | (simp; omega))).trans (by go_simp)
  have t8 : w2.cell? ⟨w.heap.size + 1, 8, none⟩ = some (.string ⟨#[]⟩) := (hb2.cell (p := ⟨w.heap.size + 1, 8, none⟩) (by first | (simp; done) | (simp; omega))).trans (by go_simp)
  have t9 : w2.cell? ⟨w.heap.size + 1, 9, none⟩ = some (.bool false) := (hb2.cell (p := ⟨w.heap.size + 1, 9, none⟩) (by first | (simp; done) | (simp; omega))).trans (by go_simp)
  have t10 : w2.cell? ⟨w.heap.size + 1, 10, none⟩ = some (.slice none 0 0) := (hb2.cell (p := ⟨w.heap.size + 1, 10, none⟩) (by first | (simp; done) | (simp; omega))).trans (by go_simp)
  have g0 : ∀ i, w2.frozen? ⟨w.heap.size + 1 + 1, i, none⟩ = false := fun i => (hb2.frozen (p := ⟨w.heap.size + 1 + 1, i, none⟩) (by first | (simp; done) | (simp; omega))).trans (by go_simp)
  have g1 : ∀ i, w2.frozen? ⟨w.heap.size + 1, i, none⟩ = false := fun i => (hb2.frozen (p := ⟨w.heap.size + 1, i, none⟩) (by first | (simp; done) | (simp; omega))).trans (by go_simp)
  have HW2 := Lib.hid (show Below w.heap.size w w2 from Below.trans (by (repeat (with_reducible refine Below.setCell ?_ ?_ _)) <;> first | exact HW.out | (simp only []; omega)) (hb2.mono (by first | (simp; done) | (simp; omega))))
  have HO2 : Hid (w2.ownsRow (w.heap.size + 1 + 1 + 1) 75 2 (.slice A1 x.set.length c1) x.set.length (x.set.flatMap encSpan)) := by
    refine Lib.hid (own_below ?_ hb2)
    repeat (with_reducible refine own_setCell ?_ ?_ _)
    · exact HO.out
    all_goals (simp only []; omega)
  have HO3 := Lib.hid (of2.mono (base' := w.heap.size + 1 + 1 + 1) (by first | (simp; done) | (simp; omega)))
  clear hb2 of2 p0 q0 p1 q1 p2 q2 p3 q3 p4 q4 p5 q5 p6 q6 p7 q7 p8 q8 p9 q9 p10 q10 f0 f1
  go_wp2
  try simp only [Exit.inBlock, Exit.then]
  refine bodyPost_ret (by simp [results, Tryz.results7, go_sem, t0, t1, t2, t3, t4, t5, t6, t7, t8, t9, t10];  try rfl) rfl ?_
  refine ⟨⟨⟨⟨A1, x.set.length, c1⟩, hf2⟩, rfl, HS.out, ?_, rfl, hlx, ?_⟩, ?_⟩
  · refine own_mono (base := w.heap.size + 1 + 1 + 1) ?_ (by omega)
    repeat (with_reducible refine own_setCell ?_ ?_ _)
    · exact HO2.out
    all_goals (simp only []; omega)
  · refine FilterOwn.mono (base := w.heap.size + 1 + 1 + 1) ?_ (by omega)
    repeat (with_reducible refine FilterOwn.setCell ?_ ?_ _)
    · exact HO3.out
    all_goals (simp only []; omega)
  · repeat (with_reducible refine Below.setCell ?_ ?_ _)
    · exact HW2.out
    all_goals (simp only []; omega)
set_option maxHeartbeats 3200000 in
set_option maxRecDepth 20000 in
theorem laws_eqCommand (x : Command) (h1 h2 : CHd) (w : World) (i1 : CommandIs w x h1) (i2 : CommandIs w x h2) (hf : x.Fit) :
    Calls Tryz.prog 10 #[.agg #[.string x.tag, .int .i64 x.kind, .string x.box, .string x.dest, .bool x.uid, .slice h1.s.A h1.s.n h1.s.c, .int .i64 x.op, .int .i64 x.flags, .string x.text, .bool x.filter.on, .slice h1.f.A h1.f.n h1.f.c], .agg #[.string x.tag, .int .i64 x.kind, .string x.box, .string x.dest, .bool x.uid, .slice h2.s.A h2.s.n h2.s.c, .int .i64 x.op, .int .i64 x.flags, .string x.text, .bool x.filter.on, .slice h2.f.A h2.f.n h2.f.c]] w fun e w' => e = .returned (.bool true) ∧ Below w.heap.size w w' := by
  obtain ⟨⟨A1, n1, c1⟩, f1⟩ := h1
  obtain ⟨⟨A2, n2, c2⟩, f2⟩ := h2
  have hr1 := i1.2.1
  have hr2 := i2.2.1
  simp only [] at hr1 hr2
  have e1 := hr1.1
  have e2 := hr2.1
  have hlx := hf.2.1
  subst e1
  subst e2
  have H1 := Lib.hid i1
  have H2 := Lib.hid i2
  have HF := Lib.hid hf.2.2
  clear i1 i2 hr1 hr2 hf
  dsimp only
  go_enter Tryz.func10, Tryz.ntmps10
  go_wp2_with fail
  have nB : Below w.heap.size w ((w.alloc (.cells #[.string x.tag, .int .i64 x.kind, .string x.box, .string x.dest, .bool x.uid, .slice A1 x.set.length c1, .int .i64 x.op, .int .i64 x.flags, .string x.text, .bool x.filter.on, .slice f1.A f1.n f1.c] 36)).alloc (.cells #[.string x.tag, .int .i64 x.kind, .string x.box, .string x.dest, .bool x.uid, .slice A2 x.set.length c2, .int .i64 x.op, .int .i64 x.flags, .string x.text, .bool x.filter.on, .slice f2.A f2.n f2.c] 36)) := by go_grown
  have nP : Holds ((w.alloc (.cells #[.string x.tag, .int .i64 x.kind, .string x.box, .string x.dest, .bool x.uid, .slice A1 x.set.length c1, .int .i64 x.op, .int .i64 x.flags, .string x.text, .bool x.filter.on, .slice f1.A f1.n f1.c] 36)).alloc (.cells #[.string x.tag, .int .i64 x.kind, .string x.box, .string x.dest, .bool x.uid, .slice A2 x.set.length c2, .int .i64 x.op, .int .i64 x.flags, .string x.text, .bool x.filter.on, .slice f2.A f2.n f2.c] 36)) w.heap.size [.string x.tag, .int .i64 x.kind, .string x.box, .string x.dest, .bool x.uid, .slice A1 x.set.length c1, .int .i64 x.op, .int .i64 x.flags, .string x.text, .bool x.filter.on, .slice f1.A f1.n f1.c] := (Holds.new w _ _).below (by go_grown)
  have nQ : Holds ((w.alloc (.cells #[.string x.tag, .int .i64 x.kind, .string x.box, .string x.dest, .bool x.uid, .slice A1 x.set.length c1, .int .i64 x.op, .int .i64 x.flags, .string x.text, .bool x.filter.on, .slice f1.A f1.n f1.c] 36)).alloc (.cells #[.string x.tag, .int .i64 x.kind, .string x.box, .string x.dest, .bool x.uid, .slice A2 x.set.length c2, .int .i64 x.op, .int .i64 x.flags, .string x.text, .bool x.filter.on, .slice f2.A f2.n f2.c] 36)) (w.heap.size + 1) [.string x.tag, .int .i64 x.kind, .string x.box, .string x.dest, .bool x.uid, .slice A2 x.set.length c2, .int .i64 x.op, .int .i64 x.flags, .string x.text, .bool x.filter.on, .slice f2.A f2.n f2.c] := by
    have h := Holds.new (w.alloc (.cells #[.string x.tag, .int .i64 x.kind, .string x.box, .string x.dest, .bool x.uid, .slice A1 x.set.length c1, .int .i64 x.op, .int .i64 x.flags, .string x.text, .bool x.filter.on, .slice f1.A f1.n f1.c] 36)) [.string x.tag, .int .i64 x.kind, .string x.box, .string x.dest, .bool x.uid, .slice A2 x.set.length c2, .int .i64 x.op, .int .i64 x.flags, .string x.text, .bool x.filter.on, .slice f2.A f2.n f2.c] 36
    rw [show (w.alloc (.cells #[.string x.tag, .int .i64 x.kind, .string x.box, .string x.dest, .bool x.uid, .slice A1 x.set.length c1, .int .i64 x.op, .int .i64 x.flags, .string x.text, .bool x.filter.on, .slice f1.A f1.n f1.c] 36)).heap.size = w.heap.size + 1 from by simp] at h
    exact h
  generalize ((w.alloc (.cells #[.string x.tag, .int .i64 x.kind, .string x.box, .string x.dest, .bool x.uid, .slice A1 x.set.length c1, .int .i64 x.op, .int .i64 x.flags, .string x.text, .bool x.filter.on, .slice f1.A f1.n f1.c] 36)).alloc (.cells #[.string x.tag, .int .i64 x.kind, .string x.box, .string x.dest, .bool x.uid, .slice A2 x.set.length c2, .int .i64 x.op, .int .i64 x.flags, .string x.text, .bool x.filter.on, .slice f2.A f2.n f2.c] 36)) = W0 at *
  refine (laws_eqSpanS _ _ _ _ _ x.set W0 (by show x.set.length ≤ _; omega) (H1.out.2.1.below nB) (H2.out.2.1.below nB)).mono ?_
  rintro e w1 ⟨rfl, hb1⟩
  have HP := Lib.hid (nP.below hb1)
  have HQ := Lib.hid (nQ.below hb1)
  have HB := Lib.hid (nB.trans (hb1.mono nB.size))
  clear nP nQ nB hb1
  have p6 := HP.out.2 6 (.int .i64 x.op) rfl
  have q6 := HQ.out.2 6 (.int .i64 x.op) rfl
  have p7 := HP.out.2 7 (.int .i64 x.flags) rfl
  have q7 := HQ.out.2 7 (.int .i64 x.flags) rfl
  have p8 := HP.out.2 8 (.string x.text) rfl
  have q8 := HQ.out.2 8 (.string x.text) rfl
  have p9 := HP.out.2 9 (.bool x.filter.on) rfl
  have q9 := HQ.out.2 9 (.bool x.filter.on) rfl
  have p10 := HP.out.2 10 (.slice f1.A f1.n f1.c) rfl
  have q10 := HQ.out.2 10 (.slice f2.A f2.n f2.c) rfl
  go_wp2_with fail
  refine (laws_eqFilter x.filter f1 f2 w1 (H1.out.2.2.2.below HB.out) (H2.out.2.2.2.below HB.out) HF.out).mono ?_
  rintro e w2 ⟨rfl, hb2⟩
  have HB2 := Lib.hid (HB.out.trans (hb2.mono HB.out.size))
  clear hb2
  go_wp2
  go_ret
  exact ⟨rfl, HB2.out⟩
set_option maxRecDepth 20000 in
theorem dec_Command {H : Type} {enc0 : TypeId × Value → H} {w : World} {base : Nat} {spare : Nat → Bool} {held : Bool} (n : Nat) (cs : List Value) (x : DataW H × List MemPlace)
    (h : DataW.trod enc0 Tryz.prog w base spare held n 27 cs = some x) : ∃ y : Command × CHd, cs = encCommand y ∧ CommandIs w y.1 y.2 := by
  obtain ⟨xs, m, _, _, hl, hlen, hf⟩ := DataW.trod_struct (P := Tryz.prog) (t := 27) Tryz.underlying27 h
  have hl2 : cs.length = 11 := hl
  have hx2 : xs.length = 10 := hlen
  match cs, hl2, xs, hx2 with
  | [c0, c1, c2, c3, c4, c5, c6, c7, c8, c9, c10], _, [y0, y1, y2, y3, y4, y5, y6, y7, y8, y9], _ =>
    have e0 : DataW.trod enc0 Tryz.prog w base spare held m 9 [c0] = some y0 := hf 0 _ rfl
    obtain ⟨a0, h0, _, b0⟩ := DataW.trod_string Tryz.underlying9 e0
    obtain rfl := List.singleton_inj.1 h0
    have e1 : DataW.trod enc0 Tryz.prog w base spare held m 3 [c1] = some y1 := hf 1 _ rfl
    obtain ⟨a1, h1, _⟩ := DataW.trod_int Tryz.underlying3 e1
    obtain rfl := List.singleton_inj.1 h1
    have e2 : DataW.trod enc0 Tryz.prog w base spare held m 9 [c2] = some y2 := hf 2 _ rfl
    obtain ⟨a2, h2, _, b2⟩ := DataW.trod_string Tryz.underlying9 e2
    obtain rfl := List.singleton_inj.1 h2
    have e3 : DataW.trod enc0 Tryz.prog w base spare held m 9 [c3] = some y3 := hf 3 _ rfl
    obtain ⟨a3, h3, _, b3⟩ := DataW.trod_string Tryz.underlying9 e3
    obtain rfl := List.singleton_inj.1 h3
    have e4 : DataW.trod enc0 Tryz.prog w base spare held m 4 [c4] = some y4 := hf 4 _ rfl
    obtain ⟨a4, h4, _⟩ := DataW.trod_bool Tryz.underlying4 e4
    obtain rfl := List.singleton_inj.1 h4
    have e5 : DataW.trod enc0 Tryz.prog w base spare held m 22 [c5] = some y5 := hf 5 _ rfl
    obtain ⟨A, n, c, zs, h5, hr, hn, hc, hz⟩ := trod_rd encSpan (fun _ => True) 2 Tryz.underlying22 e5 (by kernel_rfl) (by omega) (fun _ => rfl) (fun n cs x hx => dec_span n cs x hx)
    obtain rfl := List.singleton_inj.1 h5
    have e6 : DataW.trod enc0 Tryz.prog w base spare held m 3 [c6] = some y6 := hf 6 _ rfl
    obtain ⟨a6, h6, _⟩ := DataW.trod_int Tryz.underlying3 e6
    obtain rfl := List.singleton_inj.1 h6
    have e7 : DataW.trod enc0 Tryz.prog w base spare held m 3 [c7] = some y7 := hf 7 _ rfl
    obtain ⟨a7, h7, _⟩ := DataW.trod_int Tryz.underlying3 e7
    obtain rfl := List.singleton_inj.1 h7
    have e8 : DataW.trod enc0 Tryz.prog w base spare held m 9 [c8] = some y8 := hf 8 _ rfl
    obtain ⟨a8, h8, _, b8⟩ := DataW.trod_string Tryz.underlying9 e8
    obtain rfl := List.singleton_inj.1 h8
    have e9 : DataW.trod enc0 Tryz.prog w base spare held m 25 [c9, c10] = some y9 := hf 9 _ rfl
    obtain ⟨y, hy, hi⟩ := dec_Filter m _ _ e9
    obtain ⟨rfl, rfl⟩ : c9 = .bool y.1.on ∧ c10 = .slice y.2.A y.2.n y.2.c := by
      simp only [encFilter, List.cons.injEq, and_true] at hy
      exact hy
    exact ⟨(⟨a0, a1, a2, a3, a4, zs, a6, a7, a8, y.1⟩, ⟨⟨A, n, c⟩, y.2⟩), rfl, ⟨b0, b2, b3, b8⟩, hr, Nat.le_trans hn hc, hi⟩
set_option maxRecDepth 20000 in
/-- A command that came in. -/
theorem open_Command {H : Type} {enc0 : TypeId × Value → H} {w : World} {base b0 : Nat} {r : Reach} {spare : Nat → Bool} {held : Bool} {v : Value} {d : DataW H} {p : List MemPlace}
    (o : Value.okWide Tryz.prog w r b0 27 v) (h : DataW.Trod enc0 Tryz.prog w base spare held 27 v d p) :
    ∃ (x : Command) (h : CHd), v = .agg #[.string x.tag, .int .i64 x.kind, .string x.box, .string x.dest, .bool x.uid, .slice h.s.A h.s.n h.s.c, .int .i64 x.op, .int .i64 x.flags, .string x.text, .bool x.filter.on, .slice h.f.A h.f.n h.f.c] ∧ CommandIs w x h := by
  obtain ⟨cs, rfl, _⟩ := okWide_struct Tryz.underlying27 o
  obtain ⟨n, hn⟩ := h
  obtain ⟨y, hy, hi⟩ := dec_Command n _ _ hn
  have hcs : cs = (encCommand y).toArray := by
    have : cs.toList = encCommand y := by rw [← hy]; simp [Value.cells]
    rw [← this]
  exact ⟨y.1, y.2, by rw [hcs], hi⟩

end Go.Proofs.YtjpkceimokkpgaaGreatDoor
