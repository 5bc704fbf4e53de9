/-
  Walks: what each function returns, and that it leaves what lay in memory as it was.
-/
import Derived.Test.YtplbijibddnfjaaProg
import Derived.Test.YtplbijibddnfjaaPlain
import Derived.Test.YtplbijibddnfjaaBase
import Derived.Test.YtplbijibddnfjaaShelf
import Derived.Test.YtplbijibddnfjaaW1
import Derived.Test.YtplbijibddnfjaaOpen
import Derived.OpenShut
import Derived.ChangeSame
import Derived.WalkKit
import Derived.WalkSpells
import Derived.WalkLawsBesides
import Derived.Lib.Hide
import Derived.Deep.LoopGhost
import Derived.Deep.QuietTactic
import Derived.BigQuiet
import Derived.Handy
import Derived.Deep.RegionHeld3
import Derived.StillTailTactics
namespace Go.Proofs.Ytplbijibddnfjaa
open Go.ChangeShapes Go.WideShapes Go.ChangeAt Go.RowKit Go.Deep
set_option linter.unusedVariables false
set_option linter.unusedSimpArgs false

theorem laws_szSpanS (A : Option Addr) (n c : Nat) (left : Int) (w : World) (h0 : 0 ≤ left) (h1 : left ≤ 1048576) (hn : n ≤ 9223372036854775807) :
    Calls Try.prog 38 #[.slice A n c, .int .i64 left] w fun e w' => e = .returned (.int .i64 (szLeft left n)) ∧ w = w' := by
  by_cases h : left < (n : Int)
  · have hs := Lib.hid (show szLeft left n = -1 by unfold szLeft; rw [if_pos h])
    go_enter Try.func38, Try.ntmps38
    go_wp2
    go_ret
    exact ⟨ret_i hs.out.symm, rfl⟩
  · have hs := Lib.hid (show szLeft left n = left - n by unfold szLeft; rw [if_neg h])
    go_enter Try.func38, Try.ntmps38
    go_wp2
    go_ret
    exact ⟨ret_i hs.out.symm, rfl⟩
theorem laws_toSpan (a b : Int) (w : World) :
    Calls Try.prog 51 #[.agg #[.int .i64 a, .int .i64 b]] w fun e w' => e = .returned (.agg #[.int .i64 a, .int .i64 b]) ∧ Below w.heap.size w w' := by
  go_enter Try.func51, Try.ntmps51
  go_wp2
  go_returns
  exact ⟨rfl, by go_grown⟩
set_option maxHeartbeats 1600000 in
theorem laws_toSpanS (A : Option Addr) (n c : Nat) (xs : List Span) (w : World) (hn : n ≤ 1099511627776) (h : Rd encSpan 2 w A n xs) :
    Calls Try.prog 40 #[.slice A n c] w (RetOwn encSpan 2 49 w xs) := by
  have HL := Lib.hid h.1
  have H := Lib.hid h
  clear h
  go_enter Try.func40, Try.ntmps40
  go_wp2_with (at_make; refine wpList_mk (enc := encSpan) (0, 0) (k := 2) (by omega) rfl rfl _ _ 39 49 rfl (.agg #[.int .i64 0, .int .i64 0]) 16 Try.underlying39 (by kernel_rfl) rfl n rfl rfl (by omega) (by omega) ?_; intro w1 g hown hg hb1)
  go_wp2_with fail
  go_loopw [4] (fun i wr => ∃ j : Nat, j ≤ n ∧ i = .int .i64 j ∧ wr.ownsRow w.heap.size 49 2 (.slice (some ⟨g, 0, none⟩) n n) n ((xs.take j ++ List.replicate (n - j) (0, 0)).flatMap encSpan) ∧ Below w.heap.size w wr) (fun i _ => n - (intOf i).toNat)
  case atStart => exact ⟨0, Nat.zero_le _, rfl, hown, hb1⟩
  case round =>
    obtain ⟨j, hj, rfl, ho, hW⟩ := hrel
    clear hown hb1
    by_cases hlt : j < n
    · obtain ⟨b, off, x, rfl, hb, hx, hc⟩ := (H.out.below hW).elem hlt
      have g0 : wr.cell? ⟨b, off + j * 2, none⟩ = some (.int .i64 x.1) := by simpa using hc 0 _ rfl
      have g1 : wr.cell? ⟨b, off + j * 2 + 1, none⟩ = some (.int .i64 x.2) := hc 1 _ rfl
      have HX := Lib.hid hx
      have Ho := Lib.hid ho
      have HW := Lib.hid hW
      clear hc hx ho hW H
      go_wp2_with fail
      refine (laws_toSpan _ _ _).mono ?_
      rintro e w2 ⟨rfl, hb2⟩
      have ho1 := own_below Ho.out hb2
      have hat := take_at xs (0, 0) n j HL.out hlt
      have c0 : w2.cell? ⟨g, j * 2, none⟩ = some (.int .i64 0) := (ho1.cellAt (j * 2) (by omega)).trans (flat_get (enc := encSpan) (k := 2) (fun _ => rfl) _ j 0 _ _ hat rfl)
      have c1 : w2.cell? ⟨g, j * 2 + 1, none⟩ = some (.int .i64 0) := (ho1.cellAt (j * 2 + 1) (by omega)).trans (flat_get (enc := encSpan) (k := 2) (fun _ => rfl) _ j 1 _ _ hat rfl)
      have f0 := ho1.frozenAt (j * 2)
      have f1 := ho1.frozenAt (j * 2 + 1)
      have s1 := ho1.stored (j * 2) (.int .i64 x.1)
      have s2 := s1.1.stored (j * 2 + 1) (.int .i64 x.2)
      have hfin := s2.1
      rw [flat_set2, take_set xs (0, 0) x n j HL.out hlt HX.out] at hfin
      have Hfin := Lib.hid hfin
      have Hbel := Lib.hid ((HW.out.trans (hb2.mono HW.out.size)).trans ((gb_to_below (B := w.heap.size) s1.2 (Nat.le_trans HW.out.size hb2.size) (fun k hk => by simp at hk; omega)).trans (gb_to_below s2.2 (by have h1 := HW.out.size; have h2 := hb2.size; simp; omega) (fun k hk => by simp at hk; omega))))
      clear s1 s2 hfin hat ho1 hb2
      go_wp2
      go_roundw
      case rel => exact ⟨j + 1, by omega, by go_num, Hfin.out, Hbel.out⟩
      case measure => simp [intOf]; omega
    · have hke : j = n := by omega
      subst hke
      rw [Nat.sub_self, List.replicate_zero, List.append_nil, List.take_of_length_le (by rw [HL.out]; exact Nat.le_refl _)] at ho
      have Ho := Lib.hid ho
      clear ho hlt
      go_wp2
      go_ret
      have ho2 := Ho.out
      have hl := HL.out
      subst hl
      exact ⟨_, _, rfl, ho2, hW⟩
theorem laws_eqSpan (a b : Int) (w : World) :
    Calls Try.prog 54 #[.agg #[.int .i64 a, .int .i64 b], .agg #[.int .i64 a, .int .i64 b]] w fun e w' => e = .returned (.bool true) ∧ Below w.heap.size w w' := by
  go_enter Try.func54, Try.ntmps54
  go_wp2
  go_ret
  exact ⟨rfl, by go_grown⟩
set_option maxHeartbeats 800000 in
theorem laws_eqSpanS (A1 A2 : Option Addr) (n c1 c2 : Nat) (xs : List Span) (w : World) (hn : n ≤ 4611686018427387904) (h1 : Rd encSpan 2 w A1 n xs) (h2 : Rd encSpan 2 w A2 n xs) :
    Calls Try.prog 42 #[.slice A1 n c1, .slice A2 n c2] w fun e w' => e = .returned (.bool true) ∧ Below w.heap.size w w' := by
  have H1 := Lib.hid h1
  have H2 := Lib.hid h2
  clear h1 h2
  go_enter Try.func42, Try.ntmps42
  go_wp2_with fail
  go_loopw [5] (fun i wr => ∃ k : Nat, k ≤ n ∧ i = .int .i64 k ∧ Below w.heap.size w wr) (fun i _ => n - (intOf i).toNat)
  case atStart => exact ⟨0, Nat.zero_le _, rfl, Below.refl _ _⟩
  case round =>
    obtain ⟨k, hk, rfl, hW⟩ := hrel
    by_cases hlt : k < n
    · obtain ⟨b1, o1, x, rfl, _, hx, hc1⟩ := (H1.out.below hW).elem hlt
      obtain ⟨b2, o2, x', rfl, _, hx', hc2⟩ := (H2.out.below hW).elem hlt
      have hxx : x' = x := by rw [hx] at hx'; exact (Option.some.inj hx').symm
      subst hxx
      have g1 : wr.cell? ⟨b1, o1 + k * 2, none⟩ = some (.int .i64 x'.1) := by simpa using hc1 0 _ rfl
      have g2 : wr.cell? ⟨b1, o1 + k * 2 + 1, none⟩ = some (.int .i64 x'.2) := hc1 1 _ rfl
      have g3 : wr.cell? ⟨b2, o2 + k * 2, none⟩ = some (.int .i64 x'.1) := by simpa using hc2 0 _ rfl
      have g4 : wr.cell? ⟨b2, o2 + k * 2 + 1, none⟩ = some (.int .i64 x'.2) := hc2 1 _ rfl
      have HW := Lib.hid hW
      clear hc1 hc2 hx hx' hW H1 H2
      have hkn : (k : Int) < (n : Int) := by omega
      have hk0 : (0 : Int) ≤ (k : Int) := by omega
      go_wp2_with fail
      go_still_tail 8, (by kernel_rfl)
      change wpList _ _ _ _ _ wr.drew
      replace g1 : wr.drew.cell? ⟨b1, o1 + k * 2, none⟩ = some (.int .i64 x'.1) := g1
      replace g2 : wr.drew.cell? ⟨b1, o1 + k * 2 + 1, none⟩ = some (.int .i64 x'.2) := g2
      replace g3 : wr.drew.cell? ⟨b2, o2 + k * 2, none⟩ = some (.int .i64 x'.1) := g3
      replace g4 : wr.drew.cell? ⟨b2, o2 + k * 2 + 1, none⟩ = some (.int .i64 x'.2) := g4
      have HW2 := Lib.hid (HW.out.drew)
      clear HW
      generalize wr.drew = w2 at *
      go_wp2_with (go_at_call 54; refine (laws_eqSpan _ _ _).mono ?_; rintro e w3 ⟨rfl, hb3⟩)
      go_roundw
      case rel => exact ⟨k + 1, by omega, by go_num, HW2.out.trans (hb3.mono HW2.out.size)⟩
      case measure => simp [intOf]; omega
    · go_wp2
      go_ret
      exact ⟨rfl, hW⟩
set_option maxHeartbeats 800000 in
theorem spec_SetOk (A : Option Addr) (n c : Nat) (xs : List Span) (w : World) (hn : n ≤ 4611686018427387904) (h : Rd encSpan 2 w A n xs) :
    Calls Try.prog 39 #[.slice A n c] w fun e w' => e = .returned (.bool (setOk xs)) ∧ w = w' := by
  have HL := Lib.hid h.1
  have H := Lib.hid h
  clear h
  go_enter Try.func39, Try.ntmps39
  go_wp2_with fail
  go_loop [3] (fun i => ∃ k : Nat, k ≤ n ∧ i = .int .i64 k ∧ Hid (∀ (j : Nat) (y : Span), j < k → xs[j]? = some y → spanOk y = true)) (fun i => n - (intOf i).toNat)
  case atStart => exact ⟨0, Nat.zero_le _, rfl, fun j y hj => absurd hj (by omega)⟩
  case round =>
    obtain ⟨k, hk, rfl, ha⟩ := hrel
    by_cases hlt : k < n
    · obtain ⟨b, off, x, rfl, _, hx, hc⟩ := H.out.elem hlt
      have g1 : w.cell? ⟨b, off + k * 2, none⟩ = some (.int .i64 x.1) := by simpa using hc 0 _ rfl
      have g2 : w.cell? ⟨b, off + k * 2 + 1, none⟩ = some (.int .i64 x.2) := hc 1 _ rfl
      have HX := Lib.hid hx
      clear hc hx
      cases h1 : inR x.1 0 999999999 <;> cases h2 : inR x.2 0 999999999
      all_goals
        go_wp2_with (go_at_call 43; refine (l1In_any _ _ _ _).mono ?_; rintro e w' ⟨rfl, rfl⟩)
        first
          | (go_round
             case rel => exact ⟨k + 1, by omega, by go_num, allB_succ ha.out HX.out (by simp [spanOk, h1, h2])⟩
             case measure => simp [intOf]; omega)
          | (go_ret
             exact ⟨ret_b (by unfold setOk; rw [allB_false HX.out (by simp [spanOk, h1, h2])]; rfl), rfl⟩)
    · have hke : k = n := by omega
      have hfin : setOk xs = inR (n : Int) 1 5 := by unfold setOk; rw [allB_true (fun j y hy => ha.out j y (by rw [hke, ← HL.out]; exact (List.getElem?_eq_some_iff.1 hy).1) hy), Bool.true_and, HL.out]
      have Hfin := Lib.hid hfin
      clear hfin ha hke
      go_wp2_with (go_at_call 43; refine (l1In_any _ _ _ _).mono ?_; rintro e w' ⟨rfl, rfl⟩)
      go_ret
      exact ⟨ret_b Hfin.out.symm, rfl⟩
set_option maxHeartbeats 800000 in
theorem slices_IndexFunc_Span (A : Option Addr) (n c g : Nat) (lb : Array Value) (p : Span → Bool) (xs : List Span) (w : World) (hn : n ≤ 4611686018427387904) (h : Rd encSpan 2 w A n xs)
    (eg : ∀ args w, (callFunc g args).run Try.prog w = .ok (.enter g args) w) (hp : Pays Try.prog g lb (fun x : Span => .agg #[.int .i64 x.1, .int .i64 x.2]) p w) :
    Calls Try.prog 58 #[.slice A n c, .func (.func g) #[] lb] w fun e w' => e = .returned (.int .i64 (ixOf p xs)) ∧ Below w.heap.size w w' := by
  have HL := Lib.hid h.1
  have H := Lib.hid h
  have HP := Lib.hid hp
  clear h hp
  go_enter Try.func58, Try.ntmps58
  go_wp2_with fail
  go_loopw [8] (fun i wr => ∃ k : Nat, k ≤ n ∧ i = .int .i64 k ∧ Below w.heap.size w wr ∧ Hid (∀ (j : Nat) (y : Span), j < k → xs[j]? = some y → p y = false)) (fun i _ => n - (intOf i).toNat)
  case atStart => exact ⟨0, Nat.zero_le _, rfl, Below.refl _ _, fun j y hj => absurd hj (by omega)⟩
  case round =>
    obtain ⟨k, hk, rfl, hW, ha⟩ := hrel
    by_cases hlt : k < n
    · obtain ⟨b, off, x, rfl, _, hx, hc⟩ := (H.out.below hW).elem hlt
      have g1 : wr.cell? ⟨b, off + k * 2, none⟩ = some (.int .i64 x.1) := by simpa using hc 0 _ rfl
      have g2 : wr.cell? ⟨b, off + k * 2 + 1, none⟩ = some (.int .i64 x.2) := hc 1 _ rfl
      have hcall := HP.out wr x hW
      have HX := Lib.hid hx
      have HW := Lib.hid hW
      clear hc hx hW H HP
      cases hq : p x with
      | true =>
        rw [hq] at hcall
        have hfin := Lib.hid (ixOf_hit HX.out hq ha.out)
        clear hq ha
        go_wp2_with (go_at_fn g; refine hcall.mono ?_; rintro e w' ⟨rfl, hb'⟩)
        go_ret
        exact ⟨ret_i hfin.out.symm, HW.out.trans (hb'.mono HW.out.size)⟩
      | false =>
        rw [hq] at hcall
        have hs := Lib.hid (anyF_succ ha.out HX.out hq)
        clear hq ha
        go_wp2_with (go_at_fn g; refine hcall.mono ?_; rintro e w' ⟨rfl, hb'⟩)
        go_roundw
        case rel => exact ⟨k + 1, by omega, by go_num, HW.out.trans (hb'.mono HW.out.size), hs.out⟩
        case measure => simp [intOf]; omega
    · have hke : k = n := by omega
      have hfin := Lib.hid (ixOf_miss (p := p) (l := xs) (fun j y hy => ha.out j y (by rw [hke, ← HL.out]; exact (List.getElem?_eq_some_iff.1 hy).1) hy))
      clear ha hke
      go_wp2
      go_ret
      exact ⟨ret_i hfin.out.symm, hW⟩
theorem slices_ContainsFunc_Span (A : Option Addr) (n c g : Nat) (lb : Array Value) (p : Span → Bool) (xs : List Span) (w : World) (hn : n ≤ 4611686018427387904) (h : Rd encSpan 2 w A n xs)
    (eg : ∀ args w, (callFunc g args).run Try.prog w = .ok (.enter g args) w) (hp : Pays Try.prog g lb (fun x : Span => .agg #[.int .i64 x.1, .int .i64 x.2]) p w) :
    Calls Try.prog 52 #[.slice A n c, .func (.func g) #[] lb] w fun e w' => e = .returned (.bool (xs.any p)) ∧ Below w.heap.size w w' := by
  have hc := slices_IndexFunc_Span A n c g lb p xs w hn h eg hp
  have hr := Lib.hid (ixOf_any p xs)
  generalize ixOf p xs = r at *
  clear h hp
  go_enter Try.func52, Try.ntmps52
  go_wp2_with (go_at_call 58; refine hc.mono ?_; rintro e w' ⟨rfl, hb'⟩)
  go_ret
  exact ⟨ret_b hr.out, hb'⟩
theorem impl_SetOk_1 (x : Span) (w : World) :
    Calls Try.prog 53 #[.agg #[.int .i64 x.1, .int .i64 x.2]] w fun e w' => e = .returned (.bool (!spanOk x)) ∧ Below w.heap.size w w' := by
  unfold spanOk
  cases h1 : inR x.1 0 999999999 <;> cases h2 : inR x.2 0 999999999
  all_goals
    go_enter Try.func53, Try.ntmps53
    go_wp2_with (go_at_call 44; refine (within_any _ _ _ _).mono ?_; rintro e w' ⟨rfl, rfl⟩)
    go_ret
    exact ⟨rfl, by go_grown⟩
set_option maxHeartbeats 800000 in
theorem impl_SetOk (A : Option Addr) (n c : Nat) (xs : List Span) (w : World) (hn : n ≤ 4611686018427387904) (h : Rd encSpan 2 w A n xs) :
    Calls Try.prog 41 #[.slice A n c] w fun e w' => e = .returned (.bool (setOk xs)) ∧ Below w.heap.size w w' := by
  have hc := slices_ContainsFunc_Span A n c 53 #[] (fun x => !spanOk x) xs w hn h (enters_of Try.func53 (by kernel_rfl) rfl) (fun W x _ => impl_SetOk_1 x W)
  have HC := Lib.hid hc
  have hq : setOk xs = (inR (n : Int) 1 5 && !(xs.any fun x => !spanOk x)) := by
    unfold setOk; rw [h.1, Bool.and_comm]; congr 1; rw [List.not_any_eq_all_not]; simp
  have HQ := Lib.hid hq
  clear hq hc h
  generalize setOk xs = R at *
  cases h1 : inR (n : Int) 1 5 <;> cases h2 : xs.any fun x => !spanOk x
  all_goals
    have hr := Lib.hid (HQ.out.trans (by rw [h1, h2]))
    have hc2 := HC.out
    rw [h2] at hc2
    clear HQ HC h2
    go_enter Try.func41, Try.ntmps41
    go_wp2_with (first | (go_at_call 44; refine (within_any _ _ _ _).mono ?_; rintro e w' ⟨rfl, rfl⟩) | (go_at_call 52; refine hc2.mono ?_; rintro e w' ⟨rfl, hb'⟩))
    go_ret
    exact ⟨ret_b (by rw [hr.out]; rfl), by first | exact hb' | go_grown⟩
theorem dec_span {H : Type} {enc0 : TypeId × Value → H} {w : World} {base : Nat} {spare : Nat → Bool} {held : Bool} (n : Nat) (cs : List Value) (x : DataW H × List MemPlace)
    (h : DataW.trod enc0 Try.prog w base spare held n 51 cs = some x) : ∃ y : Span, cs = encSpan y ∧ True := by
  obtain ⟨y0, y1, m, _, hl, h0, h1⟩ := trod_struct2 (P := Try.prog) (t := 51) Try.underlying51 h
  have hl2 : cs.length = 2 := hl
  match cs, hl2 with
  | [c0, c1], _ =>
    have e0 : DataW.trod enc0 Try.prog w base spare held m 3 [c0] = some y0 := h0
    have e1 : DataW.trod enc0 Try.prog w base spare held m 3 [c1] = some y1 := h1
    obtain ⟨a, ha, _⟩ := DataW.trod_int Try.underlying3 e0
    obtain ⟨b, hb, _⟩ := DataW.trod_int Try.underlying3 e1
    simp at ha hb
    subst ha; subst hb
    exact ⟨(a, b), rfl, trivial⟩
set_option maxHeartbeats 800000 in
theorem walk_FnExactSetOk {H : Type} {enc0 : TypeId × Value → H} {base : Nat} {d0 : DataW H} {p0 : List MemPlace} (v0 : Value) (w : World) (o0 : Value.okWide Try.prog w .any base 36 v0)
    (h0 : DataW.Trod enc0 Try.prog w 0 (fun _ => true) true 36 v0 d0 p0) :
    Calls Try.prog 14 #[v0] w fun e w' => e = .returned (.bool true) ∧ Below w.heap.size w w' := by
  obtain ⟨A, n, c, xs, rfl, h, hc, hm, _⟩ := open_rd encSpan (fun _ => True) 2 Try.underlying36 o0 h0 (by kernel_rfl) (by omega) (fun _ => rfl) (fun n cs x hx => dec_span n cs x hx)
  have hmx : c ≤ 9223372036854775807 := by unfold maxLen at hm; omega
  clear o0 h0 hm
  have HL := Lib.hid h.1
  have H := Lib.hid h
  clear h
  by_cases hs : szLeft 1048576 n < 0
  · have hs1 : szLeft 1048576 n = -1 := szLeft_neg hs
    have HS := Lib.hid hs1
    clear hs1 hs
    go_enter Try.func14, Try.ntmps14
    go_wp2_with (go_at_call 38; refine (laws_szSpanS _ _ _ _ _ (by omega) (by omega) (by omega)).mono ?_; rintro e w' ⟨rfl, rfl⟩; rw [HS.out])
    go_ret
    exact ⟨rfl, Below.refl _ _⟩
  · have hs1 : szLeft 1048576 n = 1048576 - n := szLeft_pos hs
    have hn : n ≤ 1048576 := by rw [hs1] at hs; omega
    have HS := Lib.hid hs1
    clear hs1 hs
    have hxl : xs.length = n := HL.out
    subst hxl
    go_enter Try.func14, Try.ntmps14
    go_wp2_with (go_at_call 38; refine (laws_szSpanS _ _ _ _ _ (by omega) (by omega) (by omega)).mono ?_; rintro e w' ⟨rfl, rfl⟩; rw [HS.out])
    refine (laws_toSpanS A xs.length c xs w (by omega) H.out).mono ?_
    rintro e w1 ⟨A1, c1, rfl, ho1, hb1⟩
    have H1 := Lib.hid (Rd.of_own (enc := encSpan) (k := 2) (fun _ => rfl) ho1 rfl)
    have HB1 := Lib.hid hb1
    clear ho1 hb1
    go_wp2_with (go_at_call 39; refine (spec_SetOk _ _ _ xs _ (by omega) H1.out).mono ?_; rintro e w' ⟨rfl, rfl⟩)
    refine (laws_toSpanS A xs.length c xs w1 (by omega) (H.out.below HB1.out)).mono ?_
    rintro e w2 ⟨A2, c2, rfl, ho2, hb2⟩
    have H2 := Lib.hid (Rd.of_own (enc := encSpan) (k := 2) (fun _ => rfl) ho2 rfl)
    have HB2 := Lib.hid (HB1.out.trans (hb2.mono HB1.out.size))
    clear ho2 hb2
    go_wp2_with fail
    refine (impl_SetOk _ _ _ xs w2 (by omega) H2.out).mono ?_
    rintro e w3 ⟨rfl, hb3⟩
    have H3 := Lib.hid (H2.out.below hb3)
    have HB3 := Lib.hid (HB2.out.trans (hb3.mono HB2.out.size))
    clear hb3
    go_wp2_with fail
    refine (laws_toSpanS A xs.length c xs w3 (by omega) (H.out.below HB3.out)).mono ?_
    rintro e w4 ⟨A4, c4, rfl, ho4, hb4⟩
    have H4 := Lib.hid (Rd.of_own (enc := encSpan) (k := 2) (fun _ => rfl) ho4 rfl)
    have H34 := Lib.hid (H3.out.below hb4)
    have HB4 := Lib.hid (HB3.out.trans (hb4.mono HB3.out.size))
    clear ho4 hb4
    go_wp2_with fail
    refine (laws_eqSpanS _ _ _ _ _ xs w4 (by omega) H34.out H4.out).mono ?_
    rintro e w5 ⟨rfl, hb5⟩
    have HB5 := Lib.hid (HB4.out.trans (hb5.mono HB4.out.size))
    clear hb5
    go_wp2
    go_ret
    exact ⟨rfl, HB5.out⟩

end Go.Proofs.Ytplbijibddnfjaa
