/-
  Walks: what each function returns, and that it leaves what lay in memory as it was.
-/
import Derived.Test.YtbelkkfdblklbaaProg
import Derived.Test.YtbelkkfdblklbaaPlain
import Derived.Test.YtbelkkfdblklbaaBase2
import Derived.Test.YtbelkkfdblklbaaOpen2
import Derived.Test.YtbelkkfdblklbaaShelf
import Derived.WalkKit
import Derived.WalkSpells
import Derived.WalkLawsBesides
import Derived.Lib.Hide
import Derived.Deep.LoopGhost
import Derived.Deep.QuietTactic
import Derived.BigQuiet
import Derived.Handy
import Derived.Deep.RegionHeld3
import Derived.StillTailTactics
import Derived.OpenShut
import Derived.ChangeSame
import Derived.Laws.StructEq

import Derived.Test.YtbelkkfdblklbaaPlainT

import Derived.Test.YtbelkkfdblklbaaW1

namespace Go.Proofs.Ytbelkkfdblklbaa
open Go.ChangeShapes Go.WideShapes Go.ChangeAt Go.RowKit Go.Deep
set_option linter.unusedVariables false
set_option linter.unusedSimpArgs false

set_option maxRecDepth 20000

theorem laws_szSpanS0 (A : Option Addr) (n c : Nat) (left : Int) (w : World) (h0 : 0 ≤ left) (h1 : left ≤ 1048576) (hn : n ≤ 9223372036854775807) :
    Calls Try.prog 11 #[.slice A n c, .int .i64 left] w fun e w' => e = .returned (.int .i64 (szLeft left n)) ∧ w = w' := by
  by_cases h : left < (n : Int)
  · have hs := Lib.hid (show szLeft left n = -1 by unfold szLeft; rw [if_pos h])
    go_enter Try.func11, Try.ntmps11
    go_wp2
    go_ret
    exact ⟨ret_i hs.out.symm, rfl⟩
  · have hs := Lib.hid (show szLeft left n = left - n by unfold szLeft; rw [if_neg h])
    go_enter Try.func11, Try.ntmps11
    go_wp2
    go_ret
    exact ⟨ret_i hs.out.symm, rfl⟩
theorem laws_toSpan (a b : Int) (w : World) :
    Calls Try.prog 29 #[.agg #[.int .i64 a, .int .i64 b]] w fun e w' => e = .returned (.agg #[.int .i64 a, .int .i64 b]) ∧ Below w.heap.size w w' := by
  go_enter Try.func29, Try.ntmps29
  go_wp2
  go_returns
  exact ⟨rfl, by go_grown⟩
set_option maxHeartbeats 1600000 in
theorem laws_toSpanS (A : Option Addr) (n c : Nat) (xs : List Span) (w : World) (hn : n ≤ 1048576) (h : Rd encSpan 2 w A n xs) :
    Calls Try.prog 13 #[.slice A n c] w (RetOwn encSpan 2 50 w xs) := by
  have HL := Lib.hid h.1
  have H := Lib.hid h
  clear h
  go_enter Try.func13, Try.ntmps13
  go_wp2_with (at_make; refine wpList_mk (enc := encSpan) (0, 0) (k := 2) (by omega) rfl rfl _ _ 33 50 rfl (.agg #[.int .i64 0, .int .i64 0]) 16 Try.underlying33 (by kernel_rfl) rfl n rfl rfl (by omega) (by omega) ?_; intro w1 g hown hg hb1)
  go_wp2_with fail
  go_loopw [4] (fun i wr => ∃ j : Nat, j ≤ n ∧ i = .int .i64 j ∧ wr.ownsRow w.heap.size 50 2 (.slice (some ⟨g, 0, none⟩) n n) n ((xs.take j ++ List.replicate (n - j) (0, 0)).flatMap encSpan) ∧ Below w.heap.size w wr) (fun i _ => n - (intOf i).toNat)
  case atStart => exact ⟨0, Nat.zero_le _, rfl, hown, hb1⟩
  case round =>
    obtain ⟨j, hj, rfl, ho, hW⟩ := hrel
    clear hown hb1
    by_cases hlt : j < n
    · obtain ⟨b, off, x, rfl, hb, hx, hc⟩ := (H.out.below hW).elem hlt
      have g0 : wr.cell? ⟨b, off + j * 2, none⟩ = some (.int .i64 x.1) := by simpa using hc 0 _ rfl
      have g1 : wr.cell? ⟨b, off + j * 2 + 1, none⟩ = some (.int .i64 x.2) := hc 1 _ rfl
      have HX := Lib.hid hx
      have Ho := Lib.hid ho
      have HW := Lib.hid hW
      clear hc hx ho hW H
      go_wp2_with fail
      refine (laws_toSpan _ _ _).mono ?_
      rintro e w2 ⟨rfl, hb2⟩
      have ho1 := own_below Ho.out hb2
      have hat := take_at xs (0, 0) n j HL.out hlt
      have c0 : w2.cell? ⟨g, j * 2, none⟩ = some (.int .i64 0) := (ho1.cellAt (j * 2) (by omega)).trans (flat_get (enc := encSpan) (k := 2) (fun _ => rfl) _ j 0 _ _ hat rfl)
      have c1 : w2.cell? ⟨g, j * 2 + 1, none⟩ = some (.int .i64 0) := (ho1.cellAt (j * 2 + 1) (by omega)).trans (flat_get (enc := encSpan) (k := 2) (fun _ => rfl) _ j 1 _ _ hat rfl)
      have f0 := ho1.frozenAt (j * 2)
      have f1 := ho1.frozenAt (j * 2 + 1)
      have s1 := ho1.stored (j * 2) (.int .i64 x.1)
      have s2 := s1.1.stored (j * 2 + 1) (.int .i64 x.2)
      have hfin := s2.1
      rw [flat_set2, take_set xs (0, 0) x n j HL.out hlt HX.out] at hfin
      have Hfin := Lib.hid hfin
      have Hbel := Lib.hid ((HW.out.trans (hb2.mono HW.out.size)).trans ((gb_to_below (B := w.heap.size) s1.2 (Nat.le_trans HW.out.size hb2.size) (fun k hk => by simp at hk; omega)).trans (gb_to_below s2.2 (by have h1 := HW.out.size; have h2 := hb2.size; simp; omega) (fun k hk => by simp at hk; omega))))
      clear s1 s2 hfin hat ho1 hb2
      go_wp2
      go_roundw
      case rel => exact ⟨j + 1, by omega, by go_num, Hfin.out, Hbel.out⟩
      case measure => simp [intOf]; omega
    · have hke : j = n := by omega
      subst hke
      rw [Nat.sub_self, List.replicate_zero, List.append_nil, List.take_of_length_le (by rw [HL.out]; exact Nat.le_refl _)] at ho
      have Ho := Lib.hid ho
      clear ho hlt
      go_wp2
      go_ret
      have ho2 := Ho.out
      have hl := HL.out
      subst hl
      exact ⟨_, _, rfl, ho2, hW⟩
theorem laws_eqSpan (a b : Int) (w : World) :
    Calls Try.prog 31 #[.agg #[.int .i64 a, .int .i64 b], .agg #[.int .i64 a, .int .i64 b]] w fun e w' => e = .returned (.bool true) ∧ Below w.heap.size w w' := by
  go_enter Try.func31, Try.ntmps31
  go_wp2
  go_ret
  exact ⟨rfl, by go_grown⟩
set_option maxHeartbeats 800000 in
set_option maxRecDepth 20000 in
theorem laws_eqSpanS (A1 A2 : Option Addr) (n c1 c2 : Nat) (xs : List Span) (w : World) (hn : n ≤ 4611686018427387904) (h1 : Rd encSpan 2 w A1 n xs) (h2 : Rd encSpan 2 w A2 n xs) :
    Calls Try.prog 16 #[.slice A1 n c1, .slice A2 n c2] w fun e w' => e = .returned (.bool true) ∧ Below w.heap.size w w' := by
  have H1 := Lib.hid h1
  have H2 := Lib.hid h2
  clear h1 h2
  go_enter Try.func16, Try.ntmps16
  go_wp2_with fail
  go_loopw [5] (fun i wr => ∃ k : Nat, k ≤ n ∧ i = .int .i64 k ∧ Below w.heap.size w wr) (fun i _ => n - (intOf i).toNat)
  case atStart => exact ⟨0, Nat.zero_le _, rfl, Below.refl _ _⟩
  case round =>
    obtain ⟨k, hk, rfl, hW⟩ := hrel
    by_cases hlt : k < n
    · obtain ⟨b1, o1, x, rfl, _, hx, hc1⟩ := (H1.out.below hW).elem hlt
      obtain ⟨b2, o2, x', rfl, _, hx', hc2⟩ := (H2.out.below hW).elem hlt
      have hxx : x' = x := by rw [hx] at hx'; exact (Option.some.inj hx').symm
      subst hxx
      have g1 : wr.cell? ⟨b1, o1 + k * 2, none⟩ = some (.int .i64 x'.1) := by simpa using hc1 0 _ rfl
      have g2 : wr.cell? ⟨b1, o1 + k * 2 + 1, none⟩ = some (.int .i64 x'.2) := hc1 1 _ rfl
      have g3 : wr.cell? ⟨b2, o2 + k * 2, none⟩ = some (.int .i64 x'.1) := by simpa using hc2 0 _ rfl
      have g4 : wr.cell? ⟨b2, o2 + k * 2 + 1, none⟩ = some (.int .i64 x'.2) := hc2 1 _ rfl
      have HW := Lib.hid hW
      clear hc1 hc2 hx hx' hW H1 H2
      have hkn : (k : Int) < (n : Int) := by omega
      have hk0 : (0 : Int) ≤ (k : Int) := by omega
      go_wp2_with fail
      go_still_tail 8, (by kernel_rfl)
      change wpList _ _ _ _ _ wr.drew
      replace g1 : wr.drew.cell? ⟨b1, o1 + k * 2, none⟩ = some (.int .i64 x'.1) := g1
      replace g2 : wr.drew.cell? ⟨b1, o1 + k * 2 + 1, none⟩ = some (.int .i64 x'.2) := g2
      replace g3 : wr.drew.cell? ⟨b2, o2 + k * 2, none⟩ = some (.int .i64 x'.1) := g3
      replace g4 : wr.drew.cell? ⟨b2, o2 + k * 2 + 1, none⟩ = some (.int .i64 x'.2) := g4
      have HW2 := Lib.hid (HW.out.drew)
      clear HW
      generalize wr.drew = w2 at *
      go_wp2_with (go_at_call 31; refine (laws_eqSpan _ _ _).mono ?_; rintro e w3 ⟨rfl, hb3⟩)
      go_roundw
      case rel => exact ⟨k + 1, by omega, by go_num, HW2.out.trans (hb3.mono HW2.out.size)⟩
      case measure => simp [intOf]; omega
    · go_wp2
      go_ret
      exact ⟨rfl, hW⟩
set_option maxHeartbeats 800000 in
theorem slices_IndexFunc_Span (A : Option Addr) (n c g : Nat) (lb : Array Value) (p : Span → Bool) (xs : List Span) (w : World) (hn : n ≤ 4611686018427387904) (h : Rd encSpan 2 w A n xs)
    (eg : ∀ args w, (callFunc g args).run Try.prog w = .ok (.enter g args) w) (hp : Pays Try.prog g lb (fun x : Span => .agg #[.int .i64 x.1, .int .i64 x.2]) p w) :
    Calls Try.prog 41 #[.slice A n c, .func (.func g) #[] lb] w fun e w' => e = .returned (.int .i64 (ixOf p xs)) ∧ Below w.heap.size w w' := by
  have HL := Lib.hid h.1
  have H := Lib.hid h
  have HP := Lib.hid hp
  clear h hp
  go_enter Try.func41, Try.ntmps41
  go_wp2_with fail
  go_loopw [8] (fun i wr => ∃ k : Nat, k ≤ n ∧ i = .int .i64 k ∧ Below w.heap.size w wr ∧ Hid (∀ (j : Nat) (y : Span), j < k → xs[j]? = some y → p y = false)) (fun i _ => n - (intOf i).toNat)
  case atStart => exact ⟨0, Nat.zero_le _, rfl, Below.refl _ _, fun j y hj => absurd hj (by omega)⟩
  case round =>
    obtain ⟨k, hk, rfl, hW, ha⟩ := hrel
    by_cases hlt : k < n
    · obtain ⟨b, off, x, rfl, _, hx, hc⟩ := (H.out.below hW).elem hlt
      have g1 : wr.cell? ⟨b, off + k * 2, none⟩ = some (.int .i64 x.1) := by simpa using hc 0 _ rfl
      have g2 : wr.cell? ⟨b, off + k * 2 + 1, none⟩ = some (.int .i64 x.2) := hc 1 _ rfl
      have hcall := HP.out wr x hW
      have HX := Lib.hid hx
      have HW := Lib.hid hW
      clear hc hx hW H HP
      cases hq : p x with
      | true =>
        rw [hq] at hcall
        have hfin := Lib.hid (ixOf_hit HX.out hq ha.out)
        clear hq ha
        go_wp2_with (go_at_fn g; refine hcall.mono ?_; rintro e w' ⟨rfl, hb'⟩)
        go_ret
        exact ⟨ret_i hfin.out.symm, HW.out.trans (hb'.mono HW.out.size)⟩
      | false =>
        rw [hq] at hcall
        have hs := Lib.hid (anyF_succ ha.out HX.out hq)
        clear hq ha
        go_wp2_with (go_at_fn g; refine hcall.mono ?_; rintro e w' ⟨rfl, hb'⟩)
        go_roundw
        case rel => exact ⟨k + 1, by omega, by go_num, HW.out.trans (hb'.mono HW.out.size), hs.out⟩
        case measure => simp [intOf]; omega
    · have hke : k = n := by omega
      have hfin := Lib.hid (ixOf_miss (p := p) (l := xs) (fun j y hy => ha.out j y (by rw [hke, ← HL.out]; exact (List.getElem?_eq_some_iff.1 hy).1) hy))
      clear ha hke
      go_wp2
      go_ret
      exact ⟨ret_i hfin.out.symm, hW⟩
theorem slices_ContainsFunc_Span (A : Option Addr) (n c g : Nat) (lb : Array Value) (p : Span → Bool) (xs : List Span) (w : World) (hn : n ≤ 4611686018427387904) (h : Rd encSpan 2 w A n xs)
    (eg : ∀ args w, (callFunc g args).run Try.prog w = .ok (.enter g args) w) (hp : Pays Try.prog g lb (fun x : Span => .agg #[.int .i64 x.1, .int .i64 x.2]) p w) :
    Calls Try.prog 38 #[.slice A n c, .func (.func g) #[] lb] w fun e w' => e = .returned (.bool (xs.any p)) ∧ Below w.heap.size w w' := by
  have hc := slices_IndexFunc_Span A n c g lb p xs w hn h eg hp
  have hr := Lib.hid (ixOf_any p xs)
  generalize ixOf p xs = r at *
  clear h hp
  go_enter Try.func38, Try.ntmps38
  go_wp2_with (go_at_call 41; refine hc.mono ?_; rintro e w' ⟨rfl, hb'⟩)
  go_ret
  exact ⟨ret_b hr.out, hb'⟩
set_option maxRecDepth 20000 in
theorem dec_span {H : Type} {enc0 : TypeId × Value → H} {w : World} {base : Nat} {spare : Nat → Bool} {held : Bool} (n : Nat) (cs : List Value) (x : DataW H × List MemPlace)
    (h : DataW.trod enc0 Try.prog w base spare held n 52 cs = some x) : ∃ y : Span, cs = encSpan y ∧ True := by
  obtain ⟨y0, y1, m, _, hl, h0, h1⟩ := trod_struct2 (P := Try.prog) (t := 52) Try.underlying52 h
  have hl2 : cs.length = 2 := hl
  match cs, hl2 with
  | [c0, c1], _ =>
    have e0 : DataW.trod enc0 Try.prog w base spare held m 3 [c0] = some y0 := h0
    have e1 : DataW.trod enc0 Try.prog w base spare held m 3 [c1] = some y1 := h1
    obtain ⟨a, ha, _⟩ := DataW.trod_int Try.underlying3 e0
    obtain ⟨b, hb, _⟩ := DataW.trod_int Try.underlying3 e1
    simp at ha hb
    subst ha; subst hb
    exact ⟨(a, b), rfl, trivial⟩
theorem laws_szSpanS (A : Option Addr) (n c : Nat) (xs : List Span) (left : Int) (w : World) (h0 : 0 ≤ left) (h1 : left ≤ 1048576) (hn : n ≤ 9223372036854775807) (h : Rd encSpan 2 w A n xs) :
    Calls Try.prog 11 #[.slice A n c, .int .i64 left] w fun e w' => (∃ v : Int, e = .returned (.int .i64 v) ∧ -1 ≤ v ∧ v ≤ left ∧ (0 ≤ v → n ≤ 1048576)) ∧ Below w.heap.size w w' := by
  refine (laws_szSpanS0 A n c left w h0 h1 hn).mono ?_
  rintro e w' ⟨rfl, rfl⟩
  refine ⟨⟨_, rfl, ?_, ?_, ?_⟩, Below.refl _ _⟩
  all_goals unfold szLeft
  all_goals split
  all_goals omega
set_option maxRecDepth 20000 in
theorem open_SpanS {H : Type} {enc0 : TypeId × Value → H} {w : World} {base b0 : Nat} {r : Reach} {spare : Nat → Bool} {held : Bool} {v : Value} {d : DataW H} {p : List MemPlace}
    (o : Value.okWide Try.prog w r b0 29 v) (h : DataW.Trod enc0 Try.prog w base spare held 29 v d p) :
    ∃ (A : Option Addr) (n c : Nat) (xs : List Span), v = .slice A n c ∧ Rd encSpan 2 w A n xs ∧ n ≤ 9223372036854775807 ∧ ∀ y ∈ xs, True := by
  obtain ⟨A, n, c, xs, rfl, h, hc, hm, _⟩ := open_rd encSpan (fun _ => True) 2 Try.underlying29 o h (by kernel_rfl) (by omega) (fun _ => rfl) (fun n cs x hx => dec_span n cs x hx)
  exact ⟨A, n, c, xs, rfl, h, by unfold maxLen at hm; omega, fun _ _ => trivial⟩

def spLo (last : Int) (p : Span) : Int := if p.1 = 0 then last else p.1
def spHi (last : Int) (p : Span) : Int := if p.2 = 0 then last else p.2
def iMin (a b : Int) : Int := if a < b then a else b
def iMax (a b : Int) : Int := if b < a then a else b
/-- The number x is in the span, where 0 stands for the last one. -/
def spanIn (x last : Int) (p : Span) : Bool := inR x (iMin (spLo last p) (spHi last p)) (iMax (spLo last p) (spHi last p))
def hasNum (l : List Span) (x last : Int) : Bool := l.any (spanIn x last)
theorem iMin_eq (a b : Int) : iMin a b = min a b := by unfold iMin; split <;> omega
theorem iMax_eq (a b : Int) : iMax a b = max a b := by unfold iMax; split <;> omega
theorem spec_l1Min (a b : Int) (w : World) :
    Calls Try.prog 27 #[.int .i64 a, .int .i64 b] w fun e w' => e = .returned (.int .i64 (iMin a b)) ∧ w = w' := by
  by_cases h : a < b
  · have H := Lib.hid (show iMin a b = a by unfold iMin; rw [if_pos h])
    go_enter Try.func27, Try.ntmps27
    go_wp2
    go_ret
    exact ⟨ret_i H.out.symm, rfl⟩
  · have H := Lib.hid (show iMin a b = b by unfold iMin; rw [if_neg h])
    go_enter Try.func27, Try.ntmps27
    go_wp2
    go_ret
    exact ⟨ret_i H.out.symm, rfl⟩
theorem spec_l1Max (a b : Int) (w : World) :
    Calls Try.prog 32 #[.int .i64 a, .int .i64 b] w fun e w' => e = .returned (.int .i64 (iMax a b)) ∧ w = w' := by
  by_cases h : b < a
  · have H := Lib.hid (show iMax a b = a by unfold iMax; rw [if_pos h])
    go_enter Try.func32, Try.ntmps32
    go_wp2
    go_ret
    exact ⟨ret_i H.out.symm, rfl⟩
  · have H := Lib.hid (show iMax a b = b by unfold iMax; rw [if_neg h])
    go_enter Try.func32, Try.ntmps32
    go_wp2
    go_ret
    exact ⟨ret_i H.out.symm, rfl⟩
set_option maxHeartbeats 1600000 in
theorem spec_l4In (A : Option Addr) (n c : Nat) (xs : List Span) (x last : Int) (w : World) (hn : n ≤ 4611686018427387904) (h : Rd encSpan 2 w A n xs) :
    Calls Try.prog 28 #[.slice A n c, .int .i64 x, .int .i64 last] w fun e w' => e = .returned (.bool (hasNum xs x last)) ∧ w = w' := by
  have HL := Lib.hid h.1
  have H := Lib.hid h
  clear h
  go_enter Try.func28, Try.ntmps28
  go_wp2_with fail
  go_loopw [7] (fun i wr => ∃ k : Nat, k ≤ n ∧ i = .int .i64 k ∧ Hid ((xs.take k).any (spanIn x last) = false) ∧ wr = w) (fun i _ => n - (intOf i).toNat)
  case atStart => exact ⟨0, by omega, rfl, Lib.hid (by simp), rfl⟩
  case round =>
    obtain ⟨k, hk, rfl, hq, rfl⟩ := hrel
    by_cases hlt : k < n
    · obtain ⟨b, off, p, rfl, hb, hat, hc⟩ := H.out.elem hlt
      have c0 : wr.cell? ⟨b, off + k * 2, none⟩ = some (.int .i64 p.1) := by simpa using hc 0 _ rfl
      have c1 : wr.cell? ⟨b, off + k * 2 + 1, none⟩ = some (.int .i64 p.2) := hc 1 _ rfl
      obtain ⟨lo, hlo⟩ : ∃ lo, spLo last p = lo := ⟨_, rfl⟩
      obtain ⟨hi, hhi⟩ : ∃ hi, spHi last p = hi := ⟨_, rfl⟩
      obtain ⟨R, hR⟩ : ∃ R, spanIn x last p = R := ⟨_, rfl⟩
      have HR := Lib.hid (show inR x (iMin lo hi) (iMax lo hi) = R by rw [← hR, ← hlo, ← hhi]; rfl)
      have hkl : k < xs.length := by rw [HL.out]; exact hlt
      have e := (List.getElem?_eq_some_iff.1 hat).2
      have HFin := Lib.hid (show R = true → hasNum xs x last = true by
        intro h; unfold hasNum; rw [List.any_eq_true]; exact ⟨p, List.mem_of_getElem? hat, by rw [hR, h]⟩)
      have HGo := Lib.hid (show R = false → (xs.take (k + 1)).any (spanIn x last) = false by
        intro h; rw [List.take_succ_eq_append_getElem hkl, List.any_append, hq.out, e]; simp [hR, h])
      clear hc hat e hR hq
      have HLo := Lib.hid hlo
      have HHi := Lib.hid hhi
      clear hlo hhi
      by_cases z1 : p.1 = 0 <;> by_cases z2 : p.2 = 0
      all_goals
        have e1 := HLo.out
        have e2 := HHi.out
        unfold spLo at e1
        unfold spHi at e2
        simp only [z1, z2, if_true, if_false] at e1 e2
        subst e1; subst e2
        cases R with
        | true =>
          have HF := Lib.hid (HFin.out rfl)
          clear HFin HGo
          go_wp2_with (first | (go_at_call 27; refine (spec_l1Min _ _ _).mono ?_; rintro e w' ⟨rfl, rfl⟩) | (go_at_call 32; refine (spec_l1Max _ _ _).mono ?_; rintro e w' ⟨rfl, rfl⟩) | (go_at_call 37; refine (l1In_any _ _ _ _).mono ?_; rw [HR.out]; rintro e w' ⟨rfl, rfl⟩))
          go_ret
          exact ⟨ret_b HF.out.symm, rfl⟩
        | false =>
          have HG := Lib.hid (HGo.out rfl)
          clear HFin HGo
          go_wp2_with (first | (go_at_call 27; refine (spec_l1Min _ _ _).mono ?_; rintro e w' ⟨rfl, rfl⟩) | (go_at_call 32; refine (spec_l1Max _ _ _).mono ?_; rintro e w' ⟨rfl, rfl⟩) | (go_at_call 37; refine (l1In_any _ _ _ _).mono ?_; rw [HR.out]; rintro e w' ⟨rfl, rfl⟩))
          go_roundw
          case rel => exact ⟨k + 1, by omega, by go_num, HG, trivial⟩
          case measure => simp [intOf]; omega
    · have hke : k = n := by omega
      subst hke
      have HF := Lib.hid (show hasNum xs x last = false by
        have h := hq.out
        rw [List.take_of_length_le (by rw [HL.out]; exact Nat.le_refl _)] at h
        exact h)
      clear hq
      go_wp2
      go_ret
      exact ⟨ret_b HF.out.symm, rfl⟩
set_option maxHeartbeats 1600000 in
theorem impl_hasNumber_1 (p : Span) (x last : Int) (g1 g2 : Nat) (w : World) (h1 : w.cell? ⟨g1, 0, none⟩ = some (.int .i64 last)) (h2 : w.cell? ⟨g2, 0, none⟩ = some (.int .i64 x)) :
    Calls Try.prog 39 #[.agg #[.int .i64 p.1, .int .i64 p.2], .pointer (some ⟨g1, 0, none⟩), .pointer (some ⟨g2, 0, none⟩)] w fun e w' => e = .returned (.bool (spanIn x last p)) ∧ Below w.heap.size w w' := by
  obtain ⟨lo, hlo⟩ : ∃ lo, spLo last p = lo := ⟨_, rfl⟩
  obtain ⟨hi, hhi⟩ : ∃ hi, spHi last p = hi := ⟨_, rfl⟩
  have HR := Lib.hid (show inR x (iMin lo hi) (iMax lo hi) = spanIn x last p by rw [← hlo, ← hhi]; rfl)
  have HLo := Lib.hid hlo
  have HHi := Lib.hid hhi
  clear hlo hhi
  have b1 := World.block_lt_of_cell? w _ h1
  have b2 := World.block_lt_of_cell? w _ h2
  have q1 : (w.alloc (.cells #[.int .i64 p.1, .int .i64 p.2] 50)).cell? ⟨g1, 0, none⟩ = some (.int .i64 last) := (((Below.refl w.heap.size w).alloc (Nat.le_refl _) _).cell (p := ⟨g1, 0, none⟩) b1).trans h1
  have q2 : (w.alloc (.cells #[.int .i64 p.1, .int .i64 p.2] 50)).cell? ⟨g2, 0, none⟩ = some (.int .i64 x) := (((Below.refl w.heap.size w).alloc (Nat.le_refl _) _).cell (p := ⟨g2, 0, none⟩) b2).trans h2
  generalize spanIn x last p = R at *
  by_cases z1 : p.1 = 0 <;> by_cases z2 : p.2 = 0
  all_goals
    have e1 := HLo.out
    have e2 := HHi.out
    unfold spLo at e1
    unfold spHi at e2
    simp only [z1, z2, if_true, if_false] at e1 e2
    subst e1; subst e2
    go_enter Try.func39, Try.ntmps39
    go_wp2_with fail
    go_quiet (fail)
    go_wp2_with fail
    refine (within_any _ _ _ _).mono ?_
    rintro e w2 ⟨rfl, rfl⟩
    go_wp2
    go_ret
    exact ⟨ret_b (by have h := HR.out; rw [iMin_eq, iMax_eq] at h; simpa using h), below_drewN ((Below.refl _ _).alloc (Nat.le_refl _) _) _⟩

end Go.Proofs.Ytbelkkfdblklbaa
