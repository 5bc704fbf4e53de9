/-
  Walks: what each function returns, and that it leaves what lay in memory as it was.
-/
import Derived.Test.YthccfnoebbimjaaProg
import Derived.Test.YthccfnoebbimjaaPlain
import Derived.Test.YthccfnoebbimjaaBase2
import Derived.Test.YthccfnoebbimjaaOpen2
import Derived.Test.YthccfnoebbimjaaShelf
import Derived.WalkKit
import Derived.WalkSpells
import Derived.WalkLawsBesides
import Derived.Lib.Hide
import Derived.Deep.LoopGhost
import Derived.Deep.QuietTactic
import Derived.BigQuiet
import Derived.Handy
import Derived.Deep.RegionHeld3
import Derived.StillTailTactics
import Derived.OpenShut
import Derived.ChangeSame
import Derived.Laws.StructEq

import Derived.Test.YthccfnoebbimjaaPlainT

import Derived.Test.YthccfnoebbimjaaW1

namespace Go.Proofs.Ythccfnoebbimjaa
open Go.ChangeShapes Go.WideShapes Go.ChangeAt Go.RowKit Go.Deep
set_option linter.unusedVariables false
set_option linter.unusedSimpArgs false

set_option maxRecDepth 20000

set_option maxHeartbeats 800000 in
theorem slices_IndexFunc_Span (A : Option Addr) (n c g : Nat) (lb : Array Value) (p : Span → Bool) (xs : List Span) (w : World) (hn : n ≤ 4611686018427387904) (h : Rd encSpan 2 w A n xs)
    (eg : ∀ args w, (callFunc g args).run Try.prog w = .ok (.enter g args) w) (hp : Pays Try.prog g lb (fun x : Span => .agg #[.int .i64 x.1, .int .i64 x.2]) p w) :
    Calls Try.prog 85 #[.slice A n c, .func (.func g) #[] lb] w fun e w' => e = .returned (.int .i64 (ixOf p xs)) ∧ Below w.heap.size w w' := by
  have HL := Lib.hid h.1
  have H := Lib.hid h
  have HP := Lib.hid hp
  clear h hp
  go_enter Try.func85, Try.ntmps85
  go_wp2_with fail
  go_loopw [8] (fun i wr => ∃ k : Nat, k ≤ n ∧ i = .int .i64 k ∧ Below w.heap.size w wr ∧ Hid (∀ (j : Nat) (y : Span), j < k → xs[j]? = some y → p y = false)) (fun i _ => n - (intOf i).toNat)
  case atStart => exact ⟨0, Nat.zero_le _, rfl, Below.refl _ _, fun j y hj => absurd hj (by omega)⟩
  case round =>
    obtain ⟨k, hk, rfl, hW, ha⟩ := hrel
    by_cases hlt : k < n
    · obtain ⟨b, off, x, rfl, _, hx, hc⟩ := (H.out.below hW).elem hlt
      have g1 : wr.cell? ⟨b, off + k * 2, none⟩ = some (.int .i64 x.1) := by simpa using hc 0 _ rfl
      have g2 : wr.cell? ⟨b, off + k * 2 + 1, none⟩ = some (.int .i64 x.2) := hc 1 _ rfl
      have hcall := HP.out wr x hW
      have HX := Lib.hid hx
      have HW := Lib.hid hW
      clear hc hx hW H HP
      cases hq : p x with
      | true =>
        rw [hq] at hcall
        have hfin := Lib.hid (ixOf_hit HX.out hq ha.out)
        clear hq ha
        go_wp2_with (go_at_fn g; refine hcall.mono ?_; rintro e w' ⟨rfl, hb'⟩)
        go_ret
        exact ⟨ret_i hfin.out.symm, HW.out.trans (hb'.mono HW.out.size)⟩
      | false =>
        rw [hq] at hcall
        have hs := Lib.hid (anyF_succ ha.out HX.out hq)
        clear hq ha
        go_wp2_with (go_at_fn g; refine hcall.mono ?_; rintro e w' ⟨rfl, hb'⟩)
        go_roundw
        case rel => exact ⟨k + 1, by omega, by go_num, HW.out.trans (hb'.mono HW.out.size), hs.out⟩
        case measure => simp [intOf]; omega
    · have hke : k = n := by omega
      have hfin := Lib.hid (ixOf_miss (p := p) (l := xs) (fun j y hy => ha.out j y (by rw [hke, ← HL.out]; exact (List.getElem?_eq_some_iff.1 hy).1) hy))
      clear ha hke
      go_wp2
      go_ret
      exact ⟨ret_i hfin.out.symm, hW⟩
theorem slices_ContainsFunc_Span (A : Option Addr) (n c g : Nat) (lb : Array Value) (p : Span → Bool) (xs : List Span) (w : World) (hn : n ≤ 4611686018427387904) (h : Rd encSpan 2 w A n xs)
    (eg : ∀ args w, (callFunc g args).run Try.prog w = .ok (.enter g args) w) (hp : Pays Try.prog g lb (fun x : Span => .agg #[.int .i64 x.1, .int .i64 x.2]) p w) :
    Calls Try.prog 62 #[.slice A n c, .func (.func g) #[] lb] w fun e w' => e = .returned (.bool (xs.any p)) ∧ Below w.heap.size w w' := by
  have hc := slices_IndexFunc_Span A n c g lb p xs w hn h eg hp
  have hr := Lib.hid (ixOf_any p xs)
  generalize ixOf p xs = r at *
  clear h hp
  go_enter Try.func62, Try.ntmps62
  go_wp2_with (go_at_call 85; refine hc.mono ?_; rintro e w' ⟨rfl, hb'⟩)
  go_ret
  exact ⟨ret_b hr.out, hb'⟩

def spLo (last : Int) (p : Span) : Int := if p.1 = 0 then last else p.1
def spHi (last : Int) (p : Span) : Int := if p.2 = 0 then last else p.2
def iMin (a b : Int) : Int := if a < b then a else b
def iMax (a b : Int) : Int := if b < a then a else b
/-- The number x is in the span, where 0 stands for the last one. -/
def spanIn (x last : Int) (p : Span) : Bool := inR x (iMin (spLo last p) (spHi last p)) (iMax (spLo last p) (spHi last p))
def hasNum (l : List Span) (x last : Int) : Bool := l.any (spanIn x last)
theorem iMin_eq (a b : Int) : iMin a b = min a b := by unfold iMin; split <;> omega
theorem iMax_eq (a b : Int) : iMax a b = max a b := by unfold iMax; split <;> omega
theorem spec_l1Min (a b : Int) (w : World) :
    Calls Try.prog 32 #[.int .i64 a, .int .i64 b] w fun e w' => e = .returned (.int .i64 (iMin a b)) ∧ w = w' := by
  by_cases h : a < b
  · have H := Lib.hid (show iMin a b = a by unfold iMin; rw [if_pos h])
    go_enter Try.func32, Try.ntmps32
    go_wp2
    go_ret
    exact ⟨ret_i H.out.symm, rfl⟩
  · have H := Lib.hid (show iMin a b = b by unfold iMin; rw [if_neg h])
    go_enter Try.func32, Try.ntmps32
    go_wp2
    go_ret
    exact ⟨ret_i H.out.symm, rfl⟩
theorem spec_l1Max (a b : Int) (w : World) :
    Calls Try.prog 65 #[.int .i64 a, .int .i64 b] w fun e w' => e = .returned (.int .i64 (iMax a b)) ∧ w = w' := by
  by_cases h : b < a
  · have H := Lib.hid (show iMax a b = a by unfold iMax; rw [if_pos h])
    go_enter Try.func65, Try.ntmps65
    go_wp2
    go_ret
    exact ⟨ret_i H.out.symm, rfl⟩
  · have H := Lib.hid (show iMax a b = b by unfold iMax; rw [if_neg h])
    go_enter Try.func65, Try.ntmps65
    go_wp2
    go_ret
    exact ⟨ret_i H.out.symm, rfl⟩
set_option maxHeartbeats 1600000 in
theorem spec_l4In (A : Option Addr) (n c : Nat) (xs : List Span) (x last : Int) (w : World) (hn : n ≤ 4611686018427387904) (h : Rd encSpan 2 w A n xs) :
    Calls Try.prog 33 #[.slice A n c, .int .i64 x, .int .i64 last] w fun e w' => e = .returned (.bool (hasNum xs x last)) ∧ w = w' := by
  have HL := Lib.hid h.1
  have H := Lib.hid h
  clear h
  go_enter Try.func33, Try.ntmps33
  go_wp2_with fail
  go_loopw [7] (fun i wr => ∃ k : Nat, k ≤ n ∧ i = .int .i64 k ∧ Hid ((xs.take k).any (spanIn x last) = false) ∧ wr = w) (fun i _ => n - (intOf i).toNat)
  case atStart => exact ⟨0, by omega, rfl, Lib.hid (by simp), rfl⟩
  case round =>
    obtain ⟨k, hk, rfl, hq, rfl⟩ := hrel
    by_cases hlt : k < n
    · obtain ⟨b, off, p, rfl, hb, hat, hc⟩ := H.out.elem hlt
      have c0 : wr.cell? ⟨b, off + k * 2, none⟩ = some (.int .i64 p.1) := by simpa using hc 0 _ rfl
      have c1 : wr.cell? ⟨b, off + k * 2 + 1, none⟩ = some (.int .i64 p.2) := hc 1 _ rfl
      obtain ⟨lo, hlo⟩ : ∃ lo, spLo last p = lo := ⟨_, rfl⟩
      obtain ⟨hi, hhi⟩ : ∃ hi, spHi last p = hi := ⟨_, rfl⟩
      obtain ⟨R, hR⟩ : ∃ R, spanIn x last p = R := ⟨_, rfl⟩
      have HR := Lib.hid (show inR x (iMin lo hi) (iMax lo hi) = R by rw [← hR, ← hlo, ← hhi]; rfl)
      have hkl : k < xs.length := by rw [HL.out]; exact hlt
      have e := (List.getElem?_eq_some_iff.1 hat).2
      have HFin := Lib.hid (show R = true → hasNum xs x last = true by
        intro h; unfold hasNum; rw [List.any_eq_true]; exact ⟨p, List.mem_of_getElem? hat, by rw [hR, h]⟩)
      have HGo := Lib.hid (show R = false → (xs.take (k + 1)).any (spanIn x last) = false by
        intro h; rw [List.take_succ_eq_append_getElem hkl, List.any_append, hq.out, e]; simp [hR, h])
      clear hc hat e hR hq
      have HLo := Lib.hid hlo
      have HHi := Lib.hid hhi
      clear hlo hhi
      by_cases z1 : p.1 = 0 <;> by_cases z2 : p.2 = 0
      all_goals
        have e1 := HLo.out
        have e2 := HHi.out
        unfold spLo at e1
        unfold spHi at e2
        simp only [z1, z2, if_true, if_false] at e1 e2
        subst e1; subst e2
        cases R with
        | true =>
          have HF := Lib.hid (HFin.out rfl)
          clear HFin HGo
          go_wp2_with (first | (go_at_call 32; refine (spec_l1Min _ _ _).mono ?_; rintro e w' ⟨rfl, rfl⟩) | (go_at_call 65; refine (spec_l1Max _ _ _).mono ?_; rintro e w' ⟨rfl, rfl⟩) | (go_at_call 64; refine (l1In_any _ _ _ _).mono ?_; rw [HR.out]; rintro e w' ⟨rfl, rfl⟩))
          go_ret
          exact ⟨ret_b HF.out.symm, rfl⟩
        | false =>
          have HG := Lib.hid (HGo.out rfl)
          clear HFin HGo
          go_wp2_with (first | (go_at_call 32; refine (spec_l1Min _ _ _).mono ?_; rintro e w' ⟨rfl, rfl⟩) | (go_at_call 65; refine (spec_l1Max _ _ _).mono ?_; rintro e w' ⟨rfl, rfl⟩) | (go_at_call 64; refine (l1In_any _ _ _ _).mono ?_; rw [HR.out]; rintro e w' ⟨rfl, rfl⟩))
          go_roundw
          case rel => exact ⟨k + 1, by omega, by go_num, HG, trivial⟩
          case measure => simp [intOf]; omega
    · have hke : k = n := by omega
      subst hke
      have HF := Lib.hid (show hasNum xs x last = false by
        have h := hq.out
        rw [List.take_of_length_le (by rw [HL.out]; exact Nat.le_refl _)] at h
        exact h)
      clear hq
      go_wp2
      go_ret
      exact ⟨ret_b HF.out.symm, rfl⟩
set_option maxHeartbeats 1600000 in
theorem impl_hasNumber_1 (p : Span) (x last : Int) (g1 g2 : Nat) (w : World) (h1 : w.cell? ⟨g1, 0, none⟩ = some (.int .i64 last)) (h2 : w.cell? ⟨g2, 0, none⟩ = some (.int .i64 x)) :
    Calls Try.prog 63 #[.agg #[.int .i64 p.1, .int .i64 p.2], .pointer (some ⟨g1, 0, none⟩), .pointer (some ⟨g2, 0, none⟩)] w fun e w' => e = .returned (.bool (spanIn x last p)) ∧ Below w.heap.size w w' := by
  obtain ⟨lo, hlo⟩ : ∃ lo, spLo last p = lo := ⟨_, rfl⟩
  obtain ⟨hi, hhi⟩ : ∃ hi, spHi last p = hi := ⟨_, rfl⟩
  have HR := Lib.hid (show inR x (iMin lo hi) (iMax lo hi) = spanIn x last p by rw [← hlo, ← hhi]; rfl)
  have HLo := Lib.hid hlo
  have HHi := Lib.hid hhi
  clear hlo hhi
  have b1 := World.block_lt_of_cell? w _ h1
  have b2 := World.block_lt_of_cell? w _ h2
  have q1 : (w.alloc (.cells #[.int .i64 p.1, .int .i64 p.2] 86)).cell? ⟨g1, 0, none⟩ = some (.int .i64 last) := (((Below.refl w.heap.size w).alloc (Nat.le_refl _) _).cell (p := ⟨g1, 0, none⟩) b1).trans h1
  have q2 : (w.alloc (.cells #[.int .i64 p.1, .int .i64 p.2] 86)).cell? ⟨g2, 0, none⟩ = some (.int .i64 x) := (((Below.refl w.heap.size w).alloc (Nat.le_refl _) _).cell (p := ⟨g2, 0, none⟩) b2).trans h2
  generalize spanIn x last p = R at *
  by_cases z1 : p.1 = 0 <;> by_cases z2 : p.2 = 0
  all_goals
    have e1 := HLo.out
    have e2 := HHi.out
    unfold spLo at e1
    unfold spHi at e2
    simp only [z1, z2, if_true, if_false] at e1 e2
    subst e1; subst e2
    go_enter Try.func63, Try.ntmps63
    go_wp2_with fail
    go_quiet (fail)
    go_wp2_with fail
    refine (within_any _ _ _ _).mono ?_
    rintro e w2 ⟨rfl, rfl⟩
    go_wp2
    go_ret
    exact ⟨ret_b (by have h := HR.out; rw [iMin_eq, iMax_eq] at h; simpa using h), below_drewN ((Below.refl _ _).alloc (Nat.le_refl _) _) _⟩

end Go.Proofs.Ythccfnoebbimjaa
