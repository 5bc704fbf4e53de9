/-
  Walks: what each function returns, and that it leaves what lay in memory as it was.
-/
import Derived.Test.YtlehpgnhfpegoaaDoorProg
import Derived.Test.YtlehpgnhfpegoaaDoorPlain
import Derived.Test.YtlehpgnhfpegoaaDoorBase2
import Derived.Test.YtlehpgnhfpegoaaDoorOpen2
import Derived.Test.YtlehpgnhfpegoaaDoorShelf
import Derived.WalkKit
import Derived.WalkSpells
import Derived.WalkLawsBesides
import Derived.Lib.Hide
import Derived.Deep.LoopGhost
import Derived.Deep.QuietTactic
import Derived.BigQuiet
import Derived.Handy
import Derived.Deep.RegionHeld3
import Derived.StillTailTactics
import Derived.OpenShut
import Derived.ChangeSame
import Derived.Laws.StructEq

import Derived.Test.YtlehpgnhfpegoaaDoorPlainT

import Derived.Test.YtlehpgnhfpegoaaDoorW1

import Derived.Test.YtlehpgnhfpegoaaDoorW2

import Derived.Test.YtlehpgnhfpegoaaDoorW3

import Derived.Test.YtlehpgnhfpegoaaDoorW4

import Derived.Test.YtlehpgnhfpegoaaDoorW5

import Derived.Test.YtlehpgnhfpegoaaDoorW6

import Derived.Test.YtlehpgnhfpegoaaDoorBase3

import Derived.Lib.ItoaMem
import Derived.Lib.ItoaLen
import Derived.Lib.LaidTab

import Derived.Lib.AtoiTie
import Derived.Lib.AtoiBound
import Derived.Lib.ConvBytes

import Derived.Test.YtlehpgnhfpegoaaDoorW7

namespace Go.Proofs.YtlehpgnhfpegoaaDoor
open Go.ChangeShapes Go.WideShapes Go.ChangeAt Go.RowKit Go.Deep
set_option linter.unusedVariables false
set_option linter.unusedSimpArgs false

set_option maxRecDepth 20000

theorem impl_isApart (a b : Int) (w : World) :
    Calls Tryd.prog 20 #[.int .i64 a, .int .i64 b] w fun e w' => e = .returned (.bool (!(a == 3) && !(b == 4))) ∧ w = w' := by
  obtain ⟨R, hR⟩ : ∃ R, (!(a == 3) && !(b == 4)) = R := ⟨_, rfl⟩
  rw [hR]
  by_cases h3 : a = 3 <;> by_cases h4 : b = 4
  · have HR := Lib.hid (show R = false by rw [← hR]; simp [h3, h4])
    clear hR
    go_enter Tryd.func20, Tryd.ntmps20
    go_wp2
    go_ret
    exact ⟨ret_b (HR.out.symm), rfl⟩
  · have HR := Lib.hid (show R = false by rw [← hR]; simp [h3, h4])
    clear hR
    go_enter Tryd.func20, Tryd.ntmps20
    go_wp2
    go_ret
    exact ⟨ret_b (HR.out.symm), rfl⟩
  · have HR := Lib.hid (show R = false by rw [← hR]; simp [h3, h4])
    clear hR
    go_enter Tryd.func20, Tryd.ntmps20
    go_wp2
    go_ret
    exact ⟨ret_b (HR.out.symm), rfl⟩
  · have HR := Lib.hid (show R = true by rw [← hR]; simp [h3, h4])
    clear hR
    go_enter Tryd.func20, Tryd.ntmps20
    go_wp2
    go_ret
    exact ⟨ret_b (by rw [HR.out]; simp [h3, h4]), rfl⟩
theorem spec_l3Gap (x y : Token) (w : World) :
    Calls Tryd.prog 18 #[.agg #[.int .i64 x.kind, .string x.text], .agg #[.int .i64 y.kind, .string y.text]] w fun e w' => e = .returned (.bool (gapT x y)) ∧ Below w.heap.size w w' := by
  obtain ⟨xk, xt⟩ := x
  obtain ⟨yk, yt⟩ := y
  obtain ⟨R, hR⟩ : ∃ R, gapT ⟨xk, xt⟩ ⟨yk, yt⟩ = R := ⟨_, rfl⟩
  rw [hR]
  unfold gapT at hR
  simp only [] at hR ⊢
  by_cases h3 : xk = 3 <;> by_cases h4 : yk = 4
  · have HR := Lib.hid (show R = false by rw [← hR]; simp [h3, h4])
    clear hR
    go_enter Tryd.func18, Tryd.ntmps18
    go_wp2
    go_ret
    exact ⟨ret_b (HR.out.symm), by go_grown⟩
  · have HR := Lib.hid (show R = false by rw [← hR]; simp [h3, h4])
    clear hR
    go_enter Tryd.func18, Tryd.ntmps18
    go_wp2
    go_ret
    exact ⟨ret_b (HR.out.symm), by go_grown⟩
  · have HR := Lib.hid (show R = false by rw [← hR]; simp [h3, h4])
    clear hR
    go_enter Tryd.func18, Tryd.ntmps18
    go_wp2
    go_ret
    exact ⟨ret_b (HR.out.symm), by go_grown⟩
  · have HR := Lib.hid (show R = true by rw [← hR]; simp [h3, h4])
    clear hR
    go_enter Tryd.func18, Tryd.ntmps18
    go_wp2
    go_ret
    exact ⟨ret_b (by rw [HR.out]; simp [h3, h4]), by go_grown⟩

theorem apartL_at {l : List Token} {y t : Token} (h : l[l.length - 1]? = some y) : apartL l t = gapT y t := by
  unfold apartL; rw [List.getLast?_eq_getElem?, h]
theorem apartL_nil {l : List Token} {t : Token} (h : l.length = 0) : apartL l t = false := by rw [List.eq_nil_of_length_eq_zero h]; rfl
theorem lexGo2_end {s : Str} {f k : Nat} {out : List Token} (h : ¬ k < s.length) : lexGo2 s f k out = (out, true) := by
  cases f with
  | zero => rfl
  | succ f => unfold lexGo2; rw [if_neg h]
theorem lexGo2_no {s : Str} {f k : Nat} {out : List Token} (h : k < s.length) (hf : s.length < f + k) (hs : lexStep s k out = none) : lexGo2 s f k out = ([], false) := by
  cases f with
  | zero => omega
  | succ f => unfold lexGo2; rw [if_pos h, hs]
theorem lexGo2_yes {s : Str} {f k m : Nat} {t : Token} {out : List Token} (h : k < s.length) (hf : s.length < f + k) (hs : lexStep s k out = some (t, m)) : lexGo2 s f k out = lexGo2 s (f - 1) m (out ++ [t]) := by
  cases f with
  | zero => omega
  | succ f =>
    conv => lhs; unfold lexGo2
    rw [if_pos h, hs]; rfl
theorem lexStep_out {s : Str} {k q : Nat} {out : List Token} (hq : lexAt s k = q) (h : ¬ q < s.length) : lexStep s k out = none := by
  unfold lexStep; rw [hq, if_pos (by omega)]
theorem lexStep_neg {s : Str} {k q : Nat} {out : List Token} {t : Token} {n : Int} (hq : lexAt s k = q) (ht : takeTok s q = (t, n)) (h : n < 0) : lexStep s k out = none := by
  unfold lexStep; rw [hq, ht]
  by_cases h1 : q ≥ s.length
  · rw [if_pos h1]
  · rw [if_neg h1]; exact if_pos h
theorem lexStep_gap {s : Str} {k q : Nat} {out : List Token} {t : Token} {n : Int} {b g : Bool} (hq : lexAt s k = q) (ht : takeTok s q = (t, n)) (hb : decide (s[k]? = some 32) = b) (hg : apartL out t = g) (h : ¬ b = g) : lexStep s k out = none := by
  unfold lexStep; rw [hq, ht, hb]
  by_cases h1 : q ≥ s.length
  · rw [if_pos h1]
  · rw [if_neg h1]
    by_cases h2 : n < 0
    · exact if_pos h2
    · refine (if_neg h2).trans ?_
      show (if b = apartL out t then some (t, n.toNat) else none) = none
      rw [hg, if_neg h]
theorem lexStep_yes {s : Str} {k q m : Nat} {out : List Token} {t : Token} {b g : Bool} (hq : lexAt s k = q) (h1 : q < s.length) (ht : takeTok s q = (t, (m : Int))) (hb : decide (s[k]? = some 32) = b) (hg : apartL out t = g) (h : b = g) : lexStep s k out = some (t, m) := by
  unfold lexStep; rw [hq, ht, hb, if_neg (by omega)]
  refine (if_neg (by show ¬ (m : Int) < 0; omega)).trans ?_
  show (if b = apartL out t then some (t, (m : Int).toNat) else none) = some (t, m)
  rw [hg, if_pos h]; rfl

end Go.Proofs.YtlehpgnhfpegoaaDoor
