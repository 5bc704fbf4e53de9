/-
  Walks: what each function returns, and that it leaves what lay in memory as it was.
-/
import Derived.Test.YtlehpgnhfpegoaaDoorProg
import Derived.Test.YtlehpgnhfpegoaaDoorPlain
import Derived.Test.YtlehpgnhfpegoaaDoorBase2
import Derived.Test.YtlehpgnhfpegoaaDoorOpen2
import Derived.Test.YtlehpgnhfpegoaaDoorShelf
import Derived.WalkKit
import Derived.WalkSpells
import Derived.WalkLawsBesides
import Derived.Lib.Hide
import Derived.Deep.LoopGhost
import Derived.Deep.QuietTactic
import Derived.BigQuiet
import Derived.Handy
import Derived.Deep.RegionHeld3
import Derived.StillTailTactics
import Derived.OpenShut
import Derived.ChangeSame
import Derived.Laws.StructEq

import Derived.Test.YtlehpgnhfpegoaaDoorPlainT

import Derived.Test.YtlehpgnhfpegoaaDoorW1

import Derived.Test.YtlehpgnhfpegoaaDoorW2

import Derived.Test.YtlehpgnhfpegoaaDoorW3

import Derived.Test.YtlehpgnhfpegoaaDoorW4

import Derived.Test.YtlehpgnhfpegoaaDoorW5

import Derived.Test.YtlehpgnhfpegoaaDoorW6

import Derived.Test.YtlehpgnhfpegoaaDoorBase3

import Derived.Lib.ItoaMem
import Derived.Lib.ItoaLen
import Derived.Lib.LaidTab

import Derived.Lib.AtoiTie
import Derived.Lib.AtoiBound
import Derived.Lib.ConvBytes

import Derived.Test.YtlehpgnhfpegoaaDoorW7

import Derived.Test.YtlehpgnhfpegoaaDoorW9

import Derived.Test.YtlehpgnhfpegoaaDoorW11

namespace Go.Proofs.YtlehpgnhfpegoaaDoor
open Go.ChangeShapes Go.WideShapes Go.ChangeAt Go.RowKit Go.Deep
set_option linter.unusedVariables false
set_option linter.unusedSimpArgs false

set_option maxRecDepth 20000

set_option maxHeartbeats 6400000 in
theorem spec_l3Take (s : ByteArray) (a : Nat) (w : World) (hs : s.size ≤ 1048576) (ha : a < s.size) :
    Calls Tryd.prog 17 #[.string s, .int .i64 a] w fun e w' => (∃ t : Token, (0 ≤ (takeTok s.data.toList a).2 → t = (takeTok s.data.toList a).1) ∧ e = .returned (.tuple #[.agg #[.int .i64 t.kind, .string t.text], .int .i64 (takeTok s.data.toList a).2])) ∧ Below w.heap.size w w' := by
  have HSL := Lib.hid (size_len s)
  have hga := getb s ha
  obtain ⟨ca, hca⟩ : ∃ ca, s[a] = ca := ⟨_, rfl⟩
  rw [hca] at hga
  have hca8 := u8_lt ca
  obtain ⟨R, hR⟩ : ∃ R, takeTok s.data.toList a = R := ⟨_, rfl⟩
  have HD := Lib.hid hR
  have HGA := Lib.hid hga
  rw [hR]
  clear hR hga
  by_cases h40 : (ca.toNat : Int) = 40
  · have e40 : ca = 40 := UInt8.toNat_inj.1 (by show ca.toNat = 40; omega)
    have HF := Lib.hid (show R = (⟨3, ⟨#[]⟩⟩, (a : Int) + 1) by rw [← HD.out]; unfold takeTok; rw [HGA.out, e40]; rfl)
    clear HD
    subst e40
    go_enter Tryd.func17, Tryd.ntmps17
    go_wp2
    go_returns
    exact ⟨⟨⟨3, ⟨#[]⟩⟩, fun _ => by rw [HF.out], by rw [HF.out]; try rfl⟩, (by go_grown)⟩
  have k40 : ((ca.toNat : Int) == 40) = false := beq_eq_false_iff_ne.2 h40
  by_cases h41 : (ca.toNat : Int) = 41
  · have e41 : ca = 41 := UInt8.toNat_inj.1 (by show ca.toNat = 41; omega)
    have HF := Lib.hid (show R = (⟨4, ⟨#[]⟩⟩, (a : Int) + 1) by rw [← HD.out]; unfold takeTok; rw [HGA.out, e41]; rfl)
    clear HD
    subst e41
    go_enter Tryd.func17, Tryd.ntmps17
    go_wp2
    go_returns
    exact ⟨⟨⟨4, ⟨#[]⟩⟩, fun _ => by rw [HF.out], by rw [HF.out]; try rfl⟩, (by go_grown)⟩
  have k41 : ((ca.toNat : Int) == 41) = false := beq_eq_false_iff_ne.2 h41
  have HB1 := Lib.hid (show Below w.heap.size w (w.alloc (.cells #[.int .i64 0, .string ⟨#[]⟩] 34)) by go_grown)
  have Q0 := Lib.hid (show (w.alloc (.cells #[.int .i64 0, .string ⟨#[]⟩] 34)).cell? ⟨w.heap.size, 0, none⟩ = some (.int .i64 0) by go_simp)
  have Q1 := Lib.hid (show (w.alloc (.cells #[.int .i64 0, .string ⟨#[]⟩] 34)).cell? ⟨w.heap.size, 1, none⟩ = some (.string ⟨#[]⟩) by go_simp)
  have QF := Lib.hid (show ∀ i, (w.alloc (.cells #[.int .i64 0, .string ⟨#[]⟩] 34)).frozen? ⟨w.heap.size, i, none⟩ = false from fun i => by go_simp)
  have hsz1 : w.heap.size < (w.alloc (.cells #[.int .i64 0, .string ⟨#[]⟩] 34)).heap.size := by simp
  by_cases h34 : (ca.toNat : Int) = 34
  · have e34 : ca = 34 := UInt8.toNat_inj.1 (by show ca.toNat = 34; omega)
    obtain ⟨X, hX⟩ : ∃ X : ByteArray, (⟨(unquote s.data.toList (a : Int)).1.toArray⟩ : ByteArray) = X := ⟨_, rfl⟩
    obtain ⟨nx, hnx⟩ : ∃ nx, (unquote s.data.toList (a : Int)).2 = nx := ⟨_, rfl⟩
    have HF := Lib.hid (show R = (⟨2, X⟩, nx) by rw [← HD.out, ← hX, ← hnx]; unfold takeTok; rw [HGA.out, e34]; rfl)
    have HX := Lib.hid hX
    have Hnx := Lib.hid hnx
    clear HD hX hnx
    subst e34
    go_enter Tryd.func17, Tryd.ntmps17
    go_wp2_with fail
    generalize (w.alloc (.cells #[.int .i64 0, .string ⟨#[]⟩] 34)) = w1 at *
    refine (spec_Unquote s a _ (by omega) (by omega) (by omega)).mono ?_
    rw [HX.out, Hnx.out]
    rintro e w2 ⟨rfl, hb⟩
    have q0 := (hb.cell (p := ⟨w.heap.size, 0, none⟩) hsz1).trans Q0.out
    have q1 := (hb.cell (p := ⟨w.heap.size, 1, none⟩) hsz1).trans Q1.out
    have qf : ∀ i, w2.frozen? ⟨w.heap.size, i, none⟩ = false := fun i => (hb.frozen (p := ⟨w.heap.size, i, none⟩) hsz1).trans (QF.out i)
    have HW := Lib.hid (HB1.out.trans (hb.mono HB1.out.size))
    clear hb
    go_wp2
    refine bodyPost_ret (by simp [results, Tryd.results17, go_sem, q0, q1]; try rfl) rfl ?_
    exact ⟨⟨⟨2, X⟩, fun _ => by rw [HF.out], by rw [HF.out]; try rfl⟩, (by first | (with_reducible exact HW.out) | ((repeat (with_reducible refine Below.setCell ?_ ?_ _)) <;> first | (with_reducible exact HW.out) | (simp only []; omega)) | go_grown)⟩
  have k34 : ((ca.toNat : Int) == 34) = false := beq_eq_false_iff_ne.2 h34
  by_cases h123 : (ca.toNat : Int) = 123
  · rw [← HD.out]
    exact spec_l3Take_brace s a w hs ha ca hca h40 h41 h34 h123
  rw [← HD.out]
  exact spec_l3Take_atom s a w hs ha ca hca h40 h41 h34 h123

end Go.Proofs.YtlehpgnhfpegoaaDoor
