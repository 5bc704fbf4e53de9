/-
  Walks: what each function returns, and that it leaves what lay in memory as it was.
-/
import Derived.Test.YtlehpgnhfpegoaaDoorProg
import Derived.Test.YtlehpgnhfpegoaaDoorPlain
import Derived.Test.YtlehpgnhfpegoaaDoorBase2
import Derived.Test.YtlehpgnhfpegoaaDoorOpen2
import Derived.Test.YtlehpgnhfpegoaaDoorShelf
import Derived.WalkKit
import Derived.WalkSpells
import Derived.WalkLawsBesides
import Derived.Lib.Hide
import Derived.Deep.LoopGhost
import Derived.Deep.QuietTactic
import Derived.BigQuiet
import Derived.Handy
import Derived.Deep.RegionHeld3
import Derived.StillTailTactics
import Derived.OpenShut
import Derived.ChangeSame
import Derived.Laws.StructEq

import Derived.Test.YtlehpgnhfpegoaaDoorPlainT

import Derived.Test.YtlehpgnhfpegoaaDoorW1

import Derived.Test.YtlehpgnhfpegoaaDoorW2

import Derived.Test.YtlehpgnhfpegoaaDoorW3

import Derived.Test.YtlehpgnhfpegoaaDoorW4

import Derived.Test.YtlehpgnhfpegoaaDoorW5

import Derived.Test.YtlehpgnhfpegoaaDoorW6

import Derived.Test.YtlehpgnhfpegoaaDoorBase3

import Derived.Lib.ItoaMem
import Derived.Lib.ItoaLen
import Derived.Lib.LaidTab

import Derived.Lib.AtoiTie
import Derived.Lib.AtoiBound
import Derived.Lib.ConvBytes

import Derived.Test.YtlehpgnhfpegoaaDoorW7

namespace Go.Proofs.YtlehpgnhfpegoaaDoor
open Go.ChangeShapes Go.WideShapes Go.ChangeAt Go.RowKit Go.Deep
set_option linter.unusedVariables false
set_option linter.unusedSimpArgs false

set_option maxRecDepth 20000

set_option maxHeartbeats 6400000 in
theorem spec_l3Take_atom (s : ByteArray) (a : Nat) (w : World) (hs : s.size ≤ 1048576) (ha : a < s.size) (ca : UInt8) (hca : s[a] = ca) (h40 : ¬ (ca.toNat : Int) = 40) (h41 : ¬ (ca.toNat : Int) = 41) (h34 : ¬ (ca.toNat : Int) = 34) (h123 : ¬ (ca.toNat : Int) = 123) :
    Calls Tryd.prog 17 #[.string s, .int .i64 a] w fun e w' => (∃ t : Token, (0 ≤ (takeTok s.data.toList a).2 → t = (takeTok s.data.toList a).1) ∧ e = .returned (.tuple #[.agg #[.int .i64 t.kind, .string t.text], .int .i64 (takeTok s.data.toList a).2])) ∧ Below w.heap.size w w' := by
  have HSL := Lib.hid (size_len s)
  have hga := getb s ha
  rw [hca] at hga
  have hca8 := u8_lt ca
  obtain ⟨R, hR⟩ : ∃ R, takeTok s.data.toList a = R := ⟨_, rfl⟩
  have HD := Lib.hid hR
  have HGA := Lib.hid hga
  rw [hR]
  clear hR hga
  have k40 : ((ca.toNat : Int) == 40) = false := beq_eq_false_iff_ne.2 h40
  have k41 : ((ca.toNat : Int) == 41) = false := beq_eq_false_iff_ne.2 h41
  have k34 : ((ca.toNat : Int) == 34) = false := beq_eq_false_iff_ne.2 h34
  have k123 : ((ca.toNat : Int) == 123) = false := beq_eq_false_iff_ne.2 h123
  have HB1 := Lib.hid (show Below w.heap.size w (w.alloc (.cells #[.int .i64 0, .string ⟨#[]⟩] 34)) by go_grown)
  have Q0 := Lib.hid (show (w.alloc (.cells #[.int .i64 0, .string ⟨#[]⟩] 34)).cell? ⟨w.heap.size, 0, none⟩ = some (.int .i64 0) by go_simp)
  have Q1 := Lib.hid (show (w.alloc (.cells #[.int .i64 0, .string ⟨#[]⟩] 34)).cell? ⟨w.heap.size, 1, none⟩ = some (.string ⟨#[]⟩) by go_simp)
  have QF := Lib.hid (show ∀ i, (w.alloc (.cells #[.int .i64 0, .string ⟨#[]⟩] 34)).frozen? ⟨w.heap.size, i, none⟩ = false from fun i => by go_simp)
  have hsz1 : w.heap.size < (w.alloc (.cells #[.int .i64 0, .string ⟨#[]⟩] 34)).heap.size := by simp
  have n40 : ca ≠ 40 := by rintro rfl; exact h40 rfl
  have n41 : ca ≠ 41 := by rintro rfl; exact h41 rfl
  have n34 : ca ≠ 34 := by rintro rfl; exact h34 rfl
  have n123 : ca ≠ 123 := by rintro rfl; exact h123 rfl
  obtain ⟨h, hh⟩ : ∃ h, (s.data.toList.drop a).takeWhile atomB = h := ⟨_, rfl⟩
  have HF0 := Lib.hid (show (if atomOk h = true then ((⟨1, ⟨h.toArray⟩⟩ : Token), (a : Int) + h.length) else (⟨0, ⟨#[]⟩⟩, -1)) = R by
    rw [← HD.out, ← hh]; unfold takeTok; rw [HGA.out]; simp [n40, n41, n34, n123])
  have HH := Lib.hid hh
  clear HD hh n40 n41 n34 n123 h40 h41 h34 h123
  go_enter Tryd.func17, Tryd.ntmps17
  go_wp2_with fail
  generalize (w.alloc (.cells #[.int .i64 0, .string ⟨#[]⟩] 34)) = w1 at *
  have q0 := Q0.out
  have q1 := Q1.out
  have qf := QF.out
  go_loopw [11] (fun i wr => ∃ j : Nat, a ≤ j ∧ j ≤ s.size ∧ i = .int .i64 j ∧ Hid (((s.data.toList.drop a).take (j - a)).all atomB = true) ∧ wr = w1) (fun i _ => s.size - (intOf i).toNat)
  case atStart => exact ⟨a, by omega, by omega, rfl, Lib.hid (by simp), rfl⟩
  case round =>
    obtain ⟨j, hj0, hj, rfl, hall, rfl⟩ := hrel
    by_cases hlt : j < s.size
    · have hgj := getb s hlt
      obtain ⟨cj, hcj⟩ : ∃ cj, s[j] = cj := ⟨_, rfl⟩
      rw [hcj] at hgj
      have hcj8 := u8_lt cj
      have HGJ := Lib.hid (show (s.data.toList.drop a)[j - a]? = some cj by rw [List.getElem?_drop, show a + (j - a) = j by omega]; exact hgj)
      clear hgj
      obtain ⟨at_, hat⟩ : ∃ b, atomB cj = b := ⟨_, rfl⟩
      have HAt := Lib.hid hat
      clear hat
      have hji : (j : Int) < (s.size : Int) := by omega
      have HOne := Lib.hid (show atomOk (s.extract j (j + 1)).data.toList = at_ by
        have e1 : (s.extract j (j + 1)).data.toList = [cj] := by
          rw [ba_ext, show j + 1 - j = 1 by omega]
          have h2 := HGJ.out
          rw [List.getElem?_drop, show a + (j - a) = j by omega] at h2
          obtain ⟨h3, h4⟩ := List.getElem?_eq_some_iff.1 h2
          rw [List.drop_eq_getElem_cons h3, h4]; rfl
        rw [e1]; unfold atomOk; rw [← HAt.out]; simp [inR])
      have hexs : (s.extract j (j + 1)).size ≤ maxLen := by have := ba_ext_size s j (j + 1); unfold maxLen; omega
      cases at_ with
      | true =>
        have HN := Lib.hid (show ((s.data.toList.drop a).take (j + 1 - a)).all atomB = true by
          rw [show j + 1 - a = (j - a) + 1 by omega, take_snoc HGJ.out, List.all_append, hall.out]; simp [HAt.out])
        clear hall
        go_wp2_with (go_at_call 34; refine (spec_AtomOk _ _ hexs).mono ?_; rw [HOne.out]; rintro e w' ⟨rfl, rfl⟩)
        go_roundw
        case rel => exact ⟨j + 1, by omega, by omega, by go_num, HN, trivial⟩
        case measure => simp [intOf]; omega
      | false =>
        have HTk := Lib.hid (show (s.data.toList.drop a).take (j - a) = h by rw [← HH.out]; exact (takeWhile_cut hall.out (.inr ⟨cj, HGJ.out, HAt.out⟩)).symm)
        clear hall
        have HEx := Lib.hid (show (⟨h.toArray⟩ : ByteArray) = s.extract a j from ba_eq.2 (by rw [ba_ext, HTk.out]))
        have HLen := Lib.hid (show (a : Int) + h.length = j by rw [← HTk.out, List.length_take, List.length_drop, ← HSL.out]; omega)
        have hexa : (s.extract a j).size ≤ maxLen := by have := ba_ext_size s a j; unfold maxLen; omega
        obtain ⟨ok, hok⟩ : ∃ b, atomOk h = b := ⟨_, rfl⟩
        have HOk := Lib.hid (show atomOk (s.extract a j).data.toList = ok by rw [← HEx.out, ← hok])
        have HFo := Lib.hid (show (if ok = true then ((⟨1, s.extract a j⟩ : Token), (j : Int)) else (⟨0, ⟨#[]⟩⟩, -1)) = R by rw [← HF0.out, ← hok, HLen.out, HEx.out])
        clear hok
        go_wp2_with fail
        refine (spec_AtomOk _ _ hexs).mono ?_
        rw [HOne.out]
        rintro e w' ⟨rfl, rfl⟩
        go_wp2_with fail
        refine (spec_AtomOk _ _ hexa).mono ?_
        rw [HOk.out]
        rintro e w' ⟨rfl, rfl⟩
        cases ok with
        | true =>
          have HF := Lib.hid (show R = (⟨1, s.extract a j⟩, (j : Int)) by rw [← HFo.out]; rfl)
          go_wp2
          refine bodyPost_ret (by simp [results, Tryd.results17, go_sem, q0, q1]; try rfl) rfl ?_
          exact ⟨⟨⟨1, s.extract a j⟩, fun _ => by rw [HF.out], by rw [HF.out]; try rfl⟩, (by (repeat (with_reducible refine Below.setCell ?_ ?_ _)) <;> first | (with_reducible exact HB1.out) | (simp only []; omega))⟩
        | false =>
          have HF := Lib.hid (show R = (⟨0, ⟨#[]⟩⟩, -1) by rw [← HFo.out]; rfl)
          go_wp2
          refine bodyPost_ret (by simp [results, Tryd.results17, go_sem, q0, q1]; try rfl) rfl ?_
          exact ⟨⟨⟨0, ⟨#[]⟩⟩, fun _ => by rw [HF.out], by rw [HF.out]; try rfl⟩, (by (repeat (with_reducible refine Below.setCell ?_ ?_ _)) <;> first | (with_reducible exact HB1.out) | (simp only []; omega))⟩
    · obtain rfl : j = s.size := by omega
      have HTk := Lib.hid (show (s.data.toList.drop a).take (s.size - a) = h by rw [← HH.out]; exact (takeWhile_cut hall.out (.inl (by rw [List.length_drop, ← HSL.out]; omega))).symm)
      clear hall
      have HEx := Lib.hid (show (⟨h.toArray⟩ : ByteArray) = s.extract a s.size from ba_eq.2 (by rw [ba_ext, HTk.out]))
      have HLen := Lib.hid (show (a : Int) + h.length = s.size by rw [← HTk.out, List.length_take, List.length_drop, ← HSL.out]; omega)
      have hexa : (s.extract a s.size).size ≤ maxLen := by have := ba_ext_size s a s.size; unfold maxLen; omega
      obtain ⟨ok, hok⟩ : ∃ b, atomOk h = b := ⟨_, rfl⟩
      have HOk := Lib.hid (show atomOk (s.extract a s.size).data.toList = ok by rw [← HEx.out, ← hok])
      have HFo := Lib.hid (show (if ok = true then ((⟨1, s.extract a s.size⟩ : Token), (s.size : Int)) else (⟨0, ⟨#[]⟩⟩, -1)) = R by rw [← HF0.out, ← hok, HLen.out, HEx.out])
      clear hok
      go_wp2_with fail
      refine (spec_AtomOk _ _ hexa).mono ?_
      rw [HOk.out]
      rintro e w' ⟨rfl, rfl⟩
      cases ok with
      | true =>
        have HF := Lib.hid (show R = (⟨1, s.extract a s.size⟩, (s.size : Int)) by rw [← HFo.out]; rfl)
        go_wp2
        refine bodyPost_ret (by simp [results, Tryd.results17, go_sem, q0, q1]; try rfl) rfl ?_
        exact ⟨⟨⟨1, s.extract a s.size⟩, fun _ => by rw [HF.out], by rw [HF.out]; try rfl⟩, (by (repeat (with_reducible refine Below.setCell ?_ ?_ _)) <;> first | (with_reducible exact HB1.out) | (simp only []; omega))⟩
      | false =>
        have HF := Lib.hid (show R = (⟨0, ⟨#[]⟩⟩, -1) by rw [← HFo.out]; rfl)
        go_wp2
        refine bodyPost_ret (by simp [results, Tryd.results17, go_sem, q0, q1]; try rfl) rfl ?_
        exact ⟨⟨⟨0, ⟨#[]⟩⟩, fun _ => by rw [HF.out], by rw [HF.out]; try rfl⟩, (by (repeat (with_reducible refine Below.setCell ?_ ?_ _)) <;> first | (with_reducible exact HB1.out) | (simp only []; omega))⟩

end Go.Proofs.YtlehpgnhfpegoaaDoor
