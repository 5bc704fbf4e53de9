/-
  Walks: what each function returns, and that it leaves what lay in memory as it was.
-/
import Derived.Test.YtlehpgnhfpegoaaDoorProg
import Derived.Test.YtlehpgnhfpegoaaDoorPlain
import Derived.Test.YtlehpgnhfpegoaaDoorBase2
import Derived.Test.YtlehpgnhfpegoaaDoorOpen2
import Derived.Test.YtlehpgnhfpegoaaDoorShelf
import Derived.WalkKit
import Derived.WalkSpells
import Derived.WalkLawsBesides
import Derived.Lib.Hide
import Derived.Deep.LoopGhost
import Derived.Deep.QuietTactic
import Derived.BigQuiet
import Derived.Handy
import Derived.Deep.RegionHeld3
import Derived.StillTailTactics
import Derived.OpenShut
import Derived.ChangeSame
import Derived.Laws.StructEq

import Derived.Test.YtlehpgnhfpegoaaDoorPlainT

import Derived.Test.YtlehpgnhfpegoaaDoorW1

import Derived.Test.YtlehpgnhfpegoaaDoorW2

import Derived.Test.YtlehpgnhfpegoaaDoorW3

import Derived.Test.YtlehpgnhfpegoaaDoorW4

import Derived.Test.YtlehpgnhfpegoaaDoorW5

import Derived.Test.YtlehpgnhfpegoaaDoorW6

import Derived.Test.YtlehpgnhfpegoaaDoorBase3

import Derived.Lib.ItoaMem
import Derived.Lib.ItoaLen
import Derived.Lib.LaidTab

import Derived.Lib.AtoiTie
import Derived.Lib.AtoiBound
import Derived.Lib.ConvBytes

namespace Go.Proofs.YtlehpgnhfpegoaaDoor
open Go.ChangeShapes Go.WideShapes Go.ChangeAt Go.RowKit Go.Deep
set_option linter.unusedVariables false
set_option linter.unusedSimpArgs false

set_option maxRecDepth 20000

theorem ba_ext (s : ByteArray) (i j : Nat) : (s.extract i j).data.toList = (s.data.toList.drop i).take (j - i) := by rw [Lib.extract_data]
theorem ba_ext_size (s : ByteArray) (i j : Nat) : (s.extract i j).size ≤ s.size := by simp; omega
def litRes (x : Option (Str × Nat)) : Str × Int := match x with | some p => (p.1, p.2) | none => ([], -1)
theorem litRes_no {s : Str} {a : Nat} {ok : Bool} {h : Str} (hc : ¬ (ok = true ∧ (number h).2 = true ∧ (number h).1 ≤ 40 ∧ (number h).1 ≤ (s.length : Int) - ((a + 1 + h.length + 3 : Nat) : Int))) : litRes (litOf s a ok h) = ([], -1) := by unfold litOf; rw [if_neg hc]; rfl
theorem litRes_yes {s : Str} {a : Nat} {ok : Bool} {h : Str} (hc : ok = true ∧ (number h).2 = true ∧ (number h).1 ≤ 40 ∧ (number h).1 ≤ (s.length : Int) - ((a + 1 + h.length + 3 : Nat) : Int)) : litRes (litOf s a ok h) = ((s.drop (a + 1 + h.length + 3)).take (number h).1.toNat, ((a + 1 + h.length + 3 + (number h).1.toNat : Nat) : Int)) := by unfold litOf; rw [if_pos hc]; rfl
theorem cut_len (r sep : Str) : (Lib.cut r sep).1.length ≤ r.length := by
  unfold Lib.cut; split
  · simp only [List.length_take]; omega
  · simp
theorem takeWhile_cut {q : UInt8 → Bool} : ∀ {l : Str} {m : Nat}, (l.take m).all q = true → (l.length ≤ m ∨ ∃ c, l[m]? = some c ∧ q c = false) → l.takeWhile q = l.take m
  | [], m, _, _ => by simp
  | c :: l, 0, _, h => by
    rcases h with h | ⟨d, h, hd⟩
    · simp at h
    · simp at h; subst h; rw [List.takeWhile_cons, if_neg (by rw [hd]; decide)]; rfl
  | c :: l, m + 1, ha, h => by
    simp only [List.take_succ_cons, List.all_cons, Bool.and_eq_true] at ha
    rw [List.takeWhile_cons, if_pos ha.1, List.take_succ_cons, takeWhile_cut ha.2 (by
      rcases h with h | ⟨d, h, hd⟩
      · left; simpa using h
      · right; exact ⟨d, by simpa using h, hd⟩)]
set_option maxHeartbeats 3200000 in
theorem impl_readLiteral (s : ByteArray) (a : Nat) (w : World) (hs : s.size ≤ 1048576) (ha : a < s.size) (hml : ML w) (htab : Lib.TabIs Tryd.prog w "internal/strconv.uint64pow10" .u64 Lib.pow10Tab)
    (hE1 : ∃ pp, w.var? Tryd.prog "strconv.ErrSyntax" = some #[.iface 118 pp]) (hE2 : ∃ pp, w.var? Tryd.prog "strconv.ErrRange" = some #[.iface 118 pp]) :
    Calls Tryd.prog 36 #[.string s, .int .i64 a] w fun e w' => e = .returned (.tuple #[.string ⟨(litRes (litTok s.data.toList a)).1.toArray⟩, .int .i64 (litRes (litTok s.data.toList a)).2]) ∧ Below w.heap.size w w' := by
  have HSL := Lib.hid (size_len s)
  have HT := Lib.hid htab
  have HE1 := Lib.hid hE1
  have HE2 := Lib.hid hE2
  clear htab hE1 hE2
  obtain ⟨m, hm⟩ := hml
  obtain ⟨C, hC⟩ : ∃ C, Lib.cut (s.data.toList.drop (a + 1)) sepL = C := ⟨_, rfl⟩
  have hext : (s.extract (a + 1) s.size).data.toList = s.data.toList.drop (a + 1) := by rw [ba_ext, HSL.out, List.take_of_length_le (by simp)]
  have HCut := Lib.hid (Tryd.strings_Cut (s.extract (a + 1) s.size) ⟨#[125, 13, 10]⟩ m w (by have := ba_ext_size s (a + 1) s.size; omega) hm)
  rw [hext, show (⟨#[125, 13, 10]⟩ : ByteArray).data.toList = sepL from rfl, hC] at HCut
  have hlen : C.1.length ≤ s.size := by have := cut_len (s.data.toList.drop (a + 1)) sepL; rw [hC, List.length_drop, ← HSL.out] at this; omega
  obtain ⟨R, hR⟩ : ∃ R, litRes (litTok s.data.toList a) = R := ⟨_, rfl⟩
  have HD := Lib.hid (show litRes (litOf s.data.toList a C.2.2 C.1) = R by rw [← hR, ← litI_eq, ← hC]; rfl)
  rw [hR]
  clear hR hC hm hext
  obtain ⟨c1, c2, c3⟩ := C
  simp only [] at HCut HD hlen
  obtain ⟨H, hH⟩ : ∃ H : ByteArray, (⟨c1.toArray⟩ : ByteArray) = H := ⟨_, rfl⟩
  have hHd : H.data.toList = c1 := by rw [← hH]
  have hHs : H.size = c1.length := by rw [size_len, hHd]
  rw [hH] at HCut
  have HHd := Lib.hid hHd
  clear hH hHd
  obtain ⟨N, hN⟩ : ∃ N, (number c1).1 = N := ⟨_, rfl⟩
  obtain ⟨fine, hf⟩ : ∃ fine, (number c1).2 = fine := ⟨_, rfl⟩
  have HN := Lib.hid hN
  have Hf := Lib.hid hf
  clear hN hf
  go_enter Tryd.func36, Tryd.ntmps36
  go_wp2_with fail
  refine HCut.out.mono ?_
  rintro e w1 ⟨rfl, q, rfl⟩
  have HW1 := Lib.hid (below_drewN (Below.refl w.heap.size w) q)
  go_wp2_with fail
  refine (impl_Number H _ (by omega) (tab_below HT.out HW1.out) (by obtain ⟨p, hp⟩ := HE1.out; exact ⟨p, var_below hp HW1.out⟩) (by obtain ⟨p, hp⟩ := HE2.out; exact ⟨p, var_below hp HW1.out⟩)).mono ?_
  rw [HHd.out, HN.out, Hf.out]
  rintro e w2 ⟨rfl, hb2⟩
  have HW := Lib.hid (HW1.out.trans (hb2.mono HW1.out.size))
  clear hb2 HW1
  obtain ⟨F, hF⟩ : ∃ F : Nat, a + 1 + c1.length + 3 = F := ⟨_, rfl⟩
  cases c3 with
  | false =>
    have HF := Lib.hid (show R = ([], -1) by rw [← HD.out]; exact litRes_no (by rintro ⟨h, _⟩; cases h))
    clear HD
    go_wp2
    go_ret2
    exact ⟨ret_si (by rw [HF.out]) (by rw [HF.out]), HW.out⟩
  | true =>
    cases fine with
    | false =>
      have HF := Lib.hid (show R = ([], -1) by rw [← HD.out]; exact litRes_no (by rintro ⟨_, h, _⟩; rw [Hf.out] at h; cases h))
      clear HD
      go_wp2
      go_ret2
      exact ⟨ret_si (by rw [HF.out]) (by rw [HF.out]), HW.out⟩
    | true =>
      have hN0 : 0 ≤ N := by have := (number_dig (h := c1) Hf.out).2; rw [HN.out] at this; exact this
      obtain ⟨n, rfl⟩ := Int.eq_ofNat_of_zero_le hN0
      by_cases h40 : (n : Int) ≤ 40
      · by_cases hfit : (n : Int) ≤ (s.size : Int) - (F : Int)
        · have HF := Lib.hid (show R = ((s.data.toList.drop F).take n, ((F + n : Nat) : Int)) by
            rw [← HD.out, litRes_yes ⟨rfl, Hf.out, by rw [HN.out]; exact h40, by rw [HN.out, hF, ← HSL.out]; exact hfit⟩, HN.out, hF]; simp)
          have hle : F + n ≤ s.size := by omega
          have HEx := Lib.hid (show (⟨((s.data.toList.drop F).take n).toArray⟩ : ByteArray) = s.extract F (F + n) from ba_eq.2 (by rw [ba_ext, show F + n - F = n by omega]))
          clear HD
          go_wp2
          go_ret2
          exact ⟨ret_si (by rw [HF.out]; simp only []; rw [HEx.out, show a + 1 + c1.length + 1 + 2 = F by omega]) (by rw [HF.out]; simp only []; omega), HW.out⟩
        · have HF := Lib.hid (show R = ([], -1) by rw [← HD.out]; exact litRes_no (by rintro ⟨_, _, _, h⟩; rw [HN.out, hF, ← HSL.out] at h; exact hfit h))
          clear HD
          go_wp2
          go_ret2
          exact ⟨ret_si (by rw [HF.out]) (by rw [HF.out]), HW.out⟩
      · have HF := Lib.hid (show R = ([], -1) by rw [← HD.out]; exact litRes_no (by rintro ⟨_, _, h, _⟩; rw [HN.out] at h; exact h40 h))
        clear HD
        go_wp2
        go_ret2
        exact ⟨ret_si (by rw [HF.out]) (by rw [HF.out]), HW.out⟩


end Go.Proofs.YtlehpgnhfpegoaaDoor
