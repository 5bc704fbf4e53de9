/-
  Walks: what each function returns, and that it leaves what lay in memory as it was.
-/
import Derived.Test.YtjpkceimokkpgaaGreatDoorProg
import Derived.Test.YtjpkceimokkpgaaGreatDoorPlain
import Derived.Test.YtjpkceimokkpgaaGreatDoorBase2
import Derived.Test.YtjpkceimokkpgaaGreatDoorOpen2
import Derived.Test.YtjpkceimokkpgaaGreatDoorShelf
import Derived.WalkKit
import Derived.WalkSpells
import Derived.WalkLawsBesides
import Derived.Lib.Hide
import Derived.Deep.LoopGhost
import Derived.Deep.QuietTactic
import Derived.BigQuiet
import Derived.Handy
import Derived.Deep.RegionHeld3
import Derived.StillTailTactics
import Derived.OpenShut
import Derived.ChangeSame
import Derived.Laws.StructEq

import Derived.Test.YtjpkceimokkpgaaGreatDoorPlainT

import Derived.Test.YtjpkceimokkpgaaGreatDoorBase3

import Derived.Test.YtjpkceimokkpgaaGreatDoorW1

import Derived.Test.YtjpkceimokkpgaaGreatDoorW2

import Derived.Test.YtjpkceimokkpgaaGreatDoorW30

import Derived.Test.YtjpkceimokkpgaaGreatDoorW33

import Derived.Test.YtjpkceimokkpgaaGreatDoorW40

import Derived.Test.YtjpkceimokkpgaaGreatDoorW56

import Derived.Lib.ItoaMem
import Derived.Lib.ItoaLen
import Derived.Lib.LaidTab

namespace Go.Proofs.YtjpkceimokkpgaaGreatDoor
open Go.ChangeShapes Go.WideShapes Go.ChangeAt Go.RowKit Go.Deep
set_option linter.unusedVariables false
set_option linter.unusedSimpArgs false

theorem atom_idx (c : UInt8) : decide (Lib.indexByte [40, 41, 123, 34, 92] c < 0) = !(c == 40 || c == 41 || c == 123 || c == 34 || c == 92) := by
  have h := u8_all (fun c => decide (Lib.indexByte [40, 41, 123, 34, 92] c < 0) == !(c == 40 || c == 41 || c == 123 || c == 34 || c == 92)) (by decide +kernel) c
  exact beq_iff_eq.1 h
set_option maxHeartbeats 400000 in
theorem impl_isAtomByte (c : UInt8) (w : World) :
    Calls Tryz.prog 130 #[.int .u8 (c.toNat : Int)] w fun e w' => e = .returned (.bool (atomB c)) ∧ w = w' := by
  have hcc : ((c.toNat : Int)).toNat.toUInt8 = c := by simp
  by_cases h1 : (33 : Int) ≤ (c.toNat : Int)
  · by_cases h2 : (c.toNat : Int) ≤ 126
    · have hi : atomB c = decide (Lib.indexByte [40, 41, 123, 34, 92] c < 0) := by
        rw [atom_idx]; unfold atomB; rw [decide_eq_true (show 33 ≤ c.toNat by omega), decide_eq_true (show c.toNat ≤ 126 by omega)]; simp
      have Hi := Lib.hid hi
      clear hi
      go_enter Tryz.func130, Tryz.ntmps130
      go_wp2_with (go_at_call 137; refine (Tryz.strings_IndexByte _ _ _).mono ?_; rintro e w' ⟨rfl, rfl⟩; rw [hcc])
      go_ret
      exact ⟨ret_b Hi.out.symm, rfl⟩
    · have h2' : decide ((c.toNat : Int) ≤ 126) = false := by simpa using h2
      go_enter Tryz.func130, Tryz.ntmps130
      go_wp2
      go_ret
      exact ⟨ret_b (by unfold atomB; rw [decide_eq_false (show ¬ c.toNat ≤ 126 by omega)]; simp), rfl⟩
  · have h1' : decide ((33 : Int) ≤ (c.toNat : Int)) = false := by simpa using h1
    go_enter Tryz.func130, Tryz.ntmps130
    go_wp2
    go_ret
    exact ⟨ret_b (by unfold atomB; rw [decide_eq_false (show ¬ 33 ≤ c.toNat by omega)]; simp), rfl⟩
set_option maxHeartbeats 400000 in
theorem impl_AtomOk (s : ByteArray) (w : World) (hs : s.size ≤ maxLen) :
    Calls Tryz.prog 117 #[.string s] w fun e w' => e = .returned (.bool (atomOk s.data.toList)) ∧ w = w' := by
  unfold maxLen at hs
  have HL := Lib.hid (size_len s)
  go_enter Tryz.func117, Tryz.ntmps117
  go_wp2_with fail
  go_loop [6] (fun i => ∃ k : Nat, k ≤ s.size ∧ i = .int .i64 k ∧ Hid ((s.data.toList.take k).all atomB = true)) (fun i => s.size - (intOf i).toNat)
  case atStart => exact ⟨0, Nat.zero_le _, rfl, rfl⟩
  case round =>
    obtain ⟨k, hk, rfl, ha⟩ := hrel
    by_cases hlt : k < s.size
    · have hlt' : k < s.data.toList.length := by rw [← HL.out]; exact hlt
      cases hc : atomB s[k] with
      | true =>
        go_wp2_with (go_at_call 130; refine (impl_isAtomByte _ _).mono ?_; rintro e w' ⟨rfl, rfl⟩)
        go_round
        case rel => exact ⟨k + 1, by omega, by go_num, all_take_succ hlt' ha.out hc⟩
        case measure => simp [intOf]; omega
      | false =>
        go_wp2_with (go_at_call 130; refine (impl_isAtomByte _ _).mono ?_; rintro e w' ⟨rfl, rfl⟩)
        go_ret
        exact ⟨ret_b (by unfold atomOk; rw [all_false hlt' hc]; rfl), rfl⟩
    · have hke : k = s.size := by omega
      have ha2 : s.data.toList.all atomB = true := by
        have h := ha.out
        rw [List.take_of_length_le (by rw [← HL.out]; omega)] at h
        exact h
      have hfin : atomOk s.data.toList = inR (s.size : Int) 1 40 := by unfold atomOk; rw [ha2, Bool.true_and, HL.out]
      have Hfin := Lib.hid hfin
      clear hfin ha2 ha hke
      go_wp2_with (go_at_call 76; refine (within_any _ _ _ _).mono ?_; rintro e w' ⟨rfl, rfl⟩)
      go_ret
      exact ⟨ret_b Hfin.out.symm, rfl⟩
/-- The reference's test of one byte. -/
theorem atomB_iff (c : UInt8) : atomB c = true ↔ 33 ≤ (c.toNat : Int) ∧ (c.toNat : Int) ≤ 126 ∧ ¬ (c.toNat : Int) = 40 ∧ ¬ (c.toNat : Int) = 41 ∧ ¬ (c.toNat : Int) = 123 ∧ ¬ (c.toNat : Int) = 34 ∧ ¬ (c.toNat : Int) = 92 := by
  have h := u8_all (fun c => atomB c == decide (33 ≤ (c.toNat : Int) ∧ (c.toNat : Int) ≤ 126 ∧ ¬ (c.toNat : Int) = 40 ∧ ¬ (c.toNat : Int) = 41 ∧ ¬ (c.toNat : Int) = 123 ∧ ¬ (c.toNat : Int) = 34 ∧ ¬ (c.toNat : Int) = 92)) (by decide +kernel) c
  rw [beq_iff_eq.1 h, decide_eq_true_iff]
set_option maxHeartbeats 800000 in
theorem spec_AtomOk (s : ByteArray) (w : World) (hs : s.size ≤ maxLen) :
    Calls Tryz.prog 114 #[.string s] w fun e w' => e = .returned (.bool (atomOk s.data.toList)) ∧ w = w' := by
  unfold maxLen at hs
  have HL := Lib.hid (size_len s)
  go_enter Tryz.func114, Tryz.ntmps114
  go_wp2_with fail
  go_loop [3] (fun i => ∃ k : Nat, k ≤ s.size ∧ i = .int .i64 k ∧ Hid ((s.data.toList.take k).all atomB = true)) (fun i => s.size - (intOf i).toNat)
  case atStart => exact ⟨0, Nat.zero_le _, rfl, rfl⟩
  case round =>
    obtain ⟨k, hk, rfl, ha⟩ := hrel
    by_cases hlt : k < s.size
    · have hlt' : k < s.data.toList.length := by rw [← HL.out]; exact hlt
      go_wp2
      all_goals try simp only [beq_iff_eq, beq_eq_false_iff_ne, ne_eq] at *
      all_goals first
        | (go_round
           case rel => exact ⟨k + 1, by omega, by go_num, all_take_succ hlt' ha.out (show atomB s[k] = true from (atomB_iff _).2 (by omega))⟩
           case measure => simp [intOf]; omega)
        | (go_ret
           exact ⟨ret_b (by unfold atomOk; rw [all_false hlt' (show atomB s[k] = false by rw [← Bool.not_eq_true, atomB_iff]; omega)]; rfl), rfl⟩)
    · have hke : k = s.size := by omega
      have ha2 : s.data.toList.all atomB = true := by
        have h := ha.out
        rw [List.take_of_length_le (by rw [← HL.out]; omega)] at h
        exact h
      have hfin : atomOk s.data.toList = inR (s.size : Int) 1 40 := by unfold atomOk; rw [ha2, Bool.true_and, HL.out]
      have Hfin := Lib.hid hfin
      clear hfin ha2 ha hke
      go_wp2_with (go_at_call 50; refine (l1In_any _ _ _ _).mono ?_; rintro e w' ⟨rfl, rfl⟩)
      go_ret
      exact ⟨ret_b Hfin.out.symm, rfl⟩

def litText (s : Str) : Str := 123 :: (Lib.decDigits s.length ++ ([125, 13, 10] ++ s))
def litOr (s : Str) : Str := if s.length ≤ 40 then litText s else []
theorem litOr_yes {s : Str} (h : s.length ≤ 40) : litOr s = litText s := if_pos h
theorem litOr_no {s : Str} (h : ¬ s.length ≤ 40) : litOr s = [] := if_neg h
theorem empS : ({ data := #[] } : ByteArray).toList.isEmpty = true := by rw [ba_empty]; rfl
theorem empS2 : (({ data := #[] } : ByteArray).toList == []) = true := by
  have h : ({ data := #[] } : ByteArray).toList = [] := List.isEmpty_iff.1 empS
  rw [h]; rfl
def tokenText (t : Token) : Str :=
  if t.kind = 1 then (if atomOk t.text.data.toList = true then t.text.data.toList else [])
  else if t.kind = 2 then (if quote t.text.data.toList = [] then litOr t.text.data.toList else quote t.text.data.toList)
  else if t.kind = 3 then (if t.text = ⟨#[]⟩ then [40] else [])
  else if t.kind = 4 then (if t.text = ⟨#[]⟩ then [41] else []) else []
theorem tt1 (s : ByteArray) : tokenText ⟨1, s⟩ = if atomOk s.data.toList = true then s.data.toList else [] := by unfold tokenText; rw [if_pos rfl]
theorem tt2 (s : ByteArray) : tokenText ⟨2, s⟩ = if quote s.data.toList = [] then litOr s.data.toList else quote s.data.toList := by unfold tokenText; rw [if_neg (by simp), if_pos rfl]
theorem tt3 (s : ByteArray) : tokenText ⟨3, s⟩ = if s = ⟨#[]⟩ then [40] else [] := by unfold tokenText; rw [if_neg (by simp), if_neg (by simp), if_pos rfl]
theorem tt4 (s : ByteArray) : tokenText ⟨4, s⟩ = if s = ⟨#[]⟩ then [41] else [] := by unfold tokenText; rw [if_neg (by simp), if_neg (by simp), if_neg (by simp), if_pos rfl]
theorem tt5 {k : Int} (s : ByteArray) (h1 : k ≠ 1) (h2 : k ≠ 2) (h3 : k ≠ 3) (h4 : k ≠ 4) : tokenText ⟨k, s⟩ = [] := by unfold tokenText; rw [if_neg h1, if_neg h2, if_neg h3, if_neg h4]
theorem ne_facts {a : ByteArray} (h : ¬ a = ⟨#[]⟩) : a.toList.isEmpty = false ∧ (a.toList == []) = false := by
  have h1 : a.toList.isEmpty = false := by rw [ba_empty]; exact decide_eq_false h
  refine ⟨h1, ?_⟩
  rw [beq_eq_false_iff_ne]
  intro e; rw [e] at h1; cases h1
theorem quote_ne {s : Str} (h : ¬ quote s = []) : ¬ (⟨(quote s).toArray⟩ : ByteArray) = ⟨#[]⟩ := by
  intro e
  have : (⟨(quote s).toArray⟩ : ByteArray).data.toList = (⟨#[]⟩ : ByteArray).data.toList := by rw [e]
  exact h (by simpa using this)
theorem quote_size (s : Str) : (⟨(quote s).toArray⟩ : ByteArray).size ≤ 82 := by
  show (quote s).toArray.size ≤ 82
  simp only [List.size_toArray]
  unfold quote
  split
  · rename_i h
    unfold quotable at h; simp at h
    have := esc_len s
    simp; omega
  · simp
theorem litText_cat (n : Nat) (s : ByteArray) (h : s.size = n) : ({ data := #[123] } : ByteArray) ++ ⟨(Lib.decDigits n).toArray⟩ ++ { data := #[125, 13, 10] } ++ s = ⟨(litText s.data.toList).toArray⟩ := by
  refine str_eq ?_
  unfold litText
  rw [← size_len, h]
  simp
theorem litText_cat2 (n : Nat) (s : ByteArray) (h : s.size = n) : ({ data := #[123] } : ByteArray) ++ ⟨(Lib.decDigits n).toArray⟩ ++ { data := #[125] } ++ { data := #[13, 10] } ++ s = ⟨(litText s.data.toList).toArray⟩ := by
  refine str_eq ?_
  unfold litText
  rw [← size_len, h]
  simp
theorem dig_size {n : Nat} (h : n < 100) : (⟨(Lib.decDigits n).toArray⟩ : ByteArray).size ≤ 20 := by
  show (Lib.decDigits n).toArray.size ≤ 20
  simp only [List.size_toArray]
  rw [Lib.decDigits_length]; exact Lib.nDigits_le20 n (by omega)
theorem impl_Digits_small (n : Nat) (w : World) (h : n < 100) :
    Calls Tryz.prog 109 #[.int .i64 (n : Int)] w fun e w' => e = .returned (.string ⟨(Lib.decDigits n).toArray⟩) ∧ w' = w := by
  have HC := Lib.hid (Tryz.strconv_Itoa_small n h w)
  go_enter Tryz.func109, Tryz.ntmps109
  go_wp2_with fail
  refine HC.out.mono ?_
  rintro e w1 ⟨rfl, rfl⟩
  go_wp2
  go_ret
  exact ⟨rfl, rfl⟩
set_option maxHeartbeats 800000 in
theorem spec_l3Literal (s : ByteArray) (w : World) (hs : s.size ≤ 1048576) :
    Calls Tryz.prog 116 #[.string s] w fun e w' => e = .returned (.string ⟨(litOr s.data.toList).toArray⟩) ∧ Below w.heap.size w w' := by
  by_cases h40 : s.size ≤ 40
  · have HF := Lib.hid (litOr_yes (s := s.data.toList) (by rw [← size_len]; exact h40))
    have HI := Lib.hid (Lib.itoa_nonneg s.size)
    have HC := Lib.hid (litText_cat s.size s rfl)
    have hds := dig_size (n := s.size) (by omega)
    have h40i : ¬ (40 : Int) < (s.size : Int) := by omega
    go_enter Tryz.func116, Tryz.ntmps116
    go_wp2_with fail
    refine (spec_Digits (s.size : Int) w (by omega) (by omega)).mono ?_
    rintro e w1 ⟨rfl, hb⟩
    have HB := Lib.hid hb
    rw [HI.out]
    clear hb
    generalize (⟨(Lib.decDigits s.size).toArray⟩ : ByteArray) = D at *
    go_wp2
    go_ret
    exact ⟨ret_s (by rw [HF.out, ← HC.out]), HB.out⟩
  · have HF := Lib.hid (litOr_no (s := s.data.toList) (by rw [← size_len]; exact h40))
    have h40i : (40 : Int) < (s.size : Int) := by omega
    go_enter Tryz.func116, Tryz.ntmps116
    go_wp2
    go_ret
    exact ⟨ret_s (by rw [HF.out]), Below.refl _ _⟩
set_option maxHeartbeats 1600000 in
theorem spec_TokenText (x : Token) (w : World) (hx : x.text.size ≤ 1048576) :
    Calls Tryz.prog 87 #[.agg #[.int .i64 x.kind, .string x.text]] w fun e w' => e = .returned (.string ⟨(tokenText x).toArray⟩) ∧ Below w.heap.size w w' := by
  obtain ⟨k, s⟩ := x
  have hsm : s.size ≤ maxLen := by unfold maxLen; simp only [] at hx; omega
  simp only [] at hx
  dsimp only
  by_cases h1 : k = 1
  · subst h1
    have HT := Lib.hid (tt1 s)
    cases ha : atomOk s.data.toList
    · go_enter Tryz.func87, Tryz.ntmps87
      go_wp2_with (go_at_call 114; refine (spec_AtomOk s _ hsm).mono ?_; rw [ha]; rintro e w' ⟨rfl, rfl⟩)
      go_ret
      exact ⟨ret_s (by rw [HT.out, ha]; rfl), by go_grown⟩
    · go_enter Tryz.func87, Tryz.ntmps87
      go_wp2_with (go_at_call 114; refine (spec_AtomOk s _ hsm).mono ?_; rw [ha]; rintro e w' ⟨rfl, rfl⟩)
      go_ret
      exact ⟨ret_s (by rw [HT.out, if_pos ha, mk_toList]), by go_grown⟩
  by_cases h2 : k = 2
  · subst h2
    have HT := Lib.hid (tt2 s)
    go_enter Tryz.func87, Tryz.ntmps87
    go_wp2_with fail
    have hA : Below w.heap.size w (w.alloc (.cells #[.int .i64 2, .string s] 48)) := by go_grown
    have hP : Holds (w.alloc (.cells #[.int .i64 2, .string s] 48)) w.heap.size [.int .i64 2, .string s] := Holds.new w _ _
    generalize w.alloc (.cells #[.int .i64 2, .string s] 48) = w1 at *
    refine (spec_Quote s w1 hsm).mono ?_
    rintro e w2 ⟨rfl, hb⟩
    have hP2 := hP.below hb
    have p1 := hP2.2 1 (.string s) rfl
    have HB := Lib.hid (hA.trans (hb.mono hA.size))
    clear hA hP hb
    by_cases hq : quote s.data.toList = []
    · have HQ := Lib.hid hq
      have e0 : (⟨(quote s.data.toList).toArray⟩ : ByteArray) = { data := #[] } := by rw [hq]
      rw [e0]
      have emp1 := empS
      have emp2 := empS2
      clear hq e0
      clear hP2
      go_wp2_with fail
      refine (spec_l3Literal s w2 hx).mono ?_
      rintro e w3 ⟨rfl, hb3⟩
      have HB3 := Lib.hid (HB.out.trans (hb3.mono HB.out.size))
      have HF := Lib.hid (show tokenText ⟨2, s⟩ = litOr s.data.toList by rw [HT.out, if_pos HQ.out])
      clear hb3
      go_wp2
      go_ret
      exact ⟨ret_s (by rw [HF.out]), HB3.out⟩
    · have hne := quote_ne hq
      have HF := Lib.hid (show tokenText ⟨2, s⟩ = quote s.data.toList by rw [HT.out, if_neg hq])
      have hqs := quote_size s.data.toList
      obtain ⟨Q, hQ⟩ : ∃ Q, (⟨(quote s.data.toList).toArray⟩ : ByteArray) = Q := ⟨_, rfl⟩
      have HQ := Lib.hid hQ
      rw [hQ] at hne hqs ⊢
      obtain ⟨hne1, hne2⟩ := ne_facts hne
      clear hq hQ hP2 hne
      go_wp2
      go_ret
      exact ⟨ret_s (by rw [HF.out, HQ.out]), HB.out⟩
  by_cases h3 : k = 3
  · subst h3
    have HT := Lib.hid (tt3 s)
    by_cases he : s = ⟨#[]⟩
    · have HF := Lib.hid (show tokenText ⟨3, s⟩ = [40] by rw [HT.out, if_pos he])
      clear HT
      subst he
      go_enter Tryz.func87, Tryz.ntmps87
      go_wp2
      go_ret
      exact ⟨ret_s (by rw [HF.out]), by go_grown⟩
    · obtain ⟨hne1, hne2⟩ := ne_facts he
      have HF := Lib.hid (show tokenText ⟨3, s⟩ = [] by rw [HT.out, if_neg he])
      clear he
      go_enter Tryz.func87, Tryz.ntmps87
      go_wp2
      go_ret
      exact ⟨ret_s (by rw [HF.out]), by go_grown⟩
  by_cases h4 : k = 4
  · subst h4
    have HT := Lib.hid (tt4 s)
    by_cases he : s = ⟨#[]⟩
    · have HF := Lib.hid (show tokenText ⟨4, s⟩ = [41] by rw [HT.out, if_pos he])
      clear HT
      subst he
      go_enter Tryz.func87, Tryz.ntmps87
      go_wp2
      go_ret
      exact ⟨ret_s (by rw [HF.out]), by go_grown⟩
    · obtain ⟨hne1, hne2⟩ := ne_facts he
      have HF := Lib.hid (show tokenText ⟨4, s⟩ = [] by rw [HT.out, if_neg he])
      clear he
      go_enter Tryz.func87, Tryz.ntmps87
      go_wp2
      go_ret
      exact ⟨ret_s (by rw [HF.out]), by go_grown⟩
  have HF := Lib.hid (tt5 s h1 h2 h3 h4)
  go_enter Tryz.func87, Tryz.ntmps87
  go_wp2
  go_ret
  exact ⟨ret_s (by rw [HF.out]), by go_grown⟩
set_option maxHeartbeats 1600000 in
theorem impl_TokenText (x : Token) (w : World) (hx : x.text.size ≤ 1048576) (hml : ML w) :
    Calls Tryz.prog 89 #[.agg #[.int .i64 x.kind, .string x.text]] w fun e w' => e = .returned (.string ⟨(tokenText x).toArray⟩) ∧ Below w.heap.size w w' := by
  obtain ⟨k, s⟩ := x
  have hsm : s.size ≤ maxLen := by unfold maxLen; simp only [] at hx; omega
  simp only [] at hx
  dsimp only
  have HM := Lib.hid hml
  clear hml
  by_cases h1 : k = 1
  · subst h1
    have HT := Lib.hid (tt1 s)
    cases ha : atomOk s.data.toList
    · go_enter Tryz.func89, Tryz.ntmps89
      go_wp2_with (go_at_call 117; refine (impl_AtomOk s _ hsm).mono ?_; rw [ha]; rintro e w' ⟨rfl, rfl⟩)
      go_ret
      exact ⟨ret_s (by rw [HT.out, ha]; rfl), by go_grown⟩
    · go_enter Tryz.func89, Tryz.ntmps89
      go_wp2_with (go_at_call 117; refine (impl_AtomOk s _ hsm).mono ?_; rw [ha]; rintro e w' ⟨rfl, rfl⟩)
      go_ret
      exact ⟨ret_s (by rw [HT.out, if_pos ha, mk_toList]), by go_grown⟩
  by_cases h2 : k = 2
  · subst h2
    have HT := Lib.hid (tt2 s)
    go_enter Tryz.func89, Tryz.ntmps89
    go_wp2_with fail
    have hA : Below w.heap.size w (w.alloc (.cells #[.int .i64 2, .string s] 48)) := by go_grown
    have hP : Holds (w.alloc (.cells #[.int .i64 2, .string s] 48)) w.heap.size [.int .i64 2, .string s] := Holds.new w _ _
    have hm1 := HM.out.below hA
    generalize w.alloc (.cells #[.int .i64 2, .string s] 48) = w1 at *
    refine (impl_Quote s w1 hx hm1).mono ?_
    rintro e w2 ⟨rfl, hb⟩
    have hP2 := hP.below hb
    have p1 := hP2.2 1 (.string s) rfl
    have HB := Lib.hid (hA.trans (hb.mono hA.size))
    clear hA hP hb
    by_cases hq : quote s.data.toList = []
    · have HQ := Lib.hid hq
      have e0 : (⟨(quote s.data.toList).toArray⟩ : ByteArray) = { data := #[] } := by rw [hq]
      rw [e0]
      have emp1 := empS
      have emp2 := empS2
      clear hq e0
      by_cases h40 : s.size ≤ 40
      · have HF := Lib.hid (show tokenText ⟨2, s⟩ = litText s.data.toList by rw [HT.out, if_pos HQ.out, litOr_yes (by rw [← size_len]; exact h40)])
        have h40i : (s.size : Int) ≤ 40 := by omega
        have f1 : ∀ u : Later w2, u.at_.cell? ⟨w.heap.size, 1, none⟩ = some (.string s) := fun u => u.cell p1
        have HC := Lib.hid (litText_cat2 s.size s rfl)
        have hds := dig_size (n := s.size) (by omega)
        have HDg := Lib.hid (fun W => impl_Digits_small s.size W (by omega))
        clear hP2
        generalize (⟨(Lib.decDigits s.size).toArray⟩ : ByteArray) = D at *
        go_wp2
        refine wp_region_calm_lit (by kernel_rfl) (by kernel_rfl) ?_
        repeat (go_big_quiet_step (first | (go_at_call 109; exact Calls.calm_same (HDg.out _))))
        refine wpQuiet_nil ?_
        intro _ hw'
        obtain ⟨u, rfl⟩ := hw'
        have HBf := Lib.hid (HB.out.trans (u.bel.mono HB.out.size))
        go_wp2
        go_ret
        exact ⟨ret_s (by rw [HF.out, ← HC.out]), HBf.out⟩
      · have HF := Lib.hid (show tokenText ⟨2, s⟩ = [] by rw [HT.out, if_pos HQ.out, litOr_no (by rw [← size_len]; exact h40)])
        have h40i : ¬ (s.size : Int) ≤ 40 := by omega
        clear hP2
        go_wp2
        go_ret
        exact ⟨ret_s (by rw [HF.out]), HB.out⟩
    · have hne := quote_ne hq
      have HF := Lib.hid (show tokenText ⟨2, s⟩ = quote s.data.toList by rw [HT.out, if_neg hq])
      have hqs := quote_size s.data.toList
      obtain ⟨Q, hQ⟩ : ∃ Q, (⟨(quote s.data.toList).toArray⟩ : ByteArray) = Q := ⟨_, rfl⟩
      have HQ := Lib.hid hQ
      rw [hQ] at hne hqs ⊢
      obtain ⟨hne1, hne2⟩ := ne_facts hne
      clear hq hQ hP2 hne
      go_wp2
      go_ret
      exact ⟨ret_s (by rw [HF.out, HQ.out]), HB.out⟩
  by_cases h3 : k = 3
  · subst h3
    have HT := Lib.hid (tt3 s)
    by_cases he : s = ⟨#[]⟩
    · have HF := Lib.hid (show tokenText ⟨3, s⟩ = [40] by rw [HT.out, if_pos he])
      clear HT
      subst he
      go_enter Tryz.func89, Tryz.ntmps89
      go_wp2
      go_ret
      exact ⟨ret_s (by rw [HF.out]), by go_grown⟩
    · obtain ⟨hne1, hne2⟩ := ne_facts he
      have HF := Lib.hid (show tokenText ⟨3, s⟩ = [] by rw [HT.out, if_neg he])
      clear he
      go_enter Tryz.func89, Tryz.ntmps89
      go_wp2
      go_ret
      exact ⟨ret_s (by rw [HF.out]), by go_grown⟩
  by_cases h4 : k = 4
  · subst h4
    have HT := Lib.hid (tt4 s)
    by_cases he : s = ⟨#[]⟩
    · have HF := Lib.hid (show tokenText ⟨4, s⟩ = [41] by rw [HT.out, if_pos he])
      clear HT
      subst he
      go_enter Tryz.func89, Tryz.ntmps89
      go_wp2
      go_ret
      exact ⟨ret_s (by rw [HF.out]), by go_grown⟩
    · obtain ⟨hne1, hne2⟩ := ne_facts he
      have HF := Lib.hid (show tokenText ⟨4, s⟩ = [] by rw [HT.out, if_neg he])
      clear he
      go_enter Tryz.func89, Tryz.ntmps89
      go_wp2
      go_ret
      exact ⟨ret_s (by rw [HF.out]), by go_grown⟩
  have HF := Lib.hid (tt5 s h1 h2 h3 h4)
  go_enter Tryz.func89, Tryz.ntmps89
  go_wp2
  go_ret
  exact ⟨ret_s (by rw [HF.out]), by go_grown⟩

end Go.Proofs.YtjpkceimokkpgaaGreatDoor
