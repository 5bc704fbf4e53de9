/-
  Walks: what each function returns, and that it leaves what lay in memory as it was.
-/
import Derived.Test.YtiiiohbmgebcdaaProg
import Derived.Test.YtiiiohbmgebcdaaPlain
import Derived.Test.YtiiiohbmgebcdaaBase2
import Derived.Test.YtiiiohbmgebcdaaOpen
import Derived.Test.YtiiiohbmgebcdaaShelf
import Derived.WalkKit
import Derived.WalkSpells
import Derived.WalkLawsBesides
import Derived.Lib.Hide
import Derived.Deep.LoopGhost
import Derived.Deep.QuietTactic
import Derived.BigQuiet
import Derived.Handy
import Derived.Deep.RegionHeld3
import Derived.StillTailTactics
import Derived.OpenShut
import Derived.ChangeSame

import Derived.Test.YtiiiohbmgebcdaaW1

namespace Go.Proofs.Ytiiiohbmgebcdaa
open Go.ChangeShapes Go.WideShapes Go.ChangeAt Go.RowKit Go.Deep
set_option linter.unusedVariables false
set_option linter.unusedSimpArgs false

set_option maxHeartbeats 800000 in
theorem impl_Upper (s : ByteArray) (w : World) (hs : s.size ≤ maxLen) :
    Calls Try.prog 21 #[.string s] w fun e w' => e = .returned (.string ⟨(upper s.data.toList).toArray⟩) ∧ Below w.heap.size w w' := by
  unfold maxLen at hs
  have HL := Lib.hid (size_len s)
  go_enter Try.func21, Try.ntmps21
  go_wp2_with (refine wpList_toBytes rfl 9 31 5 _ rfl Try.underlying9 Try.underlying31 Try.underlying5 s rfl ?_; intro w1 g cap hbuf hbel hg hcap)
  go_loopw [10] (fun i wr => ∃ k : Nat, k ≤ s.size ∧ i = .int .i64 k ∧ Buf wr g ((upTo s.data.toList k).flatMap encB) ∧ Below w.heap.size w wr) (fun i _ => s.size - (intOf i).toNat)
  case atStart => exact ⟨0, Nat.zero_le _, rfl, by rw [upTo_zero]; exact hbuf, hbel⟩
  case round =>
    obtain ⟨k, hk, rfl, hB, hW⟩ := hrel
    by_cases hlt : k < s.size
    · have hlt' : k < s.data.toList.length := by rw [← HL.out]; exact hlt
      have hat : ((upTo s.data.toList k).flatMap encB)[k]? = some (.int .u8 (s.data.toList[k].toNat : Int)) := by
        have := flat_get (enc := encB) (k := 1) (fun _ => rfl) _ k 0 _ _ (upTo_at _ hlt') rfl
        simpa using this
      have hc := hB.cell hat
      have hf : wr.frozen? ⟨g, k, none⟩ = false := hB.frozen (List.getElem?_eq_some_iff.1 hat).1
      have hset : ∀ v : UInt8, v = upB s.data.toList[k] → Buf (wr.setCell ⟨g, k, none⟩ (.int .u8 (v.toNat : Int))) g ((upTo s.data.toList (k + 1)).flatMap encB) := by
        intro v hv
        have h := hB.set k (.int .u8 (v.toNat : Int))
        rw [flat_set] at h
        rw [← upTo_set _ hlt', ← hv]
        exact h
      have hskip := upTo_skip s.data.toList hlt'
      have hlow := @upB_low s.data.toList[k]
      have hoth := @upB_other s.data.toList[k]
      have Hset := Lib.hid hset
      have Hskip := Lib.hid hskip
      have Hlow := Lib.hid hlow
      have Hoth := Lib.hid hoth
      have HB := Lib.hid hB
      have hlt256 := u8_lt s.data.toList[k]
      generalize s.data.toList[k] = c at *
      clear hset hskip hlow hoth hat hB hlt' hbuf hbel
      by_cases h1 : (97 : Int) ≤ (c.toNat : Int)
      · by_cases h2 : (c.toNat : Int) ≤ 122
        · go_wp2
          go_roundw
          case rel => exact ⟨k + 1, by omega, by go_num, by have := Hset.out _ rfl; rw [Hlow.out h1 h2] at this; rw [show (c.toNat : Int) - 97 + 65 = (c.toNat : Int) - 32 from by omega]; exact this, hW.setCell hg _⟩
          case measure => simp [intOf]; omega
        · have h2' : decide ((c.toNat : Int) ≤ 122) = false := by simpa using h2
          go_wp2
          go_roundw
          case rel => exact ⟨k + 1, by omega, by go_num, by rw [← Hskip.out (Hoth.out (by omega))]; exact HB.out, hW⟩
          case measure => simp [intOf]; omega
      · have h1' : decide ((97 : Int) ≤ (c.toNat : Int)) = false := by simpa using h1
        go_wp2
        go_roundw
        case rel => exact ⟨k + 1, by omega, by go_num, by rw [← Hskip.out (Hoth.out (by omega))]; exact HB.out, hW⟩
        case measure => simp [intOf]; omega
    · have hke : k = s.size := by omega
      subst hke
      have hfin : (upTo s.data.toList s.size) = upper s.data.toList := upTo_all _ (by rw [HL.out]; exact Nat.le_refl _)
      rw [hfin] at hB
      have hcv := run_ofBytes (P := Try.prog) 31 9 5 Try.underlying31 Try.underlying5 Try.underlying9 (Buf.rd (enc := encB) (k := 1) (fun _ => rfl) hB (n := s.size) (by rw [HL.out]; simp [upper])) cap
      clear hB hbuf hfin
      go_wp2
      go_ret
      exact ⟨rfl, hW⟩

set_option maxHeartbeats 1600000 in
theorem spec_Parts (s : ByteArray) (b : UInt8) (w : World) (hs : s.size ≤ 1099511627776) :
    Calls Try.prog 12 #[.string s, .int .u8 (b.toNat : Int)] w (RetOwn encStr 1 9 w (parts b s.data.toList)) := by
  have HL := Lib.hid (size_len s)
  generalize hP : parts b s.data.toList = R
  have HP := Lib.hid hP
  clear hP
  have hnew := World.ownsRow_made (base := w.heap.size) (e := 9) (size := 1) w #[] 0 (Nat.le_refl _) (by unfold maxLen; omega) rfl
  go_enter Try.func12, Try.ntmps12
  go_wp2_with fail
  go_loopw [5, 6, 7] (fun o f c wr => ∃ (k j : Nat) (ps : List Str), k ≤ s.size + 1 ∧ j ≤ k ∧ ps.length ≤ k ∧ f = .int .i64 j ∧ c = .int .i64 k ∧ wr.ownsRow w.heap.size 9 1 o ps.length (ps.flatMap encStr) ∧
      Hid ((k ≤ s.size → ps ++ partsGo b ((s.data.toList.take k).drop j) (s.data.toList.drop k) = R) ∧ (k = s.size + 1 → ps = R)) ∧ Below w.heap.size w wr) (fun _ _ c _ => s.size + 1 - (intOf c).toNat)
  case atStart => exact ⟨0, 0, [], by omega, by omega, by simp, rfl, rfl, hnew, ⟨fun _ => HP.out, fun h => absurd h (by omega)⟩, (Below.refl _ _).alloc (Nat.le_refl _) _⟩
  case round =>
    obtain ⟨k, j, ps, hk, hj, hpl, rfl, rfl, hown, hg, hW⟩ := hrel
    clear hnew
    by_cases hle : k ≤ s.size
    · by_cases hlt : k < s.size
      · have hlt' : k < s.data.toList.length := by rw [← HL.out]; exact hlt
        have hne : ((k : Int) == (s.size : Int)) = false := by rw [beq_eq_false_iff_ne]; omega
        by_cases hc : s[k] = b
        · have hcb : ((s[k].toNat : Int) == (b.toNat : Int)) = true := by rw [hc]; simp
          have hg2 : (ps ++ [(s.data.toList.take k).drop j]) ++ partsGo b ((s.data.toList.take (k + 1)).drop (k + 1)) (s.data.toList.drop (k + 1)) = R := by
            rw [← hg.out.1 hle, partsGo_hit hlt' hj hc, List.append_assoc]; rfl
          have Hg2 := Lib.hid hg2
          have hown2 := hown.alloc (.cells #[.string (s.extract j k)] 9)
          have hrd := Rd.new (enc := encStr) (k := 1) (fun _ => rfl) wr #[.string (s.extract j k)] 9 (n := 1) [(s.data.toList.take k).drop j] (by rw [extract_str]; rfl) rfl
          have Hown2 := Lib.hid hown2
          have Hrd := Lib.hid hrd
          clear hg hg2 hc hown2 hrd
          go_wp2_with (at_builtin; refine wpList_app (enc := encStr) (k := 1) (fun _ => rfl) (fun _ u hu => by simp at hu; subst hu; rfl) (by omega) rfl _ _ 25 9 rfl (.string ByteArray.empty) 16 Try.underlying25 (by kernel_rfl) rfl w.heap.size _ ps rfl Hown2.out _ _ _ _ rfl Hrd.out (by omega) (by omega) (by have := hW.size; simp; omega) ?_; intro v' w' hown' hbel')
          go_roundw
          case rel => exact ⟨k + 1, k + 1, ps ++ [(s.data.toList.take k).drop j], by omega, by omega, by simp; omega, by go_num, by go_num, hown', ⟨fun _ => Hg2.out, fun h => absurd h (by omega)⟩, (hW.alloc hW.size _).trans hbel'⟩
          case measure => simp [intOf]; omega
        · have hcb : ((s[k].toNat : Int) == (b.toNat : Int)) = false := by
            rw [beq_eq_false_iff_ne]; intro h; exact hc (UInt8.toNat_inj.1 (by omega))
          have hg2 : ps ++ partsGo b ((s.data.toList.take (k + 1)).drop j) (s.data.toList.drop (k + 1)) = R := by
            rw [← hg.out.1 hle, partsGo_miss hlt' hj hc]
          have Hg2 := Lib.hid hg2
          clear hg hg2 hc
          have Hown := Lib.hid hown
          clear hown
          go_wp2
          go_roundw
          case rel => exact ⟨k + 1, j, ps, by omega, by omega, by omega, rfl, by go_num, Hown.out, ⟨fun _ => Hg2.out, fun h => absurd h (by omega)⟩, hW⟩
          case measure => simp [intOf]; omega
      · have hke : k = s.size := by omega
        subst hke
        have hg2 : ps ++ [(s.data.toList.take s.size).drop j] = R := by
          rw [← hg.out.1 hle]; congr 1
          have := partsGo_end b s.data.toList j
          rw [← HL.out] at this
          rw [this, List.take_of_length_le (by rw [HL.out]; exact Nat.le_refl _)]
        have Hg2 := Lib.hid hg2
        have hown2 := hown.alloc (.cells #[.string (s.extract j s.size)] 9)
        have hrd := Rd.new (enc := encStr) (k := 1) (fun _ => rfl) wr #[.string (s.extract j s.size)] 9 (n := 1) [(s.data.toList.take s.size).drop j] (by rw [extract_str]; rfl) rfl
        have Hown2 := Lib.hid hown2
        have Hrd := Lib.hid hrd
        clear hg hg2 hown2 hrd hlt hown
        go_wp2_with (at_builtin; refine wpList_app (enc := encStr) (k := 1) (fun _ => rfl) (fun _ u hu => by simp at hu; subst hu; rfl) (by omega) rfl _ _ 25 9 rfl (.string ByteArray.empty) 16 Try.underlying25 (by kernel_rfl) rfl w.heap.size _ ps rfl Hown2.out _ _ _ _ rfl Hrd.out (by omega) (by omega) (by have := hW.size; simp; omega) ?_; intro v' w' hown' hbel')
        go_roundw
        case rel => exact ⟨s.size + 1, s.size + 1, ps ++ [(s.data.toList.take s.size).drop j], by omega, by omega, by simp; omega, by go_num, by go_num, hown', ⟨fun h => absurd h (by omega), fun _ => Hg2.out⟩, (hW.alloc hW.size _).trans hbel'⟩
        case measure => simp [intOf]
    · have hke : k = s.size + 1 := by omega
      have hfin := hg.out.2 hke
      have Hfin := Lib.hid hfin
      have Hown := Lib.hid hown
      clear hfin hg hown hke
      go_wp2
      go_ret
      have ho := Hown.out
      rw [Hfin.out] at ho
      exact retOwn_mk ho hW

set_option maxHeartbeats 800000 in
theorem impl_TagOk (s : ByteArray) (w : World) (hs : s.size ≤ maxLen) :
    Calls Try.prog 15 #[.string s] w fun e w' => e = .returned (.bool (tagOk s.data.toList)) ∧ Below w.heap.size w w' := by
  unfold maxLen at hs
  have HL := Lib.hid (size_len s)
  go_enter Try.func15, Try.ntmps15
  go_wp2_with fail
  go_loopw [7] (fun i wr => ∃ k : Nat, k ≤ s.size ∧ i = .int .i64 k ∧ Hid ((s.data.toList.take k).all alnumB = true) ∧ Below w.heap.size w wr) (fun i _ => s.size - (intOf i).toNat)
  case atStart => exact ⟨0, Nat.zero_le _, rfl, rfl, Below.refl _ _⟩
  case round =>
    obtain ⟨k, hk, rfl, ha, hW⟩ := hrel
    by_cases hlt : k < s.size
    · have hlt' : k < s.data.toList.length := by rw [← HL.out]; exact hlt
      have hup : upper (s.extract k (k + 1)).data.toList = [upB s[k]] := by
        have : (s.extract k (k + 1)).data.toList = [s[k]] := by
          rw [Lib.extract_data, show k + 1 - k = 1 from by omega, drop_cons hlt']
          rfl
        rw [this]; rfl
      have Hup := Lib.hid hup
      clear hup
      have hiff := Lib.hid (alnum_up s[k])
      go_wp2_with fail
      refine (acc (impl_Upper _ _ (by simp [maxLen]; omega)) hW (Nat.le_refl _)).mono ?_
      rintro e w1 ⟨rfl, hW1⟩
      rw [Hup.out]
      have hx0 : ∀ h : 0 < (ByteArray.mk #[upB s[k]]).size, (ByteArray.mk #[upB s[k]])[0]'h = upB s[k] := fun _ => rfl
      go_wp2
      all_goals try simp only [beq_iff_eq, beq_eq_false_iff_ne, ne_eq, Bool.not_eq_true', Bool.not_eq_false', decide_eq_true_eq, decide_eq_false_iff_not] at *
      all_goals first
        | (go_roundw
           case rel => exact ⟨k + 1, by omega, by go_num, all_take_succ hlt' ha.out (show alnumB s[k] = true from hiff.out.2 (by omega)), hW1⟩
           case measure => simp [intOf]; omega)
        | (go_ret
           exact ⟨ret_b (by unfold tagOk; rw [all_false hlt' (show alnumB s[k] = false by rw [← Bool.not_eq_true, hiff.out]; omega)]; rfl), hW1⟩)
    · have hke : k = s.size := by omega
      have ha2 : s.data.toList.all alnumB = true := by
        have h := ha.out
        rw [List.take_of_length_le (by rw [← HL.out]; omega)] at h
        exact h
      have hfin : tagOk s.data.toList = inR (s.size : Int) 1 8 := by unfold tagOk; rw [ha2, Bool.true_and, HL.out]
      have Hfin := Lib.hid hfin
      clear hfin ha2 ha hke
      go_wp2_with (go_at_call 17; refine (within_any _ _ _ _).mono ?_; rintro e w' ⟨rfl, rfl⟩)
      go_ret
      exact ⟨ret_b Hfin.out.symm, hW⟩
set_option maxHeartbeats 800000 in
theorem spec_TagOk (s : ByteArray) (w : World) (hs : s.size ≤ maxLen) :
    Calls Try.prog 13 #[.string s] w fun e w' => e = .returned (.bool (tagOk s.data.toList)) ∧ w = w' := by
  unfold maxLen at hs
  have HL := Lib.hid (size_len s)
  go_enter Try.func13, Try.ntmps13
  go_wp2_with fail
  go_loop [3] (fun i => ∃ k : Nat, k ≤ s.size ∧ i = .int .i64 k ∧ Hid ((s.data.toList.take k).all alnumB = true)) (fun i => s.size - (intOf i).toNat)
  case atStart => exact ⟨0, Nat.zero_le _, rfl, rfl⟩
  case round =>
    obtain ⟨k, hk, rfl, ha⟩ := hrel
    by_cases hlt : k < s.size
    · have hlt' : k < s.data.toList.length := by rw [← HL.out]; exact hlt
      have hin := Lib.hid (alnum_in s[k])
      have hlt256 := u8_lt s[k]
      cases h1 : inR (s[k].toNat : Int) 97 122 <;> cases h2 : inR (s[k].toNat : Int) 65 90 <;> cases h3 : inR (s[k].toNat : Int) 48 57
      all_goals
        go_wp2_with (go_at_call 16; refine (l1In_any _ _ _ _).mono ?_; rintro e w' ⟨rfl, rfl⟩)
        first
          | (go_round
             case rel => exact ⟨k + 1, by omega, by go_num, all_take_succ hlt' ha.out (show alnumB s[k] = true from by rw [hin.out, h1, h2, h3]; rfl)⟩
             case measure => simp [intOf]; omega)
          | (go_ret
             exact ⟨ret_b (by unfold tagOk; rw [all_false hlt' (show alnumB s[k] = false by rw [hin.out, h1, h2, h3]; rfl)]; rfl), rfl⟩)
    · have hke : k = s.size := by omega
      have ha2 : s.data.toList.all alnumB = true := by
        have h := ha.out
        rw [List.take_of_length_le (by rw [← HL.out]; omega)] at h
        exact h
      have hfin : tagOk s.data.toList = inR (s.size : Int) 1 8 := by unfold tagOk; rw [ha2, Bool.true_and, HL.out]
      have Hfin := Lib.hid hfin
      clear hfin ha2 ha hke
      go_wp2_with (go_at_call 16; refine (l1In_any _ _ _ _).mono ?_; rintro e w' ⟨rfl, rfl⟩)
      go_ret
      exact ⟨ret_b Hfin.out.symm, rfl⟩

end Go.Proofs.Ytiiiohbmgebcdaa
