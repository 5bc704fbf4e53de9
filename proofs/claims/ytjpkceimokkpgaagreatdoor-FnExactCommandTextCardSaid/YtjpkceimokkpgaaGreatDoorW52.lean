/-
  Walks: what each function returns, and that it leaves what lay in memory as it was.
-/
import Derived.Test.YtjpkceimokkpgaaGreatDoorProg
import Derived.Test.YtjpkceimokkpgaaGreatDoorPlain
import Derived.Test.YtjpkceimokkpgaaGreatDoorBase2
import Derived.Test.YtjpkceimokkpgaaGreatDoorOpen2
import Derived.Test.YtjpkceimokkpgaaGreatDoorShelf
import Derived.WalkKit
import Derived.WalkSpells
import Derived.WalkLawsBesides
import Derived.Lib.Hide
import Derived.Deep.LoopGhost
import Derived.Deep.QuietTactic
import Derived.BigQuiet
import Derived.Handy
import Derived.Deep.RegionHeld3
import Derived.StillTailTactics
import Derived.OpenShut
import Derived.ChangeSame
import Derived.Laws.StructEq

import Derived.Deep.DrawnRows
import Derived.Deep.Cut
import Derived.Deep.CutBlock

import Derived.Test.YtjpkceimokkpgaaGreatDoorPlainT

import Derived.Test.YtjpkceimokkpgaaGreatDoorBase3

import Derived.Test.YtjpkceimokkpgaaGreatDoorW1

import Derived.Test.YtjpkceimokkpgaaGreatDoorW2

import Derived.Test.YtjpkceimokkpgaaGreatDoorW3

import Derived.Test.YtjpkceimokkpgaaGreatDoorW4

import Derived.Test.YtjpkceimokkpgaaGreatDoorW5

import Derived.Test.YtjpkceimokkpgaaGreatDoorW7

import Derived.Test.YtjpkceimokkpgaaGreatDoorW9

import Derived.Test.YtjpkceimokkpgaaGreatDoorW14

import Derived.Test.YtjpkceimokkpgaaGreatDoorW15

import Derived.Test.YtjpkceimokkpgaaGreatDoorW17

import Derived.Test.YtjpkceimokkpgaaGreatDoorW18

import Derived.Test.YtjpkceimokkpgaaGreatDoorW20

import Derived.Test.YtjpkceimokkpgaaGreatDoorW30

import Derived.Test.YtjpkceimokkpgaaGreatDoorW31

import Derived.Test.YtjpkceimokkpgaaGreatDoorW32

import Derived.Test.YtjpkceimokkpgaaGreatDoorW41

import Derived.Test.YtjpkceimokkpgaaGreatDoorW42

import Derived.Test.YtjpkceimokkpgaaGreatDoorW50

import Derived.Test.YtjpkceimokkpgaaGreatDoorW51

namespace Go.Proofs.YtjpkceimokkpgaaGreatDoor
open Go.ChangeShapes Go.WideShapes Go.ChangeAt Go.RowKit Go.Deep
set_option linter.unusedVariables false
set_option linter.unusedSimpArgs false

set_option maxRecDepth 20000

set_option maxHeartbeats 1600000 in
theorem spec_Parts (s : ByteArray) (b : UInt8) (w : World) (hs : s.size ≤ 1099511627776) :
    Calls Tryz.prog 24 #[.string s, .int .u8 (b.toNat : Int)] w (RetOwn encStr 1 9 w (parts b s.data.toList)) := by
  have HL := Lib.hid (size_len s)
  generalize hP : parts b s.data.toList = R
  have HP := Lib.hid hP
  clear hP
  have hnew := World.ownsRow_made (base := w.heap.size) (e := 9) (size := 1) w #[] 0 (Nat.le_refl _) (by unfold maxLen; omega) rfl
  go_enter Tryz.func24, Tryz.ntmps24
  go_wp2_with fail
  go_loopw [5, 6, 7] (fun o f c wr => ∃ (k j : Nat) (ps : List Str), k ≤ s.size + 1 ∧ j ≤ k ∧ ps.length ≤ k ∧ f = .int .i64 j ∧ c = .int .i64 k ∧ wr.ownsRow w.heap.size 9 1 o ps.length (ps.flatMap encStr) ∧
      Hid ((k ≤ s.size → ps ++ partsGo b ((s.data.toList.take k).drop j) (s.data.toList.drop k) = R) ∧ (k = s.size + 1 → ps = R)) ∧ Below w.heap.size w wr) (fun _ _ c _ => s.size + 1 - (intOf c).toNat)
  case atStart => exact ⟨0, 0, [], by omega, by omega, by simp, rfl, rfl, hnew, ⟨fun _ => HP.out, fun h => absurd h (by omega)⟩, (Below.refl _ _).alloc (Nat.le_refl _) _⟩
  case round =>
    obtain ⟨k, j, ps, hk, hj, hpl, rfl, rfl, hown, hg, hW⟩ := hrel
    clear hnew
    by_cases hle : k ≤ s.size
    · by_cases hlt : k < s.size
      · have hlt' : k < s.data.toList.length := by rw [← HL.out]; exact hlt
        have hne : ((k : Int) == (s.size : Int)) = false := by rw [beq_eq_false_iff_ne]; omega
        by_cases hc : s[k] = b
        · have hcb : ((s[k].toNat : Int) == (b.toNat : Int)) = true := by rw [hc]; simp
          have hg2 : (ps ++ [(s.data.toList.take k).drop j]) ++ partsGo b ((s.data.toList.take (k + 1)).drop (k + 1)) (s.data.toList.drop (k + 1)) = R := by
            rw [← hg.out.1 hle, partsGo_hit hlt' hj hc, List.append_assoc]; rfl
          have Hg2 := Lib.hid hg2
          have hown2 := hown.alloc (.cells #[.string (s.extract j k)] 9)
          have hrd := Rd.new (enc := encStr) (k := 1) (fun _ => rfl) wr #[.string (s.extract j k)] 9 (n := 1) [(s.data.toList.take k).drop j] (by rw [extract_str]; rfl) rfl
          have Hown2 := Lib.hid hown2
          have Hrd := Lib.hid hrd
          clear hg hg2 hc hown2 hrd
          go_wp2_with (at_builtin; refine wpList_app (enc := encStr) (k := 1) (fun _ => rfl) (fun _ u hu => by simp at hu; subst hu; rfl) (by omega) rfl _ _ 53 9 rfl (.string ByteArray.empty) 16 Tryz.underlying53 (by kernel_rfl) rfl w.heap.size _ ps rfl Hown2.out _ _ _ _ rfl Hrd.out (by omega) (by omega) (by have := hW.size; simp; omega) ?_; intro v' w' hown' hbel')
          go_roundw
          case rel => exact ⟨k + 1, k + 1, ps ++ [(s.data.toList.take k).drop j], by omega, by omega, by simp; omega, by go_num, by go_num, hown', ⟨fun _ => Hg2.out, fun h => absurd h (by omega)⟩, (hW.alloc hW.size _).trans hbel'⟩
          case measure => simp [intOf]; omega
        · have hcb : ((s[k].toNat : Int) == (b.toNat : Int)) = false := by
            rw [beq_eq_false_iff_ne]; intro h; exact hc (UInt8.toNat_inj.1 (by omega))
          have hg2 : ps ++ partsGo b ((s.data.toList.take (k + 1)).drop j) (s.data.toList.drop (k + 1)) = R := by
            rw [← hg.out.1 hle, partsGo_miss hlt' hj hc]
          have Hg2 := Lib.hid hg2
          clear hg hg2 hc
          have Hown := Lib.hid hown
          clear hown
          go_wp2
          go_roundw
          case rel => exact ⟨k + 1, j, ps, by omega, by omega, by omega, rfl, by go_num, Hown.out, ⟨fun _ => Hg2.out, fun h => absurd h (by omega)⟩, hW⟩
          case measure => simp [intOf]; omega
      · have hke : k = s.size := by omega
        subst hke
        have hg2 : ps ++ [(s.data.toList.take s.size).drop j] = R := by
          rw [← hg.out.1 hle]; congr 1
          have := partsGo_end b s.data.toList j
          rw [← HL.out] at this
          rw [this, List.take_of_length_le (by rw [HL.out]; exact Nat.le_refl _)]
        have Hg2 := Lib.hid hg2
        have hown2 := hown.alloc (.cells #[.string (s.extract j s.size)] 9)
        have hrd := Rd.new (enc := encStr) (k := 1) (fun _ => rfl) wr #[.string (s.extract j s.size)] 9 (n := 1) [(s.data.toList.take s.size).drop j] (by rw [extract_str]; rfl) rfl
        have Hown2 := Lib.hid hown2
        have Hrd := Lib.hid hrd
        clear hg hg2 hown2 hrd hlt hown
        go_wp2_with (at_builtin; refine wpList_app (enc := encStr) (k := 1) (fun _ => rfl) (fun _ u hu => by simp at hu; subst hu; rfl) (by omega) rfl _ _ 53 9 rfl (.string ByteArray.empty) 16 Tryz.underlying53 (by kernel_rfl) rfl w.heap.size _ ps rfl Hown2.out _ _ _ _ rfl Hrd.out (by omega) (by omega) (by have := hW.size; simp; omega) ?_; intro v' w' hown' hbel')
        go_roundw
        case rel => exact ⟨s.size + 1, s.size + 1, ps ++ [(s.data.toList.take s.size).drop j], by omega, by omega, by simp; omega, by go_num, by go_num, hown', ⟨fun h => absurd h (by omega), fun _ => Hg2.out⟩, (hW.alloc hW.size _).trans hbel'⟩
        case measure => simp [intOf]
    · have hke : k = s.size + 1 := by omega
      have hfin := hg.out.2 hke
      have Hfin := Lib.hid hfin
      have Hown := Lib.hid hown
      clear hfin hg hown hke
      go_wp2
      go_ret
      have ho := Hown.out
      rw [Hfin.out] at ho
      exact retOwn_mk ho hW

theorem flagsText_small : ∀ n : Nat, n < 32 → (flagsText (n : Int)).length ≤ 100 := by decide +kernel
theorem flags_nat {x : Command} (h : commandOk x = true) : ∃ n : Nat, n < 32 ∧ x.flags = (n : Int) := by
  rcases commandOk_flags h with h | h
  · exact ⟨0, by omega, h⟩
  · unfold inR at h
    simp at h
    exact ⟨x.flags.toNat, by omega, by omega⟩
set_option maxHeartbeats 12800000 in
set_option maxRecDepth 20000 in
theorem spec_CommandTokens (x : Command) (h : CHd) (w : World) (i : CommandIs w x h) (f : x.Fit) :
    Calls Tryz.prog 6 #[.agg #[.string x.tag, .int .i64 x.kind, .string x.box, .string x.dest, .bool x.uid, .slice h.s.A h.s.n h.s.c, .int .i64 x.op, .int .i64 x.flags, .string x.text, .bool x.filter.on, .slice h.f.A h.f.n h.f.c]] w (RetOwn encToken 2 48 w (commandT x)) := by
  obtain ⟨⟨A, n, c⟩, hf⟩ := h
  obtain ⟨R, hR⟩ : ∃ R, commandT x = R := ⟨_, rfl⟩
  have HR := Lib.hid hR
  obtain rfl : n = x.set.length := i.2.1.1.symm
  rw [hR]
  clear hR
  simp only []
  have nB : Below w.heap.size w (w.alloc (.cells #[.string x.tag, .int .i64 x.kind, .string x.box, .string x.dest, .bool x.uid, .slice A x.set.length c, .int .i64 x.op, .int .i64 x.flags, .string x.text, .bool x.filter.on, .slice hf.A hf.n hf.c] 36)) := by go_grown
  have nP : Holds (w.alloc (.cells #[.string x.tag, .int .i64 x.kind, .string x.box, .string x.dest, .bool x.uid, .slice A x.set.length c, .int .i64 x.op, .int .i64 x.flags, .string x.text, .bool x.filter.on, .slice hf.A hf.n hf.c] 36)) w.heap.size [.string x.tag, .int .i64 x.kind, .string x.box, .string x.dest, .bool x.uid, .slice A x.set.length c, .int .i64 x.op, .int .i64 x.flags, .string x.text, .bool x.filter.on, .slice hf.A hf.n hf.c] := Holds.new w _ _
  have nI := i.below nB
  clear i
  go_enter Tryz.func6, Tryz.ntmps6
  generalize hw1 : (w.alloc (.cells #[.string x.tag, .int .i64 x.kind, .string x.box, .string x.dest, .bool x.uid, .slice A x.set.length c, .int .i64 x.op, .int .i64 x.flags, .string x.text, .bool x.filter.on, .slice hf.A hf.n hf.c] 36)) = w1 at *
  have nE := World.ownsRow_made (base := w1.heap.size) (e := 48) (size := 2) w1 #[] 0 (Nat.le_refl _) (by unfold maxLen; omega) rfl
  have nB1 : Below w1.heap.size w1 (w1.alloc (.cells #[] 48)) := (Below.refl _ _).alloc (Nat.le_refl _) _
  have p0 := (nP.below nB1).2 0 (.string x.tag) rfl
  have p1 := (nP.below nB1).2 1 (.int .i64 x.kind) rfl
  have p2 := (nP.below nB1).2 2 (.string x.box) rfl
  have p3 := (nP.below nB1).2 3 (.string x.dest) rfl
  have p4 := (nP.below nB1).2 4 (.bool x.uid) rfl
  have p5 := (nP.below nB1).2 5 (.slice A x.set.length c) rfl
  have p6 := (nP.below nB1).2 6 (.int .i64 x.op) rfl
  have p7 := (nP.below nB1).2 7 (.int .i64 x.flags) rfl
  have p8 := (nP.below nB1).2 8 (.string x.text) rfl
  have p9 := (nP.below nB1).2 9 (.bool x.filter.on) rfl
  have p10 := (nP.below nB1).2 10 (.slice hf.A hf.n hf.c) rfl
  go_wp2_with fail
  clear hw1
  generalize w1.alloc (.cells #[] 48) = w1e at *
  refine (spec_CommandOk x ⟨⟨A, x.set.length, c⟩, hf⟩ w1e (nI.below nB1) f).mono ?_
  rintro e w2 ⟨rfl, hb⟩
  have HB := Lib.hid nB
  have HP := Lib.hid nP
  have HI := Lib.hid nI
  have HF := Lib.hid f
  have hz1 : w.heap.size ≤ w1.heap.size := nB.size
  have HC0 := Lib.hid (show CtS w1.heap.size w1 [] (.slice (some ⟨w1.heap.size, 0, none⟩) 0 0) w2 from ⟨own_below nE hb, nB1.trans (hb.mono nB1.size), by have h1 := nB1.size; have h2 := hb.size; omega⟩)
  clear nB nP nI f hb nE nB1 p0 p1 p2 p3 p4 p5 p6 p7 p8 p9 p10
  cases hok : commandOk x
  · have HN := Lib.hid (commandT_no hok)
    clear hok
    go_wp2
    go_ret
    have e : R = [] := by rw [← HR.out, HN.out]
    subst e
    exact ⟨_, 0, rfl, own_mono HC0.out.o hz1, HB.out.trans (HC0.out.b.mono hz1)⟩
  have HOK := Lib.hid hok
  have CL := cT_len x
  have HRR := Lib.hid (show R = cT10 x by rw [← HR.out, commandT_ok hok])
  clear hok
  have p0 := (HP.out.below HC0.out.b).2 0 (.string x.tag) rfl
  go_wp2_with fail
  refine (spec_l6Atom x.tag _).mono ?_
  rintro e w3 ⟨rfl, hb3⟩
  have hrc := Lib.hid (Rd.new (enc := encToken) (k := 2) (fun _ => rfl) w3 #[.int .i64 1, .string x.tag] 48 (n := 1) [tkB x.tag] (by rfl) rfl)
  have HFa := Lib.hid ((HC0.out.below hb3).below ((Below.refl w3.heap.size w3).alloc (Nat.le_refl _) (.cells #[.int .i64 1, .string x.tag] 48)))
  clear hb3
  go_upto_region 5 with (at_builtin; refine wpList_appN (enc := encToken) (k := 2) (fun _ => rfl) (fun _ u hu => by simp at hu; rcases hu with rfl | rfl <;> rfl) (by omega) rfl _ _ 29 48 rfl (.agg #[.int .i64 0, .string ByteArray.empty]) 24 Tryz.underlying29 (by kernel_rfl) rfl w1.heap.size _ [] rfl HFa.out.o _ _ _ _ rfl hrc.out (by have := CL; (try simp only [List.length_append, List.length_singleton, List.length_nil]); omega) (by omega) HFa.out.z ?_; intro vn wn hownd hgd)
  have HC1 := Lib.hid (HFa.out.app hownd hgd)
  clear hownd hgd HFa hrc
  have HC1 := Lib.hid (show CtS w1.heap.size w1 (cT1 x) vn wn from HC1.out)
  clear p0
  obtain ⟨U, hU⟩ : ∃ U, x.uid = U := ⟨_, rfl⟩
  have p4 := (HP.out.below HC1.out.b).2 4 (.bool x.uid) rfl
  rw [hU] at p4
  have HU := Lib.hid hU
  clear hU
  go_upto_if 18 with fail
  clear p4
  go_cut [3] from 6 (fun s3 wc => CtS w1.heap.size w1 (cT2 x) s3 wc)
  case first =>
    cases U
    · have E2 := Lib.hid (show cT2 x = cT1 x by unfold cT2; rw [opt_no HU.out, List.append_nil])
      go_wp2
      go_meet
      case rel => exact E2.out ▸ HC1.out
    · have E2 := Lib.hid (show cT2 x = cT1 x ++ [tkA [117, 105, 100]] by unfold cT2; rw [opt_yes HU.out])
      go_wp2_with fail
      refine (spec_l6Atom ⟨#[117, 105, 100]⟩ _).mono ?_
      rintro e wc1 ⟨rfl, hbc⟩
      have hrc := Lib.hid (Rd.new (enc := encToken) (k := 2) (fun _ => rfl) wc1 #[.int .i64 1, .string ⟨#[117, 105, 100]⟩] 48 (n := 1) [tkA [117, 105, 100]] (by rfl) rfl)
      have HFa := Lib.hid ((HC1.out.below hbc).below ((Below.refl wc1.heap.size wc1).alloc (Nat.le_refl _) (.cells #[.int .i64 1, .string ⟨#[117, 105, 100]⟩] 48)))
      clear hbc
      go_wp2_with (at_builtin; refine wpList_appN (enc := encToken) (k := 2) (fun _ => rfl) (fun _ u hu => by simp at hu; rcases hu with rfl | rfl <;> rfl) (by omega) rfl _ _ 29 48 rfl (.agg #[.int .i64 0, .string ByteArray.empty]) 24 Tryz.underlying29 (by kernel_rfl) rfl w1.heap.size _ (cT1 x) rfl HFa.out.o _ _ _ _ rfl hrc.out (by have := CL; (try simp only [List.length_append, List.length_singleton, List.length_nil]); omega) (by omega) HFa.out.z ?_; intro vn wn hownd hgd)
      have HC2 := Lib.hid (HFa.out.app hownd hgd)
      clear hownd hgd HFa hrc
      go_meet
      case rel => exact E2.out ▸ HC2.out
  case rest =>
  have HC2 := Lib.hid hcut
  clear hcut HC1
  have p1 := (HP.out.below HC2.out.b).2 1 (.int .i64 x.kind) rfl
  obtain ⟨Z, hZ⟩ : ∃ Z : ByteArray, (⟨(kindWord x.kind).toArray⟩ : ByteArray) = Z := ⟨_, rfl⟩
  have HZ := Lib.hid hZ
  clear hZ
  go_wp2_with fail
  refine (spec_KindWord x.kind _).mono ?_
  rw [HZ.out]
  rintro e wk ⟨rfl, hbk⟩
  have HC2b := Lib.hid (HC2.out.below hbk)
  clear hbk p1
  go_wp2_with fail
  refine (spec_l6Atom Z _).mono ?_
  rintro e wc3 ⟨rfl, hbc⟩
  have hrc := Lib.hid (Rd.new (enc := encToken) (k := 2) (fun _ => rfl) wc3 #[.int .i64 1, .string Z] 48 (n := 1) [tkA (kindWord x.kind)] (by rw [← HZ.out]; rfl) rfl)
  have HFa := Lib.hid ((HC2b.out.below hbc).below ((Below.refl wc3.heap.size wc3).alloc (Nat.le_refl _) (.cells #[.int .i64 1, .string Z] 48)))
  clear hbc
  go_upto_region 8 with (at_builtin; refine wpList_appN (enc := encToken) (k := 2) (fun _ => rfl) (fun _ u hu => by simp at hu; rcases hu with rfl | rfl <;> rfl) (by omega) rfl _ _ 29 48 rfl (.agg #[.int .i64 0, .string ByteArray.empty]) 24 Tryz.underlying29 (by kernel_rfl) rfl w1.heap.size _ (cT2 x) rfl HFa.out.o _ _ _ _ rfl hrc.out (by have := CL; (try simp only [List.length_append, List.length_singleton, List.length_nil]); omega) (by omega) HFa.out.z ?_; intro vn wn hownd hgd)
  have HC3 := Lib.hid (HFa.out.app hownd hgd)
  clear hownd hgd HFa hrc
  have p5 := (HP.out.below HC3.out.b).2 5 (.slice A x.set.length c) rfl
  go_upto_if 33 with fail
  clear p5
  go_cut [3] from 6 (fun s3 wc => CtS w1.heap.size w1 (cT4 x) s3 wc)
  case first =>
    by_cases hs : 0 < x.set.length
    · have hsi : (0 : Int) < (x.set.length : Int) := by omega
      have E4 := Lib.hid (show cT4 x = (cT2 x ++ [tkA (kindWord x.kind)]) ++ [tkA (setText x.set)] by unfold cT4 cT3; rw [opt_yes (decide_eq_true hs)])
      have p5 := (HP.out.below HC3.out.b).2 5 (.slice A x.set.length c) rfl
      obtain ⟨Y, hY⟩ : ∃ Y : ByteArray, (⟨(setText x.set).toArray⟩ : ByteArray) = Y := ⟨_, rfl⟩
      have HY := Lib.hid hY
      clear hY
      go_wp2_with fail
      refine (spec_SetText A x.set.length c x.set _ HF.out.2.1 (HI.out.2.1.below HC3.out.b)).mono ?_
      rw [HY.out]
      rintro e wk ⟨rfl, hbk⟩
      have HC3b := Lib.hid (HC3.out.below hbk)
      clear hbk p5
      go_wp2_with fail
      refine (spec_l6Atom Y _).mono ?_
      rintro e wc4 ⟨rfl, hbc⟩
      have hrc := Lib.hid (Rd.new (enc := encToken) (k := 2) (fun _ => rfl) wc4 #[.int .i64 1, .string Y] 48 (n := 1) [tkA (setText x.set)] (by rw [← HY.out]; rfl) rfl)
      have HFa := Lib.hid ((HC3b.out.below hbc).below ((Below.refl wc4.heap.size wc4).alloc (Nat.le_refl _) (.cells #[.int .i64 1, .string Y] 48)))
      clear hbc
      go_wp2_with (at_builtin; refine wpList_appN (enc := encToken) (k := 2) (fun _ => rfl) (fun _ u hu => by simp at hu; rcases hu with rfl | rfl <;> rfl) (by omega) rfl _ _ 29 48 rfl (.agg #[.int .i64 0, .string ByteArray.empty]) 24 Tryz.underlying29 (by kernel_rfl) rfl w1.heap.size _ (cT2 x ++ [tkA (kindWord x.kind)]) rfl HFa.out.o _ _ _ _ rfl hrc.out (by have := CL; (try simp only [List.length_append, List.length_singleton, List.length_nil]); omega) (by omega) HFa.out.z ?_; intro vn wn hownd hgd)
      have HC4 := Lib.hid (HFa.out.app hownd hgd)
      clear hownd hgd HFa hrc
      go_meet
      case rel => exact E4.out ▸ HC4.out
    · have hsi : ¬ (0 : Int) < (x.set.length : Int) := by omega
      have E4 := Lib.hid (show cT4 x = cT2 x ++ [tkA (kindWord x.kind)] by unfold cT4 cT3; rw [opt_no (decide_eq_false hs), List.append_nil])
      go_wp2
      go_meet
      case rel => exact E4.out ▸ HC3.out
  case rest =>
  have HC4 := Lib.hid hcut
  clear hcut HC3 HC2 HC2b HZ HU
  have p6 := (HP.out.below HC4.out.b).2 6 (.int .i64 x.op) rfl
  go_upto_if 43 with fail
  clear p6
  go_cut [3] from 6 (fun s3 wc => CtS w1.heap.size w1 (cT5 x) s3 wc)
  case first =>
    by_cases hs : 0 < x.op
    · have E5 := Lib.hid (show cT5 x = cT4 x ++ [tkA (opText x.op)] by unfold cT5; rw [opt_yes (decide_eq_true hs)])
      have p6 := (HP.out.below HC4.out.b).2 6 (.int .i64 x.op) rfl
      obtain ⟨Y, hY⟩ : ∃ Y : ByteArray, (⟨(opText x.op).toArray⟩ : ByteArray) = Y := ⟨_, rfl⟩
      have HY := Lib.hid hY
      clear hY
      go_wp2_with fail
      refine (spec_OpText x.op _).mono ?_
      rw [HY.out]
      rintro e wk ⟨rfl, hbk⟩
      have HC4b := Lib.hid (HC4.out.below hbk)
      clear hbk p6
      go_wp2_with fail
      refine (spec_l6Atom Y _).mono ?_
      rintro e wc5 ⟨rfl, hbc⟩
      have hrc := Lib.hid (Rd.new (enc := encToken) (k := 2) (fun _ => rfl) wc5 #[.int .i64 1, .string Y] 48 (n := 1) [tkA (opText x.op)] (by rw [← HY.out]; rfl) rfl)
      have HFa := Lib.hid ((HC4b.out.below hbc).below ((Below.refl wc5.heap.size wc5).alloc (Nat.le_refl _) (.cells #[.int .i64 1, .string Y] 48)))
      clear hbc
      go_wp2_with (at_builtin; refine wpList_appN (enc := encToken) (k := 2) (fun _ => rfl) (fun _ u hu => by simp at hu; rcases hu with rfl | rfl <;> rfl) (by omega) rfl _ _ 29 48 rfl (.agg #[.int .i64 0, .string ByteArray.empty]) 24 Tryz.underlying29 (by kernel_rfl) rfl w1.heap.size _ (cT4 x) rfl HFa.out.o _ _ _ _ rfl hrc.out (by have := CL; (try simp only [List.length_append, List.length_singleton, List.length_nil]); omega) (by omega) HFa.out.z ?_; intro vn wn hownd hgd)
      have HC5 := Lib.hid (HFa.out.app hownd hgd)
      clear hownd hgd HFa hrc
      go_meet
      case rel => exact E5.out ▸ HC5.out
    · have E5 := Lib.hid (show cT5 x = cT4 x by unfold cT5; rw [opt_no (decide_eq_false hs), List.append_nil])
      go_wp2
      go_meet
      case rel => exact E5.out ▸ HC4.out
  case rest =>
  have HC5 := Lib.hid hcut
  clear hcut HC4
  obtain ⟨b, hb⟩ : ∃ b, x.box = b := ⟨_, rfl⟩
  have HBX := Lib.hid hb
  have p2 := (HP.out.below HC5.out.b).2 2 (.string x.box) rfl
  rw [hb] at p2
  clear hb
  obtain ⟨T, hT⟩ : ∃ T, decide (b = emptyB) = T := ⟨_, rfl⟩
  have he1 : (b.toList == ByteArray.toList ⟨#[]⟩) = T := by rw [ba_beq]; exact hT
  have he2 : b.toList.isEmpty = T := by rw [ba_empty]; exact hT
  have he3 : decide (b = ⟨#[]⟩) = T := hT
  have HT := Lib.hid hT
  clear hT
  go_upto_if 53 with fail
  clear p2 he1 he2 he3
  go_cut [3] from 6 (fun s3 wc => CtS w1.heap.size w1 (cT6 x) s3 wc)
  case first =>
    cases T
    · have E := Lib.hid (show cT6 x = cT5 x ++ [tkB b] by rw [← HBX.out]; unfold cT6; rw [opt_yes (by rw [HBX.out, HT.out]; rfl)])
      have p2 := (HP.out.below HC5.out.b).2 2 (.string x.box) rfl
      rw [HBX.out] at p2
      go_wp2_with fail
      refine (spec_l6Atom b _).mono ?_
      rintro e wc6 ⟨rfl, hbc⟩
      have hrc := Lib.hid (Rd.new (enc := encToken) (k := 2) (fun _ => rfl) wc6 #[.int .i64 1, .string b] 48 (n := 1) [tkB b] (by rfl) rfl)
      have HFa := Lib.hid ((HC5.out.below hbc).below ((Below.refl wc6.heap.size wc6).alloc (Nat.le_refl _) (.cells #[.int .i64 1, .string b] 48)))
      clear hbc
      go_wp2_with (at_builtin; refine wpList_appN (enc := encToken) (k := 2) (fun _ => rfl) (fun _ u hu => by simp at hu; rcases hu with rfl | rfl <;> rfl) (by omega) rfl _ _ 29 48 rfl (.agg #[.int .i64 0, .string ByteArray.empty]) 24 Tryz.underlying29 (by kernel_rfl) rfl w1.heap.size _ (cT5 x) rfl HFa.out.o _ _ _ _ rfl hrc.out (by have := CL; (try simp only [List.length_append, List.length_singleton, List.length_nil]); omega) (by omega) HFa.out.z ?_; intro vn wn hownd hgd)
      have HC6 := Lib.hid (HFa.out.app hownd hgd)
      clear hownd hgd HFa hrc
      go_meet
      case rel => exact E.out ▸ HC6.out
    · have E := Lib.hid (show cT6 x = cT5 x by unfold cT6; rw [opt_no (by rw [HBX.out, HT.out]; rfl), List.append_nil])
      go_wp2
      go_meet
      case rel => exact E.out ▸ HC5.out
  case rest =>
  have HC6 := Lib.hid hcut
  clear hcut HC5 HT HBX
  obtain ⟨b, hb⟩ : ∃ b, x.dest = b := ⟨_, rfl⟩
  have HBX := Lib.hid hb
  have p3 := (HP.out.below HC6.out.b).2 3 (.string x.dest) rfl
  rw [hb] at p3
  clear hb
  obtain ⟨T, hT⟩ : ∃ T, decide (b = emptyB) = T := ⟨_, rfl⟩
  have he1 : (b.toList == ByteArray.toList ⟨#[]⟩) = T := by rw [ba_beq]; exact hT
  have he2 : b.toList.isEmpty = T := by rw [ba_empty]; exact hT
  have he3 : decide (b = ⟨#[]⟩) = T := hT
  have HT := Lib.hid hT
  clear hT
  go_upto_if 62 with fail
  clear p3 he1 he2 he3
  go_cut [3] from 6 (fun s3 wc => CtS w1.heap.size w1 (cT7 x) s3 wc)
  case first =>
    cases T
    · have E := Lib.hid (show cT7 x = cT6 x ++ [tkB b] by rw [← HBX.out]; unfold cT7; rw [opt_yes (by rw [HBX.out, HT.out]; rfl)])
      have p3 := (HP.out.below HC6.out.b).2 3 (.string x.dest) rfl
      rw [HBX.out] at p3
      go_wp2_with fail
      refine (spec_l6Atom b _).mono ?_
      rintro e wc6 ⟨rfl, hbc⟩
      have hrc := Lib.hid (Rd.new (enc := encToken) (k := 2) (fun _ => rfl) wc6 #[.int .i64 1, .string b] 48 (n := 1) [tkB b] (by rfl) rfl)
      have HFa := Lib.hid ((HC6.out.below hbc).below ((Below.refl wc6.heap.size wc6).alloc (Nat.le_refl _) (.cells #[.int .i64 1, .string b] 48)))
      clear hbc
      go_wp2_with (at_builtin; refine wpList_appN (enc := encToken) (k := 2) (fun _ => rfl) (fun _ u hu => by simp at hu; rcases hu with rfl | rfl <;> rfl) (by omega) rfl _ _ 29 48 rfl (.agg #[.int .i64 0, .string ByteArray.empty]) 24 Tryz.underlying29 (by kernel_rfl) rfl w1.heap.size _ (cT6 x) rfl HFa.out.o _ _ _ _ rfl hrc.out (by have := CL; (try simp only [List.length_append, List.length_singleton, List.length_nil]); omega) (by omega) HFa.out.z ?_; intro vn wn hownd hgd)
      have HC7 := Lib.hid (HFa.out.app hownd hgd)
      clear hownd hgd HFa hrc
      go_meet
      case rel => exact E.out ▸ HC7.out
    · have E := Lib.hid (show cT7 x = cT6 x by unfold cT7; rw [opt_no (by rw [HBX.out, HT.out]; rfl), List.append_nil])
      go_wp2
      go_meet
      case rel => exact E.out ▸ HC6.out
  case rest =>
  have HC7 := Lib.hid hcut
  clear hcut HC6 HT HBX
  obtain ⟨F, hF⟩ : ∃ F, flagsK x.kind = F := ⟨_, rfl⟩
  have HFK := Lib.hid hF
  clear hF
  go_upto_region 16 with fail
  go_cut [3, 76] from 6 (fun s3 s76 wc => s76 = .bool F ∧ CtS w1.heap.size w1 (cT7 x) s3 wc)
  case first =>
    have p1 := (HP.out.below HC7.out.b).2 1 (.int .i64 x.kind) rfl
    by_cases hk8 : x.kind = 8
    · have hF : F = true := by rw [← HFK.out, hk8]; rfl
      subst hF
      rw [hk8] at p1
      go_wp2
      go_meet
      case rel => exact ⟨rfl, HC7.out⟩
    by_cases hk11 : x.kind = 11
    · have hF : F = true := by rw [← HFK.out, hk11]; rfl
      subst hF
      rw [hk11] at p1
      go_wp2
      go_meet
      case rel => exact ⟨rfl, HC7.out⟩
    · have hF : F = false := by rw [← HFK.out]; unfold flagsK; rw [beq_eq_false_iff_ne.2 hk8, beq_eq_false_iff_ne.2 hk11]; rfl
      subst hF
      have hq8 : (x.kind == 8) = false := beq_eq_false_iff_ne.2 hk8
      have hq11 : (x.kind == 11) = false := beq_eq_false_iff_ne.2 hk11
      go_wp2
      go_meet
      case rel => exact ⟨rfl, HC7.out⟩
  case rest =>
  obtain ⟨rfl, hcut⟩ := hcut
  clear HC7
  have HC7 := Lib.hid hcut
  clear hcut
  go_upto_if 76 with fail
  go_cut [3] from 4 (fun s3 wc => CtS w1.heap.size w1 (cT8 x) s3 wc)
  case first =>
    cases F
    · have E8 := Lib.hid (show cT8 x = cT7 x by unfold cT8; rw [opt_no HFK.out, List.append_nil])
      go_wp2
      go_meet
      case rel => exact E8.out ▸ HC7.out
    · obtain ⟨E, hE⟩ : ∃ E, selTo x.flags flagList 5 = E := ⟨_, rfl⟩
      have E8 := Lib.hid (show cT8 x = cT7 x ++ groupT E by unfold cT8; rw [opt_yes HFK.out, hE])
      have hEl : E.length ≤ 5 := by rw [← hE]; exact selTo_len _ _ _
      have HE := Lib.hid hE
      clear hE
      go_wp2_with fail
      refine (spec_l6Open _).mono ?_
      rintro e wo ⟨rfl, hbo⟩
      have hrc := Lib.hid (Rd.new (enc := encToken) (k := 2) (fun _ => rfl) wo #[.int .i64 3, .string ⟨#[]⟩] 48 (n := 1) [tkO] (by rfl) rfl)
      have HFa := Lib.hid ((HC7.out.below hbo).below ((Below.refl wo.heap.size wo).alloc (Nat.le_refl _) (.cells #[.int .i64 3, .string ⟨#[]⟩] 48)))
      clear hbo
      go_upto_region 18 with (at_builtin; refine wpList_appN (enc := encToken) (k := 2) (fun _ => rfl) (fun _ u hu => by simp at hu; rcases hu with rfl | rfl <;> rfl) (by omega) rfl _ _ 29 48 rfl (.agg #[.int .i64 0, .string ByteArray.empty]) 24 Tryz.underlying29 (by kernel_rfl) rfl w1.heap.size _ (cT7 x) rfl HFa.out.o _ _ _ _ rfl hrc.out (by have := CL; (try simp only [List.length_append, List.length_singleton, List.length_nil]); omega) (by omega) HFa.out.z ?_; intro vn wn hownd hgd)
      have HCo := Lib.hid (HFa.out.app hownd hgd)
      clear hownd hgd HFa hrc
      have p7 := (HP.out.below HCo.out.b).2 7 (.int .i64 x.flags) rfl
      obtain ⟨T, hT⟩ : ∃ T : ByteArray, (⟨(flagsText x.flags).toArray⟩ : ByteArray) = T := ⟨_, rfl⟩
      have hTs : T.size ≤ 1099511627776 := by
        obtain ⟨n, hn, e⟩ := flags_nat HOK.out
        have := flagsText_small n hn
        rw [← hT, size_len, e]; simp only [List.toList_toArray]; omega
      obtain ⟨P, hP⟩ : ∃ P, parts 32 T.data.toList = P := ⟨_, rfl⟩
      have HPE := Lib.hid (show 0 < x.flags → P = E by
        intro h0
        rw [← hP, ← hT, ← HE.out]
        obtain ⟨n, hn, e⟩ := flags_nat HOK.out
        rw [e] at h0 ⊢
        exact flags_parts n hn (by omega))
      have HE0 := Lib.hid (show ¬ 0 < x.flags → E = [] by
        intro h0
        rw [← HE.out]
        obtain ⟨n, hn, e⟩ := flags_nat HOK.out
        rw [show x.flags = 0 by omega]; exact flags_none)
      have HTT := Lib.hid hT
      have HPP := Lib.hid hP
      clear hT hP
      go_wp2_with fail
      refine (spec_FlagsText x.flags _).mono ?_
      rw [HTT.out]
      rintro e wt ⟨rfl, hbt⟩
      have HCt := Lib.hid (HCo.out.below hbt)
      clear hbt p7 HCo
      go_wp2_with fail
      refine (spec_Parts T 32 _ hTs).mono ?_
      rw [HPP.out]
      rintro e wp ⟨Ap, cp, rfl, hop, hbp⟩
      have HCp := Lib.hid (HCt.out.below hbp)
      have HOP := Lib.hid (own_mono hop HCt.out.z)
      clear hop hbp HCt
      go_wp2_with fail
      go_loopw [3, 5] (fun o i wr => ∃ k : Nat, k ≤ E.length ∧ i = .int .i64 k ∧ CtS w1.heap.size w1 ((cT7 x ++ [tkO]) ++ (E.take k).map tkA) o wr ∧ wr.ownsRow w1.heap.size 9 1 (.slice Ap P.length cp) P.length (P.flatMap encStr)) (fun _ i _ => 6 - (intOf i).toNat)
      case atStart => exact ⟨0, Nat.zero_le _, rfl, by rw [List.take_zero, List.map_nil, List.append_nil]; exact HCp.out, HOP.out⟩
      case round =>
        obtain ⟨k, hk, rfl, hct, hrw⟩ := hrel
        clear HCp HOP
        have p7 := (HP.out.below hct.b).2 7 (.int .i64 x.flags) rfl
        by_cases hgo : k < P.length ∧ 0 < x.flags
        · obtain ⟨hlt, hz⟩ := hgo
          obtain rfl : P = E := HPE.out hz
          have hki : (k : Int) < (P.length : Int) := by omega
          obtain ⟨b, off, y, rfl, hbl, hy, hc⟩ := (Rd.of_own (enc := encStr) (k := 1) (fun _ => rfl) hrw rfl).elem hlt
          have g0 : wr.cell? ⟨b, off + k, none⟩ = some (.string ⟨y.toArray⟩) := by simpa using hc 0 _ rfl
          have HS := Lib.hid (show ((cT7 x ++ [tkO]) ++ (P.take k).map tkA) ++ [tkA y] = (cT7 x ++ [tkO]) ++ (P.take (k + 1)).map tkA by rw [take_snoc hy, List.map_append, List.append_assoc]; rfl)
          have HCk := Lib.hid hct
          have HRW := Lib.hid hrw
          have hll : ((cT7 x ++ [tkO]) ++ (P.take k).map tkA).length ≤ 100 := by have := CL; simp only [List.length_append, List.length_map, List.length_take, List.length_singleton]; omega
          obtain ⟨L, hL⟩ : ∃ L, (cT7 x ++ [tkO]) ++ (P.take k).map tkA = L := ⟨_, rfl⟩
          rw [hL] at HCk HS hll
          obtain ⟨Y, hY⟩ : ∃ Y : ByteArray, (⟨y.toArray⟩ : ByteArray) = Y := ⟨_, rfl⟩
          rw [hY] at g0
          have HY := Lib.hid hY
          clear hct hrw hc hy hL hY hbl
          go_wp2_with fail
          refine (spec_l6Atom Y _).mono ?_
          rintro e wc7 ⟨rfl, hbc⟩
          have hrc := Lib.hid (Rd.new (enc := encToken) (k := 2) (fun _ => rfl) wc7 #[.int .i64 1, .string Y] 48 (n := 1) [tkA y] (by rw [← HY.out]; rfl) rfl)
          have HFa := Lib.hid ((HCk.out.below hbc).below ((Below.refl wc7.heap.size wc7).alloc (Nat.le_refl _) (.cells #[.int .i64 1, .string Y] 48)))
          have HRa := Lib.hid ((own_below HRW.out hbc).alloc (.cells #[.int .i64 1, .string Y] 48))
          clear hbc
          go_wp2_with (at_builtin; refine wpList_appN (enc := encToken) (k := 2) (fun _ => rfl) (fun _ u hu => by simp at hu; rcases hu with rfl | rfl <;> rfl) (by omega) rfl _ _ 29 48 rfl (.agg #[.int .i64 0, .string ByteArray.empty]) 24 Tryz.underlying29 (by kernel_rfl) rfl w1.heap.size _ L rfl HFa.out.o _ _ _ _ rfl hrc.out (by omega) (by omega) HFa.out.z ?_; intro vn wn hownd hgd)
          have HCn := Lib.hid (HFa.out.app hownd hgd)
          have HRn := Lib.hid (own_kind_kept HRa.out HFa.out.o (by decide) hgd)
          clear hownd hgd HFa hrc HRa
          go_roundw
          case rel => exact ⟨k + 1, by omega, by go_num, HS.out ▸ HCn.out, HRn.out⟩
          case measure => simp [intOf]; omega
        · have hke : k = E.length := by
            by_cases hz : 0 < x.flags
            · have e := HPE.out hz
              have : ¬ k < P.length := fun h => hgo ⟨h, hz⟩
              rw [e] at this
              omega
            · have e := HE0.out (by omega)
              rw [e] at hk ⊢
              simpa using hk
          have HCk := Lib.hid (show CtS w1.heap.size w1 ((cT7 x ++ [tkO]) ++ E.map tkA) u3 wr by rw [hke, List.take_length] at hct; exact hct)
          obtain ⟨L, hL⟩ : ∃ L, (cT7 x ++ [tkO]) ++ E.map tkA = L := ⟨_, rfl⟩
          have hll : L.length ≤ 100 := by rw [← hL]; have := CL; simp only [List.length_append, List.length_map, List.length_singleton]; omega
          have HS := Lib.hid (show cT8 x = L ++ [tkC] by rw [E8.out, ← hL]; unfold groupT; simp only [List.append_assoc, List.cons_append, List.nil_append])
          rw [hL] at HCk
          clear hct hrw hL hke
          have hgo2 : ¬ (k : Int) < (P.length : Int) ∨ ((k : Int) < (P.length : Int) ∧ ¬ 0 < x.flags) := by
            by_cases h : (k : Int) < (P.length : Int)
            · exact .inr ⟨h, fun h0 => hgo ⟨by omega, h0⟩⟩
            · exact .inl h
          clear hgo
          rcases hgo2 with hki | ⟨hki, hz⟩
          all_goals
            go_wp2_with fail
            refine (spec_l6Close _).mono ?_
            rintro e wc7 ⟨rfl, hbc⟩
            have hrc := Lib.hid (Rd.new (enc := encToken) (k := 2) (fun _ => rfl) wc7 #[.int .i64 4, .string ⟨#[]⟩] 48 (n := 1) [tkC] rfl rfl)
            have HFa := Lib.hid ((HCk.out.below hbc).below ((Below.refl wc7.heap.size wc7).alloc (Nat.le_refl _) (.cells #[.int .i64 4, .string ⟨#[]⟩] 48)))
            clear hbc
            go_wp2_with (at_builtin; refine wpList_appN (enc := encToken) (k := 2) (fun _ => rfl) (fun _ u hu => by simp at hu; rcases hu with rfl | rfl <;> rfl) (by omega) rfl _ _ 29 48 rfl (.agg #[.int .i64 0, .string ByteArray.empty]) 24 Tryz.underlying29 (by kernel_rfl) rfl w1.heap.size _ L rfl HFa.out.o _ _ _ _ rfl hrc.out (by omega) (by omega) HFa.out.z ?_; intro vn wn hownd hgd)
            have HCn := Lib.hid (HFa.out.app hownd hgd)
            clear hownd hgd HFa hrc
            go_meet
            case rel => exact HS.out ▸ HCn.out
  case rest =>
  have HC8 := Lib.hid hcut
  clear hcut HC7 HFK
  have p1 := (HP.out.below HC8.out.b).2 1 (.int .i64 x.kind) rfl
  by_cases hk11 : x.kind = 11
  · have E := Lib.hid (show R = cT8 x ++ [(⟨2, x.text⟩ : Token)] by rw [HRR.out]; unfold cT10 cT9; rw [opt_yes (by rw [hk11]; rfl), opt_no (by rw [hk11]; rfl), List.append_nil])
    have p8 := (HP.out.below HC8.out.b).2 8 (.string x.text) rfl
    have hrc := Lib.hid (Rd.new (enc := encToken) (k := 2) (fun _ => rfl) wc #[.int .i64 2, .string x.text] 48 (n := 1) [(⟨2, x.text⟩ : Token)] rfl rfl)
    have HFa := Lib.hid (HC8.out.below ((Below.refl wc.heap.size wc).alloc (Nat.le_refl _) (.cells #[.int .i64 2, .string x.text] 48)))
    rw [hk11] at p1
    go_upto_region 26 with (at_builtin; refine wpList_appN (enc := encToken) (k := 2) (fun _ => rfl) (fun _ u hu => by simp at hu; rcases hu with rfl | rfl <;> rfl) (by omega) rfl _ _ 29 48 rfl (.agg #[.int .i64 0, .string ByteArray.empty]) 24 Tryz.underlying29 (by kernel_rfl) rfl w1.heap.size _ (cT8 x) rfl HFa.out.o _ _ _ _ rfl hrc.out (by have := CL; omega) (by omega) HFa.out.z ?_; intro vn wn hownd hgd)
    have hct := HFa.out.app hownd hgd
    have HCT := Lib.hid hct
    have p1 := (HP.out.below hct.b).2 1 (.int .i64 x.kind) rfl
    rw [hk11] at p1
    clear hct hownd hgd HFa hrc p8
    go_wp2
    go_ret
    rw [E.out]
    exact retOwn_mk (own_mono HCT.out.o hz1) (HB.out.trans (HCT.out.b.mono hz1))
  by_cases hk6 : x.kind = 6
  · have E := Lib.hid (show R = cT8 x ++ filterT x.filter by rw [HRR.out]; unfold cT10 cT9; rw [opt_no (by rw [hk6]; rfl), opt_yes (by rw [hk6]; rfl), List.append_nil])
    have p9 := (HP.out.below HC8.out.b).2 9 (.bool x.filter.on) rfl
    have p10 := (HP.out.below HC8.out.b).2 10 (.slice hf.A hf.n hf.c) rfl
    have hfl := filterT_len x.filter
    rw [hk6] at p1
    go_wp2_with fail
    refine (spec_FilterTokens x.filter hf wc (HI.out.2.2.2.below HC8.out.b) HF.out.2.2).mono ?_
    rintro e wf ⟨Af, cf, rfl, hof, hbf⟩
    have HFa := Lib.hid (HC8.out.below hbf)
    have hrf := Lib.hid (Rd.of_own (enc := encToken) (k := 2) (fun _ => rfl) hof rfl)
    clear hof hbf p9 p10
    go_wp2_with (at_builtin; refine wpList_appN (enc := encToken) (k := 2) (fun _ => rfl) (fun _ u hu => by simp at hu; rcases hu with rfl | rfl <;> rfl) (by omega) rfl _ _ 29 48 rfl (.agg #[.int .i64 0, .string ByteArray.empty]) 24 Tryz.underlying29 (by kernel_rfl) rfl w1.heap.size _ (cT8 x) rfl HFa.out.o _ _ _ _ rfl hrf.out (by have := CL; omega) (by omega) HFa.out.z ?_; intro vn wn hownd hgd)
    have hct := HFa.out.app hownd hgd
    go_ret
    rw [E.out]
    exact retOwn_mk (own_mono hct.o hz1) (HB.out.trans (hct.b.mono hz1))
  · have E := Lib.hid (show R = cT8 x by rw [HRR.out]; unfold cT10 cT9; rw [opt_no (beq_eq_false_iff_ne.2 hk11), opt_no (beq_eq_false_iff_ne.2 hk6), List.append_nil, List.append_nil])
    have hq11 : (x.kind == 11) = false := beq_eq_false_iff_ne.2 hk11
    have hq6 : (x.kind == 6) = false := beq_eq_false_iff_ne.2 hk6
    go_wp2
    go_ret
    rw [E.out]
    exact retOwn_mk (own_mono HC8.out.o hz1) (HB.out.trans (HC8.out.b.mono hz1))

end Go.Proofs.YtjpkceimokkpgaaGreatDoor
