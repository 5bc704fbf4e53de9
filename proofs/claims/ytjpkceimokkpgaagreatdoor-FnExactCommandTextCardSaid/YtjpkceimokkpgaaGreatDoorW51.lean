/-
  Walks: what each function returns, and that it leaves what lay in memory as it was.
-/
import Derived.Test.YtjpkceimokkpgaaGreatDoorProg
import Derived.Test.YtjpkceimokkpgaaGreatDoorPlain
import Derived.Test.YtjpkceimokkpgaaGreatDoorBase2
import Derived.Test.YtjpkceimokkpgaaGreatDoorOpen2
import Derived.Test.YtjpkceimokkpgaaGreatDoorShelf
import Derived.WalkKit
import Derived.WalkSpells
import Derived.WalkLawsBesides
import Derived.Lib.Hide
import Derived.Deep.LoopGhost
import Derived.Deep.QuietTactic
import Derived.BigQuiet
import Derived.Handy
import Derived.Deep.RegionHeld3
import Derived.StillTailTactics
import Derived.OpenShut
import Derived.ChangeSame
import Derived.Laws.StructEq

import Derived.Deep.DrawnRows
import Derived.Deep.Cut
import Derived.Deep.CutBlock

import Derived.Test.YtjpkceimokkpgaaGreatDoorPlainT

import Derived.Test.YtjpkceimokkpgaaGreatDoorBase3

import Derived.Test.YtjpkceimokkpgaaGreatDoorW1

import Derived.Test.YtjpkceimokkpgaaGreatDoorW2

import Derived.Test.YtjpkceimokkpgaaGreatDoorW3

import Derived.Test.YtjpkceimokkpgaaGreatDoorW4

import Derived.Test.YtjpkceimokkpgaaGreatDoorW5

import Derived.Test.YtjpkceimokkpgaaGreatDoorW7

import Derived.Test.YtjpkceimokkpgaaGreatDoorW9

import Derived.Test.YtjpkceimokkpgaaGreatDoorW14

import Derived.Test.YtjpkceimokkpgaaGreatDoorW15

import Derived.Test.YtjpkceimokkpgaaGreatDoorW17

import Derived.Test.YtjpkceimokkpgaaGreatDoorW18

import Derived.Test.YtjpkceimokkpgaaGreatDoorW19

import Derived.Test.YtjpkceimokkpgaaGreatDoorW30

import Derived.Test.YtjpkceimokkpgaaGreatDoorW31

import Derived.Test.YtjpkceimokkpgaaGreatDoorW41

import Derived.Test.YtjpkceimokkpgaaGreatDoorW42

import Derived.Test.YtjpkceimokkpgaaGreatDoorW50

namespace Go.Proofs.YtjpkceimokkpgaaGreatDoor
open Go.ChangeShapes Go.WideShapes Go.ChangeAt Go.RowKit Go.Deep
set_option linter.unusedVariables false
set_option linter.unusedSimpArgs false

set_option maxRecDepth 20000

theorem impl_OpText (n : Int) (w : World) :
    Calls Tryz.prog 34 #[.int .i64 n] w fun e w' => e = .returned (.string ⟨(opText n).toArray⟩) ∧ w = w' := by
  by_cases h : inR n 1 3 = true
  · have h3 : n = 1 ∨ n = 2 ∨ n = 3 := by simp [inR] at h; omega
    rcases h3 with rfl | rfl | rfl
    all_goals
      go_enter Tryz.func34, Tryz.ntmps34
      go_wp2_with (go_at_call 72; refine (impl_isOp _ _).mono ?_; rintro e w' ⟨rfl, rfl⟩)
      go_ret
      exact ⟨rfl, rfl⟩
  · have h' : inR n 1 3 = false := by simpa using h
    have h4 : opText n = [] := by simp [inR] at h; unfold opText; rw [if_neg (by omega), if_neg (by omega), if_neg (by omega)]
    clear h
    go_enter Tryz.func34, Tryz.ntmps34
    go_wp2_with (go_at_call 72; refine (impl_isOp _ _).mono ?_; rintro e w' ⟨rfl, rfl⟩)
    go_ret
    exact ⟨by rw [h4]; rfl, rfl⟩
theorem spec_OpText (n : Int) (w : World) :
    Calls Tryz.prog 22 #[.int .i64 n] w fun e w' => e = .returned (.string ⟨(opText n).toArray⟩) ∧ Below w.heap.size w w' := by
  by_cases h : inR n 1 3 = true
  · have h3 : n = 1 ∨ n = 2 ∨ n = 3 := by simp [inR] at h; omega
    rcases h3 with rfl | rfl | rfl
    all_goals
      go_enter Tryz.func22, Tryz.ntmps22
      go_wp2_with (go_at_call 50; refine (l1In_any _ _ _ _).mono ?_; rintro e w' ⟨rfl, rfl⟩)
      go_ret
      exact ⟨rfl, by go_grown⟩
  · have h' : inR n 1 3 = false := by simpa using h
    have h4 : opText n = [] := by simp [inR] at h; unfold opText; rw [if_neg (by omega), if_neg (by omega), if_neg (by omega)]
    clear h
    go_enter Tryz.func22, Tryz.ntmps22
    go_wp2_with (go_at_call 50; refine (l1In_any _ _ _ _).mono ?_; rintro e w' ⟨rfl, rfl⟩)
    go_ret
    exact ⟨by rw [h4]; rfl, Below.refl _ _⟩

/-- What holds while a command's tokens grow. -/
structure CtS (B : Nat) (w : World) (l : List Token) (v : Value) (W : World) : Prop where
  o : W.ownsRow B 48 2 v l.length (l.flatMap encToken)
  b : Below B w W
  z : B ≤ W.heap.size
theorem CtS.below {B : Nat} {w W W' : World} {v : Value} {l : List Token} (h : CtS B w l v W) (hb : Below W.heap.size W W') : CtS B w l v W' := ⟨own_below h.o hb, h.b.trans (hb.mono h.z), Nat.le_trans h.z hb.size⟩
theorem CtS.app {B : Nat} {w W W' : World} {v v' : Value} {l ys : List Token} (h : CtS B w l v W) (ho : W'.ownsRow B 48 2 v' (l ++ ys).length ((l ++ ys).flatMap encToken)) (hg : W.grownBy W' v.ownBlock) : CtS B w (l ++ ys) v' W' :=
  ⟨ho, h.b.trans (gb_to_below hg h.z (fun k hk => (h.o.lt k hk).1)), Nat.le_trans h.z hg.size⟩
/-- The tokens so far, through the three words. -/
def cW (x : Command) (k : Nat) : List Token := if k = 0 then cT4 x else if k = 1 then cT5 x else if k = 2 then cT6 x else cT7 x
def cWords (x : Command) : List ByteArray := [⟨(opText x.op).toArray⟩, x.box, x.dest]
theorem opText_some {n : Int} (h : n = 0 ∨ inR n 1 3 = true) : decide ((⟨(opText n).toArray⟩ : ByteArray) = emptyB) = !decide (0 < n) := by
  have hc : n = 0 ∨ n = 1 ∨ n = 2 ∨ n = 3 := by
    rcases h with h | h
    · exact .inl h
    · unfold inR at h; simp at h; omega
  rcases hc with rfl | rfl | rfl | rfl <;> decide
theorem cW_succ {x : Command} (hok : commandOk x = true) {k : Nat} {z : ByteArray} (h : (cWords x)[k]? = some z) : cW x (k + 1) = cW x k ++ opt (!decide (z = emptyB)) [tkB z] := by
  have hk : k < 3 := (List.getElem?_eq_some_iff.1 h).1
  have hc : k = 0 ∨ k = 1 ∨ k = 2 := by omega
  rcases hc with rfl | rfl | rfl
  · obtain rfl : (⟨(opText x.op).toArray⟩ : ByteArray) = z := by simpa [cWords] using h
    rw [opText_some (commandOk_op hok), Bool.not_not]
    rfl
  · obtain rfl : x.box = z := by simpa [cWords] using h
    rfl
  · obtain rfl : x.dest = z := by simpa [cWords] using h
    rfl
theorem cW_len (x : Command) (k : Nat) : (cW x k).length ≤ 7 := by
  have h := cT_len x
  unfold cW
  split
  · omega
  · split
    · omega
    · split <;> omega

theorem impl_flagWordsH (w : World) :
    Calls Tryz.prog 38 #[] w fun e w' => (∃ g, e = .returned (.slice (some ⟨g, 0, none⟩) 5 5) ∧ Holds w' g (flagList.map fun (l : Str) => Value.string ⟨l.toArray⟩)) ∧ Below w.heap.size w w' :=
  (impl_flagWords w).mono (by
    rintro e w' ⟨rfl, rfl⟩
    exact ⟨⟨_, rfl, Holds.new w (flagList.map fun (l : Str) => Value.string ⟨l.toArray⟩) 9⟩, (Below.refl _ _).alloc (Nat.le_refl _) _⟩)
set_option maxHeartbeats 12800000 in
set_option maxRecDepth 20000 in
theorem impl_CommandTokens (x : Command) (h : CHd) (w : World) (i : CommandIs w x h) (f : x.Fit) (hml : ML w) (htab : Lib.TabIs Tryz.prog w "internal/strconv.uint64pow10" .u64 Lib.pow10Tab) :
    Calls Tryz.prog 8 #[.agg #[.string x.tag, .int .i64 x.kind, .string x.box, .string x.dest, .bool x.uid, .slice h.s.A h.s.n h.s.c, .int .i64 x.op, .int .i64 x.flags, .string x.text, .bool x.filter.on, .slice h.f.A h.f.n h.f.c]] w (RetOwn encToken 2 48 w (commandT x)) := by
  obtain ⟨⟨A, n, c⟩, hf⟩ := h
  obtain ⟨R, hR⟩ : ∃ R, commandT x = R := ⟨_, rfl⟩
  have HR := Lib.hid hR
  obtain rfl : n = x.set.length := i.2.1.1.symm
  rw [hR]
  clear hR
  simp only []
  have nB : Below w.heap.size w (w.alloc (.cells #[.string x.tag, .int .i64 x.kind, .string x.box, .string x.dest, .bool x.uid, .slice A x.set.length c, .int .i64 x.op, .int .i64 x.flags, .string x.text, .bool x.filter.on, .slice hf.A hf.n hf.c] 36)) := by go_grown
  have nP : Holds (w.alloc (.cells #[.string x.tag, .int .i64 x.kind, .string x.box, .string x.dest, .bool x.uid, .slice A x.set.length c, .int .i64 x.op, .int .i64 x.flags, .string x.text, .bool x.filter.on, .slice hf.A hf.n hf.c] 36)) w.heap.size [.string x.tag, .int .i64 x.kind, .string x.box, .string x.dest, .bool x.uid, .slice A x.set.length c, .int .i64 x.op, .int .i64 x.flags, .string x.text, .bool x.filter.on, .slice hf.A hf.n hf.c] := Holds.new w _ _
  have nI := i.below nB
  have nM := hml.below nB
  have nT := tab_below htab nB
  clear i hml htab
  go_enter Tryz.func8, Tryz.ntmps8
  have p0 := nP.2 0 (.string x.tag) rfl
  have p1 := nP.2 1 (.int .i64 x.kind) rfl
  have p2 := nP.2 2 (.string x.box) rfl
  have p3 := nP.2 3 (.string x.dest) rfl
  have p4 := nP.2 4 (.bool x.uid) rfl
  have p5 := nP.2 5 (.slice A x.set.length c) rfl
  have p6 := nP.2 6 (.int .i64 x.op) rfl
  have p7 := nP.2 7 (.int .i64 x.flags) rfl
  have p8 := nP.2 8 (.string x.text) rfl
  have p9 := nP.2 9 (.bool x.filter.on) rfl
  have p10 := nP.2 10 (.slice hf.A hf.n hf.c) rfl
  go_wp2_with fail
  generalize (w.alloc (.cells #[.string x.tag, .int .i64 x.kind, .string x.box, .string x.dest, .bool x.uid, .slice A x.set.length c, .int .i64 x.op, .int .i64 x.flags, .string x.text, .bool x.filter.on, .slice hf.A hf.n hf.c] 36)) = w1 at *
  refine (impl_CommandOk x ⟨⟨A, x.set.length, c⟩, hf⟩ w1 nI f nM).mono ?_
  rintro e w2 ⟨rfl, hb⟩
  have HB := Lib.hid nB
  have HP := Lib.hid nP
  have HI := Lib.hid nI
  have HM := Lib.hid nM
  have HT := Lib.hid nT
  have HF := Lib.hid f
  have HB2 := Lib.hid hb
  have hz1 : w.heap.size ≤ w1.heap.size := nB.size
  have hz2 : w1.heap.size ≤ w2.heap.size := hb.size
  clear nB nP nI nM nT f hb p0 p1 p2 p3 p4 p5 p6 p7 p8 p9 p10
  cases hok : commandOk x
  · have HN := Lib.hid (commandT_no hok)
    clear hok
    go_wp2
    go_ret
    have e : R = [] := by rw [← HR.out, HN.out]
    subst e
    exact ⟨none, 0, rfl, ⟨rfl, .inl ⟨rfl, rfl⟩⟩, HB.out.trans (HB2.out.mono hz1)⟩
  have HOK := Lib.hid hok
  have CL := cT_len x
  have HRR := Lib.hid (show R = cT10 x by rw [← HR.out, commandT_ok hok])
  clear hok
  have p0 := (HP.out.below HB2.out).2 0 (.string x.tag) rfl
  go_wp2_with fail
  refine (impl_atom x.tag _).mono ?_
  rintro e w3 ⟨rfl, hb3⟩
  have HC1 := Lib.hid (show CtS w1.heap.size w1 (cT1 x) (.slice (some ⟨w3.heap.size, 0, none⟩) 1 1) (w3.alloc (.cells #[.int .i64 1, .string x.tag] 48)) from
    ⟨own_lit_at (size := 2) w3 #[.int .i64 1, .string x.tag] 1 rfl (by have := hb3.size; omega) (by unfold maxLen; omega) rfl, (HB2.out.trans (hb3.mono hz2)).alloc (by have := hb3.size; omega) _, by have := hb3.size; simp; omega⟩)
  clear hb3 p0
  go_upto_region 4 with fail
  generalize w3.alloc (.cells #[.int .i64 1, .string x.tag] 48) = wa at *
  obtain ⟨U, hU⟩ : ∃ U, x.uid = U := ⟨_, rfl⟩
  have p4 := (HP.out.below HC1.out.b).2 4 (.bool x.uid) rfl
  rw [hU] at p4
  have HU := Lib.hid hU
  clear hU
  go_upto_if 14 with fail
  clear p4
  go_cut [3] from 6 (fun s3 wc => CtS w1.heap.size w1 (cT2 x) s3 wc)
  case first =>
    cases U
    · have E2 := Lib.hid (show cT2 x = cT1 x by unfold cT2; rw [opt_no HU.out, List.append_nil])
      go_wp2
      go_meet
      case rel => exact E2.out ▸ HC1.out
    · have E2 := Lib.hid (show cT2 x = cT1 x ++ [tkA [117, 105, 100]] by unfold cT2; rw [opt_yes HU.out])
      go_wp2_with fail
      refine (impl_atom ⟨#[117, 105, 100]⟩ _).mono ?_
      rintro e wc1 ⟨rfl, hbc⟩
      have hrc := Lib.hid (Rd.new (enc := encToken) (k := 2) (fun _ => rfl) wc1 #[.int .i64 1, .string ⟨#[117, 105, 100]⟩] 48 (n := 1) [tkA [117, 105, 100]] (by rfl) rfl)
      have HFa := Lib.hid ((HC1.out.below hbc).below ((Below.refl wc1.heap.size wc1).alloc (Nat.le_refl _) (.cells #[.int .i64 1, .string ⟨#[117, 105, 100]⟩] 48)))
      clear hbc
      go_wp2_with (at_builtin; refine wpList_appN (enc := encToken) (k := 2) (fun _ => rfl) (fun _ u hu => by simp at hu; rcases hu with rfl | rfl <;> rfl) (by omega) rfl _ _ 29 48 rfl (.agg #[.int .i64 0, .string ByteArray.empty]) 24 Tryz.underlying29 (by kernel_rfl) rfl w1.heap.size _ (cT1 x) rfl HFa.out.o _ _ _ _ rfl hrc.out (by have := CL; (try simp only [List.length_append, List.length_singleton]); omega) (by omega) HFa.out.z ?_; intro vn wn hownd hgd)
      have HC2 := Lib.hid (HFa.out.app hownd hgd)
      clear hownd hgd HFa hrc
      go_meet
      case rel => exact E2.out ▸ HC2.out
  case rest =>
  have HC2 := Lib.hid hcut
  clear hcut HC1
  have p1 := (HP.out.below HC2.out.b).2 1 (.int .i64 x.kind) rfl
  obtain ⟨Z, hZ⟩ : ∃ Z : ByteArray, (⟨(kindWord x.kind).toArray⟩ : ByteArray) = Z := ⟨_, rfl⟩
  have HZ := Lib.hid hZ
  clear hZ
  go_wp2_with fail
  refine (impl_KindWord x.kind _).mono ?_
  rw [HZ.out]
  rintro e wk ⟨rfl, hbk⟩
  have HC2b := Lib.hid (HC2.out.below hbk)
  clear hbk p1
  go_wp2_with fail
  refine (impl_atom Z _).mono ?_
  rintro e wc3 ⟨rfl, hbc⟩
  have hrc := Lib.hid (Rd.new (enc := encToken) (k := 2) (fun _ => rfl) wc3 #[.int .i64 1, .string Z] 48 (n := 1) [tkA (kindWord x.kind)] (by rw [← HZ.out]; rfl) rfl)
  have HFa := Lib.hid ((HC2b.out.below hbc).below ((Below.refl wc3.heap.size wc3).alloc (Nat.le_refl _) (.cells #[.int .i64 1, .string Z] 48)))
  clear hbc
  go_upto_region 7 with (at_builtin; refine wpList_appN (enc := encToken) (k := 2) (fun _ => rfl) (fun _ u hu => by simp at hu; rcases hu with rfl | rfl <;> rfl) (by omega) rfl _ _ 29 48 rfl (.agg #[.int .i64 0, .string ByteArray.empty]) 24 Tryz.underlying29 (by kernel_rfl) rfl w1.heap.size _ (cT2 x) rfl HFa.out.o _ _ _ _ rfl hrc.out (by have := CL; (try simp only [List.length_append, List.length_singleton]); omega) (by omega) HFa.out.z ?_; intro vn wn hownd hgd)
  have HC3 := Lib.hid (HFa.out.app hownd hgd)
  clear hownd hgd HFa hrc
  have p5 := (HP.out.below HC3.out.b).2 5 (.slice A x.set.length c) rfl
  go_upto_if 29 with fail
  clear p5
  go_cut [3] from 6 (fun s3 wc => CtS w1.heap.size w1 (cT4 x) s3 wc)
  case first =>
    by_cases hs : 0 < x.set.length
    · have hsi : (0 : Int) < (x.set.length : Int) := by omega
      have E4 := Lib.hid (show cT4 x = (cT2 x ++ [tkA (kindWord x.kind)]) ++ [tkA (setText x.set)] by unfold cT4 cT3; rw [opt_yes (decide_eq_true hs)])
      have p5 := (HP.out.below HC3.out.b).2 5 (.slice A x.set.length c) rfl
      obtain ⟨Y, hY⟩ : ∃ Y : ByteArray, (⟨(setText x.set).toArray⟩ : ByteArray) = Y := ⟨_, rfl⟩
      have HY := Lib.hid hY
      clear hY
      go_wp2_with fail
      refine (impl_SetText A x.set.length c x.set _ HF.out.2.1 (HI.out.2.1.below HC3.out.b) (tab_below HT.out HC3.out.b)).mono ?_
      rw [HY.out]
      rintro e wk ⟨rfl, hbk⟩
      have HC3b := Lib.hid (HC3.out.below hbk)
      clear hbk p5
      go_wp2_with fail
      refine (impl_atom Y _).mono ?_
      rintro e wc4 ⟨rfl, hbc⟩
      have hrc := Lib.hid (Rd.new (enc := encToken) (k := 2) (fun _ => rfl) wc4 #[.int .i64 1, .string Y] 48 (n := 1) [tkA (setText x.set)] (by rw [← HY.out]; rfl) rfl)
      have HFa := Lib.hid ((HC3b.out.below hbc).below ((Below.refl wc4.heap.size wc4).alloc (Nat.le_refl _) (.cells #[.int .i64 1, .string Y] 48)))
      clear hbc
      go_wp2_with (at_builtin; refine wpList_appN (enc := encToken) (k := 2) (fun _ => rfl) (fun _ u hu => by simp at hu; rcases hu with rfl | rfl <;> rfl) (by omega) rfl _ _ 29 48 rfl (.agg #[.int .i64 0, .string ByteArray.empty]) 24 Tryz.underlying29 (by kernel_rfl) rfl w1.heap.size _ (cT2 x ++ [tkA (kindWord x.kind)]) rfl HFa.out.o _ _ _ _ rfl hrc.out (by have := CL; (try simp only [List.length_append, List.length_singleton]); omega) (by omega) HFa.out.z ?_; intro vn wn hownd hgd)
      have HC4 := Lib.hid (HFa.out.app hownd hgd)
      clear hownd hgd HFa hrc
      go_meet
      case rel => exact E4.out ▸ HC4.out
    · have hsi : ¬ (0 : Int) < (x.set.length : Int) := by omega
      have E4 := Lib.hid (show cT4 x = cT2 x ++ [tkA (kindWord x.kind)] by unfold cT4 cT3; rw [opt_no (decide_eq_false hs), List.append_nil])
      go_wp2
      go_meet
      case rel => exact E4.out ▸ HC3.out
  case rest =>
  have HC4 := Lib.hid hcut
  clear hcut HC3 HC2 HC2b HZ HU
  obtain ⟨O, hO⟩ : ∃ O : ByteArray, (⟨(opText x.op).toArray⟩ : ByteArray) = O := ⟨_, rfl⟩
  have HO := Lib.hid hO
  clear hO
  go_upto_region 9 with fail
  have hS : wc.cell? ⟨w.heap.size, 6, none⟩ = some (.int .i64 x.op) ∧ wc.cell? ⟨w.heap.size, 2, none⟩ = some (.string x.box) ∧ wc.cell? ⟨w.heap.size, 3, none⟩ = some (.string x.dest) := ⟨(HP.out.below HC4.out.b).2 6 _ rfl, (HP.out.below HC4.out.b).2 2 _ rfl, (HP.out.below HC4.out.b).2 3 _ rfl⟩
  have hSA : ∀ o : Obj, (wc.drew.alloc o).cell? ⟨w.heap.size, 6, none⟩ = some (.int .i64 x.op) ∧ (wc.drew.alloc o).cell? ⟨w.heap.size, 2, none⟩ = some (.string x.box) ∧ (wc.drew.alloc o).cell? ⟨w.heap.size, 3, none⟩ = some (.string x.dest) := fun o => by
    have hb := (Below.refl wc.heap.size wc).drew.alloc (Nat.le_refl _) o
    have hp := (HP.out.below HC4.out.b).below hb
    exact ⟨hp.2 6 _ rfl, hp.2 2 _ rfl, hp.2 3 _ rfl⟩
  have HSA := Lib.hid hSA
  clear hSA
  go_region_held3 (fun w' => w'.cell? ⟨w.heap.size, 6, none⟩ = some (.int .i64 x.op) ∧ w'.cell? ⟨w.heap.size, 2, none⟩ = some (.string x.box) ∧ w'.cell? ⟨w.heap.size, 3, none⟩ = some (.string x.dest)) (first | exact hS | exact HSA.out _ | assumption)
    ((go_at_call 34; refine (impl_OpText x.op _).mono ?_; rw [HO.out]; rintro e w7 ⟨rfl, rfl⟩))
  clear hS HSA
  have hrow : (wc.drew.alloc (.cells #[.string O, .string x.box, .string x.dest] 9)).ownsRow w1.heap.size 9 1 (.slice (some ⟨wc.heap.size, 0, none⟩) 3 3) 3 ((cWords x).flatMap encS) := by
    have h0 := own_lit_at (base := w1.heap.size) (e := 9) (size := 1) wc.drew #[.string O, .string x.box, .string x.dest] 3 rfl HC4.out.z (by unfold maxLen; omega) rfl
    rw [← HO.out] at h0 ⊢
    exact h0
  have HC4b := Lib.hid (HC4.out.below ((Below.refl wc.heap.size wc).drew.alloc (Nat.le_refl _) (.cells #[.string O, .string x.box, .string x.dest] 9)))
  go_wp2_with fail
  replace hrow : (wc.alloc (.cells #[.string O, .string x.box, .string x.dest] 9)).drew.ownsRow w1.heap.size 9 1 (.slice (some ⟨wc.heap.size, 0, none⟩) 3 3) 3 ((cWords x).flatMap encS) := hrow
  replace HC4b := Lib.hid (show CtS w1.heap.size w1 (cT4 x) _ (wc.alloc (.cells #[.string O, .string x.box, .string x.dest] 9)).drew from HC4b.out)
  generalize (wc.alloc (.cells #[.string O, .string x.box, .string x.dest] 9)).drew = wd at *
  generalize wc.heap.size = X at *
  go_loopw [3, 46] (fun o i wr => ∃ k : Nat, k ≤ 3 ∧ i = .int .i64 k ∧ CtS w1.heap.size w1 (cW x k) o wr ∧ wr.ownsRow w1.heap.size 9 1 (.slice (some ⟨X, 0, none⟩) 3 3) 3 ((cWords x).flatMap encS)) (fun _ i _ => 3 - (intOf i).toNat)
  case atStart => exact ⟨0, by omega, rfl, HC4b.out, hrow⟩
  case round =>
    obtain ⟨k, hk, rfl, hct, hrw⟩ := hrel
    clear hrow HC4b
    have HCk := Lib.hid hct
    by_cases hlt : k < 3
    · have hki : (k : Int) < 3 := by omega
      have hk0 : (0 : Int) ≤ (k : Int) := by omega
      obtain ⟨z, hz⟩ : ∃ z, (cWords x)[k]? = some z := ⟨_, List.getElem?_eq_getElem (show k < (cWords x).length from hlt)⟩
      have gz : wr.cell? ⟨X, k, none⟩ = some (.string z) := by
        have h0 := flat_get (enc := encS) (k := 1) (fun _ => rfl) (cWords x) k 0 z _ hz rfl
        have h1 := (hrw.cellAt (k * 1) (by omega)).trans h0
        simpa using h1
      have HS := Lib.hid (cW_succ HOK.out hz)
      have HRW := Lib.hid hrw
      have CW := cW_len x k
      clear hct hrw hz
      by_cases he : z = emptyB
      · subst he
        have E := Lib.hid (show cW x (k + 1) = cW x k by rw [HS.out, opt_no (by simp), List.append_nil])
        unfold emptyB at gz
        go_wp2
        go_roundw
        case rel => exact ⟨k + 1, by omega, by go_num, E.out ▸ HCk.out, HRW.out⟩
        case measure => simp [intOf]; omega
      · have E := Lib.hid (show cW x (k + 1) = cW x k ++ [tkB z] by rw [HS.out, opt_yes (by simpa using he)])
        have he1 : (z.toList == ByteArray.toList ⟨#[]⟩) = false := by rw [ba_beq]; exact decide_eq_false he
        have he2 : z.toList.isEmpty = false := by rw [ba_empty]; exact decide_eq_false he
        have he3 : ¬ z = ⟨#[]⟩ := he
        clear he HS
        go_wp2_with fail
        refine (impl_atom z _).mono ?_
        rintro e wc5 ⟨rfl, hbc⟩
        have hrc := Lib.hid (Rd.new (enc := encToken) (k := 2) (fun _ => rfl) wc5 #[.int .i64 1, .string z] 48 (n := 1) [tkB z] rfl rfl)
        have HFa := Lib.hid ((HCk.out.below hbc).below ((Below.refl wc5.heap.size wc5).alloc (Nat.le_refl _) (.cells #[.int .i64 1, .string z] 48)))
        have HRa := Lib.hid ((own_below HRW.out hbc).alloc (.cells #[.int .i64 1, .string z] 48))
        clear hbc
        go_wp2_with (at_builtin; refine wpList_appN (enc := encToken) (k := 2) (fun _ => rfl) (fun _ u hu => by simp at hu; rcases hu with rfl | rfl <;> rfl) (by omega) rfl _ _ 29 48 rfl (.agg #[.int .i64 0, .string ByteArray.empty]) 24 Tryz.underlying29 (by kernel_rfl) rfl w1.heap.size _ (cW x k) rfl HFa.out.o _ _ _ _ rfl hrc.out (by omega) (by omega) HFa.out.z ?_; intro vn wn hownd hgd)
        have HCn := Lib.hid (HFa.out.app hownd hgd)
        have HRn := Lib.hid (own_kind_kept HRa.out HFa.out.o (by decide) hgd)
        clear hownd hgd HFa hrc HRa
        go_roundw
        case rel => exact ⟨k + 1, by omega, by go_num, E.out ▸ HCn.out, HRn.out⟩
        case measure => simp [intOf]; omega
    · have hki : ¬ (k : Int) < 3 := by omega
      obtain rfl : k = 3 := by omega
      have HC7 := Lib.hid (show CtS w1.heap.size w1 (cT7 x) u3 wr from HCk.out)
      clear hct hrw HCk
      go_upto_region 15 with fail
      have p1 := (HP.out.below HC7.out.b).2 1 (.int .i64 x.kind) rfl
      obtain ⟨F, hF⟩ : ∃ F, flagsK x.kind = F := ⟨_, rfl⟩
      have HFK := Lib.hid hF
      clear hF
      go_upto_if 60 with (go_at_call 35; refine (impl_usesFlags x.kind _).mono ?_; rw [HFK.out]; rintro e wu ⟨rfl, hbu⟩)
      have HC7b := Lib.hid (HC7.out.below hbu)
      clear hbu p1 HC7
      go_cut [3] from 58 (fun s3 wc => CtS w1.heap.size w1 (cT8 x) s3 wc)
      case first =>
        cases F
        · have E8 := Lib.hid (show cT8 x = cT7 x by unfold cT8; rw [opt_no HFK.out, List.append_nil])
          go_wp2
          go_meet
          case rel => exact E8.out ▸ HC7b.out
        · obtain ⟨E, hE⟩ : ∃ E, selTo x.flags flagList 5 = E := ⟨_, rfl⟩
          have E8 := Lib.hid (show cT8 x = cT7 x ++ groupT E by unfold cT8; rw [opt_yes HFK.out, hE])
          have hEl : E.length ≤ 5 := by rw [← hE]; exact selTo_len _ _ _
          have HE := Lib.hid hE
          clear hE
          go_wp2_with fail
          have HF8d := Lib.hid (HC7b.out.below (Below.refl _ wu).drew)
          have s8d : wu.drew.cell? ⟨w.heap.size, 7, none⟩ = some (.int .i64 x.flags) := (HP.out.below HC7b.out.b).2 7 _ rfl
          go_region_law (first
            | (refine step_appG (enc := encToken) (k := 2) (fun _ => rfl) (fun _ u hu => by simp at hu; rcases hu with rfl | rfl <;> rfl) (by omega) rfl (.tmp 61) (.tmp 66) 29 48 rfl (.agg #[.int .i64 0, .string ByteArray.empty]) 24 Tryz.underlying29 (by kernel_rfl) rfl w1.heap.size u3 (cT7 x) (by simp [Act.eval, Act.put]) hf11.o A11 _ c11 (groupT E) (by simp [Act.eval, Act.put]) hr11 (by rw [groupT_len]; omega) (by omega) hf11.z ?_; intro v12 w12 hown12 hg12 _
               have HF12 := Lib.hid (hf11.app hown12 hg12); clear hown12 hg12 hf11 hr11 hb11)
            | (refine step_call rfl 36 #[.tmp 65] _ rfl (enters_of Tryz.func36 (by kernel_rfl) rfl) #[.slice A10 E.length c10] (by simp [Act.eval, Act.put]) (impl_group A10 E.length c10 E _ (by omega) hr10) ?_; rintro e w11 ⟨A11, c11, rfl, ho11, hb11⟩; refine ⟨_, rfl, ?_⟩; have hf11 := hf10.below hb11; have hr11 := Rd.of_own (enc := encToken) (k := 2) (fun _ => rfl) ho11 rfl; clear hf10 hr10 ho11)
            | (refine step_call rfl 37 #[.tmp 62, .tmp 64] _ rfl (enters_of Tryz.func37 (by kernel_rfl) rfl) #[.slice (some ⟨g9, 0, none⟩) 5 5, .int .i64 x.flags] (by simp [Act.eval, Act.put]) (HE.out ▸ impl_namesOf (some ⟨g9, 0, none⟩) 5 5 x.flags flagList _ (by omega) hr9 flagList_fit) ?_; rintro e w10 ⟨A10, c10, rfl, ho10, hb10⟩; refine ⟨_, rfl, ?_⟩; have hf10 := hf9.below hb10; have hr10 := Rd.of_own (enc := encStr) (k := 1) (fun _ => rfl) ho10 rfl; clear hf9 s9 hr9 ho10 hb10)
            | (refine step_call rfl 38 #[] _ rfl (enters_of Tryz.func38 (by kernel_rfl) rfl) #[] (by simp [Act.eval, Act.put]) (impl_flagWordsH _) ?_; rintro e w9 ⟨⟨g9, rfl, hh9⟩, hb9⟩; refine ⟨_, rfl, ?_⟩; have hf9 := HF8d.out.below hb9; have s9 := (HP.out.below hf9.b).2 7 (.int .i64 x.flags) rfl; have hr9 := words_rd (n := 5) hh9 rfl; clear hh9 hb9))
          all_goals
            clear s8d HF8d
            go_wp2_with fail
            go_meet
            case rel => exact E8.out ▸ HF12.out
      case rest =>
      have HC8 := Lib.hid hcut
      clear hcut HC7b HFK
      have p1 := (HP.out.below HC8.out.b).2 1 (.int .i64 x.kind) rfl
      have p8 := (HP.out.below HC8.out.b).2 8 (.string x.text) rfl
      have p9 := (HP.out.below HC8.out.b).2 9 (.bool x.filter.on) rfl
      have p10 := (HP.out.below HC8.out.b).2 10 (.slice hf.A hf.n hf.c) rfl
      by_cases hk11 : x.kind = 11
      · have E := Lib.hid (show R = cT8 x ++ [(⟨2, x.text⟩ : Token)] by rw [HRR.out]; unfold cT10 cT9; rw [opt_yes (by rw [hk11]; rfl), opt_no (by rw [hk11]; rfl), List.append_nil])
        have hrc := Lib.hid (Rd.new (enc := encToken) (k := 2) (fun _ => rfl) wc #[.int .i64 2, .string x.text] 48 (n := 1) [(⟨2, x.text⟩ : Token)] rfl rfl)
        have HFa := Lib.hid (HC8.out.below ((Below.refl wc.heap.size wc).alloc (Nat.le_refl _) (.cells #[.int .i64 2, .string x.text] 48)))
        go_wp2_with (at_builtin; refine wpList_appN (enc := encToken) (k := 2) (fun _ => rfl) (fun _ u hu => by simp at hu; rcases hu with rfl | rfl <;> rfl) (by omega) rfl _ _ 29 48 rfl (.agg #[.int .i64 0, .string ByteArray.empty]) 24 Tryz.underlying29 (by kernel_rfl) rfl w1.heap.size _ (cT8 x) rfl HFa.out.o _ _ _ _ rfl hrc.out (by have := CL; omega) (by omega) HFa.out.z ?_; intro vn wn hownd hgd)
        have hct := HFa.out.app hownd hgd
        go_ret
        rw [E.out]
        exact retOwn_mk (own_mono hct.o hz1) (HB.out.trans (hct.b.mono hz1))
      by_cases hk6 : x.kind = 6
      · have E := Lib.hid (show R = cT8 x ++ filterT x.filter by rw [HRR.out]; unfold cT10 cT9; rw [opt_no (by rw [hk6]; rfl), opt_yes (by rw [hk6]; rfl), List.append_nil])
        have hfl := filterT_len x.filter
        go_wp2_with fail
        refine (impl_FilterTokens x.filter hf wc (HI.out.2.2.2.below HC8.out.b) HF.out.2.2 (HM.out.below HC8.out.b)).mono ?_
        rintro e wf ⟨Af, cf, rfl, hof, hbf⟩
        have HFa := Lib.hid (HC8.out.below hbf)
        have hrf := Lib.hid (Rd.of_own (enc := encToken) (k := 2) (fun _ => rfl) hof rfl)
        clear hof hbf
        go_wp2_with (at_builtin; refine wpList_appN (enc := encToken) (k := 2) (fun _ => rfl) (fun _ u hu => by simp at hu; rcases hu with rfl | rfl <;> rfl) (by omega) rfl _ _ 29 48 rfl (.agg #[.int .i64 0, .string ByteArray.empty]) 24 Tryz.underlying29 (by kernel_rfl) rfl w1.heap.size _ (cT8 x) rfl HFa.out.o _ _ _ _ rfl hrf.out (by have := CL; omega) (by omega) HFa.out.z ?_; intro vn wn hownd hgd)
        have hct := HFa.out.app hownd hgd
        go_ret
        rw [E.out]
        exact retOwn_mk (own_mono hct.o hz1) (HB.out.trans (hct.b.mono hz1))
      · have E := Lib.hid (show R = cT8 x by rw [HRR.out]; unfold cT10 cT9; rw [opt_no (beq_eq_false_iff_ne.2 hk11), opt_no (beq_eq_false_iff_ne.2 hk6), List.append_nil, List.append_nil])
        go_wp2
        go_ret
        rw [E.out]
        exact retOwn_mk (own_mono HC8.out.o hz1) (HB.out.trans (HC8.out.b.mono hz1))

end Go.Proofs.YtjpkceimokkpgaaGreatDoor
