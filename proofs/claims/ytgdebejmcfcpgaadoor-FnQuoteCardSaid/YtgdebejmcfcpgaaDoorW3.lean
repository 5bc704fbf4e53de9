/-
  Walks: what each function returns, and that it leaves what lay in memory as it was.
-/
import Derived.Test.YtgdebejmcfcpgaaDoorProg
import Derived.Test.YtgdebejmcfcpgaaDoorPlain
import Derived.Test.YtgdebejmcfcpgaaDoorBase2
import Derived.Test.YtgdebejmcfcpgaaDoorOpen2
import Derived.Test.YtgdebejmcfcpgaaDoorShelf
import Derived.WalkKit
import Derived.WalkSpells
import Derived.WalkLawsBesides
import Derived.Lib.Hide
import Derived.Deep.LoopGhost
import Derived.Deep.QuietTactic
import Derived.BigQuiet
import Derived.Handy
import Derived.Deep.RegionHeld3
import Derived.StillTailTactics
import Derived.OpenShut
import Derived.ChangeSame
import Derived.Laws.StructEq

import Derived.Test.YtgdebejmcfcpgaaDoorPlainT

import Derived.Test.YtgdebejmcfcpgaaDoorW1

import Derived.Test.YtgdebejmcfcpgaaDoorW2

namespace Go.Proofs.YtgdebejmcfcpgaaDoor
open Go.ChangeShapes Go.WideShapes Go.ChangeAt Go.RowKit Go.Deep
set_option linter.unusedVariables false
set_option linter.unusedSimpArgs false

set_option maxHeartbeats 1600000 in
set_option maxRecDepth 20000 in
theorem spec_l1Bytes (m : Nat) (w0 : World) (g : Nat) (w : World) (hc : Cur w0 g w) (hm : m ≤ 1000) :
    Calls Tryd.prog 33 #[.pointer (some ⟨g, 0, none⟩), .int .i64 m] w fun e w' => (∃ (A : Option Addr) (c : Nat) (l : Str), l.length = m ∧ e = .returned (.slice A l.length c) ∧ w'.ownsRow w.heap.size 5 1 (.slice A l.length c) l.length (l.flatMap encB)) ∧ Cur w0 g w' ∧ w.grownBy w' (some g) := by
  have hnew := World.ownsRow_made (base := w.heap.size) (e := 5) (size := 1) w #[] 0 (Nat.le_refl _) (by unfold maxLen; omega) rfl
  have HC := Lib.hid hc
  have hgl := hc.lt
  clear hc
  go_enter Tryd.func33, Tryd.ntmps33
  go_wp2_with fail
  go_loopw [5, 6] (fun o i wr => ∃ (k : Nat) (l : Str), k ≤ m ∧ i = .int .i64 k ∧ l.length = k ∧ wr.ownsRow w.heap.size 5 1 o l.length (l.flatMap encB) ∧ Cur w0 g wr ∧ w.grownBy wr (some g)) (fun _ i _ => m - (intOf i).toNat)
  case atStart => exact ⟨0, [], by omega, rfl, rfl, hnew, HC.out.below (by go_grown), gb_below _ (by go_grown)⟩
  case round =>
    obtain ⟨k, l, hk, rfl, hl, ho, hc, hg⟩ := hrel
    have HO := Lib.hid ho
    have HCC := Lib.hid hc
    have HG := Lib.hid hg
    clear ho hc hg hnew
    by_cases hlt : k < m
    · go_wp2_with fail
      refine (spec_l1Byte w0 g wr HCC.out).mono ?_
      rintro e w1 ⟨⟨x, hx, rfl⟩, hc1, hg1⟩
      have hbw := byte_wrap x hx
      have ho1 := HO.out.kept hg1 (by
        rcases HO.out.2 with ⟨rfl, _⟩ | ⟨g', cap, cur, rfl, hg', _⟩
        · exact .inl rfl
        · refine .inr fun e => ?_
          have e2 : g' = g := by injection e
          omega)
      have hown2 := ho1.alloc (.cells #[.int .u8 ((UInt8.ofNat x).toNat : Int)] 5)
      have hrd := Rd.new (enc := encB) (k := 1) (fun _ => rfl) w1 #[.int .u8 ((UInt8.ofNat x).toNat : Int)] 5 (n := 1) [UInt8.ofNat x] (by rfl) rfl
      have HC2 := Lib.hid (hc1.below ((Below.refl _ _).alloc (Nat.le_refl _) (.cells #[.int .u8 ((UInt8.ofNat x).toNat : Int)] 5)))
      have HG2 := Lib.hid (gb_trans HG.out (gb_trans hg1 (gb_below _ ((Below.refl _ _).alloc (Nat.le_refl _) (.cells #[.int .u8 ((UInt8.ofNat x).toNat : Int)] 5)))))
      have Hown2 := Lib.hid hown2
      have Hrd := Lib.hid hrd
      have HZ := Lib.hid (Nat.le_trans HG.out.size hg1.size)
      clear ho1 hown2 hrd hc1 hg1
      go_wp2_with (at_builtin; refine wpList_app (enc := encB) (k := 1) (fun _ => rfl) (fun _ u hu => by simp at hu; subst hu; rfl) (by omega) rfl _ _ 22 5 rfl (.int .u8 0) 1 Tryd.underlying22 (by kernel_rfl) rfl w.heap.size _ l rfl Hown2.out _ _ _ _ rfl Hrd.out (by omega) (by omega) (by have := HZ.out; simp; omega) ?_; intro v' w' hown' hbel')
      go_roundw
      case rel => exact ⟨k + 1, l ++ [UInt8.ofNat x], by omega, by go_num, by simp; omega, hown', HC2.out.belowB hbel' (by omega), gb_belowB HG2.out hbel' (Nat.le_refl _)⟩
      case measure => simp [intOf]; omega
    · have hke : k = m := by omega
      subst hke
      go_wp2_with fail
      go_ret
      rcases own_form HO.out with ⟨A, c, rfl⟩
      exact ⟨⟨A, c, l, hl, rfl, HO.out⟩, HCC.out, HG.out⟩

theorem ba_size_app (a b : ByteArray) : (a ++ b).size = a.size + b.size := by simp
theorem ba_size_ext (a : ByteArray) (i j : Nat) : (a.extract i j).size ≤ a.size := by simp; omega
set_option maxHeartbeats 1600000 in
set_option maxRecDepth 20000 in
theorem spec_l1Turned (s : ByteArray) (b n c : Nat) (w0 : World) (g : Nat) (w : World) (hs : s.size ≤ 1048576) (hc : Cur w0 g w) (hn : n ≤ 1000) (hn0 : 0 < n) (hb : b ≠ g) (vs : List Value) (hv : Holds w b vs) (hl : vs.length = n) (hr : ∀ v ∈ vs, ∃ x : ByteArray, x.size ≤ 100 ∧ v = (.string x : Value)) :
    Calls Tryd.prog 38 #[.pointer (some ⟨g, 0, none⟩), .string s, .slice (some ⟨b, 0, none⟩) n c] w fun e w' => (∃ x : ByteArray, x.size ≤ 2 * s.size + 100 ∧ e = .returned (.string x)) ∧ Cur w0 g w' ∧ w.grownBy w' (some g) := by
  have C1 := Lib.hid (spec_l1Below ((s.size : Int) + 1) w0 g w hc (by omega) (by omega))
  have hbs := hv.1
  have HV := Lib.hid hv
  have HR := Lib.hid hr
  have HL := Lib.hid hl
  clear hc hv hr hl
  go_enter Tryd.func38, Tryd.ntmps38
  go_wp2_with fail
  refine C1.out.mono ?_
  rintro e w1 ⟨⟨at0, hat, _, rfl⟩, hc1, hg1⟩
  have hat' : at0 ≤ s.size := by omega
  clear hat C1
  have HC1 := Lib.hid hc1
  have HG1 := Lib.hid hg1
  clear hc1 hg1
  go_wp2_with fail
  refine (spec_l1Below 6 w0 g _ HC1.out (by omega) (by omega)).mono ?_
  rintro e w2 ⟨⟨m, hm, _, rfl⟩, hc2, hg2⟩
  have HC2 := Lib.hid hc2
  have HG2 := Lib.hid (gb_trans HG1.out hg2)
  have HV2 := Lib.hid (show Holds w2 b vs from ⟨Nat.lt_of_lt_of_le hbs (Nat.le_trans HG1.out.size hg2.size), fun i v hi => Cur.pick (w0 := w0) hb hg2 (Cur.pick (w0 := w0) hb HG1.out (HV.out.2 i v hi))⟩)
  clear hc2 hg2
  by_cases h0 : m = 0
  · subst h0
    have PK := Lib.hid (fun W (hW : Cur w0 g W) (hV : Holds W b vs) => spec_l1Pick (fun x => x.size ≤ 100) b n c w0 g W hW hn hn0 hb vs hV HL.out HR.out)
    go_wp2_with fail
    go_region_with (go_at_call 48; refine (PK.out _ (HC2.out.below (by go_grown)) (HV2.out.below (by go_grown))).mono ?_; rintro e w3 ⟨⟨x, hx, rfl⟩, hc3, hg3⟩)
    all_goals go_wp2_with fail
    all_goals go_ret
    all_goals refine ⟨⟨_, ?_, rfl⟩, hc3, gb_trans HG2.out (gb_trans (gb_below _ (by go_grown)) hg3)⟩
    all_goals rw [ba_size_app, ba_size_app]
    all_goals have q1 := ba_size_ext s 0 at0
    all_goals have q2 := ba_size_ext s at0 s.size
    all_goals omega
  · by_cases h1 : m = 1
    · subst h1
      go_wp2_with fail
      go_ret
      refine ⟨⟨_, ?_, rfl⟩, HC2.out, HG2.out⟩
      have := ba_size_ext s 0 at0
      omega
    · go_wp2_with fail
      go_ret
      exact ⟨⟨s, by omega, rfl⟩, HC2.out, HG2.out⟩

end Go.Proofs.YtgdebejmcfcpgaaDoor
