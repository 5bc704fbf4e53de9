/-
  Walks: what each function returns, and that it leaves what lay in memory as it was.
-/
import Derived.Test.YtjpkceimokkpgaaGreatDoorProg
import Derived.Test.YtjpkceimokkpgaaGreatDoorPlain
import Derived.Test.YtjpkceimokkpgaaGreatDoorBase2
import Derived.Test.YtjpkceimokkpgaaGreatDoorOpen2
import Derived.Test.YtjpkceimokkpgaaGreatDoorShelf
import Derived.WalkKit
import Derived.WalkSpells
import Derived.WalkLawsBesides
import Derived.Lib.Hide
import Derived.Deep.LoopGhost
import Derived.Deep.QuietTactic
import Derived.BigQuiet
import Derived.Handy
import Derived.Deep.RegionHeld3
import Derived.StillTailTactics
import Derived.OpenShut
import Derived.ChangeSame
import Derived.Laws.StructEq

import Derived.Test.YtjpkceimokkpgaaGreatDoorPlainT

import Derived.Test.YtjpkceimokkpgaaGreatDoorBase3

import Derived.Test.YtjpkceimokkpgaaGreatDoorW1

import Derived.Test.YtjpkceimokkpgaaGreatDoorW3

import Derived.Test.YtjpkceimokkpgaaGreatDoorW5

import Derived.Test.YtjpkceimokkpgaaGreatDoorW19

import Derived.Test.YtjpkceimokkpgaaGreatDoorW30

import Derived.Test.YtjpkceimokkpgaaGreatDoorW31

namespace Go.Proofs.YtjpkceimokkpgaaGreatDoor
open Go.ChangeShapes Go.WideShapes Go.ChangeAt Go.RowKit Go.Deep
set_option linter.unusedVariables false
set_option linter.unusedSimpArgs false

set_option maxRecDepth 20000

set_option maxHeartbeats 800000 in
theorem laws_markText (n : Int) (w : World) (hn : n ≤ 1152921504606846976) :
    Calls Tryz.prog 45 #[.int .i64 n] w fun e w' => e = .returned (.string ⟨(mt n).toArray⟩) ∧ Below w.heap.size w w' := by
  by_cases h0 : n ≤ 0
  · have hm : mt n = [109, 48] := by unfold mt; rw [if_pos h0]
    have HM := Lib.hid hm
    clear hm
    go_enter Tryz.func45, Tryz.ntmps45
    go_wp2
    go_ret
    exact ⟨by rw [HM.out]; rfl, Below.refl _ _⟩
  · obtain ⟨K, rfl⟩ := Int.eq_ofNat_of_zero_le (show 0 ≤ n by omega)
    have hK : 0 < K := by omega
    have hm : mt (K : Int) = 109 :: mtGo K K [] := by unfold mt; rw [if_neg h0, Int.toNat_natCast]
    have HM := Lib.hid hm
    clear hm h0
    go_enter Tryz.func45, Tryz.ntmps45
    go_wp2_with fail
    go_loopw [0, 3] (fun i o wr => ∃ (k : Nat) (l : Str), i = .int .i64 k ∧ o = .string ⟨l.toArray⟩ ∧ l.length + k ≤ K ∧ Hid (mtGo k k l = mtGo K K []) ∧ Below w.heap.size w wr) (fun i _ _ => (intOf i).toNat)
    case atStart => exact ⟨K, [], rfl, rfl, by simp, rfl, Below.refl _ _⟩
    case round =>
      obtain ⟨k, l, rfl, rfl, hl, hg, hW⟩ := hrel
      by_cases hk : 0 < k
      · have hcv := run_ofBytes (P := Tryz.prog) 88 9 5 Tryz.underlying88 Tryz.underlying5 Tryz.underlying9
          (Rd.new (enc := encB) (k := 1) (fun _ => rfl) wr #[.int .u8 (48 + (k : Int) % 10)] 5 (n := 1) [UInt8.ofNat (48 + k % 10)] (by simp [encB]; omega) rfl) 1
        have hstep : mtGo (k / 10) (k / 10) (UInt8.ofNat (48 + k % 10) :: l) = mtGo K K [] := by rw [← hg.out]; exact (mtGo_step k l hk).symm
        have Hstep := Lib.hid hstep
        clear hstep hg
        have hd : k / 10 + 1 ≤ k := by omega
        generalize UInt8.ofNat (48 + k % 10) = c at hcv Hstep
        go_wp2
        go_roundw
        case rel => exact ⟨k / 10, c :: l, by go_num, congrArg Value.string (ByteArray.mk_append_mk [c] l), by simp; omega, Hstep.out, hW.alloc hW.size _⟩
        case measure => simp [intOf]; omega
      · obtain rfl : k = 0 := by omega
        have hfin : l = mtGo K K [] := by rw [← hg.out]; rfl
        have Hfin := Lib.hid hfin
        clear hfin hg hk
        go_wp2
        go_ret
        exact ⟨ret_s (by rw [HM.out, ← Hfin.out]; exact ByteArray.mk_append_mk [109] l), hW⟩
set_option maxHeartbeats 1600000 in
theorem laws_markStringS (A : Option Addr) (n c base : Nat) (k0 : Int) (xs : List Str) (w : World) (hk0 : 0 ≤ k0) (hk1 : k0 + n ≤ 1152921504606846976) (hl : xs.length = n)
    (hown : w.ownsRow base 9 1 (.slice A n c) n (xs.flatMap encStr)) :
    Calls Tryz.prog 113 #[.slice A n c, .int .i64 k0] w fun e w' => e = .returned (.int .i64 (k0 + n)) ∧
      w'.ownsRow base 9 1 (.slice A n c) n ((marks k0 n).flatMap encStr) ∧ w.grownBy w' (Value.slice A n c).ownBlock := by
  have HL := Lib.hid hl
  clear hl
  go_enter Tryz.func113, Tryz.ntmps113
  go_wp2_with fail
  go_loopw [1, 5] (fun m i wr => ∃ j : Nat, j ≤ n ∧ i = .int .i64 j ∧ m = .int .i64 (k0 + j) ∧ wr.ownsRow base 9 1 (.slice A n c) n ((marks k0 j ++ xs.drop j).flatMap encStr) ∧ w.grownBy wr (Value.slice A n c).ownBlock) (fun _ i _ => n - (intOf i).toNat)
  case atStart => exact ⟨0, Nat.zero_le _, rfl, by simp, hown, World.grownBy.refl _ _⟩
  case round =>
    obtain ⟨j, hj, rfl, rfl, ho, hg⟩ := hrel
    clear hown
    by_cases hlt : j < n
    · have hlx : j < xs.length := by rw [HL.out]; exact hlt
      have hA : ∃ g, A = some ⟨g, 0, none⟩ := by
        rcases ho.2 with ⟨hv, h0⟩ | ⟨g, cap, cur, hv, _⟩
        · omega
        · injection hv with hA; exact ⟨g, hA⟩
      obtain ⟨g, rfl⟩ := hA
      have Ho := Lib.hid ho
      have Hg := Lib.hid hg
      clear ho hg
      go_wp2_with fail
      refine (laws_markText _ _ (by omega)).mono ?_
      rintro e w1 ⟨rfl, hb1⟩
      have ho1 := own_below Ho.out hb1
      have hc := ho1.cellAt j (by omega)
      have hc2 : ((marks k0 j ++ xs.drop j).flatMap encStr)[j]? = some (.string ⟨xs[j].toArray⟩) := by
        have := flat_get (enc := encStr) (k := 1) (fun _ => rfl) (marks k0 j ++ xs.drop j) j 0 xs[j] _ (by rw [List.getElem?_append_right (by simp [marks]), marks_len, Nat.sub_self, List.getElem?_drop]; simp [hlx]) rfl
        simpa using this
      rw [hc2] at hc
      have hf := ho1.frozenAt j
      have hst := ho1.stored j (.string ⟨(mt (k0 + j)).toArray⟩)
      have hset : ((marks k0 j ++ xs.drop j).flatMap encStr).set j (.string ⟨(mt (k0 + j)).toArray⟩) = (marks k0 (j + 1) ++ xs.drop (j + 1)).flatMap encStr := by
        rw [flat_setS, marks_set k0 j xs hlx]
      rw [hset] at hst
      have Hst := Lib.hid hst
      have Hb1 := Lib.hid hb1
      clear hst hset hc2 ho1 hb1
      go_wp2
      go_roundw
      case rel => exact ⟨j + 1, by omega, by go_num, by go_num, Hst.out.1, gb_trans Hg.out (gb_trans (gb_below _ Hb1.out) Hst.out.2)⟩
      case measure => simp [intOf]; omega
    · have hke : j = n := by omega
      subst hke
      have hfin : marks k0 j ++ xs.drop j = marks k0 j := by rw [List.drop_eq_nil_of_le (by rw [HL.out]; exact Nat.le_refl _), List.append_nil]
      rw [hfin] at ho
      have Ho := Lib.hid ho
      have Hg := Lib.hid hg
      clear ho hg hfin hlt
      go_wp2
      go_ret
      exact ⟨rfl, Ho.out, Hg.out⟩

theorem laws_eqToken (x : Token) (w : World) :
    Calls Tryz.prog 40 #[.agg #[.int .i64 x.kind, .string x.text], .agg #[.int .i64 x.kind, .string x.text]] w fun e w' => e = .returned (.bool true) ∧ Below w.heap.size w w' := by
  go_enter Tryz.func40, Tryz.ntmps40
  go_wp2
  go_ret
  exact ⟨rfl, by go_grown⟩
set_option maxHeartbeats 1600000 in
set_option maxRecDepth 20000 in
theorem laws_eqTokenS (A1 A2 : Option Addr) (n c1 c2 : Nat) (xs : List Token) (w : World) (hn : n ≤ 4611686018427387904) (h1 : Rd encToken 2 w A1 n xs) (h2 : Rd encToken 2 w A2 n xs) :
    Calls Tryz.prog 9 #[.slice A1 n c1, .slice A2 n c2] w fun e w' => e = .returned (.bool true) ∧ Below w.heap.size w w' := by
  have H1 := Lib.hid h1
  have H2 := Lib.hid h2
  clear h1 h2
  go_enter Tryz.func9, Tryz.ntmps9
  go_wp2_with fail
  go_loopw [5] (fun i wr => ∃ k : Nat, k ≤ n ∧ i = .int .i64 k ∧ Below w.heap.size w wr) (fun i _ => n - (intOf i).toNat)
  case atStart => exact ⟨0, Nat.zero_le _, rfl, Below.refl _ _⟩
  case round =>
    obtain ⟨k, hk, rfl, hW⟩ := hrel
    by_cases hlt : k < n
    · obtain ⟨b1, o1, x, rfl, _, hx, hc1⟩ := (H1.out.below hW).elem hlt
      obtain ⟨b2, o2, x', rfl, _, hx', hc2⟩ := (H2.out.below hW).elem hlt
      have hxx : x' = x := by rw [hx] at hx'; exact (Option.some.inj hx').symm
      subst hxx
      have g10 : wr.cell? ⟨b1, o1 + k * 2, none⟩ = some (.int .i64 x'.kind) := by simpa using hc1 0 _ rfl
      have g11 : wr.cell? ⟨b1, o1 + k * 2 + 1, none⟩ = some (.string x'.text) := hc1 1 _ rfl
      have g20 : wr.cell? ⟨b2, o2 + k * 2, none⟩ = some (.int .i64 x'.kind) := by simpa using hc2 0 _ rfl
      have g21 : wr.cell? ⟨b2, o2 + k * 2 + 1, none⟩ = some (.string x'.text) := hc2 1 _ rfl
      have HW := Lib.hid hW
      clear hc1 hc2 hx hx' hW H1 H2
      have hkn : (k : Int) < (n : Int) := by omega
      have hk0 : (0 : Int) ≤ (k : Int) := by omega
      go_wp2_with fail
      go_still_tail 8, (by kernel_rfl)
      change wpList _ _ _ _ _ wr.drew
      replace g10 : wr.drew.cell? ⟨b1, o1 + k * 2, none⟩ = some (.int .i64 x'.kind) := g10
      replace g11 : wr.drew.cell? ⟨b1, o1 + k * 2 + 1, none⟩ = some (.string x'.text) := g11
      replace g20 : wr.drew.cell? ⟨b2, o2 + k * 2, none⟩ = some (.int .i64 x'.kind) := g20
      replace g21 : wr.drew.cell? ⟨b2, o2 + k * 2 + 1, none⟩ = some (.string x'.text) := g21
      have HW2 := Lib.hid (HW.out.drew)
      clear HW
      generalize wr.drew = w2 at *
      go_wp2_with (go_at_call 40; refine (laws_eqToken x' _).mono ?_; rintro e w3 ⟨rfl, hb3⟩)
      go_roundw
      case rel => exact ⟨k + 1, by omega, by go_num, HW2.out.trans (hb3.mono HW2.out.size)⟩
      case measure => simp [intOf]; omega
    · go_wp2
      go_ret
      exact ⟨rfl, hW⟩

def tmarks (k0 : Int) (n : Nat) : List Token := (List.range n).map fun j => ⟨k0 + 2 * (j : Nat), ⟨(mt (k0 + 2 * (j : Nat) + 1)).toArray⟩⟩
theorem tmarks_len (k0 : Int) (n : Nat) : (tmarks k0 n).length = n := by simp [tmarks]
theorem tmarks_at (k0 : Int) {n j : Nat} (h : j < n) : (tmarks k0 n)[j]? = some ⟨k0 + 2 * (j : Nat), ⟨(mt (k0 + 2 * (j : Nat) + 1)).toArray⟩⟩ := by simp [tmarks, h]
theorem tmarks_succ (k0 : Int) (n : Nat) : tmarks k0 (n + 1) = tmarks k0 n ++ [⟨k0 + 2 * (n : Nat), ⟨(mt (k0 + 2 * (n : Nat) + 1)).toArray⟩⟩] := by simp [tmarks, List.range_succ]
theorem tmarks_set (k0 : Int) (j : Nat) (xs : List Token) (h : j < xs.length) : (tmarks k0 j ++ xs.drop j).set j ⟨k0 + 2 * (j : Nat), ⟨(mt (k0 + 2 * (j : Nat) + 1)).toArray⟩⟩ = tmarks k0 (j + 1) ++ xs.drop (j + 1) := by
  rw [List.set_append_right _ _ (by rw [tmarks_len]; exact Nat.le_refl _), tmarks_len, Nat.sub_self, List.drop_eq_getElem_cons h, tmarks_succ, List.set_cons_zero, List.append_assoc]
  rfl
set_option maxHeartbeats 1600000 in
theorem laws_markTokenS (A : Option Addr) (n c base : Nat) (k0 : Int) (xs : List Token) (w : World) (hk0 : 0 ≤ k0) (hk1 : k0 + 2 * n ≤ 1152921504606846976) (hl : xs.length = n)
    (hown : w.ownsRow base 48 2 (.slice A n c) n (xs.flatMap encToken)) :
    Calls Tryz.prog 12 #[.slice A n c, .int .i64 k0] w fun e w' => e = .returned (.int .i64 (k0 + 2 * n)) ∧ w'.ownsRow base 48 2 (.slice A n c) n ((tmarks k0 n).flatMap encToken) ∧ w.grownBy w' (Value.slice A n c).ownBlock := by
  have hn0 : k0 + 2 * (n : Int) ≤ 1152921504606846976 := hk1
  have HL := Lib.hid hl
  clear hl
  go_enter Tryz.func12, Tryz.ntmps12
  go_wp2_with fail
  go_loopw [1, 5] (fun m i wr => ∃ (j : Nat), j ≤ n ∧ i = .int .i64 j ∧ m = .int .i64 (k0 + 2 * j) ∧ wr.ownsRow base 48 2 (.slice A n c) n ((tmarks k0 j ++ xs.drop j).flatMap encToken) ∧ w.grownBy wr (Value.slice A n c).ownBlock) (fun _ i _ => n - (intOf i).toNat)
  case atStart => exact ⟨0, Nat.zero_le _, rfl, by simp, by simpa [tmarks] using hown, World.grownBy.refl _ _⟩
  case round =>
    obtain ⟨j, hj, rfl, rfl, ho, hg⟩ := hrel
    clear hown
    by_cases hlt : j < n
    · have hlx : j < xs.length := by rw [HL.out]; exact hlt
      have hA : ∃ g, A = some ⟨g, 0, none⟩ := by
        rcases ho.2 with ⟨hv, h0⟩ | ⟨g, cap, cur, hv, _⟩
        · omega
        · injection hv with hA; exact ⟨g, hA⟩
      obtain ⟨g, rfl⟩ := hA
      have hat : (tmarks k0 j ++ xs.drop j)[j]? = some xs[j] := by
        rw [List.getElem?_append_right (by simp [tmarks]), tmarks_len, Nat.sub_self, List.getElem?_drop]; simp [hlx]
      generalize xs[j] = z at hat
      have c0 : wr.cell? ⟨g, j * 2, none⟩ = some (.int .i64 z.kind) := (ho.cellAt (j * 2) (by omega)).trans (flat_get (enc := encToken) (k := 2) (fun _ => rfl) _ j 0 _ _ hat rfl)
      have f0 := ho.frozenAt (j * 2)
      have s0 := ho.stored (j * 2) (.int .i64 (k0 + 2 * j))
      have e1 : ((((tmarks k0 j ++ xs.drop j).flatMap encToken).set (j * 2) (.int .i64 (k0 + 2 * j)))[j * 2 + 1]?) = some (.string z.text) := by
        rw [List.getElem?_set_ne (by omega)]
        exact flat_get (enc := encToken) (k := 2) (fun _ => rfl) _ j 1 _ _ hat rfl
      have S0 := Lib.hid s0
      have Hg := Lib.hid hg
      have E1 := Lib.hid e1
      have Hat := Lib.hid hat
      have hlj : j < (tmarks k0 j ++ xs.drop j).length := by rw [List.length_append, tmarks_len, List.length_drop]; omega
      clear ho hg s0 e1 hat
      go_wp2_with fail
      refine (laws_markText _ _ (by omega)).mono ?_
      rintro e w1 ⟨rfl, hb1⟩
      have ho1 := own_below S0.out.1 hb1
      have c1 : w1.cell? ⟨g, j * 2 + 1, none⟩ = some (.string z.text) := (ho1.cellAt (j * 2 + 1) (by omega)).trans E1.out
      have f1 := ho1.frozenAt (j * 2 + 1)
      obtain ⟨X, hX⟩ : ∃ X : ByteArray, (⟨(mt (k0 + 2 * j + 1)).toArray⟩ : ByteArray) = X := ⟨_, rfl⟩
      have s1 := ho1.stored (j * 2 + 1) (.string X)
      have hfin := s1.1
      rw [show (.int .i64 (k0 + 2 * j) : Value) = .int .i64 (⟨k0 + 2 * j, X⟩ : Token).kind from rfl, show (.string X : Value) = .string (⟨k0 + 2 * j, X⟩ : Token).text from rfl, flat_set_Token _ j ⟨k0 + 2 * j, X⟩ hlj] at hfin
      have hset := tmarks_set k0 j xs hlx
      rw [hX] at hset ⊢
      rw [hset] at hfin
      have Hs1 := Lib.hid hfin
      have Hg2 := Lib.hid (gb_trans Hg.out (gb_trans S0.out.2 (gb_trans (gb_below _ hb1) s1.2)))
      clear s1 hfin ho1 hb1 hset hX S0 E1
      go_wp2
      go_roundw
      case rel => exact ⟨j + 1, by omega, by go_num, by go_num, Hs1.out, Hg2.out⟩
      case measure => simp [intOf]; omega
    · have hke : j = n := by omega
      subst hke
      have hfin : tmarks k0 j ++ xs.drop j = tmarks k0 j := by rw [List.drop_eq_nil_of_le (by rw [HL.out]; exact Nat.le_refl _), List.append_nil]
      rw [hfin] at ho
      have Ho := Lib.hid ho
      have Hg := Lib.hid hg
      clear ho hg hfin hlt
      go_wp2
      go_ret
      exact ⟨rfl, Ho.out, Hg.out⟩
set_option maxHeartbeats 1600000 in
theorem laws_heldTokenS (A : Option Addr) (n c : Nat) (k0 : Int) (w : World) (hk0 : 0 ≤ k0) (hk1 : k0 + 2 * n ≤ 1152921504606846976) (h : Rd encToken 2 w A n (tmarks k0 n)) :
    Calls Tryz.prog 13 #[.slice A n c, .int .i64 k0] w fun e w' => e = .returned (.int .i64 (k0 + 2 * n)) ∧ Below w.heap.size w w' := by
  have hn0 : k0 + 2 * (n : Int) ≤ 1152921504606846976 := hk1
  have H := Lib.hid h
  clear h
  go_enter Tryz.func13, Tryz.ntmps13
  go_wp2_with fail
  go_loopw [1, 5] (fun m i wr => ∃ j : Nat, j ≤ n ∧ i = .int .i64 j ∧ m = .int .i64 (k0 + 2 * j) ∧ Below w.heap.size w wr) (fun _ i _ => n - (intOf i).toNat)
  case atStart => exact ⟨0, Nat.zero_le _, rfl, by simp, Below.refl _ _⟩
  case round =>
    obtain ⟨j, hj, rfl, rfl, hW⟩ := hrel
    by_cases hlt : j < n
    · obtain ⟨b, off, x, rfl, hb, hx, hc⟩ := (H.out.below hW).elem hlt
      obtain ⟨X, hX⟩ : ∃ X : ByteArray, (⟨(mt (k0 + 2 * j + 1)).toArray⟩ : ByteArray) = X := ⟨_, rfl⟩
      have hxm : x = ⟨k0 + 2 * j, X⟩ := by rw [tmarks_at k0 hlt, hX] at hx; exact (Option.some.inj hx).symm
      subst hxm
      have g0 : wr.cell? ⟨b, off + j * 2, none⟩ = some (.int .i64 (k0 + 2 * j)) := by simpa using hc 0 _ rfl
      have g1 : wr.cell? ⟨b, off + j * 2 + 1, none⟩ = some (.string X) := hc 1 _ rfl
      have HW := Lib.hid hW
      have HX := Lib.hid hX
      have hsz := hW.size
      have hjn : (j : Int) < (n : Int) := by omega
      have hj0 : (0 : Int) ≤ (j : Int) := by omega
      clear hc hx hW H hX
      go_wp2_with fail
      have f0 : ∀ u : Later wr, u.at_.cell? ⟨b, off + j * 2 + 1, none⟩ = some (.string X) := fun u => u.cell g1
      refine wp_region_calm_lit (by kernel_rfl) (by kernel_rfl) ?_
      repeat (go_big_quiet_step (first | (go_at_call 45; exact Calls.calm (Calls.knownS (laws_markText (k0 + 2 * j + 1) _ (by omega)) HX.out))))
      refine wpQuiet_nil ?_
      intro _ hw'
      obtain ⟨u, rfl⟩ := hw'
      have HBf := Lib.hid (HW.out.trans (u.bel.mono hsz))
      go_wp2
      go_roundw
      case rel => exact ⟨j + 1, by omega, by go_num, by go_num, HBf.out⟩
      case measure => simp [intOf]; omega
    · have hke : j = n := by omega
      subst hke
      go_wp2
      go_ret
      exact ⟨rfl, hW⟩

/-- A step that writes the blocks of S alone (and makes new ones). -/
structure Wrote (S : Nat → Prop) (w w' : World) : Prop where
  os : w'.os = w.os
  tape : w'.tape = w.tape
  output : w'.output = w.output
  size : w.heap.size ≤ w'.heap.size
  block : ∀ k, k < w.heap.size → ¬ S k → w'.heap[k]? = w.heap[k]?
theorem Wrote.of_below {S : Nat → Prop} {w w' : World} (h : Below w.heap.size w w') : Wrote S w w' := ⟨h.os, h.tape, h.output, h.size, fun k hk _ => h.block k hk⟩
theorem Wrote.of_grown {S : Nat → Prop} {w w' : World} {r : Option Nat} (h : w.grownBy w' r) (hr : ∀ k, r = some k → S k) : Wrote S w w' := ⟨h.os, h.tape, h.output, h.size, fun k hk hn => h.block k hk (fun e => hn (hr k e.symm))⟩
theorem Wrote.trans {S : Nat → Prop} {a b c : World} (h : Wrote S a b) (k : Wrote S b c) : Wrote S a c :=
  ⟨k.os.trans h.os, k.tape.trans h.tape, k.output.trans h.output, Nat.le_trans h.size k.size, fun i hi hn => (k.block i (Nat.lt_of_lt_of_le hi h.size) hn).trans (h.block i hi hn)⟩
theorem Wrote.mono {S T : Nat → Prop} {a b : World} (h : Wrote S a b) (hs : ∀ k, S k → T k) : Wrote T a b := ⟨h.os, h.tape, h.output, h.size, fun i hi hn => h.block i hi (fun e => hn (hs i e))⟩
theorem Wrote.bel {S : Nat → Prop} {w w' : World} {lo : Nat} (h : Wrote S w w') (hs : ∀ k, S k → lo ≤ k) (hl : lo ≤ w.heap.size) : Below lo w w' :=
  ⟨h.os, h.tape, h.output, h.size, fun k hk => h.block k (by omega) (fun e => by have := hs k e; omega)⟩
theorem Wrote.own {S : Nat → Prop} {w w' : World} {base : Nat} {e : TypeId} {k n : Nat} {v : Value} {xs : List Value} (h : Wrote S w w') (ho : w.ownsRow base e k v n xs) (hs : ∀ k, S k → k < base) : w'.ownsRow base e k v n xs := by
  refine ⟨ho.1, ?_⟩
  rcases ho.2 with hn | ⟨g, cap, cur, hv, hg, hh, r⟩
  · exact .inl hn
  · exact .inr ⟨g, cap, cur, hv, hg, (h.block g (Array.getElem?_eq_some_iff.1 hh).1 (fun e => by have := hs g e; omega)).trans hh, r⟩

theorem flat_set_Scope2 (l : List (Scope × Hd)) (j : Nat) (x : Scope × Hd) (k e : Int) (hx : l[j]? = some x) :
    ((l.flatMap encScope).set (j * 3) (.int .i64 k)).set (j * 3 + 2) (.int .i64 e) = (l.set j (⟨k, x.1.names, e⟩, x.2)).flatMap encScope := by
  have hj : j < l.length := (List.getElem?_eq_some_iff.1 hx).1
  rw [← flat_set_Scope l j (⟨k, x.1.names, e⟩, x.2) hj]
  have h1 : (l.flatMap encScope)[j * 3 + 1]? = some (.slice x.2.A x.2.n x.2.c) := flat_get (enc := encScope) (k := 3) (fun _ => rfl) l j 1 x _ hx rfl
  have h2 : ((l.flatMap encScope).set (j * 3) (.int .i64 k))[j * 3 + 1]? = some (.slice x.2.A x.2.n x.2.c) := by rw [List.getElem?_set_ne (by omega)]; exact h1
  have h3 : ((l.flatMap encScope).set (j * 3) (.int .i64 k)).set (j * 3 + 1) (.slice x.2.A x.2.n x.2.c) = (l.flatMap encScope).set (j * 3) (.int .i64 k) := by
    obtain ⟨hl, he⟩ := List.getElem?_eq_some_iff.1 h2
    rw [← he, List.set_getElem_self]
  rw [h3]
/-- The blocks of a filter of the call's own. -/
def ScBlk (v : Value) (rs : List (Scope × Hd)) (k : Nat) : Prop := v.ownBlock = some k ∨ ∃ p ∈ rs, nameOwn p = some k
theorem mem_drop_succ {α : Type} {l : List α} {j : Nat} {x : α} (h : x ∈ l.drop (j + 1)) : x ∈ l.drop j := by
  rw [← List.drop_drop] at h
  exact List.mem_of_mem_drop h
theorem NA.far {rs : List (Scope × Hd)} (h : NA rs) {j : Nat} {p q : Scope × Hd} (hp : rs[j]? = some p) (hq : q ∈ rs.drop (j + 1)) : ∀ i, nameOwn p = some i → nameOwn q ≠ some i := by
  obtain ⟨m, hm⟩ := List.getElem?_of_mem hq
  rw [List.getElem?_drop] at hm
  have hlt : j + 1 + m < rs.length := (List.getElem?_eq_some_iff.1 hm).1
  have hj : j < rs.length := by omega
  have h1 := List.pairwise_iff_getElem.1 h j (j + 1 + m) hj hlt (by omega)
  rw [(List.getElem?_eq_some_iff.1 hp).2, (List.getElem?_eq_some_iff.1 hm).2] at h1
  exact h1
theorem drop_head {α : Type} {zs rs : List α} {j : Nat} {x : α} (h : zs.drop j = rs.drop j) (hx : rs[j]? = some x) : zs[j]? = some x := by
  have h1 : (zs.drop j)[0]? = (rs.drop j)[0]? := by rw [h]
  rw [List.getElem?_drop, List.getElem?_drop, Nat.add_zero] at h1
  rw [h1, hx]
theorem drop_next {α : Type} {zs rs : List α} {j : Nat} {y : α} (h : zs.drop j = rs.drop j) : (zs.set j y).drop (j + 1) = rs.drop (j + 1) := by
  rw [List.drop_set_of_lt (by omega)]
  have h1 : (zs.drop j).drop 1 = (rs.drop j).drop 1 := by rw [h]
  rw [List.drop_drop, List.drop_drop] at h1
  exact h1
set_option maxHeartbeats 3200000 in
set_option maxRecDepth 20000 in
theorem laws_markScopeS (A : Option Addr) (n c base : Nat) (k0 : Int) (rs : List (Scope × Hd)) (w : World) (hk0 : 0 ≤ k0) (hk1 : k0 ≤ 1000000000000) (hn : n ≤ 1048576) (hl : rs.length = n)
    (hown : w.ownsRow base 79 3 (.slice A n c) n (rs.flatMap encScope)) (hsc : ∀ p ∈ rs, ScopeOwn base w p.1 p.2) (hna : NA rs) :
    Calls Tryz.prog 86 #[.slice A n c, .int .i64 k0] w fun e w' => (∃ K : Int, e = .returned (.int .i64 K) ∧ k0 ≤ K ∧ K ≤ k0 + 2097152 * (n : Int)) ∧ Wrote (ScBlk (.slice A n c) rs) w w' := by
  have HNA := Lib.hid hna
  have HL := Lib.hid hl
  clear hl hna
  go_enter Tryz.func86, Tryz.ntmps86
  go_wp2_with fail
  go_loopw [1, 5] (fun m i wr => ∃ (j : Nat) (K : Int) (zs : List (Scope × Hd)), j ≤ n ∧ i = .int .i64 j ∧ m = .int .i64 K ∧ k0 ≤ K ∧ K ≤ k0 + 2097152 * (j : Int) ∧ Hid (zs.drop j = rs.drop j) ∧ zs.length = n ∧ wr.ownsRow base 79 3 (.slice A n c) n (zs.flatMap encScope) ∧ Hid (∀ p ∈ rs.drop j, ScopeOwn base wr p.1 p.2) ∧ Wrote (ScBlk (.slice A n c) rs) w wr) (fun _ i _ => n - (intOf i).toNat)
  case atStart => exact ⟨0, k0, rs, Nat.zero_le _, rfl, rfl, Int.le_refl _, by omega, rfl, HL.out, hown, fun p hp => hsc p (by simpa using hp), Wrote.of_below (Below.refl _ _)⟩
  case round =>
    obtain ⟨j, K, zs, hj, rfl, rfl, hK0, hK1, hd, hz, ho, hs, hW⟩ := hrel
    clear hown hsc
    by_cases hlt : j < n
    · have hji : (j : Int) < (n : Int) := by omega
      have hA : ∃ g, A = some ⟨g, 0, none⟩ := by
        rcases ho.2 with ⟨hv, h0⟩ | ⟨g, cap, cur, hv, _⟩
        · omega
        · injection hv with hA; exact ⟨g, hA⟩
      obtain ⟨g, rfl⟩ := hA
      have hrj : rs[j]? = some (rs[j]'(by rw [HL.out]; exact hlt)) := List.getElem?_eq_getElem _
      generalize rs[j]'(by rw [HL.out]; exact hlt) = p at hrj
      have hat := drop_head hd.out hrj
      have hpm : p ∈ rs.drop j := by
        refine List.mem_of_getElem? (i := 0) ?_
        rw [List.getElem?_drop, Nat.add_zero]; exact hrj
      have hp := hs.out p hpm
      obtain ⟨⟨kd, nms, evs⟩, ⟨A1, n1, c1⟩⟩ := p
      have hc0 : wr.cell? ⟨g, j * 3, none⟩ = some (.int .i64 kd) := (ho.cellAt (j * 3) (by omega)).trans (flat_get (enc := encScope) (k := 3) (fun _ => rfl) _ j 0 _ _ hat rfl)
      have hc1 : wr.cell? ⟨g, j * 3 + 1, none⟩ = some (.slice A1 n1 c1) := (ho.cellAt (j * 3 + 1) (by omega)).trans (flat_get (enc := encScope) (k := 3) (fun _ => rfl) _ j 1 _ _ hat rfl)
      have hf0 := ho.frozenAt (j * 3)
      have s0 := ho.stored (j * 3) (.int .i64 K)
      have hp1 : (wr.setCell ⟨g, j * 3, none⟩ (.int .i64 K)).ownsRow base 9 1 (.slice A1 n1 c1) n1 (nms.flatMap encStr) := own_kind_kept hp.1 ho (by decide) s0.2
      have hrest1 : ∀ q ∈ rs.drop (j + 1), ScopeOwn base (wr.setCell ⟨g, j * 3, none⟩ (.int .i64 K)) q.1 q.2 := fun q hq => (hs.out q (mem_drop_succ hq)).map fun r => own_kind_kept r ho (by decide) s0.2
      have hln : nms.length = n1 := hp.2.1
      have hn1 : n1 ≤ 1048576 := hp.2.2.1
      have HP1 := Lib.hid hp1
      have HR1 := Lib.hid hrest1
      have HS0 := Lib.hid s0.1
      have HW1 := Lib.hid (hW.trans (Wrote.of_grown s0.2 (S := ScBlk (.slice (some ⟨g, 0, none⟩) n c) rs) (fun k hk => .inl hk)))
      have HAT := Lib.hid hat
      have HRJ := Lib.hid hrj
      have HPM := Lib.hid (List.mem_of_getElem? hrj)
      have HD := Lib.hid (drop_next (y := ((⟨K, nms, K + 1 + n1⟩ : Scope), (⟨A1, n1, c1⟩ : Hd))) hd.out)
      have HZ := Lib.hid hz
      have hKb : K ≤ 1000000000000 + 2097152 * (j : Int) := by omega
      have hc1' : (wr.setCell ⟨g, j * 3, none⟩ (.int .i64 K)).cell? ⟨g, j * 3 + 1, none⟩ = some (.slice A1 n1 c1) := by
        refine (s0.1.cellAt (j * 3 + 1) (by omega)).trans ?_
        rw [List.getElem?_set_ne (by omega)]
        exact flat_get (enc := encScope) (k := 3) (fun _ => rfl) _ j 1 _ _ hat rfl
      clear hp hp1 hrest1 s0 ho hs hW hat hrj hpm hd hz
      go_wp2_with fail
      generalize wr.setCell ⟨g, j * 3, none⟩ (.int .i64 K) = w2 at *
      refine (laws_markStringS A1 n1 c1 base (K + 1) nms w2 (by omega) (by omega) hln HP1.out).mono ?_
      rintro e w3 ⟨rfl, ho3, hg3⟩
      have hrow : w3.ownsRow base 79 3 (.slice (some ⟨g, 0, none⟩) n c) n ((zs.flatMap encScope).set (j * 3) (.int .i64 K)) := own_kind_kept HS0.out HP1.out (by decide) hg3
      have hc2 : w3.cell? ⟨g, j * 3 + 2, none⟩ = some (.int .i64 evs) := by
        refine (hrow.cellAt (j * 3 + 2) (by omega)).trans ?_
        rw [List.getElem?_set_ne (by omega)]
        exact flat_get (enc := encScope) (k := 3) (fun _ => rfl) _ j 2 _ _ HAT.out rfl
      have hf2 := hrow.frozenAt (j * 3 + 2)
      have s2 := hrow.stored (j * 3 + 2) (.int .i64 (K + 1 + n1))
      have hfin := s2.1
      rw [flat_set_Scope2 zs j _ K (K + 1 + n1) HAT.out] at hfin
      have hrest3 : ∀ q ∈ rs.drop (j + 1), ScopeOwn base (w3.setCell ⟨g, j * 3 + 2, none⟩ (.int .i64 (K + 1 + n1))) q.1 q.2 := fun q hq => (HR1.out q hq).map fun r =>
        own_kind_kept (r.kept hg3 (by
          cases hv : (Value.slice q.2.A q.2.n q.2.c).ownBlock with
          | none => exact .inl rfl
          | some i => exact .inr (fun e => HNA.out.far HRJ.out hq i e.symm hv))) hrow (by decide) s2.2
      have HR3 := Lib.hid hrest3
      have HFin := Lib.hid hfin
      have HW3 := Lib.hid ((HW1.out.trans (Wrote.of_grown hg3 (S := ScBlk (.slice (some ⟨g, 0, none⟩) n c) rs) (fun k hk => .inr ⟨_, HPM.out, hk⟩))).trans (Wrote.of_grown s2.2 (S := ScBlk (.slice (some ⟨g, 0, none⟩) n c) rs) (fun k hk => .inl hk)))
      clear hrest3 hfin s2 hrow ho3 hg3 HS0 HP1 HR1 HW1
      go_wp2
      go_roundw
      case rel => exact ⟨j + 1, K + 1 + n1 + 1, zs.set j (⟨K, nms, K + 1 + n1⟩, ⟨A1, n1, c1⟩), by omega, by go_num, by go_num, by omega, by omega, HD.out, by rw [List.length_set]; exact HZ.out, HFin.out, HR3.out, HW3.out⟩
      case measure => simp [intOf]; omega
    · have hke : j = n := by omega
      have hji : ¬ (j : Int) < (n : Int) := by omega
      have HW := Lib.hid hW
      clear hW ho hs hd
      go_wp2
      go_ret
      exact ⟨⟨K, rfl, hK0, by omega⟩, HW.out⟩
def FHd.Blk (h : FHd) (k : Nat) : Prop := ScBlk (.slice h.A h.n h.c) h.rs k
theorem FilterOwn.blk {base : Nat} {w : World} {x : Filter} {h : FHd} (i : FilterOwn base w x h) : ∀ k, h.Blk k → base ≤ k ∧ k < w.heap.size := by
  intro k hk
  rcases hk with hk | ⟨p, hp, hk⟩
  · exact i.1.lt k hk
  · exact (i.2.2.2.1 p hp).1.lt k hk
theorem laws_markFilter (x : Filter) (h : FHd) (base : Nat) (k0 : Int) (w : World) (hk0 : 0 ≤ k0) (hk1 : k0 ≤ 1000000000000) (hx : FilterOwn base w x h) :
    Calls Tryz.prog 44 #[.agg #[.bool x.on, .slice h.A h.n h.c], .int .i64 k0] w fun e w' => (∃ K : Int, e = .returned (.int .i64 K) ∧ 0 ≤ K) ∧ Wrote h.Blk w w' := by
  have hA : Below w.heap.size w (w.alloc (.cells #[.bool x.on, .slice h.A h.n h.c] 34)) := by go_grown
  have HX := Lib.hid (hx.below hA)
  have HA := Lib.hid hA
  clear hx hA
  go_enter Tryz.func44, Tryz.ntmps44
  go_wp2_with fail
  refine (laws_markScopeS _ _ _ base k0 h.rs _ hk0 hk1 HX.out.2.2.1 HX.out.2.1 HX.out.1 HX.out.2.2.2.1 HX.out.2.2.2.2.2).mono ?_
  rintro e w1 ⟨⟨K, rfl, hK, _⟩, hW⟩
  have HW := Lib.hid ((Wrote.of_below (S := h.Blk) HA.out).trans hW)
  clear hW
  go_wp2
  go_ret
  exact ⟨⟨_, rfl, by omega⟩, HW.out⟩

end Go.Proofs.YtjpkceimokkpgaaGreatDoor
