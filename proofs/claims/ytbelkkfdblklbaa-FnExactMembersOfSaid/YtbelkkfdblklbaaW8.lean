/-
  Walks: what each function returns, and that it leaves what lay in memory as it was.
-/
import Derived.Test.YtbelkkfdblklbaaProg
import Derived.Test.YtbelkkfdblklbaaPlain
import Derived.Test.YtbelkkfdblklbaaBase2
import Derived.Test.YtbelkkfdblklbaaOpen2
import Derived.Test.YtbelkkfdblklbaaShelf
import Derived.WalkKit
import Derived.WalkSpells
import Derived.WalkLawsBesides
import Derived.Lib.Hide
import Derived.Deep.LoopGhost
import Derived.Deep.QuietTactic
import Derived.BigQuiet
import Derived.Handy
import Derived.Deep.RegionHeld3
import Derived.StillTailTactics
import Derived.OpenShut
import Derived.ChangeSame
import Derived.Laws.StructEq

import Derived.Test.YtbelkkfdblklbaaPlainT

import Derived.Test.YtbelkkfdblklbaaW1

import Derived.Test.YtbelkkfdblklbaaW5

import Derived.Test.YtbelkkfdblklbaaBase3

namespace Go.Proofs.Ytbelkkfdblklbaa
open Go.ChangeShapes Go.WideShapes Go.ChangeAt Go.RowKit Go.Deep
set_option linter.unusedVariables false
set_option linter.unusedSimpArgs false

set_option maxRecDepth 20000


/-! ### marks that are numbers -/
def imarks (k0 : Int) (n : Nat) : List Int := (List.range n).map fun j => k0 + (j : Nat)
theorem imarks_len (k0 : Int) (n : Nat) : (imarks k0 n).length = n := by simp [imarks]
theorem imarks_at (k0 : Int) {n j : Nat} (h : j < n) : (imarks k0 n)[j]? = some (k0 + (j : Nat)) := by simp [imarks, h]
theorem imarks_succ (k0 : Int) (n : Nat) : imarks k0 (n + 1) = imarks k0 n ++ [k0 + (n : Nat)] := by simp [imarks, List.range_succ]
theorem imarks_set (k0 : Int) (j : Nat) (xs : List Int) (h : j < xs.length) : (imarks k0 j ++ xs.drop j).set j (k0 + (j : Nat)) = imarks k0 (j + 1) ++ xs.drop (j + 1) := by
  rw [List.set_append_right _ _ (by rw [imarks_len]; exact Nat.le_refl _), imarks_len, Nat.sub_self, List.drop_eq_getElem_cons h, imarks_succ, List.set_cons_zero, List.append_assoc]
  rfl
theorem flat_setI (l : List Int) (k : Nat) (c : Int) : (l.flatMap fun n => [Value.int .i64 n]).set k (.int .i64 c) = (l.set k c).flatMap fun n => [Value.int .i64 n] := by
  induction l generalizing k with
  | nil => rfl
  | cons x r ih =>
    cases k with
    | zero => rfl
    | succ k =>
      rw [List.flatMap_cons, List.set_cons_succ, List.flatMap_cons, ← ih k]
      rfl


set_option maxHeartbeats 800000 in
theorem laws_markIntS (A : Option Addr) (n c base : Nat) (k0 : Int) (xs : List Int) (w : World) (hk0 : 0 ≤ k0) (hk1 : k0 + n ≤ 1152921504606846976) (hl : xs.length = n)
    (hown : w.ownsRow base 3 1 (.slice A n c) n (xs.flatMap encI)) :
    Calls Try.prog 18 #[.slice A n c, .int .i64 k0] w fun e w' => e = .returned (.int .i64 (k0 + n)) ∧
      w'.ownsRow base 3 1 (.slice A n c) n ((imarks k0 n).flatMap encI) ∧ w.grownBy w' (Value.slice A n c).ownBlock := by
  have HL := Lib.hid hl
  clear hl
  go_enter Try.func18, Try.ntmps18
  go_wp2_with fail
  go_loopw [1, 5] (fun m i wr => ∃ j : Nat, j ≤ n ∧ i = .int .i64 j ∧ m = .int .i64 (k0 + j) ∧ wr.ownsRow base 3 1 (.slice A n c) n ((imarks k0 j ++ xs.drop j).flatMap encI) ∧ w.grownBy wr (Value.slice A n c).ownBlock) (fun _ i _ => n - (intOf i).toNat)
  case atStart => exact ⟨0, Nat.zero_le _, rfl, by simp, hown, World.grownBy.refl _ _⟩
  case round =>
    obtain ⟨j, hj, rfl, rfl, ho, hg⟩ := hrel
    clear hown
    by_cases hlt : j < n
    · have hlx : j < xs.length := by rw [HL.out]; exact hlt
      have hA : ∃ g, A = some ⟨g, 0, none⟩ := by
        rcases ho.2 with ⟨hv, h0⟩ | ⟨g, cap, cur, hv, _⟩
        · omega
        · injection hv with hA; exact ⟨g, hA⟩
      obtain ⟨g, rfl⟩ := hA
      have hc := ho.cellAt j (by omega)
      have hc2 : ((imarks k0 j ++ xs.drop j).flatMap encI)[j]? = some (.int .i64 xs[j]) := by
        have := flat_get (enc := encI) (k := 1) (fun _ => rfl) (imarks k0 j ++ xs.drop j) j 0 xs[j] _ (by rw [List.getElem?_append_right (by simp [imarks]), imarks_len, Nat.sub_self, List.getElem?_drop]; simp [hlx]) rfl
        simpa using this
      rw [hc2] at hc
      have hf := ho.frozenAt j
      have hst := ho.stored j (.int .i64 (k0 + j))
      have hset : ((imarks k0 j ++ xs.drop j).flatMap encI).set j (.int .i64 (k0 + j)) = (imarks k0 (j + 1) ++ xs.drop (j + 1)).flatMap encI := by
        rw [flat_setI, imarks_set k0 j xs hlx]
      rw [hset] at hst
      have Hst := Lib.hid hst
      have Hg := Lib.hid hg
      clear hst hset hc2 ho hg
      go_wp2
      go_roundw
      case rel => exact ⟨j + 1, by omega, by go_num, by go_num, Hst.out.1, gb_trans Hg.out Hst.out.2⟩
      case measure => simp [intOf]; omega
    · have hke : j = n := by omega
      subst hke
      have hfin : imarks k0 j ++ xs.drop j = imarks k0 j := by rw [List.drop_eq_nil_of_le (by rw [HL.out]; exact Nat.le_refl _), List.append_nil]
      rw [hfin] at ho
      have Ho := Lib.hid ho
      have Hg := Lib.hid hg
      clear ho hg hfin hlt
      go_wp2
      go_ret
      exact ⟨rfl, Ho.out, Hg.out⟩
set_option maxHeartbeats 800000 in
theorem laws_eqIntS (A1 A2 : Option Addr) (n c1 c2 : Nat) (xs : List Int) (w : World) (hn : n ≤ 4611686018427387904) (h1 : Rd encI 1 w A1 n xs) (h2 : Rd encI 1 w A2 n xs) :
    Calls Try.prog 15 #[.slice A1 n c1, .slice A2 n c2] w fun e w' => e = .returned (.bool true) ∧ Below w.heap.size w w' := by
  have H1 := Lib.hid h1
  have H2 := Lib.hid h2
  clear h1 h2
  go_enter Try.func15, Try.ntmps15
  go_wp2_with fail
  go_loopw [5] (fun i wr => ∃ k : Nat, k ≤ n ∧ i = .int .i64 k ∧ Below w.heap.size w wr) (fun i _ => n - (intOf i).toNat)
  case atStart => exact ⟨0, Nat.zero_le _, rfl, Below.refl _ _⟩
  case round =>
    obtain ⟨k, hk, rfl, hW⟩ := hrel
    by_cases hlt : k < n
    · obtain ⟨b1, o1, x, rfl, _, hx, hc1⟩ := (H1.out.below hW).elem hlt
      obtain ⟨b2, o2, x', rfl, _, hx', hc2⟩ := (H2.out.below hW).elem hlt
      have hxx : x' = x := by rw [hx] at hx'; exact (Option.some.inj hx').symm
      subst hxx
      have g1 : wr.cell? ⟨b1, o1 + k, none⟩ = some (.int .i64 x') := by simpa using hc1 0 _ rfl
      have g2 : wr.cell? ⟨b2, o2 + k, none⟩ = some (.int .i64 x') := by simpa using hc2 0 _ rfl
      have HW := Lib.hid hW
      clear hc1 hc2 hx hx' hW H1 H2
      go_wp2
      go_quiet (fail)
      go_wp2
      go_roundw
      case rel => exact ⟨k + 1, by omega, by go_num, below_drewN HW.out _⟩
      case measure => simp [intOf]; omega
    · go_wp2
      go_ret
      exact ⟨rfl, hW⟩
set_option maxHeartbeats 800000 in
theorem laws_heldIntS (A : Option Addr) (n c : Nat) (k0 : Int) (w : World) (hk0 : 0 ≤ k0) (hk1 : k0 + n ≤ 1152921504606846976) (h : Rd encI 1 w A n (imarks k0 n)) :
    Calls Try.prog 19 #[.slice A n c, .int .i64 k0] w fun e w' => e = .returned (.int .i64 (k0 + n)) ∧ Below w.heap.size w w' := by
  have H := Lib.hid h
  clear h
  go_enter Try.func19, Try.ntmps19
  go_wp2_with fail
  go_loopw [1, 5] (fun m i wr => ∃ j : Nat, j ≤ n ∧ i = .int .i64 j ∧ m = .int .i64 (k0 + j) ∧ Below w.heap.size w wr) (fun _ i _ => n - (intOf i).toNat)
  case atStart => exact ⟨0, Nat.zero_le _, rfl, by simp, Below.refl _ _⟩
  case round =>
    obtain ⟨j, hj, rfl, rfl, hW⟩ := hrel
    by_cases hlt : j < n
    · obtain ⟨b, off, x, rfl, hb, hx, hc⟩ := (H.out.below hW).elem hlt
      have hxm : x = k0 + j := by rw [imarks_at k0 hlt] at hx; exact (Option.some.inj hx).symm
      subst hxm
      have g1 : wr.cell? ⟨b, off + j, none⟩ = some (.int .i64 (k0 + j)) := by simpa using hc 0 _ rfl
      have HW := Lib.hid hW
      clear hc hx hW H
      go_wp2
      go_roundw
      case rel => exact ⟨j + 1, by omega, by go_num, by go_num, HW.out⟩
      case measure => simp [intOf]; omega
    · have hke : j = n := by omega
      subst hke
      go_wp2
      go_ret
      exact ⟨rfl, hW⟩

theorem own_ne {v u : Value} {B : Nat} (h1 : ∀ k, v.ownBlock = some k → B ≤ k) (h2 : ∀ k, u.ownBlock = some k → k < B) : v.ownBlock = none ∨ v.ownBlock ≠ u.ownBlock := by
  cases he : v.ownBlock with
  | none => exact .inl rfl
  | some k =>
    refine .inr fun e => ?_
    have h3 := h1 k he
    have h4 := h2 k e.symm
    omega
set_option maxHeartbeats 800000 in
theorem laws_markSpanS (A : Option Addr) (n c base : Nat) (k0 : Int) (xs : List Span) (w : World) (hk0 : 0 ≤ k0) (hk1 : k0 + 2 * n ≤ 1152921504606846976) (hl : xs.length = n)
    (hown : w.ownsRow base 50 2 (.slice A n c) n (xs.flatMap encSpan)) :
    Calls Try.prog 17 #[.slice A n c, .int .i64 k0] w fun e w' => e = .returned (.int .i64 (k0 + 2 * n)) ∧ w.grownBy w' (Value.slice A n c).ownBlock := by
  have hn0 : k0 + 2 * (n : Int) ≤ 1152921504606846976 := hk1
  go_enter Try.func17, Try.ntmps17
  go_wp2_with fail
  go_loopw [1, 5] (fun m i wr => ∃ (j : Nat) (zs : List Span), j ≤ n ∧ i = .int .i64 j ∧ m = .int .i64 (k0 + 2 * j) ∧ zs.length = n ∧ wr.ownsRow base 50 2 (.slice A n c) n (zs.flatMap encSpan) ∧ w.grownBy wr (Value.slice A n c).ownBlock) (fun _ i _ => n - (intOf i).toNat)
  case atStart => exact ⟨0, xs, Nat.zero_le _, rfl, by simp, hl, hown, World.grownBy.refl _ _⟩
  case round =>
    obtain ⟨j, zs, hj, rfl, rfl, hz, ho, hg⟩ := hrel
    clear hown hl
    by_cases hlt : j < n
    · have hA : ∃ g, A = some ⟨g, 0, none⟩ := by
        rcases ho.2 with ⟨hv, h0⟩ | ⟨g, cap, cur, hv, _⟩
        · omega
        · injection hv with hA; exact ⟨g, hA⟩
      obtain ⟨g, rfl⟩ := hA
      have hat : zs[j]? = some (zs[j]'(by omega)) := List.getElem?_eq_getElem (by omega)
      generalize zs[j]'(by omega) = z at hat
      have c0 : wr.cell? ⟨g, j * 2, none⟩ = some (.int .i64 z.1) := (ho.cellAt (j * 2) (by omega)).trans (flat_get (enc := encSpan) (k := 2) (fun _ => rfl) _ j 0 _ _ hat rfl)
      have c1 : wr.cell? ⟨g, j * 2 + 1, none⟩ = some (.int .i64 z.2) := (ho.cellAt (j * 2 + 1) (by omega)).trans (flat_get (enc := encSpan) (k := 2) (fun _ => rfl) _ j 1 _ _ hat rfl)
      have f0 := ho.frozenAt (j * 2)
      have f1 := ho.frozenAt (j * 2 + 1)
      have s0 := ho.stored (j * 2) (.int .i64 (k0 + 2 * j))
      have s1 := s0.1.stored (j * 2 + 1) (.int .i64 (k0 + 2 * j + 1))
      have hfin := s1.1
      rw [flat_set2 zs j (k0 + 2 * j, k0 + 2 * j + 1)] at hfin
      have Hs1 := Lib.hid hfin
      have Hg := Lib.hid (gb_trans hg (gb_trans s0.2 s1.2))
      have Hz := Lib.hid hz
      clear ho hg s0 s1 hat hz hfin
      go_wp2
      go_roundw
      case rel => exact ⟨j + 1, _, by omega, by go_num, by go_num, by rw [List.length_set]; exact Hz.out, Hs1.out, Hg.out⟩
      case measure => simp [intOf]; omega
    · have hke : j = n := by omega
      subst hke
      have Hg := Lib.hid hg
      clear ho hg hlt
      go_wp2
      go_ret
      exact ⟨rfl, Hg.out⟩
set_option maxHeartbeats 1600000 in
theorem laws_toIntS (A : Option Addr) (n c : Nat) (xs : List Int) (w : World) (hn : n ≤ 1048576) (h : Rd encI 1 w A n xs) :
    Calls Try.prog 21 #[.slice A n c] w (RetOwn encI 1 3 w xs) := by
  have HL := Lib.hid h.1
  have H := Lib.hid h
  clear h
  go_enter Try.func21, Try.ntmps21
  go_wp2_with (at_make; refine wpList_mk (enc := encI) 0 (k := 1) (by omega) rfl rfl _ _ 31 3 rfl (.int .i64 0) 8 Try.underlying31 (by kernel_rfl) rfl n rfl rfl (by omega) (by omega) ?_; intro w1 g hown hg hb1)
  go_wp2_with fail
  go_loopw [4] (fun i wr => ∃ j : Nat, j ≤ n ∧ i = .int .i64 j ∧ wr.ownsRow w.heap.size 3 1 (.slice (some ⟨g, 0, none⟩) n n) n ((xs.take j ++ List.replicate (n - j) 0).flatMap encI) ∧ Below w.heap.size w wr) (fun i _ => n - (intOf i).toNat)
  case atStart => exact ⟨0, Nat.zero_le _, rfl, hown, hb1⟩
  case round =>
    obtain ⟨j, hj, rfl, ho, hW⟩ := hrel
    clear hown hb1
    by_cases hlt : j < n
    · obtain ⟨b, off, x, rfl, hb, hx, hc⟩ := (H.out.below hW).elem hlt
      have g0 : wr.cell? ⟨b, off + j, none⟩ = some (.int .i64 x) := by simpa using hc 0 _ rfl
      have HX := Lib.hid hx
      have HW := Lib.hid hW
      have hat := take_at xs 0 n j HL.out hlt
      have c0 : wr.cell? ⟨g, j, none⟩ = some (.int .i64 0) := (ho.cellAt j (by omega)).trans (by simpa using flat_get (enc := encI) (k := 1) (fun _ => rfl) _ j 0 _ _ hat rfl)
      have f0 := ho.frozenAt j
      have s1 := ho.stored j (.int .i64 x)
      have hfin := s1.1
      rw [flat_setI, take_set xs 0 x n j HL.out hlt HX.out] at hfin
      have Hfin := Lib.hid hfin
      have Hbel := Lib.hid (HW.out.trans (gb_to_below (B := w.heap.size) s1.2 HW.out.size (fun k hk => by simp at hk; omega)))
      clear s1 hfin hat ho hc hx hW H
      go_wp2
      go_roundw
      case rel => exact ⟨j + 1, by omega, by go_num, Hfin.out, Hbel.out⟩
      case measure => simp [intOf]; omega
    · have hke : j = n := by omega
      subst hke
      rw [Nat.sub_self, List.replicate_zero, List.append_nil, List.take_of_length_le (by rw [HL.out]; exact Nat.le_refl _)] at ho
      have Ho := Lib.hid ho
      clear ho hlt
      go_wp2
      go_ret
      have ho2 := Ho.out
      have hl := HL.out
      subst hl
      exact ⟨_, _, rfl, ho2, hW⟩
theorem dec_Int {H : Type} {enc0 : TypeId × Value → H} {w : World} {base : Nat} {spare : Nat → Bool} {held : Bool} (n : Nat) (cs : List Value) (x : DataW H × List MemPlace)
    (h : DataW.trod enc0 Try.prog w base spare held n 3 cs = some x) : ∃ y : Int, cs = encI y ∧ True := by
  obtain ⟨a, h1, _⟩ := DataW.trod_int Try.underlying3 h
  exact ⟨a, h1, trivial⟩
set_option maxRecDepth 20000 in
theorem open_IntS {H : Type} {enc0 : TypeId × Value → H} {w : World} {base b0 : Nat} {r : Reach} {spare : Nat → Bool} {held : Bool} {v : Value} {d : DataW H} {p : List MemPlace}
    (o : Value.okWide Try.prog w r b0 31 v) (h : DataW.Trod enc0 Try.prog w base spare held 31 v d p) :
    ∃ (A : Option Addr) (n c : Nat) (xs : List Int), v = .slice A n c ∧ Rd encI 1 w A n xs ∧ n ≤ 9223372036854775807 := by
  obtain ⟨A, n, c, xs, rfl, h, hc, hm, _⟩ := open_rd encI (fun _ => True) 1 Try.underlying31 o h (by kernel_rfl) (by omega) (fun _ => rfl) (fun n cs x hx => dec_Int n cs x hx)
  exact ⟨A, n, c, xs, rfl, h, by unfold maxLen at hm; omega⟩

end Go.Proofs.Ytbelkkfdblklbaa
