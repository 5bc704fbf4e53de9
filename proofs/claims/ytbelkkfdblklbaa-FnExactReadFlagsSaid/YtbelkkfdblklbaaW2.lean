/-
  Walks: what each function returns, and that it leaves what lay in memory as it was.
-/
import Derived.Test.YtbelkkfdblklbaaProg
import Derived.Test.YtbelkkfdblklbaaPlain
import Derived.Test.YtbelkkfdblklbaaBase2
import Derived.Test.YtbelkkfdblklbaaOpen2
import Derived.Test.YtbelkkfdblklbaaShelf
import Derived.WalkKit
import Derived.WalkSpells
import Derived.WalkLawsBesides
import Derived.Lib.Hide
import Derived.Deep.LoopGhost
import Derived.Deep.QuietTactic
import Derived.BigQuiet
import Derived.Handy
import Derived.Deep.RegionHeld3
import Derived.StillTailTactics
import Derived.OpenShut
import Derived.ChangeSame
import Derived.Laws.StructEq

import Derived.Test.YtbelkkfdblklbaaPlainT

import Derived.Test.YtbelkkfdblklbaaW1

import Derived.Test.YtbelkkfdblklbaaBase3

namespace Go.Proofs.Ytbelkkfdblklbaa
open Go.ChangeShapes Go.WideShapes Go.ChangeAt Go.RowKit Go.Deep
set_option linter.unusedVariables false
set_option linter.unusedSimpArgs false

set_option maxHeartbeats 800000 in
theorem laws_eqStringS (A1 A2 : Option Addr) (n c1 c2 : Nat) (xs : List Str) (w : World) (hn : n ≤ 4611686018427387904) (h1 : Rd encStr 1 w A1 n xs) (h2 : Rd encStr 1 w A2 n xs) :
    Calls Try.prog 10 #[.slice A1 n c1, .slice A2 n c2] w fun e w' => e = .returned (.bool true) ∧ Below w.heap.size w w' := by
  have H1 := Lib.hid h1
  have H2 := Lib.hid h2
  clear h1 h2
  go_enter Try.func10, Try.ntmps10
  go_wp2_with fail
  go_loopw [5] (fun i wr => ∃ k : Nat, k ≤ n ∧ i = .int .i64 k ∧ Below w.heap.size w wr) (fun i _ => n - (intOf i).toNat)
  case atStart => exact ⟨0, Nat.zero_le _, rfl, Below.refl _ _⟩
  case round =>
    obtain ⟨k, hk, rfl, hW⟩ := hrel
    by_cases hlt : k < n
    · obtain ⟨b1, o1, x, rfl, _, hx, hc1⟩ := (H1.out.below hW).elem hlt
      obtain ⟨b2, o2, x', rfl, _, hx', hc2⟩ := (H2.out.below hW).elem hlt
      have hxx : x' = x := by rw [hx] at hx'; exact (Option.some.inj hx').symm
      subst hxx
      have g1 : wr.cell? ⟨b1, o1 + k, none⟩ = some (.string ⟨x'.toArray⟩) := by simpa using hc1 0 _ rfl
      have g2 : wr.cell? ⟨b2, o2 + k, none⟩ = some (.string ⟨x'.toArray⟩) := by simpa using hc2 0 _ rfl
      have HW := Lib.hid hW
      clear hc1 hc2 hx hx' hW H1 H2
      go_wp2
      go_quiet (fail)
      go_wp2
      go_roundw
      case rel => exact ⟨k + 1, by omega, by go_num, below_drewN HW.out _⟩
      case measure => simp [intOf]; omega
    · go_wp2
      go_ret
      exact ⟨rfl, hW⟩

theorem dec_Str {H : Type} {enc0 : TypeId × Value → H} {w : World} {base : Nat} {spare : Nat → Bool} {held : Bool} (n : Nat) (cs : List Value) (x : DataW H × List MemPlace)
    (h : DataW.trod enc0 Try.prog w base spare held n 9 cs = some x) : ∃ y : Str, cs = encStr y ∧ strBig y := by
  obtain ⟨a, h1, _, b⟩ := DataW.trod_string Try.underlying9 h
  refine ⟨a.data.toList, ?_, ?_⟩
  · rw [h1]
  · unfold strBig; rw [← size_len]; exact b
set_option maxHeartbeats 800000 in
theorem laws_szStringS (A : Option Addr) (n c : Nat) (xs : List Str) (left : Int) (w : World) (h0 : 0 ≤ left) (h1 : left ≤ 1048576) (hn : n ≤ 9223372036854775807) (h : Rd encStr 1 w A n xs) (hx : ∀ y ∈ xs, strBig y) :
    Calls Try.prog 6 #[.slice A n c, .int .i64 left] w fun e w' => (∃ v : Int, e = .returned (.int .i64 v) ∧ -1 ≤ v ∧ v ≤ left ∧ (0 ≤ v → n ≤ 1048576 ∧ ∀ y ∈ xs, strFit y)) ∧ Below w.heap.size w w' := by
  have HL := Lib.hid h.1
  have H := Lib.hid h
  have HX := Lib.hid hx
  clear h hx
  by_cases hlt0 : left - (n : Int) < 0
  · go_enter Try.func6, Try.ntmps6
    go_wp2
    go_ret
    exact ⟨⟨-1, rfl, by omega, by omega, by omega⟩, Below.refl _ _⟩
  · go_enter Try.func6, Try.ntmps6
    go_wp2_with fail
    go_loopw [1, 5] (fun l i wr => ∃ (k : Nat) (v : Int), k ≤ n ∧ i = .int .i64 k ∧ l = .int .i64 v ∧ 0 ≤ v ∧ v ≤ left ∧ Hid (∀ (j : Nat) (y : Str), j < k → xs[j]? = some y → strFit y) ∧ Below w.heap.size w wr) (fun _ i _ => n - (intOf i).toNat)
    case atStart => exact ⟨0, left - n, Nat.zero_le _, rfl, rfl, by omega, by omega, fun j y hj => absurd hj (by omega), Below.refl _ _⟩
    case round =>
      obtain ⟨k, v, hk, rfl, rfl, hv0, hv1, ha, hW⟩ := hrel
      by_cases hlt : k < n
      · obtain ⟨b, off, x, rfl, _, hx, hc⟩ := (H.out.below hW).elem hlt
        have g0 : wr.cell? ⟨b, off + k, none⟩ = some (.string ⟨x.toArray⟩) := by simpa using hc 0 _ rfl
        have hbig : (⟨x.toArray⟩ : ByteArray).size ≤ 9223372036854775807 := by have := HX.out x (List.mem_of_getElem? hx); rw [encStr_size]; unfold strBig maxLen at this; omega
        have hfit : 0 ≤ v - ((⟨x.toArray⟩ : ByteArray).size : Int) → strFit x := by intro h; unfold strFit; rw [encStr_size] at h; omega
        have Hx := Lib.hid hx
        have HF := Lib.hid hfit
        have HW := Lib.hid hW
        clear hc hx hW H hfit HX
        generalize (⟨x.toArray⟩ : ByteArray) = z at *
        by_cases hneg : v - (z.size : Int) < 0
        · go_wp2
          go_ret
          exact ⟨⟨-1, rfl, by omega, by omega, by omega⟩, HW.out⟩
        · have hs := Lib.hid (allP_succ ha.out Hx.out (HF.out (by omega)))
          go_wp2
          go_roundw
          case rel => exact ⟨k + 1, _, by omega, by go_num, rfl, by omega, by omega, hs.out, HW.out⟩
          case measure => simp [intOf]; omega
      · have hke : k = n := by omega
        have hfin := Lib.hid (show ∀ y ∈ xs, strFit y from fun y hy => by
          obtain ⟨j, hj, e⟩ := List.getElem_of_mem hy
          exact ha.out j y (by rw [hke, ← HL.out]; exact hj) (by rw [List.getElem?_eq_getElem hj, e]))
        clear ha hke
        go_wp2
        go_ret
        exact ⟨⟨v, rfl, by omega, by omega, fun _ => ⟨by omega, hfin.out⟩⟩, hW⟩
set_option maxHeartbeats 1600000 in
set_option maxRecDepth 20000 in
theorem laws_toStringS (A : Option Addr) (n c : Nat) (xs : List Str) (w : World) (hn : n ≤ 1048576) (h : Rd encStr 1 w A n xs) :
    Calls Try.prog 8 #[.slice A n c] w (RetOwn encStr 1 9 w xs) := by
  have HL := Lib.hid h.1
  have H := Lib.hid h
  clear h
  go_enter Try.func8, Try.ntmps8
  go_wp2_with (at_make; refine wpList_mk (enc := encStr) zeroStr (k := 1) (by omega) rfl rfl _ _ 22 9 rfl (.string ByteArray.empty) 16 Try.underlying22 (by kernel_rfl) rfl n rfl rfl (by omega) (by omega) ?_; intro w1 g hown hg hb1)
  go_wp2_with fail
  go_loopw [4] (fun i wr => ∃ j : Nat, j ≤ n ∧ i = .int .i64 j ∧ wr.ownsRow w.heap.size 9 1 (.slice (some ⟨g, 0, none⟩) n n) n ((xs.take j ++ List.replicate (n - j) zeroStr).flatMap encStr) ∧ Below w.heap.size w wr) (fun i _ => n - (intOf i).toNat)
  case atStart => exact ⟨0, Nat.zero_le _, rfl, hown, hb1⟩
  case round =>
    obtain ⟨j, hj, rfl, ho, hW⟩ := hrel
    clear hown hb1
    by_cases hlt : j < n
    · obtain ⟨b, off, x, rfl, hb, hx, hc⟩ := (H.out.below hW).elem hlt
      have g0 : wr.cell? ⟨b, off + j, none⟩ = some (.string ⟨x.toArray⟩) := by simpa using hc 0 _ rfl
      have hat := take_at xs zeroStr n j HL.out hlt
      have c0 : wr.cell? ⟨g, j, none⟩ = some (.string ⟨#[]⟩) := by
        have := (ho.cellAt (j * 1) (by omega)).trans (flat_get (enc := encStr) (k := 1) (fun _ => rfl) _ j 0 _ _ hat rfl)
        simpa [zeroStr] using this
      have f0 : wr.frozen? ⟨g, j, none⟩ = false := ho.frozenAt j
      have s0 := ho.stored j (.string ⟨x.toArray⟩)
      have hfin := s0.1
      rw [flat_setS, take_set xs zeroStr x n j HL.out hlt hx] at hfin
      have Hfin := Lib.hid hfin
      have Hbel := Lib.hid (hW.trans (gb_to_below (B := w.heap.size) s0.2 (by have h1 := hW.size; simp; omega) (fun k hk => by simp at hk; omega)))
      clear s0 hfin hat ho hc hx hW H
      go_wp2
      go_roundw
      case rel => exact ⟨j + 1, by omega, by go_num, Hfin.out, Hbel.out⟩
      case measure => simp [intOf]; omega
    · have hke : j = n := by omega
      subst hke
      rw [Nat.sub_self, List.replicate_zero, List.append_nil, List.take_of_length_le (by rw [HL.out]; exact Nat.le_refl _)] at ho
      have Ho := Lib.hid ho
      clear ho hlt
      go_wp2
      go_ret
      have ho2 := Ho.out
      have hl := HL.out
      subst hl
      exact ⟨_, _, rfl, ho2, hW⟩
set_option maxRecDepth 20000 in
/-- A slice of strings that came in. -/
theorem open_Strs {H : Type} {enc0 : TypeId × Value → H} {w : World} {base b0 : Nat} {r : Reach} {spare : Nat → Bool} {held : Bool} {v : Value} {d : DataW H} {p : List MemPlace}
    (o : Value.okWide Try.prog w r b0 22 v) (h : DataW.Trod enc0 Try.prog w base spare held 22 v d p) :
    ∃ (A : Option Addr) (n c : Nat) (xs : List Str), v = .slice A n c ∧ Rd encStr 1 w A n xs ∧ n ≤ 9223372036854775807 ∧ ∀ y ∈ xs, strBig y := by
  obtain ⟨A, n, c, xs, rfl, h, hc, hm, hN⟩ := open_rd encStr strBig 1 Try.underlying22 o h (by kernel_rfl) (by omega) (fun _ => rfl) (fun n cs x hx => dec_Str n cs x hx)
  exact ⟨A, n, c, xs, rfl, h, by unfold maxLen at hm; omega, hN⟩

set_option maxHeartbeats 800000 in
set_option maxRecDepth 20000 in
theorem slices_IndexFunc_Str (A : Option Addr) (n c g : Nat) (lb : Array Value) (p : Str → Bool) (xs : List Str) (w : World) (hn : n ≤ 4611686018427387904) (h : Rd encStr 1 w A n xs)
    (eg : ∀ args w, (callFunc g args).run Try.prog w = .ok (.enter g args) w) (hp : PaysAt Try.prog g lb (fun x : Str => .string ⟨x.toArray⟩) p w xs) :
    Calls Try.prog 34 #[.slice A n c, .func (.func g) #[] lb] w fun e w' => e = .returned (.int .i64 (ixOf p xs)) ∧ Below w.heap.size w w' := by
  have HL := Lib.hid h.1
  have H := Lib.hid h
  have HP := Lib.hid hp
  clear h hp
  go_enter Try.func34, Try.ntmps34
  go_wp2_with fail
  go_loopw [8] (fun i wr => ∃ k : Nat, k ≤ n ∧ i = .int .i64 k ∧ Below w.heap.size w wr ∧ Hid (∀ (j : Nat) (y : Str), j < k → xs[j]? = some y → p y = false)) (fun i _ => n - (intOf i).toNat)
  case atStart => exact ⟨0, Nat.zero_le _, rfl, Below.refl _ _, fun j y hj => absurd hj (by omega)⟩
  case round =>
    obtain ⟨k, hk, rfl, hW, ha⟩ := hrel
    by_cases hlt : k < n
    · obtain ⟨b, off, x, rfl, _, hx, hc⟩ := (H.out.below hW).elem hlt
      have g0 : wr.cell? ⟨b, off + k, none⟩ = some (.string ⟨x.toArray⟩) := by simpa using hc 0 _ rfl
      have hcall := HP.out wr x (List.mem_of_getElem? hx) hW
      have HX := Lib.hid hx
      have HW := Lib.hid hW
      clear hc hx hW H HP
      cases hq : p x with
      | true =>
        rw [hq] at hcall
        have hfin := Lib.hid (ixOf_hit HX.out hq ha.out)
        clear hq ha
        go_wp2_with (go_at_fn g; refine hcall.mono ?_; rintro e w' ⟨rfl, hb'⟩)
        go_ret
        exact ⟨ret_i hfin.out.symm, HW.out.trans (hb'.mono HW.out.size)⟩
      | false =>
        rw [hq] at hcall
        have hs := Lib.hid (anyF_succ ha.out HX.out hq)
        clear hq ha
        go_wp2_with (go_at_fn g; refine hcall.mono ?_; rintro e w' ⟨rfl, hb'⟩)
        go_roundw
        case rel => exact ⟨k + 1, by omega, by go_num, HW.out.trans (hb'.mono HW.out.size), hs.out⟩
        case measure => simp [intOf]; omega
    · have hke : k = n := by omega
      have hfin := Lib.hid (ixOf_miss (p := p) (l := xs) (fun j y hy => ha.out j y (by rw [hke, ← HL.out]; exact (List.getElem?_eq_some_iff.1 hy).1) hy))
      clear ha hke
      go_wp2
      go_ret
      exact ⟨ret_i hfin.out.symm, hW⟩

end Go.Proofs.Ytbelkkfdblklbaa
