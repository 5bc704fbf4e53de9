/-
  Walks: what each function returns, and that it leaves what lay in memory as it was.
-/
import Derived.Test.YthccfnoebbimjaaProg
import Derived.Test.YthccfnoebbimjaaPlain
import Derived.Test.YthccfnoebbimjaaBase2
import Derived.Test.YthccfnoebbimjaaOpen2
import Derived.Test.YthccfnoebbimjaaShelf
import Derived.WalkKit
import Derived.WalkSpells
import Derived.WalkLawsBesides
import Derived.Lib.Hide
import Derived.Deep.LoopGhost
import Derived.Deep.QuietTactic
import Derived.BigQuiet
import Derived.Handy
import Derived.Deep.RegionHeld3
import Derived.StillTailTactics
import Derived.OpenShut
import Derived.ChangeSame
import Derived.Laws.StructEq

import Derived.Test.YthccfnoebbimjaaPlainT

import Derived.Test.YthccfnoebbimjaaW1

import Derived.Test.YthccfnoebbimjaaW3

import Derived.Test.YthccfnoebbimjaaW5

import Derived.Test.YthccfnoebbimjaaBase3

namespace Go.Proofs.Ythccfnoebbimjaa
open Go.ChangeShapes Go.WideShapes Go.ChangeAt Go.RowKit Go.Deep
set_option linter.unusedVariables false
set_option linter.unusedSimpArgs false

set_option maxRecDepth 20000

def membersOf (xs : List Span) (ids : List Int) : List Int := ids.filter (fun x => hasNum xs x (Lib.maxOf ids))
def mxTo (ids : List Int) (k : Nat) : Int := (ids.take k).foldl max (ids.headD 0)
theorem mxTo_succ {ids : List Int} {k : Nat} {x : Int} (h : ids[k]? = some x) : mxTo ids (k + 1) = iMax (mxTo ids k) x := by
  obtain ⟨h1, h2⟩ := List.getElem?_eq_some_iff.1 h
  unfold mxTo
  rw [List.take_succ_eq_append_getElem h1, List.foldl_append, h2, iMax_eq]
  rfl
theorem mxTo_all (ids : List Int) {k : Nat} (h : ids.length ≤ k) : mxTo ids k = Lib.maxOf ids := by
  unfold mxTo Lib.maxOf; rw [List.take_of_length_le h]
theorem filt_yes {p : Int → Bool} {ids : List Int} {k : Nat} {x : Int} (h : ids[k]? = some x) (hp : p x = true) : (ids.take (k + 1)).filter p = (ids.take k).filter p ++ [x] := by
  obtain ⟨h1, h2⟩ := List.getElem?_eq_some_iff.1 h
  rw [List.take_succ_eq_append_getElem h1, List.filter_append, h2]; simp [hp]
theorem filt_no {p : Int → Bool} {ids : List Int} {k : Nat} {x : Int} (h : ids[k]? = some x) (hp : p x = false) : (ids.take (k + 1)).filter p = (ids.take k).filter p := by
  obtain ⟨h1, h2⟩ := List.getElem?_eq_some_iff.1 h
  rw [List.take_succ_eq_append_getElem h1, List.filter_append, h2]; simp [hp]
theorem filt_len (p : Int → Bool) (ids : List Int) (k : Nat) : ((ids.take k).filter p).length ≤ k := by
  have h1 := List.length_filter_le p (ids.take k)
  have h2 : (ids.take k).length ≤ k := by simp; omega
  omega
set_option maxHeartbeats 1600000 in
theorem impl_MembersOf (A B : Option Addr) (n c m d : Nat) (xs : List Span) (ids : List Int) (w : World) (hn : n ≤ 4611686018427387904) (hm : m ≤ 1048576) (h : Rd encSpan 2 w A n xs) (hi : Rd encI 1 w B m ids) :
    Calls Try.prog 14 #[.slice A n c, .slice B m d] w (RetOwn encI 1 3 w (membersOf xs ids)) := by
  obtain ⟨R, hR⟩ : ∃ R, membersOf xs ids = R := ⟨_, rfl⟩
  obtain ⟨M, hM⟩ : ∃ M, Lib.maxOf ids = M := ⟨_, rfl⟩
  have HR := Lib.hid (show ids.filter (fun x => hasNum xs x M) = R by rw [← hR, ← hM]; rfl)
  rw [hR]
  have H := Lib.hid h
  have HI := Lib.hid hi
  have HL := Lib.hid hi.1
  have HM := Lib.hid hM
  have hnew := World.ownsRow_made (base := w.heap.size) (e := 3) (size := 1) w #[] 0 (Nat.le_refl _) (by unfold maxLen; omega) rfl
  clear h hi hR hM
  go_enter Try.func14, Try.ntmps14
  go_wp2_with fail
  go_loopw [5, 11] (fun o i wr => ∃ (k : Nat) (l : List Int), k ≤ m ∧ i = .int .i64 k ∧ Hid ((ids.take k).filter (fun x => hasNum xs x M) = l) ∧ l.length ≤ k ∧ wr.ownsRow w.heap.size 3 1 o l.length (l.flatMap encI) ∧ Below w.heap.size w wr) (fun _ i _ => m - (intOf i).toNat)
  case atStart => exact ⟨0, [], by omega, rfl, Lib.hid (by simp), by simp, hnew, (Below.refl _ _).alloc (Nat.le_refl _) _⟩
  case round =>
    obtain ⟨k, l, hk, rfl, hq, hll, hown, hW⟩ := hrel
    clear hnew
    have HW := Lib.hid hW
    have Hown := Lib.hid hown
    have hsz := hW.size
    clear hW hown
    by_cases hlt : k < m
    · obtain ⟨bk, off, x, rfl, hbk, hx, hc⟩ := (HI.out.below HW.out).elem hlt
      have g0 : wr.cell? ⟨bk, off + k, none⟩ = some (.int .i64 x) := by simpa using hc 0 _ rfl
      obtain ⟨b2, off2, he2, _, hc2⟩ := (HI.out.below HW.out).2 (by omega)
      injection he2 with he2; injection he2 with e1 e2
      subst e1; subst e2
      have HMx := Lib.hid (Try.slices_Max_int bk off m d ids wr (by omega) (by rw [HL.out]; omega) (by omega) (fun j hj => by
        have h1 : ids[j]? = some ids[j] := List.getElem?_eq_getElem hj
        have h2 := hc2 j _ h1 0 _ rfl
        rw [List.getD_eq_getElem?_getD, h1]
        simpa using h2))
      rw [List.take_of_length_le (by rw [HL.out]; omega), HM.out] at HMx
      have HC := Lib.hid (impl_hasNumber A n c xs x M wr hn (H.out.below HW.out))
      obtain ⟨b, hb⟩ : ∃ b, hasNum xs x M = b := ⟨_, rfl⟩
      rw [hb] at HC
      clear hc hc2
      cases b with
      | true =>
        have HN := Lib.hid (show (ids.take (k + 1)).filter (fun x => hasNum xs x M) = l ++ [x] by rw [filt_yes hx hb, hq.out])
        clear hq hb hx
        go_wp2_with fail
        refine HMx.out.mono ?_
        rintro e w0 ⟨rfl, rfl⟩
        go_wp2_with fail
        refine HC.out.mono ?_
        rintro e w1 ⟨rfl, hb1⟩
        have HW1 := Lib.hid (HW.out.trans (hb1.mono hsz))
        have hsz1 := HW1.out.size
        have Hown2 := Lib.hid ((own_below Hown.out hb1).alloc (.cells #[.int .i64 x] 3))
        have Hrd2 := Lib.hid (Rd.new (enc := encI) (k := 1) (fun _ => rfl) w1 #[.int .i64 x] 3 (n := 1) [x] rfl rfl)
        have HB3 := Lib.hid (HW1.out.alloc hsz1 (.cells #[.int .i64 x] 3))
        clear hb1
        go_wp2_with (at_builtin; refine wpList_app (enc := encI) (k := 1) (fun _ => rfl) (fun _ u hu => by simp at hu; subst hu; rfl) (by omega) rfl _ _ 27 3 rfl (.int .i64 0) 8 Try.underlying27 (by kernel_rfl) rfl w.heap.size _ l rfl Hown2.out _ _ _ _ rfl Hrd2.out (by first | omega | (simp; omega)) (by omega) (by first | omega | (simp; omega)) ?_; intro v2 w2 hown2 hbel2)
        have HB := Lib.hid (HB3.out.trans hbel2)
        clear hbel2
        go_roundw
        case rel => exact ⟨k + 1, l ++ [x], by omega, by go_num, HN, by simp; omega, hown2, HB.out⟩
        case measure => simp [intOf]; omega
      | false =>
        have HN := Lib.hid (show (ids.take (k + 1)).filter (fun x => hasNum xs x M) = l by rw [filt_no hx hb, hq.out])
        clear hq hb hx
        go_wp2_with fail
        refine HMx.out.mono ?_
        rintro e w0 ⟨rfl, rfl⟩
        go_wp2_with fail
        refine HC.out.mono ?_
        rintro e w1 ⟨rfl, hb1⟩
        have HW1 := Lib.hid (HW.out.trans (hb1.mono hsz))
        have Hown2 := Lib.hid (own_below Hown.out hb1)
        clear hb1
        go_wp2
        go_roundw
        case rel => exact ⟨k + 1, l, by omega, by go_num, HN, by omega, Hown2.out, HW1.out⟩
        case measure => simp [intOf]; omega
    · have hke : k = m := by omega
      have HF := Lib.hid (show l = R by
        have h := hq.out
        rw [List.take_of_length_le (by rw [HL.out]; omega)] at h
        rw [← HR.out, h])
      clear hq
      go_wp2
      go_ret
      have := Hown.out
      rw [HF.out] at this
      exact retOwn_mk this HW.out

set_option maxHeartbeats 800000 in
theorem laws_sameInts (A1 A2 : Option Addr) (n c1 c2 : Nat) (xs : List Int) (w : World) (hn : n ≤ 4611686018427387904) (h1 : Rd encI 1 w A1 n xs) (h2 : Rd encI 1 w A2 n xs) :
    Calls Try.prog 10 #[.slice A1 n c1, .slice A2 n c2] w fun e w' => e = .returned (.bool true) ∧ Below w.heap.size w w' := by
  have H1 := Lib.hid h1
  have H2 := Lib.hid h2
  clear h1 h2
  go_enter Try.func10, Try.ntmps10
  go_wp2_with fail
  go_loopw [5] (fun i wr => ∃ k : Nat, k ≤ n ∧ i = .int .i64 k ∧ Below w.heap.size w wr) (fun i _ => n - (intOf i).toNat)
  case atStart => exact ⟨0, Nat.zero_le _, rfl, Below.refl _ _⟩
  case round =>
    obtain ⟨k, hk, rfl, hW⟩ := hrel
    by_cases hlt : k < n
    · obtain ⟨b1, o1, x, rfl, _, hx, hc1⟩ := (H1.out.below hW).elem hlt
      obtain ⟨b2, o2, x', rfl, _, hx', hc2⟩ := (H2.out.below hW).elem hlt
      have hxx : x' = x := by rw [hx] at hx'; exact (Option.some.inj hx').symm
      subst hxx
      have g1 : wr.cell? ⟨b1, o1 + k, none⟩ = some (.int .i64 x') := by simpa using hc1 0 _ rfl
      have g2 : wr.cell? ⟨b2, o2 + k, none⟩ = some (.int .i64 x') := by simpa using hc2 0 _ rfl
      have HW := Lib.hid hW
      clear hc1 hc2 hx hx' hW H1 H2
      go_wp2
      go_quiet (fail)
      go_wp2
      go_roundw
      case rel => exact ⟨k + 1, by omega, by go_num, below_drewN HW.out _⟩
      case measure => simp [intOf]; omega
    · go_wp2
      go_ret
      exact ⟨rfl, hW⟩
def cntI (x : Int) (l : List Int) : Nat := l.count x
theorem cntI_succ {l : List Int} {k : Nat} {y : Int} (x : Int) (h : l[k]? = some y) : cntI x (l.take (k + 1)) = cntI x (l.take k) + (if y = x then 1 else 0) := by
  obtain ⟨h1, h2⟩ := List.getElem?_eq_some_iff.1 h
  unfold cntI
  rw [List.take_succ_eq_append_getElem h1, List.count_append, h2, List.count_singleton]
  simp
set_option maxHeartbeats 800000 in
theorem laws_times (A : Option Addr) (n c : Nat) (xs : List Int) (x : Int) (w : World) (hn : n ≤ 1048576) (h : Rd encI 1 w A n xs) :
    Calls Try.prog 13 #[.slice A n c, .int .i64 x] w fun e w' => e = .returned (.int .i64 (cntI x xs : Nat)) ∧ w = w' := by
  have HL := Lib.hid h.1
  have H := Lib.hid h
  clear h
  go_enter Try.func13, Try.ntmps13
  go_wp2_with fail
  go_loopw [5, 6] (fun m i wr => ∃ k q : Nat, k ≤ n ∧ q ≤ k ∧ i = .int .i64 k ∧ m = .int .i64 q ∧ Hid (cntI x (xs.take k) = q) ∧ wr = w) (fun _ i _ => n - (intOf i).toNat)
  case atStart => exact ⟨0, 0, by omega, by omega, rfl, rfl, Lib.hid (by simp [cntI]), rfl⟩
  case round =>
    obtain ⟨k, q, hk, hqk, rfl, rfl, hq, rfl⟩ := hrel
    by_cases hlt : k < n
    · obtain ⟨b, off, y, rfl, hb, hat, hc⟩ := H.out.elem hlt
      have c0 : wr.cell? ⟨b, off + k, none⟩ = some (.int .i64 y) := by simpa using hc 0 _ rfl
      have HN := Lib.hid (cntI_succ x hat)
      clear hc hat
      by_cases hyx : y = x
      · have HN2 := Lib.hid (show cntI x (xs.take (k + 1)) = q + 1 by rw [HN.out, hq.out, if_pos hyx])
        subst hyx
        clear HN hq
        go_wp2
        go_roundw
        case rel => exact ⟨k + 1, q + 1, by omega, by omega, by go_num, by go_num, HN2, trivial⟩
        case measure => simp [intOf]; omega
      · have HN2 := Lib.hid (show cntI x (xs.take (k + 1)) = q by rw [HN.out, hq.out, if_neg hyx]; rfl)
        clear HN hq
        go_wp2
        go_roundw
        case rel => exact ⟨k + 1, q, by omega, by omega, by go_num, rfl, HN2, trivial⟩
        case measure => simp [intOf]; omega
    · have hke : k = n := by omega
      subst hke
      have HF := Lib.hid (show cntI x xs = q by
        have h := hq.out
        rw [List.take_of_length_le (by rw [HL.out]; exact Nat.le_refl _)] at h
        exact h)
      clear hq
      go_wp2
      go_ret
      exact ⟨ret_i (by rw [HF.out]), rfl⟩
set_option maxHeartbeats 800000 in
theorem laws_at0 (A : Option Addr) (n c i : Nat) (xs : List UInt8) (w : World) (hn : n ≤ 1048576) (hi : i ≤ 1000) (h : Rd encB 1 w A n xs) :
    Calls Try.prog 12 #[.slice A n c, .int .i64 i] w fun e w' => (∃ m : Nat, m ≤ 255 ∧ e = .returned (.int .i64 m)) ∧ w = w' := by
  by_cases hlt : i < n
  · obtain ⟨b, off, x, rfl, hb, hat, hc⟩ := h.elem hlt
    have c0 : w.cell? ⟨b, off + i, none⟩ = some (.int .u8 (x.toNat : Int)) := by simpa using hc 0 _ rfl
    have hx := x.toNat_lt
    clear hc hat h
    go_enter Try.func12, Try.ntmps12
    go_wp2
    go_ret
    exact ⟨⟨x.toNat, by omega, rfl⟩, rfl⟩
  · clear h
    go_enter Try.func12, Try.ntmps12
    go_wp2
    go_ret
    have e1 : ((i : Int) * 7 + (n : Int)).tmod 256 = ((i : Int) * 7 + (n : Int)) % 256 := Int.tmod_eq_emod_of_nonneg (by omega)
    refine ⟨⟨(((i : Int) * 7 + (n : Int)) % 256).toNat, by omega, ?_⟩, rfl⟩
    refine ret_i ?_
    omega

theorem dec_Byte {H : Type} {enc0 : TypeId × Value → H} {w : World} {base : Nat} {spare : Nat → Bool} {held : Bool} (n : Nat) (cs : List Value) (x : DataW H × List MemPlace)
    (h : DataW.trod enc0 Try.prog w base spare held n 5 cs = some x) : ∃ y : UInt8, cs = encB y ∧ True := by
  obtain ⟨a, h1, _, hw⟩ := DataW.trod_int Try.underlying5 h
  have h : 0 ≤ a ∧ a < 256 := by simp [Lit.wf, IntKind.min, IntKind.max, IntKind.signed, IntKind.bits] at hw; omega
  refine ⟨UInt8.ofNat a.toNat, ?_, trivial⟩
  rw [h1]
  have h2 : (UInt8.ofNat a.toNat).toNat = a.toNat := UInt8.toNat_ofNat_of_lt' (by show a.toNat < 256; omega)
  show [Value.int .u8 a] = [Value.int .u8 ((UInt8.ofNat a.toNat).toNat : Int)]
  rw [h2, Int.toNat_of_nonneg h.1]
set_option maxRecDepth 20000 in
/-- Bytes that came in. -/
theorem open_Bytes {H : Type} {enc0 : TypeId × Value → H} {w : World} {base b0 : Nat} {r : Reach} {spare : Nat → Bool} {held : Bool} {v : Value} {d : DataW H} {p : List MemPlace}
    (o : Value.okWide Try.prog w r b0 22 v) (h : DataW.Trod enc0 Try.prog w base spare held 22 v d p) :
    ∃ (A : Option Addr) (n c : Nat) (xs : List UInt8), v = .slice A n c ∧ Rd encB 1 w A n xs ∧ n ≤ 9223372036854775807 := by
  obtain ⟨A, n, c, xs, rfl, h, hc, hm, hN⟩ := open_rd encB (fun _ => True) 1 Try.underlying22 o h (by kernel_rfl) (by omega) (fun _ => rfl) (fun n cs x hx => dec_Byte n cs x hx)
  exact ⟨A, n, c, xs, rfl, h, by unfold maxLen at hm; omega⟩
theorem laws_big (A : Option Addr) (n c : Nat) (w : World) (hn : n ≤ 9223372036854775807) :
    Calls Try.prog 7 #[.slice A n c] w fun e w' => e = .returned (.bool (decide (1048576 < n))) ∧ w = w' := by
  by_cases h : 1048576 < n
  · go_enter Try.func7, Try.ntmps7
    go_wp2
    go_ret
    exact ⟨by simp [h]; try omega, rfl⟩
  · go_enter Try.func7, Try.ntmps7
    go_wp2
    go_ret
    exact ⟨by simp [h]; try omega, rfl⟩

end Go.Proofs.Ythccfnoebbimjaa
