/-
  Walks: what each function returns, and that it leaves what lay in memory as it was.
-/
import Derived.Test.YthccfnoebbimjaaDoorProg
import Derived.Test.YthccfnoebbimjaaDoorPlain
import Derived.Test.YthccfnoebbimjaaDoorBase2
import Derived.Test.YthccfnoebbimjaaDoorOpen2
import Derived.Test.YthccfnoebbimjaaDoorShelf
import Derived.WalkKit
import Derived.WalkSpells
import Derived.WalkLawsBesides
import Derived.Lib.Hide
import Derived.Deep.LoopGhost
import Derived.Deep.QuietTactic
import Derived.BigQuiet
import Derived.Handy
import Derived.Deep.RegionHeld3
import Derived.StillTailTactics
import Derived.OpenShut
import Derived.ChangeSame
import Derived.Laws.StructEq

import Derived.Test.YthccfnoebbimjaaDoorPlainT

import Derived.Test.YthccfnoebbimjaaDoorW1

import Derived.Test.YthccfnoebbimjaaDoorW2

import Derived.Test.YthccfnoebbimjaaDoorBase3

namespace Go.Proofs.YthccfnoebbimjaaDoor
open Go.ChangeShapes Go.WideShapes Go.ChangeAt Go.RowKit Go.Deep
set_option linter.unusedVariables false
set_option linter.unusedSimpArgs false

set_option maxRecDepth 20000

theorem dec_Str {H : Type} {enc0 : TypeId × Value → H} {w : World} {base : Nat} {spare : Nat → Bool} {held : Bool} (n : Nat) (cs : List Value) (x : DataW H × List MemPlace)
    (h : DataW.trod enc0 Tryd.prog w base spare held n 9 cs = some x) : ∃ y : Str, cs = encStr y ∧ strBig y := by
  obtain ⟨a, h1, _, b⟩ := DataW.trod_string Tryd.underlying9 h
  refine ⟨a.data.toList, ?_, ?_⟩
  · rw [h1]
  · unfold strBig; rw [← size_len]; exact b
set_option maxRecDepth 20000 in
/-- A slice of strings that came in. -/
theorem open_Strs {H : Type} {enc0 : TypeId × Value → H} {w : World} {base b0 : Nat} {r : Reach} {spare : Nat → Bool} {held : Bool} {v : Value} {d : DataW H} {p : List MemPlace}
    (o : Value.okWide Tryd.prog w r b0 34 v) (h : DataW.Trod enc0 Tryd.prog w base spare held 34 v d p) :
    ∃ (A : Option Addr) (n c : Nat) (xs : List Str), v = .slice A n c ∧ Rd encStr 1 w A n xs ∧ n ≤ 9223372036854775807 ∧ ∀ y ∈ xs, strBig y := by
  obtain ⟨A, n, c, xs, rfl, h, hc, hm, hN⟩ := open_rd encStr strBig 1 Tryd.underlying34 o h (by kernel_rfl) (by omega) (fun _ => rfl) (fun n cs x hx => dec_Str n cs x hx)
  exact ⟨A, n, c, xs, rfl, h, by unfold maxLen at hm; omega, hN⟩

abbrev bsOf (xs : List Str) : List ByteArray := xs.map fun l => (⟨l.toArray⟩ : ByteArray)
theorem bsOf_back (xs : List Str) : (bsOf xs).map (·.data.toList) = xs := by simp [bsOf, List.map_map, Function.comp_def]
/-- strings.Join at a slice that reads as a list. -/
theorem join_rd (A : Option Addr) (n c : Nat) (xs : List Str) (sep : ByteArray) (w : World) (hn : n ≤ 1048576) (hcap : n ≤ c) (h : Rd encStr 1 w A n xs) (hf : ∀ y ∈ xs, strFit y) (hs : sep.size ≤ 1048576) :
    Calls Tryd.prog 40 #[.slice A n c, .string sep] w fun e w' => e = .returned (.string ⟨(Lib.join xs sep.data.toList).toArray⟩) ∧ Below w.heap.size w w' := by
  have hb := join_bound (xs := xs) (sep := sep.data.toList) (by rw [h.1]; exact hn) hf (by rw [← size_len]; exact hs)
  rcases Nat.eq_zero_or_pos n with h0 | h0
  · subst h0
    obtain rfl : xs = [] := List.eq_nil_of_length_eq_zero h.1
    refine (Tryd.strings_Join_none A c sep w).mono ?_
    rintro e w' ⟨rfl, rfl⟩
    exact ⟨rfl, Below.refl _ _⟩
  · obtain ⟨b, off, rfl, hbk, hc⟩ := h.2 h0
    have hl : (bsOf xs).length = n := by rw [List.length_map]; exact h.1
    have hk := Tryd.strings_Join b off c (bsOf xs) sep w (fun j x hx => by
      rw [List.getElem?_map] at hx
      obtain ⟨y, hy, rfl⟩ := Option.map_eq_some_iff.1 hx
      simpa using hc j y hy 0 _ rfl) hbk (by rw [hl]; omega) (by rw [hl]; exact hcap) (by rw [bsOf_back]; omega)
    rw [hl, bsOf_back] at hk
    exact hk
theorem impl_Joined (A : Option Addr) (n c : Nat) (xs : List Str) (sep : ByteArray) (w : World) (hn : n ≤ 1048576) (hcap : n ≤ c) (h : Rd encStr 1 w A n xs) (hf : ∀ y ∈ xs, strFit y) (hs : sep.size ≤ 1048576) :
    Calls Tryd.prog 26 #[.slice A n c, .string sep] w fun e w' => e = .returned (.string ⟨(Lib.join xs sep.data.toList).toArray⟩) ∧ Below w.heap.size w w' := by
  have HC := Lib.hid (fun W hb => join_rd A n c xs sep W hn hcap (h.below hb) hf hs)
  clear h hf
  go_enter Tryd.func26, Tryd.ntmps26
  go_wp2_with fail
  refine (HC.out _ (by go_grown)).mono ?_
  rintro e w1 ⟨rfl, hb⟩
  have HB := Lib.hid hb
  clear hb HC
  go_wp2
  go_ret
  exact ⟨rfl, HB.out⟩
set_option maxHeartbeats 1600000 in
theorem spec_Joined (A : Option Addr) (n c : Nat) (xs : List Str) (sep : ByteArray) (w : World) (hn : n ≤ 1048576) (h : Rd encStr 1 w A n xs) (hf : ∀ y ∈ xs, strFit y) (hs : sep.size ≤ 1048576) :
    Calls Tryd.prog 34 #[.slice A n c, .string sep] w fun e w' => e = .returned (.string ⟨(Lib.join xs sep.data.toList).toArray⟩) ∧ Below w.heap.size w w' := by
  have HL := Lib.hid h.1
  have H := Lib.hid h
  have HF := Lib.hid hf
  have HT := Lib.hid (fun k => join_take_bound (xs := xs) (sep := sep.data.toList) k (by rw [h.1]; exact hn) hf (by rw [← size_len]; exact hs))
  have HSz := Lib.hid (size_len sep)
  clear h hf
  have hnew := World.ownsRow_made (base := w.heap.size) (e := 5) (size := 1) w #[] 0 (Nat.le_refl _) (by unfold maxLen; omega) rfl
  go_enter Tryd.func34, Tryd.ntmps34
  go_wp2_with fail
  go_loopw [5, 6] (fun o i wr => ∃ (k : Nat) (l : Str), k ≤ n ∧ i = .int .i64 k ∧ l = Lib.join (xs.take k) sep.data.toList ∧ wr.ownsRow w.heap.size 5 1 o l.length (l.flatMap encB) ∧ Below w.heap.size w wr) (fun _ i _ => n - (intOf i).toNat)
  case atStart => exact ⟨0, [], by omega, rfl, rfl, hnew, (Below.refl _ _).alloc (Nat.le_refl _) _⟩
  case round =>
    obtain ⟨k, l, hk, rfl, hl, hown, hW⟩ := hrel
    clear hnew
    have hll : l.length ≤ 2199023255552 := by rw [hl]; exact HT.out k
    by_cases hlt : k < n
    · obtain ⟨b, off, x, rfl, hbw, hx, hc⟩ := H.out.elem hlt
      have g0w : w.cell? ⟨b, off + k, none⟩ = some (.string ⟨x.toArray⟩) := by simpa using hc 0 _ rfl
      have hxl : x.length ≤ 1048576 := HF.out x (List.mem_of_getElem? hx)
      have Hnext := Lib.hid (join_take_succ sep.data.toList hx)
      obtain ⟨zx, hzx⟩ : ∃ z : ByteArray, (⟨x.toArray⟩ : ByteArray) = z := ⟨_, rfl⟩
      rw [hzx] at g0w
      have HC := Lib.hid (fun W (hb : Below w.heap.size w W) => (hb.cell (p := ⟨b, off + k, none⟩) hbw).trans g0w)
      have g0 := HC.out wr hW
      have hsz := hW.size
      have HW := Lib.hid hW
      have Hown := Lib.hid hown
      have Hl := Lib.hid hl
      clear hc hx hown hW hl g0w
      have HZ := Lib.hid (show zx.data.toList = x by rw [← hzx])
      have hzl : zx.size ≤ 1048576 := by rw [← hzx]; show x.toArray.size ≤ _; simpa using hxl
      clear hzx
      by_cases hk0 : k = 0
      · have hk0d : decide ((0 : Int) < (k : Int)) = false := by rw [hk0]; rfl
        have hk0e : decide (0 < k) = false := by rw [hk0]; rfl
        have hle : l = [] := by rw [Hl.out, hk0]; rfl
        have HN := Lib.hid (show l ++ zx.data.toList = Lib.join (xs.take (k + 1)) sep.data.toList by rw [Hnext.out, if_pos hk0, HZ.out, hle]; rfl)
        clear hk0 hle Hnext Hl
        go_wp2_with (at_builtin; refine wpList_appS rfl _ _ 28 9 5 rfl Tryd.underlying28 Tryd.underlying9 (by kernel_rfl) w.heap.size _ l rfl Hown.out zx rfl (by omega) (by omega) ?_; intro v' w' hown' hbel')
        have HB := Lib.hid (HW.out.trans hbel')
        clear hbel'
        go_roundw
        case rel => exact ⟨k + 1, l ++ zx.data.toList, by omega, by go_num, HN.out, hown', HB.out⟩
        case measure => simp [intOf]; omega
      · have hk0i : (0 : Int) < (k : Int) := by omega
        have hk0n : 0 < k := by omega
        have HN := Lib.hid (show (l ++ sep.data.toList) ++ zx.data.toList = Lib.join (xs.take (k + 1)) sep.data.toList by rw [Hnext.out, if_neg hk0, HZ.out, Hl.out])
        have hlen2 : (l ++ sep.data.toList).length ≤ 2199024304128 := by rw [List.length_append, ← HSz.out]; omega
        clear Hnext Hl
        go_wp2_with (first
          | (at_builtin; refine wpList_appS rfl _ _ 28 9 5 rfl Tryd.underlying28 Tryd.underlying9 (by kernel_rfl) w.heap.size _ l rfl Hown.out sep rfl (by omega) (by omega) ?_; intro v1 w1 hown1 hbel1; have HB1 := Lib.hid (HW.out.trans hbel1); have g1 := HC.out w1 HB1.out; have hsz1 := HB1.out.size; have Hown1 := Lib.hid hown1; clear hown1 hbel1)
          | (at_builtin; refine wpList_appS rfl _ _ 28 9 5 rfl Tryd.underlying28 Tryd.underlying9 (by kernel_rfl) w.heap.size _ (l ++ sep.data.toList) rfl Hown1.out zx rfl (by omega) (by omega) ?_; intro v2 w2 hown2 hbel2))
        have HB := Lib.hid (HB1.out.trans hbel2)
        clear hbel2
        go_roundw
        case rel => exact ⟨k + 1, (l ++ sep.data.toList) ++ zx.data.toList, by omega, by go_num, HN.out, hown2, HB.out⟩
        case measure => simp [intOf]; omega
    · have hke : k = n := by omega
      subst hke
      rw [List.take_of_length_le (by rw [HL.out]; exact Nat.le_refl _)] at hl
      have Hl := Lib.hid hl
      obtain ⟨A', c', rfl⟩ := own_form hown
      have hcv := run_ofBytes (P := Tryd.prog) 28 9 5 Tryd.underlying28 Tryd.underlying5 Tryd.underlying9 (Rd.of_own (enc := encB) (k := 1) (fun _ => rfl) hown rfl) c'
      clear hl hown
      go_wp2
      go_ret
      exact ⟨ret_s (by rw [Hl.out]), hW⟩

theorem laws_eqSpan (a b : Int) (w : World) :
    Calls Tryd.prog 22 #[.agg #[.int .i64 a, .int .i64 b], .agg #[.int .i64 a, .int .i64 b]] w fun e w' => e = .returned (.bool true) ∧ Below w.heap.size w w' := by
  go_enter Tryd.func22, Tryd.ntmps22
  go_wp2
  go_ret
  exact ⟨rfl, by go_grown⟩
set_option maxHeartbeats 800000 in
set_option maxRecDepth 20000 in
theorem laws_eqSpanS (A1 A2 : Option Addr) (n c1 c2 : Nat) (xs : List Span) (w : World) (hn : n ≤ 4611686018427387904) (h1 : Rd encSpan 2 w A1 n xs) (h2 : Rd encSpan 2 w A2 n xs) :
    Calls Tryd.prog 7 #[.slice A1 n c1, .slice A2 n c2] w fun e w' => e = .returned (.bool true) ∧ Below w.heap.size w w' := by
  have H1 := Lib.hid h1
  have H2 := Lib.hid h2
  clear h1 h2
  go_enter Tryd.func7, Tryd.ntmps7
  go_wp2_with fail
  go_loopw [5] (fun i wr => ∃ k : Nat, k ≤ n ∧ i = .int .i64 k ∧ Below w.heap.size w wr) (fun i _ => n - (intOf i).toNat)
  case atStart => exact ⟨0, Nat.zero_le _, rfl, Below.refl _ _⟩
  case round =>
    obtain ⟨k, hk, rfl, hW⟩ := hrel
    by_cases hlt : k < n
    · obtain ⟨b1, o1, x, rfl, _, hx, hc1⟩ := (H1.out.below hW).elem hlt
      obtain ⟨b2, o2, x', rfl, _, hx', hc2⟩ := (H2.out.below hW).elem hlt
      have hxx : x' = x := by rw [hx] at hx'; exact (Option.some.inj hx').symm
      subst hxx
      have g1 : wr.cell? ⟨b1, o1 + k * 2, none⟩ = some (.int .i64 x'.1) := by simpa using hc1 0 _ rfl
      have g2 : wr.cell? ⟨b1, o1 + k * 2 + 1, none⟩ = some (.int .i64 x'.2) := hc1 1 _ rfl
      have g3 : wr.cell? ⟨b2, o2 + k * 2, none⟩ = some (.int .i64 x'.1) := by simpa using hc2 0 _ rfl
      have g4 : wr.cell? ⟨b2, o2 + k * 2 + 1, none⟩ = some (.int .i64 x'.2) := hc2 1 _ rfl
      have HW := Lib.hid hW
      clear hc1 hc2 hx hx' hW H1 H2
      have hkn : (k : Int) < (n : Int) := by omega
      have hk0 : (0 : Int) ≤ (k : Int) := by omega
      go_wp2_with fail
      go_still_tail 8, (by kernel_rfl)
      change wpList _ _ _ _ _ wr.drew
      replace g1 : wr.drew.cell? ⟨b1, o1 + k * 2, none⟩ = some (.int .i64 x'.1) := g1
      replace g2 : wr.drew.cell? ⟨b1, o1 + k * 2 + 1, none⟩ = some (.int .i64 x'.2) := g2
      replace g3 : wr.drew.cell? ⟨b2, o2 + k * 2, none⟩ = some (.int .i64 x'.1) := g3
      replace g4 : wr.drew.cell? ⟨b2, o2 + k * 2 + 1, none⟩ = some (.int .i64 x'.2) := g4
      have HW2 := Lib.hid (HW.out.drew)
      clear HW
      generalize wr.drew = w2 at *
      go_wp2_with (go_at_call 22; refine (laws_eqSpan _ _ _).mono ?_; rintro e w3 ⟨rfl, hb3⟩)
      go_roundw
      case rel => exact ⟨k + 1, by omega, by go_num, HW2.out.trans (hb3.mono HW2.out.size)⟩
      case measure => simp [intOf]; omega
    · go_wp2
      go_ret
      exact ⟨rfl, hW⟩
set_option maxHeartbeats 800000 in
theorem spec_SetOk (A : Option Addr) (n c : Nat) (xs : List Span) (w : World) (hn : n ≤ 4611686018427387904) (h : Rd encSpan 2 w A n xs) :
    Calls Tryd.prog 14 #[.slice A n c] w fun e w' => e = .returned (.bool (setOk xs)) ∧ w = w' := by
  have HL := Lib.hid h.1
  have H := Lib.hid h
  clear h
  go_enter Tryd.func14, Tryd.ntmps14
  go_wp2_with fail
  go_loop [3] (fun i => ∃ k : Nat, k ≤ n ∧ i = .int .i64 k ∧ Hid (∀ (j : Nat) (y : Span), j < k → xs[j]? = some y → spanOk y = true)) (fun i => n - (intOf i).toNat)
  case atStart => exact ⟨0, Nat.zero_le _, rfl, fun j y hj => absurd hj (by omega)⟩
  case round =>
    obtain ⟨k, hk, rfl, ha⟩ := hrel
    by_cases hlt : k < n
    · obtain ⟨b, off, x, rfl, _, hx, hc⟩ := H.out.elem hlt
      have g1 : w.cell? ⟨b, off + k * 2, none⟩ = some (.int .i64 x.1) := by simpa using hc 0 _ rfl
      have g2 : w.cell? ⟨b, off + k * 2 + 1, none⟩ = some (.int .i64 x.2) := hc 1 _ rfl
      have HX := Lib.hid hx
      clear hc hx
      cases h1 : inR x.1 0 999999999 <;> cases h2 : inR x.2 0 999999999
      all_goals
        go_wp2_with (go_at_call 28; refine (l1In_any _ _ _ _).mono ?_; rintro e w' ⟨rfl, rfl⟩)
        first
          | (go_round
             case rel => exact ⟨k + 1, by omega, by go_num, allB_succ ha.out HX.out (by simp [spanOk, h1, h2])⟩
             case measure => simp [intOf]; omega)
          | (go_ret
             exact ⟨ret_b (by unfold setOk; rw [allB_false HX.out (by simp [spanOk, h1, h2])]; rfl), rfl⟩)
    · have hke : k = n := by omega
      have hfin : setOk xs = inR (n : Int) 1 5 := by unfold setOk; rw [allB_true (fun j y hy => ha.out j y (by rw [hke, ← HL.out]; exact (List.getElem?_eq_some_iff.1 hy).1) hy), Bool.true_and, HL.out]
      have Hfin := Lib.hid hfin
      clear hfin ha hke
      go_wp2_with (go_at_call 28; refine (l1In_any _ _ _ _).mono ?_; rintro e w' ⟨rfl, rfl⟩)
      go_ret
      exact ⟨ret_b Hfin.out.symm, rfl⟩
set_option maxHeartbeats 800000 in
theorem slices_IndexFunc_Span (A : Option Addr) (n c g : Nat) (lb : Array Value) (p : Span → Bool) (xs : List Span) (w : World) (hn : n ≤ 4611686018427387904) (h : Rd encSpan 2 w A n xs)
    (eg : ∀ args w, (callFunc g args).run Tryd.prog w = .ok (.enter g args) w) (hp : Pays Tryd.prog g lb (fun x : Span => .agg #[.int .i64 x.1, .int .i64 x.2]) p w) :
    Calls Tryd.prog 42 #[.slice A n c, .func (.func g) #[] lb] w fun e w' => e = .returned (.int .i64 (ixOf p xs)) ∧ Below w.heap.size w w' := by
  have HL := Lib.hid h.1
  have H := Lib.hid h
  have HP := Lib.hid hp
  clear h hp
  go_enter Tryd.func42, Tryd.ntmps42
  go_wp2_with fail
  go_loopw [8] (fun i wr => ∃ k : Nat, k ≤ n ∧ i = .int .i64 k ∧ Below w.heap.size w wr ∧ Hid (∀ (j : Nat) (y : Span), j < k → xs[j]? = some y → p y = false)) (fun i _ => n - (intOf i).toNat)
  case atStart => exact ⟨0, Nat.zero_le _, rfl, Below.refl _ _, fun j y hj => absurd hj (by omega)⟩
  case round =>
    obtain ⟨k, hk, rfl, hW, ha⟩ := hrel
    by_cases hlt : k < n
    · obtain ⟨b, off, x, rfl, _, hx, hc⟩ := (H.out.below hW).elem hlt
      have g1 : wr.cell? ⟨b, off + k * 2, none⟩ = some (.int .i64 x.1) := by simpa using hc 0 _ rfl
      have g2 : wr.cell? ⟨b, off + k * 2 + 1, none⟩ = some (.int .i64 x.2) := hc 1 _ rfl
      have hcall := HP.out wr x hW
      have HX := Lib.hid hx
      have HW := Lib.hid hW
      clear hc hx hW H HP
      cases hq : p x with
      | true =>
        rw [hq] at hcall
        have hfin := Lib.hid (ixOf_hit HX.out hq ha.out)
        clear hq ha
        go_wp2_with (go_at_fn g; refine hcall.mono ?_; rintro e w' ⟨rfl, hb'⟩)
        go_ret
        exact ⟨ret_i hfin.out.symm, HW.out.trans (hb'.mono HW.out.size)⟩
      | false =>
        rw [hq] at hcall
        have hs := Lib.hid (anyF_succ ha.out HX.out hq)
        clear hq ha
        go_wp2_with (go_at_fn g; refine hcall.mono ?_; rintro e w' ⟨rfl, hb'⟩)
        go_roundw
        case rel => exact ⟨k + 1, by omega, by go_num, HW.out.trans (hb'.mono HW.out.size), hs.out⟩
        case measure => simp [intOf]; omega
    · have hke : k = n := by omega
      have hfin := Lib.hid (ixOf_miss (p := p) (l := xs) (fun j y hy => ha.out j y (by rw [hke, ← HL.out]; exact (List.getElem?_eq_some_iff.1 hy).1) hy))
      clear ha hke
      go_wp2
      go_ret
      exact ⟨ret_i hfin.out.symm, hW⟩
theorem slices_ContainsFunc_Span (A : Option Addr) (n c g : Nat) (lb : Array Value) (p : Span → Bool) (xs : List Span) (w : World) (hn : n ≤ 4611686018427387904) (h : Rd encSpan 2 w A n xs)
    (eg : ∀ args w, (callFunc g args).run Tryd.prog w = .ok (.enter g args) w) (hp : Pays Tryd.prog g lb (fun x : Span => .agg #[.int .i64 x.1, .int .i64 x.2]) p w) :
    Calls Tryd.prog 30 #[.slice A n c, .func (.func g) #[] lb] w fun e w' => e = .returned (.bool (xs.any p)) ∧ Below w.heap.size w w' := by
  have hc := slices_IndexFunc_Span A n c g lb p xs w hn h eg hp
  have hr := Lib.hid (ixOf_any p xs)
  generalize ixOf p xs = r at *
  clear h hp
  go_enter Tryd.func30, Tryd.ntmps30
  go_wp2_with (go_at_call 42; refine hc.mono ?_; rintro e w' ⟨rfl, hb'⟩)
  go_ret
  exact ⟨ret_b hr.out, hb'⟩
theorem impl_SetOk_1 (x : Span) (w : World) :
    Calls Tryd.prog 31 #[.agg #[.int .i64 x.1, .int .i64 x.2]] w fun e w' => e = .returned (.bool (!spanOk x)) ∧ Below w.heap.size w w' := by
  unfold spanOk
  cases h1 : inR x.1 0 999999999 <;> cases h2 : inR x.2 0 999999999
  all_goals
    go_enter Tryd.func31, Tryd.ntmps31
    go_wp2_with (go_at_call 29; refine (within_any _ _ _ _).mono ?_; rintro e w' ⟨rfl, rfl⟩)
    go_ret
    exact ⟨rfl, by go_grown⟩
set_option maxHeartbeats 800000 in
theorem impl_SetOk (A : Option Addr) (n c : Nat) (xs : List Span) (w : World) (hn : n ≤ 4611686018427387904) (h : Rd encSpan 2 w A n xs) :
    Calls Tryd.prog 16 #[.slice A n c] w fun e w' => e = .returned (.bool (setOk xs)) ∧ Below w.heap.size w w' := by
  have hc := slices_ContainsFunc_Span A n c 31 #[] (fun x => !spanOk x) xs w hn h (enters_of Tryd.func31 (by kernel_rfl) rfl) (fun W x _ => impl_SetOk_1 x W)
  have HC := Lib.hid hc
  have hq : setOk xs = (inR (n : Int) 1 5 && !(xs.any fun x => !spanOk x)) := by
    unfold setOk; rw [h.1, Bool.and_comm]; congr 1; rw [List.not_any_eq_all_not]; simp
  have HQ := Lib.hid hq
  clear hq hc h
  generalize setOk xs = R at *
  cases h1 : inR (n : Int) 1 5 <;> cases h2 : xs.any fun x => !spanOk x
  all_goals
    have hr := Lib.hid (HQ.out.trans (by rw [h1, h2]))
    have hc2 := HC.out
    rw [h2] at hc2
    clear HQ HC h2
    go_enter Tryd.func16, Tryd.ntmps16
    go_wp2_with (first | (go_at_call 29; refine (within_any _ _ _ _).mono ?_; rintro e w' ⟨rfl, rfl⟩) | (go_at_call 30; refine hc2.mono ?_; rintro e w' ⟨rfl, hb'⟩))
    go_ret
    exact ⟨ret_b (by rw [hr.out]; rfl), by first | exact hb' | go_grown⟩

end Go.Proofs.YthccfnoebbimjaaDoor
