/-
  Walks: what each function returns, and that it leaves what lay in memory as it was.
-/
import Derived.Test.YtgdebejmcfcpgaaProg
import Derived.Test.YtgdebejmcfcpgaaPlain
import Derived.Test.YtgdebejmcfcpgaaBase2
import Derived.Test.YtgdebejmcfcpgaaOpen2
import Derived.Test.YtgdebejmcfcpgaaShelf
import Derived.WalkKit
import Derived.WalkSpells
import Derived.WalkLawsBesides
import Derived.Lib.Hide
import Derived.Deep.LoopGhost
import Derived.Deep.QuietTactic
import Derived.BigQuiet
import Derived.Handy
import Derived.Deep.RegionHeld3
import Derived.StillTailTactics
import Derived.OpenShut
import Derived.ChangeSame
import Derived.Laws.StructEq

import Derived.Test.YtgdebejmcfcpgaaPlainT

import Derived.Test.YtgdebejmcfcpgaaW1

import Derived.Test.YtgdebejmcfcpgaaBase3

namespace Go.Proofs.Ytgdebejmcfcpgaa
open Go.ChangeShapes Go.WideShapes Go.ChangeAt Go.RowKit Go.Deep
set_option linter.unusedVariables false
set_option linter.unusedSimpArgs false

theorem dec_Str {H : Type} {enc0 : TypeId × Value → H} {w : World} {base : Nat} {spare : Nat → Bool} {held : Bool} (n : Nat) (cs : List Value) (x : DataW H × List MemPlace)
    (h : DataW.trod enc0 Try.prog w base spare held n 9 cs = some x) : ∃ y : Str, cs = encStr y ∧ strBig y := by
  obtain ⟨a, h1, _, b⟩ := DataW.trod_string Try.underlying9 h
  refine ⟨a.data.toList, ?_, ?_⟩
  · rw [h1]
  · unfold strBig; rw [← size_len]; exact b
set_option maxRecDepth 20000 in
/-- A slice of strings that came in. -/
theorem open_Strs {H : Type} {enc0 : TypeId × Value → H} {w : World} {base b0 : Nat} {r : Reach} {spare : Nat → Bool} {held : Bool} {v : Value} {d : DataW H} {p : List MemPlace}
    (o : Value.okWide Try.prog w r b0 27 v) (h : DataW.Trod enc0 Try.prog w base spare held 27 v d p) :
    ∃ (A : Option Addr) (n c : Nat) (xs : List Str), v = .slice A n c ∧ Rd encStr 1 w A n xs ∧ n ≤ 9223372036854775807 ∧ ∀ y ∈ xs, strBig y := by
  obtain ⟨A, n, c, xs, rfl, h, hc, hm, hN⟩ := open_rd encStr strBig 1 Try.underlying27 o h (by kernel_rfl) (by omega) (fun _ => rfl) (fun n cs x hx => dec_Str n cs x hx)
  exact ⟨A, n, c, xs, rfl, h, by unfold maxLen at hm; omega, hN⟩

set_option maxHeartbeats 800000 in
set_option maxRecDepth 20000 in
theorem slices_IndexFunc_Str (A : Option Addr) (n c g : Nat) (lb : Array Value) (p : Str → Bool) (xs : List Str) (w : World) (hn : n ≤ 4611686018427387904) (h : Rd encStr 1 w A n xs)
    (eg : ∀ args w, (callFunc g args).run Try.prog w = .ok (.enter g args) w) (hp : PaysAt Try.prog g lb (fun x : Str => .string ⟨x.toArray⟩) p w xs) :
    Calls Try.prog 37 #[.slice A n c, .func (.func g) #[] lb] w fun e w' => e = .returned (.int .i64 (ixOf p xs)) ∧ Below w.heap.size w w' := by
  have HL := Lib.hid h.1
  have H := Lib.hid h
  have HP := Lib.hid hp
  clear h hp
  go_enter Try.func37, Try.ntmps37
  go_wp2_with fail
  go_loopw [8] (fun i wr => ∃ k : Nat, k ≤ n ∧ i = .int .i64 k ∧ Below w.heap.size w wr ∧ Hid (∀ (j : Nat) (y : Str), j < k → xs[j]? = some y → p y = false)) (fun i _ => n - (intOf i).toNat)
  case atStart => exact ⟨0, Nat.zero_le _, rfl, Below.refl _ _, fun j y hj => absurd hj (by omega)⟩
  case round =>
    obtain ⟨k, hk, rfl, hW, ha⟩ := hrel
    by_cases hlt : k < n
    · obtain ⟨b, off, x, rfl, _, hx, hc⟩ := (H.out.below hW).elem hlt
      have g0 : wr.cell? ⟨b, off + k, none⟩ = some (.string ⟨x.toArray⟩) := by simpa using hc 0 _ rfl
      have hcall := HP.out wr x (List.mem_of_getElem? hx) hW
      have HX := Lib.hid hx
      have HW := Lib.hid hW
      clear hc hx hW H HP
      cases hq : p x with
      | true =>
        rw [hq] at hcall
        have hfin := Lib.hid (ixOf_hit HX.out hq ha.out)
        clear hq ha
        go_wp2_with (go_at_fn g; refine hcall.mono ?_; rintro e w' ⟨rfl, hb'⟩)
        go_ret
        exact ⟨ret_i hfin.out.symm, HW.out.trans (hb'.mono HW.out.size)⟩
      | false =>
        rw [hq] at hcall
        have hs := Lib.hid (anyF_succ ha.out HX.out hq)
        clear hq ha
        go_wp2_with (go_at_fn g; refine hcall.mono ?_; rintro e w' ⟨rfl, hb'⟩)
        go_roundw
        case rel => exact ⟨k + 1, by omega, by go_num, HW.out.trans (hb'.mono HW.out.size), hs.out⟩
        case measure => simp [intOf]; omega
    · have hke : k = n := by omega
      have hfin := Lib.hid (ixOf_miss (p := p) (l := xs) (fun j y hy => ha.out j y (by rw [hke, ← HL.out]; exact (List.getElem?_eq_some_iff.1 hy).1) hy))
      clear ha hke
      go_wp2
      go_ret
      exact ⟨ret_i hfin.out.symm, hW⟩

theorem impl_Changed (op a b : Int) (w : World) :
    Calls Try.prog 14 #[.int .i64 op, .int .i64 a, .int .i64 b] w fun e w' => e = .returned (.int .i64 (changed op a b)) ∧ w = w' := by
  unfold changed
  cases h1 : inR a 0 31 <;> cases h2 : inR b 0 31
  all_goals
    rcases (show op = 1 ∨ op = 2 ∨ op = 3 ∨ (¬ op = 1 ∧ ¬ op = 2 ∧ ¬ op = 3) from by omega) with rfl | rfl | rfl | ⟨n1, n2, n3⟩
    all_goals
      go_enter Try.func14, Try.ntmps14
      go_wp2_with (go_at_call 16; refine (impl_FlagsOk _ _).mono ?_; rintro e w' ⟨rfl, rfl⟩)
      go_ret
      exact ⟨by simp [*], rfl⟩
theorem spec_Changed (op a b : Int) (w : World) :
    Calls Try.prog 15 #[.int .i64 op, .int .i64 a, .int .i64 b] w fun e w' => e = .returned (.int .i64 (changed op a b)) ∧ w = w' := by
  unfold changed
  cases h1 : inR a 0 31 <;> cases h2 : inR b 0 31
  all_goals
    rcases (show op = 1 ∨ op = 2 ∨ op = 3 ∨ (¬ op = 1 ∧ ¬ op = 2 ∧ ¬ op = 3) from by omega) with rfl | rfl | rfl | ⟨n1, n2, n3⟩
    all_goals
      go_enter Try.func15, Try.ntmps15
      go_wp2_with (go_at_call 27; refine (spec_FlagsOk _ _).mono ?_; rintro e w' ⟨rfl, rfl⟩)
      go_ret
      exact ⟨by simp [*], rfl⟩

set_option maxHeartbeats 1600000 in
theorem impl_Parts (s : ByteArray) (b : UInt8) (w : World) (hs : s.size ≤ 1099511627776) :
    Calls Try.prog 8 #[.string s, .int .u8 (b.toNat : Int)] w (RetOwn encStr 1 9 w (parts b s.data.toList)) := by
  have HL := Lib.hid (size_len s)
  generalize hP : parts b s.data.toList = R
  have HP := Lib.hid hP
  clear hP
  have hnew := World.ownsRow_made (base := w.heap.size) (e := 9) (size := 1) w #[] 0 (Nat.le_refl _) (by unfold maxLen; omega) rfl
  go_enter Try.func8, Try.ntmps8
  go_wp2_with fail
  go_loopw [5, 6, 11] (fun o f c wr => ∃ (k j : Nat) (ps : List Str), k ≤ s.size ∧ j ≤ k ∧ ps.length ≤ k ∧ f = .int .i64 j ∧ c = .int .i64 k ∧ wr.ownsRow w.heap.size 9 1 o ps.length (ps.flatMap encStr) ∧
      Hid (ps ++ partsGo b ((s.data.toList.take k).drop j) (s.data.toList.drop k) = R) ∧ Below w.heap.size w wr) (fun _ _ c _ => s.size - (intOf c).toNat)
  case atStart => exact ⟨0, 0, [], by omega, by omega, by simp, rfl, rfl, hnew, HP.out, (Below.refl _ _).alloc (Nat.le_refl _) _⟩
  case round =>
    obtain ⟨k, j, ps, hk, hj, hpl, rfl, rfl, hown, hg, hW⟩ := hrel
    clear hnew
    by_cases hlt : k < s.size
    · have hlt' : k < s.data.toList.length := by rw [← HL.out]; exact hlt
      by_cases hc : s[k] = b
      · have hcb : ((s[k].toNat : Int) == (b.toNat : Int)) = true := by rw [hc]; simp
        have hg2 : (ps ++ [(s.data.toList.take k).drop j]) ++ partsGo b ((s.data.toList.take (k + 1)).drop (k + 1)) (s.data.toList.drop (k + 1)) = R := by
          rw [← hg.out, partsGo_hit hlt' hj hc, List.append_assoc]; rfl
        have Hg2 := Lib.hid hg2
        have hown2 := hown.alloc (.cells #[.string (s.extract j k)] 9)
        have hrd := Rd.new (enc := encStr) (k := 1) (fun _ => rfl) wr #[.string (s.extract j k)] 9 (n := 1) [(s.data.toList.take k).drop j] (by rw [extract_str]; rfl) rfl
        have Hown2 := Lib.hid hown2
        have Hrd := Lib.hid hrd
        clear hg hg2 hc hown2 hrd
        go_wp2_with (at_builtin; refine wpList_app (enc := encStr) (k := 1) (fun _ => rfl) (fun _ u hu => by simp at hu; subst hu; rfl) (by omega) rfl _ _ 27 9 rfl (.string ByteArray.empty) 16 Try.underlying27 (by kernel_rfl) rfl w.heap.size _ ps rfl Hown2.out _ _ _ _ rfl Hrd.out (by omega) (by omega) (by have := hW.size; simp; omega) ?_; intro v' w' hown' hbel')
        go_roundw
        case rel => exact ⟨k + 1, k + 1, ps ++ [(s.data.toList.take k).drop j], by omega, by omega, by simp; omega, by go_num, by go_num, hown', Hg2.out, (hW.alloc hW.size _).trans hbel'⟩
        case measure => simp [intOf]; omega
      · have hcb : ((s[k].toNat : Int) == (b.toNat : Int)) = false := by
          rw [beq_eq_false_iff_ne]; intro h; exact hc (UInt8.toNat_inj.1 (by omega))
        have hg2 : ps ++ partsGo b ((s.data.toList.take (k + 1)).drop j) (s.data.toList.drop (k + 1)) = R := by
          rw [← hg.out, partsGo_miss hlt' hj hc]
        have Hg2 := Lib.hid hg2
        clear hg hg2 hc
        have Hown := Lib.hid hown
        clear hown
        go_wp2
        go_roundw
        case rel => exact ⟨k + 1, j, ps, by omega, by omega, by omega, rfl, by go_num, Hown.out, Hg2.out, hW⟩
        case measure => simp [intOf]; omega
    · have hke : k = s.size := by omega
      subst hke
      have hg2 : ps ++ [(s.data.toList.take s.size).drop j] = R := by
        rw [← hg.out]; congr 1
        have := partsGo_end b s.data.toList j
        rw [← HL.out] at this
        rw [this, List.take_of_length_le (by rw [HL.out]; exact Nat.le_refl _)]
      have Hg2 := Lib.hid hg2
      have hown2 := hown.alloc (.cells #[.string (s.extract j s.size)] 9)
      have hrd := Rd.new (enc := encStr) (k := 1) (fun _ => rfl) wr #[.string (s.extract j s.size)] 9 (n := 1) [(s.data.toList.take s.size).drop j] (by rw [extract_str]; rfl) rfl
      have Hown2 := Lib.hid hown2
      have Hrd := Lib.hid hrd
      clear hg hg2 hown2 hrd hlt hown
      go_wp2_with (at_builtin; refine wpList_app (enc := encStr) (k := 1) (fun _ => rfl) (fun _ u hu => by simp at hu; subst hu; rfl) (by omega) rfl _ _ 27 9 rfl (.string ByteArray.empty) 16 Try.underlying27 (by kernel_rfl) rfl w.heap.size _ ps rfl Hown2.out _ _ _ _ rfl Hrd.out (by omega) (by omega) (by have := hW.size; simp; omega) ?_; intro v' w' hown' hbel')
      go_ret
      rw [Hg2.out] at hown'
      exact retOwn_mk hown' ((hW.alloc hW.size _).trans hbel')
set_option maxHeartbeats 1600000 in
theorem spec_Parts (s : ByteArray) (b : UInt8) (w : World) (hs : s.size ≤ 1099511627776) :
    Calls Try.prog 9 #[.string s, .int .u8 (b.toNat : Int)] w (RetOwn encStr 1 9 w (parts b s.data.toList)) := by
  have HL := Lib.hid (size_len s)
  generalize hP : parts b s.data.toList = R
  have HP := Lib.hid hP
  clear hP
  have hnew := World.ownsRow_made (base := w.heap.size) (e := 9) (size := 1) w #[] 0 (Nat.le_refl _) (by unfold maxLen; omega) rfl
  go_enter Try.func9, Try.ntmps9
  go_wp2_with fail
  go_loopw [5, 6, 7] (fun o f c wr => ∃ (k j : Nat) (ps : List Str), k ≤ s.size + 1 ∧ j ≤ k ∧ ps.length ≤ k ∧ f = .int .i64 j ∧ c = .int .i64 k ∧ wr.ownsRow w.heap.size 9 1 o ps.length (ps.flatMap encStr) ∧
      Hid ((k ≤ s.size → ps ++ partsGo b ((s.data.toList.take k).drop j) (s.data.toList.drop k) = R) ∧ (k = s.size + 1 → ps = R)) ∧ Below w.heap.size w wr) (fun _ _ c _ => s.size + 1 - (intOf c).toNat)
  case atStart => exact ⟨0, 0, [], by omega, by omega, by simp, rfl, rfl, hnew, ⟨fun _ => HP.out, fun h => absurd h (by omega)⟩, (Below.refl _ _).alloc (Nat.le_refl _) _⟩
  case round =>
    obtain ⟨k, j, ps, hk, hj, hpl, rfl, rfl, hown, hg, hW⟩ := hrel
    clear hnew
    by_cases hle : k ≤ s.size
    · by_cases hlt : k < s.size
      · have hlt' : k < s.data.toList.length := by rw [← HL.out]; exact hlt
        have hne : ((k : Int) == (s.size : Int)) = false := by rw [beq_eq_false_iff_ne]; omega
        by_cases hc : s[k] = b
        · have hcb : ((s[k].toNat : Int) == (b.toNat : Int)) = true := by rw [hc]; simp
          have hg2 : (ps ++ [(s.data.toList.take k).drop j]) ++ partsGo b ((s.data.toList.take (k + 1)).drop (k + 1)) (s.data.toList.drop (k + 1)) = R := by
            rw [← hg.out.1 hle, partsGo_hit hlt' hj hc, List.append_assoc]; rfl
          have Hg2 := Lib.hid hg2
          have hown2 := hown.alloc (.cells #[.string (s.extract j k)] 9)
          have hrd := Rd.new (enc := encStr) (k := 1) (fun _ => rfl) wr #[.string (s.extract j k)] 9 (n := 1) [(s.data.toList.take k).drop j] (by rw [extract_str]; rfl) rfl
          have Hown2 := Lib.hid hown2
          have Hrd := Lib.hid hrd
          clear hg hg2 hc hown2 hrd
          go_wp2_with (at_builtin; refine wpList_app (enc := encStr) (k := 1) (fun _ => rfl) (fun _ u hu => by simp at hu; subst hu; rfl) (by omega) rfl _ _ 27 9 rfl (.string ByteArray.empty) 16 Try.underlying27 (by kernel_rfl) rfl w.heap.size _ ps rfl Hown2.out _ _ _ _ rfl Hrd.out (by omega) (by omega) (by have := hW.size; simp; omega) ?_; intro v' w' hown' hbel')
          go_roundw
          case rel => exact ⟨k + 1, k + 1, ps ++ [(s.data.toList.take k).drop j], by omega, by omega, by simp; omega, by go_num, by go_num, hown', ⟨fun _ => Hg2.out, fun h => absurd h (by omega)⟩, (hW.alloc hW.size _).trans hbel'⟩
          case measure => simp [intOf]; omega
        · have hcb : ((s[k].toNat : Int) == (b.toNat : Int)) = false := by
            rw [beq_eq_false_iff_ne]; intro h; exact hc (UInt8.toNat_inj.1 (by omega))
          have hg2 : ps ++ partsGo b ((s.data.toList.take (k + 1)).drop j) (s.data.toList.drop (k + 1)) = R := by
            rw [← hg.out.1 hle, partsGo_miss hlt' hj hc]
          have Hg2 := Lib.hid hg2
          clear hg hg2 hc
          have Hown := Lib.hid hown
          clear hown
          go_wp2
          go_roundw
          case rel => exact ⟨k + 1, j, ps, by omega, by omega, by omega, rfl, by go_num, Hown.out, ⟨fun _ => Hg2.out, fun h => absurd h (by omega)⟩, hW⟩
          case measure => simp [intOf]; omega
      · have hke : k = s.size := by omega
        subst hke
        have hg2 : ps ++ [(s.data.toList.take s.size).drop j] = R := by
          rw [← hg.out.1 hle]; congr 1
          have := partsGo_end b s.data.toList j
          rw [← HL.out] at this
          rw [this, List.take_of_length_le (by rw [HL.out]; exact Nat.le_refl _)]
        have Hg2 := Lib.hid hg2
        have hown2 := hown.alloc (.cells #[.string (s.extract j s.size)] 9)
        have hrd := Rd.new (enc := encStr) (k := 1) (fun _ => rfl) wr #[.string (s.extract j s.size)] 9 (n := 1) [(s.data.toList.take s.size).drop j] (by rw [extract_str]; rfl) rfl
        have Hown2 := Lib.hid hown2
        have Hrd := Lib.hid hrd
        clear hg hg2 hown2 hrd hlt hown
        go_wp2_with (at_builtin; refine wpList_app (enc := encStr) (k := 1) (fun _ => rfl) (fun _ u hu => by simp at hu; subst hu; rfl) (by omega) rfl _ _ 27 9 rfl (.string ByteArray.empty) 16 Try.underlying27 (by kernel_rfl) rfl w.heap.size _ ps rfl Hown2.out _ _ _ _ rfl Hrd.out (by omega) (by omega) (by have := hW.size; simp; omega) ?_; intro v' w' hown' hbel')
        go_roundw
        case rel => exact ⟨s.size + 1, s.size + 1, ps ++ [(s.data.toList.take s.size).drop j], by omega, by omega, by simp; omega, by go_num, by go_num, hown', ⟨fun h => absurd h (by omega), fun _ => Hg2.out⟩, (hW.alloc hW.size _).trans hbel'⟩
        case measure => simp [intOf]
    · have hke : k = s.size + 1 := by omega
      have hfin := hg.out.2 hke
      have Hfin := Lib.hid hfin
      have Hown := Lib.hid hown
      clear hfin hg hown hke
      go_wp2
      go_ret
      have ho := Hown.out
      rw [Hfin.out] at ho
      exact retOwn_mk ho hW

end Go.Proofs.Ytgdebejmcfcpgaa
