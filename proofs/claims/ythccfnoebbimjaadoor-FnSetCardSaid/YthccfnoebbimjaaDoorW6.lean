/-
  Walks: what each function returns, and that it leaves what lay in memory as it was.
-/
import Derived.Test.YthccfnoebbimjaaDoorProg
import Derived.Test.YthccfnoebbimjaaDoorPlain
import Derived.Test.YthccfnoebbimjaaDoorBase2
import Derived.Test.YthccfnoebbimjaaDoorOpen2
import Derived.Test.YthccfnoebbimjaaDoorShelf
import Derived.WalkKit
import Derived.WalkSpells
import Derived.WalkLawsBesides
import Derived.Lib.Hide
import Derived.Deep.LoopGhost
import Derived.Deep.QuietTactic
import Derived.BigQuiet
import Derived.Handy
import Derived.Deep.RegionHeld3
import Derived.StillTailTactics
import Derived.OpenShut
import Derived.ChangeSame
import Derived.Laws.StructEq

import Derived.Test.YthccfnoebbimjaaDoorPlainT

import Derived.Test.YthccfnoebbimjaaDoorW1

import Derived.Test.YthccfnoebbimjaaDoorW2

import Derived.Test.YthccfnoebbimjaaDoorW3

import Derived.Test.YthccfnoebbimjaaDoorW4

import Derived.Test.YthccfnoebbimjaaDoorW5

import Derived.Test.YthccfnoebbimjaaDoorBase3

import Derived.Lib.ItoaMem
import Derived.Lib.ItoaLen
import Derived.Lib.LaidTab

import Derived.Lib.AtoiTie
import Derived.Lib.AtoiBound
import Derived.Lib.ConvBytes

namespace Go.Proofs.YthccfnoebbimjaaDoor
open Go.ChangeShapes Go.WideShapes Go.ChangeAt Go.RowKit Go.Deep
set_option linter.unusedVariables false
set_option linter.unusedSimpArgs false

set_option maxRecDepth 20000

set_option maxHeartbeats 1600000 in
theorem impl_Parts (s : ByteArray) (b : UInt8) (w : World) (hs : s.size ≤ 1099511627776) :
    Calls Tryd.prog 20 #[.string s, .int .u8 (b.toNat : Int)] w (RetOwn encStr 1 9 w (parts b s.data.toList)) := by
  have HL := Lib.hid (size_len s)
  generalize hP : parts b s.data.toList = R
  have HP := Lib.hid hP
  clear hP
  have hnew := World.ownsRow_made (base := w.heap.size) (e := 9) (size := 1) w #[] 0 (Nat.le_refl _) (by unfold maxLen; omega) rfl
  go_enter Tryd.func20, Tryd.ntmps20
  go_wp2_with fail
  go_loopw [5, 6, 11] (fun o f c wr => ∃ (k j : Nat) (ps : List Str), k ≤ s.size ∧ j ≤ k ∧ ps.length ≤ k ∧ f = .int .i64 j ∧ c = .int .i64 k ∧ wr.ownsRow w.heap.size 9 1 o ps.length (ps.flatMap encStr) ∧
      Hid (ps ++ partsGo b ((s.data.toList.take k).drop j) (s.data.toList.drop k) = R) ∧ Below w.heap.size w wr) (fun _ _ c _ => s.size - (intOf c).toNat)
  case atStart => exact ⟨0, 0, [], by omega, by omega, by simp, rfl, rfl, hnew, HP.out, (Below.refl _ _).alloc (Nat.le_refl _) _⟩
  case round =>
    obtain ⟨k, j, ps, hk, hj, hpl, rfl, rfl, hown, hg, hW⟩ := hrel
    clear hnew
    by_cases hlt : k < s.size
    · have hlt' : k < s.data.toList.length := by rw [← HL.out]; exact hlt
      by_cases hc : s[k] = b
      · have hcb : ((s[k].toNat : Int) == (b.toNat : Int)) = true := by rw [hc]; simp
        have hg2 : (ps ++ [(s.data.toList.take k).drop j]) ++ partsGo b ((s.data.toList.take (k + 1)).drop (k + 1)) (s.data.toList.drop (k + 1)) = R := by
          rw [← hg.out, partsGo_hit hlt' hj hc, List.append_assoc]; rfl
        have Hg2 := Lib.hid hg2
        have hown2 := hown.alloc (.cells #[.string (s.extract j k)] 9)
        have hrd := Rd.new (enc := encStr) (k := 1) (fun _ => rfl) wr #[.string (s.extract j k)] 9 (n := 1) [(s.data.toList.take k).drop j] (by rw [extract_str]; rfl) rfl
        have Hown2 := Lib.hid hown2
        have Hrd := Lib.hid hrd
        clear hg hg2 hc hown2 hrd
        go_wp2_with (at_builtin; refine wpList_app (enc := encStr) (k := 1) (fun _ => rfl) (fun _ u hu => by simp at hu; subst hu; rfl) (by omega) rfl _ _ 34 9 rfl (.string ByteArray.empty) 16 Tryd.underlying34 (by kernel_rfl) rfl w.heap.size _ ps rfl Hown2.out _ _ _ _ rfl Hrd.out (by omega) (by omega) (by have := hW.size; simp; omega) ?_; intro v' w' hown' hbel')
        go_roundw
        case rel => exact ⟨k + 1, k + 1, ps ++ [(s.data.toList.take k).drop j], by omega, by omega, by simp; omega, by go_num, by go_num, hown', Hg2.out, (hW.alloc hW.size _).trans hbel'⟩
        case measure => simp [intOf]; omega
      · have hcb : ((s[k].toNat : Int) == (b.toNat : Int)) = false := by
          rw [beq_eq_false_iff_ne]; intro h; exact hc (UInt8.toNat_inj.1 (by omega))
        have hg2 : ps ++ partsGo b ((s.data.toList.take (k + 1)).drop j) (s.data.toList.drop (k + 1)) = R := by
          rw [← hg.out, partsGo_miss hlt' hj hc]
        have Hg2 := Lib.hid hg2
        clear hg hg2 hc
        have Hown := Lib.hid hown
        clear hown
        go_wp2
        go_roundw
        case rel => exact ⟨k + 1, j, ps, by omega, by omega, by omega, rfl, by go_num, Hown.out, Hg2.out, hW⟩
        case measure => simp [intOf]; omega
    · have hke : k = s.size := by omega
      subst hke
      have hg2 : ps ++ [(s.data.toList.take s.size).drop j] = R := by
        rw [← hg.out]; congr 1
        have := partsGo_end b s.data.toList j
        rw [← HL.out] at this
        rw [this, List.take_of_length_le (by rw [HL.out]; exact Nat.le_refl _)]
      have Hg2 := Lib.hid hg2
      have hown2 := hown.alloc (.cells #[.string (s.extract j s.size)] 9)
      have hrd := Rd.new (enc := encStr) (k := 1) (fun _ => rfl) wr #[.string (s.extract j s.size)] 9 (n := 1) [(s.data.toList.take s.size).drop j] (by rw [extract_str]; rfl) rfl
      have Hown2 := Lib.hid hown2
      have Hrd := Lib.hid hrd
      clear hg hg2 hown2 hrd hlt hown
      go_wp2_with (at_builtin; refine wpList_app (enc := encStr) (k := 1) (fun _ => rfl) (fun _ u hu => by simp at hu; subst hu; rfl) (by omega) rfl _ _ 34 9 rfl (.string ByteArray.empty) 16 Tryd.underlying34 (by kernel_rfl) rfl w.heap.size _ ps rfl Hown2.out _ _ _ _ rfl Hrd.out (by omega) (by omega) (by have := hW.size; simp; omega) ?_; intro v' w' hown' hbel')
      go_ret
      rw [Hg2.out] at hown'
      exact retOwn_mk hown' ((hW.alloc hW.size _).trans hbel')
set_option maxHeartbeats 1600000 in
theorem spec_Parts (s : ByteArray) (b : UInt8) (w : World) (hs : s.size ≤ 1099511627776) :
    Calls Tryd.prog 17 #[.string s, .int .u8 (b.toNat : Int)] w (RetOwn encStr 1 9 w (parts b s.data.toList)) := by
  have HL := Lib.hid (size_len s)
  generalize hP : parts b s.data.toList = R
  have HP := Lib.hid hP
  clear hP
  have hnew := World.ownsRow_made (base := w.heap.size) (e := 9) (size := 1) w #[] 0 (Nat.le_refl _) (by unfold maxLen; omega) rfl
  go_enter Tryd.func17, Tryd.ntmps17
  go_wp2_with fail
  go_loopw [5, 6, 7] (fun o f c wr => ∃ (k j : Nat) (ps : List Str), k ≤ s.size + 1 ∧ j ≤ k ∧ ps.length ≤ k ∧ f = .int .i64 j ∧ c = .int .i64 k ∧ wr.ownsRow w.heap.size 9 1 o ps.length (ps.flatMap encStr) ∧
      Hid ((k ≤ s.size → ps ++ partsGo b ((s.data.toList.take k).drop j) (s.data.toList.drop k) = R) ∧ (k = s.size + 1 → ps = R)) ∧ Below w.heap.size w wr) (fun _ _ c _ => s.size + 1 - (intOf c).toNat)
  case atStart => exact ⟨0, 0, [], by omega, by omega, by simp, rfl, rfl, hnew, ⟨fun _ => HP.out, fun h => absurd h (by omega)⟩, (Below.refl _ _).alloc (Nat.le_refl _) _⟩
  case round =>
    obtain ⟨k, j, ps, hk, hj, hpl, rfl, rfl, hown, hg, hW⟩ := hrel
    clear hnew
    by_cases hle : k ≤ s.size
    · by_cases hlt : k < s.size
      · have hlt' : k < s.data.toList.length := by rw [← HL.out]; exact hlt
        have hne : ((k : Int) == (s.size : Int)) = false := by rw [beq_eq_false_iff_ne]; omega
        by_cases hc : s[k] = b
        · have hcb : ((s[k].toNat : Int) == (b.toNat : Int)) = true := by rw [hc]; simp
          have hg2 : (ps ++ [(s.data.toList.take k).drop j]) ++ partsGo b ((s.data.toList.take (k + 1)).drop (k + 1)) (s.data.toList.drop (k + 1)) = R := by
            rw [← hg.out.1 hle, partsGo_hit hlt' hj hc, List.append_assoc]; rfl
          have Hg2 := Lib.hid hg2
          have hown2 := hown.alloc (.cells #[.string (s.extract j k)] 9)
          have hrd := Rd.new (enc := encStr) (k := 1) (fun _ => rfl) wr #[.string (s.extract j k)] 9 (n := 1) [(s.data.toList.take k).drop j] (by rw [extract_str]; rfl) rfl
          have Hown2 := Lib.hid hown2
          have Hrd := Lib.hid hrd
          clear hg hg2 hc hown2 hrd
          go_wp2_with (at_builtin; refine wpList_app (enc := encStr) (k := 1) (fun _ => rfl) (fun _ u hu => by simp at hu; subst hu; rfl) (by omega) rfl _ _ 34 9 rfl (.string ByteArray.empty) 16 Tryd.underlying34 (by kernel_rfl) rfl w.heap.size _ ps rfl Hown2.out _ _ _ _ rfl Hrd.out (by omega) (by omega) (by have := hW.size; simp; omega) ?_; intro v' w' hown' hbel')
          go_roundw
          case rel => exact ⟨k + 1, k + 1, ps ++ [(s.data.toList.take k).drop j], by omega, by omega, by simp; omega, by go_num, by go_num, hown', ⟨fun _ => Hg2.out, fun h => absurd h (by omega)⟩, (hW.alloc hW.size _).trans hbel'⟩
          case measure => simp [intOf]; omega
        · have hcb : ((s[k].toNat : Int) == (b.toNat : Int)) = false := by
            rw [beq_eq_false_iff_ne]; intro h; exact hc (UInt8.toNat_inj.1 (by omega))
          have hg2 : ps ++ partsGo b ((s.data.toList.take (k + 1)).drop j) (s.data.toList.drop (k + 1)) = R := by
            rw [← hg.out.1 hle, partsGo_miss hlt' hj hc]
          have Hg2 := Lib.hid hg2
          clear hg hg2 hc
          have Hown := Lib.hid hown
          clear hown
          go_wp2
          go_roundw
          case rel => exact ⟨k + 1, j, ps, by omega, by omega, by omega, rfl, by go_num, Hown.out, ⟨fun _ => Hg2.out, fun h => absurd h (by omega)⟩, hW⟩
          case measure => simp [intOf]; omega
      · have hke : k = s.size := by omega
        subst hke
        have hg2 : ps ++ [(s.data.toList.take s.size).drop j] = R := by
          rw [← hg.out.1 hle]; congr 1
          have := partsGo_end b s.data.toList j
          rw [← HL.out] at this
          rw [this, List.take_of_length_le (by rw [HL.out]; exact Nat.le_refl _)]
        have Hg2 := Lib.hid hg2
        have hown2 := hown.alloc (.cells #[.string (s.extract j s.size)] 9)
        have hrd := Rd.new (enc := encStr) (k := 1) (fun _ => rfl) wr #[.string (s.extract j s.size)] 9 (n := 1) [(s.data.toList.take s.size).drop j] (by rw [extract_str]; rfl) rfl
        have Hown2 := Lib.hid hown2
        have Hrd := Lib.hid hrd
        clear hg hg2 hown2 hrd hlt hown
        go_wp2_with (at_builtin; refine wpList_app (enc := encStr) (k := 1) (fun _ => rfl) (fun _ u hu => by simp at hu; subst hu; rfl) (by omega) rfl _ _ 34 9 rfl (.string ByteArray.empty) 16 Tryd.underlying34 (by kernel_rfl) rfl w.heap.size _ ps rfl Hown2.out _ _ _ _ rfl Hrd.out (by omega) (by omega) (by have := hW.size; simp; omega) ?_; intro v' w' hown' hbel')
        go_roundw
        case rel => exact ⟨s.size + 1, s.size + 1, ps ++ [(s.data.toList.take s.size).drop j], by omega, by omega, by simp; omega, by go_num, by go_num, hown', ⟨fun h => absurd h (by omega), fun _ => Hg2.out⟩, (hW.alloc hW.size _).trans hbel'⟩
        case measure => simp [intOf]
    · have hke : k = s.size + 1 := by omega
      have hfin := hg.out.2 hke
      have Hfin := Lib.hid hfin
      have Hown := Lib.hid hown
      clear hfin hg hown hke
      go_wp2
      go_ret
      have ho := Hown.out
      rw [Hfin.out] at ho
      exact retOwn_mk ho hW

theorem itoa_nat {n : Int} (h : 0 ≤ n) : Lib.itoa n = Lib.decDigits n.toNat := by unfold Lib.itoa; rw [if_neg (by omega)]
theorem dec_itoa {n : Int} (h : 0 ≤ n) : Lib.decFrom 0 (Lib.itoa n) = some n.toNat := by rw [itoa_nat h, decFrom_dec]
theorem dec_itoa_neg {n : Int} (h : n < 0) : Lib.decFrom 0 (Lib.itoa n) = none := by
  unfold Lib.itoa
  rw [if_pos h, Lib.decFrom]
  have : Lib.digitVal 45 = none := by decide
  rw [this]
theorem number_itoa_in {n : Int} (h0 : 0 ≤ n) (h1 : n ≤ 999999999) : number (Lib.itoa n) = (n, true) := by
  have hl := nDigits_le 8 n.toNat (by omega)
  have hp := Lib.nDigits_pos n.toNat
  have hlen : (Lib.itoa n).length = Lib.nDigits n.toNat := by rw [itoa_nat h0, Lib.decDigits_length]
  have := number_yes (s := Lib.itoa n) (n := n.toNat) (by omega) (dec_itoa h0) (by rw [Int.toNat_of_nonneg h0])
  rwa [Int.toNat_of_nonneg h0] at this
theorem number_itoa_out {n : Int} (h : n < 0 ∨ 999999999 < n) : number (Lib.itoa n) = (0, false) := by
  rcases number_cases (Lib.itoa n) with ⟨k, hl, hd, hi⟩ | h2
  · exfalso
    by_cases hn : n < 0
    · rw [dec_itoa_neg hn] at hd; cases hd
    · have hlt := decFrom_lt _ 0 k 0 (by decide) hd
      have hle : 10 ^ (0 + (Lib.itoa n).length) ≤ 10 ^ 9 := Nat.pow_le_pow_right (by decide) (by omega)
      rw [dec_itoa (by omega)] at hd
      injection hd with hd
      omega
  · exact h2
theorem number_in (s : Str) : (∃ n : Int, 0 ≤ n ∧ n ≤ 999999999 ∧ Lib.itoa n = s ∧ number s = (n, true)) ∨ number s = (0, false) := by
  rcases number_cases s with ⟨k, hl, hd, hi⟩ | h2
  · left
    have hlt := decFrom_lt s 0 k 0 (by decide) hd
    have hle : 10 ^ (0 + s.length) ≤ 10 ^ 9 := Nat.pow_le_pow_right (by decide) (by omega)
    exact ⟨k, by omega, by omega, hi, number_yes hl hd hi⟩
  · exact Or.inr h2
theorem tl48 : (⟨#[48]⟩ : ByteArray).toList = [48] := by rw [ByteArray.toList_eq]
theorem itoa_zero_ : Lib.itoa 0 = [48] := by
  unfold Lib.itoa
  rw [if_neg (by omega)]
  exact Lib.decDigits_one (by decide)
theorem itoa_dig {n : Int} (h : 0 ≤ n) : ∀ c ∈ Lib.itoa n, ∃ d, Lib.digitVal c = some d := by
  intro c hc
  obtain ⟨k, hk, e⟩ := List.getElem_of_mem hc
  cases hd : Lib.digitVal c with
  | some d => exact ⟨d, rfl⟩
  | none =>
    have h1 := decFrom_bad (Lib.itoa n) k 0 c (by rw [← e]; exact List.getElem?_eq_getElem hk) hd
    rw [dec_itoa h] at h1
    cases h1
theorem endText_ch {n : Int} (h : 0 ≤ n) : ∀ c ∈ endText n, c ≠ 44 ∧ c ≠ 58 := by
  intro c hc
  unfold endText at hc
  split at hc
  · simp at hc; subst hc; decide
  · obtain ⟨d, hd⟩ := itoa_dig h c hc
    constructor
    · rintro rfl; simp [Lib.digitVal] at hd
    · rintro rfl; simp [Lib.digitVal] at hd
theorem partsGo_one (b : UInt8) : ∀ (s cur : Str), (∀ c ∈ s, c ≠ b) → partsGo b cur s = [cur ++ s]
  | [], cur, _ => by simp [partsGo]
  | c :: r, cur, h => by
    have h1 : ¬ c = b := h c (by simp)
    unfold partsGo
    rw [if_neg h1, partsGo_one b r _ (fun x hx => h x (by simp [hx]))]
    simp
theorem partsGo_two (b : UInt8) (r : Str) : ∀ (s cur : Str), (∀ c ∈ s, c ≠ b) → partsGo b cur (s ++ b :: r) = (cur ++ s) :: partsGo b [] r
  | [], cur, _ => by rw [List.nil_append, partsGo, if_pos rfl, List.append_nil]
  | c :: q, cur, h => by
    have h1 : ¬ c = b := h c (by simp)
    rw [List.cons_append, partsGo, if_neg h1, partsGo_two b r q _ (fun x hx => h x (by simp [hx]))]
    simp
theorem parts_join_back (b : UInt8) : ∀ (l : List Str), l ≠ [] → (∀ p ∈ l, ∀ c ∈ p, c ≠ b) → parts b (Lib.join l [b]) = l
  | [], h, _ => absurd rfl h
  | [p], _, h => by
    rw [Lib.join_one]
    unfold parts
    rw [partsGo_one b p [] (h p (by simp))]
    rfl
  | p :: q :: l, _, h => by
    have ih := parts_join_back b (q :: l) (by simp) (fun x hx => h x (by simp [hx]))
    have e : Lib.join (p :: q :: l) [b] = p ++ b :: Lib.join (q :: l) [b] := by
      rw [Lib.join_cons, Lib.join_cons]
      simp [Lib.joinTail]
    rw [e]
    unfold parts
    rw [partsGo_two b _ p [] (h p (by simp))]
    unfold parts at ih
    rw [ih]
    rfl
def numOf (s : Str) : Int := (number s).1
def endOf (s : Str) : Int × Bool := if s = [42] then (0, true) else ((number s).1, (number s).2 && decide (0 < (number s).1))
def fstP (p : Str) : Str := (parts 58 p).headD []
def lstP (p : Str) : Str := (parts 58 p).getLastD []
def pairOf (p : Str) : Span := (numOf (fstP p), numOf (lstP p))
def pieceOf (p : Str) : Span := ((endOf (fstP p)).1, (endOf (lstP p)).1)
def pieceOk (p : Str) : Bool := (endOf (fstP p)).2 && (endOf (lstP p)).2 && decide ((parts 58 p).length ≤ 2)
def readOutS (s : Str) : List Span := if (parts 44 s).length ≤ 5 then (parts 44 s).map pairOf else []
def readSetS (s : Str) : List Span × Bool := if s = [] ∨ ¬ setText (readOutS s) = s then ([], false) else (readOutS s, true)
def readOutI (s : Str) : List Span := (parts 44 s).map pieceOf
def readSet (s : Str) : List Span × Bool :=
  if (parts 44 s).all pieceOk = true ∧ (setOk (readOutI s) = true ∧ setText (readOutI s) = s) then (readOutI s, true) else ([], false)
theorem number_star : number [42] = (0, false) := number_none (by rfl)
theorem endOf_num {s : Str} (h : (endOf s).2 = true) : (endOf s).1 = numOf s := by
  unfold endOf numOf at *
  split
  · rename_i e; rw [e, number_star]
  · rfl
theorem endOf_text {n : Int} (h0 : 0 ≤ n) (h1 : n ≤ 999999999) : endOf (endText n) = (n, true) := by
  unfold endText
  split
  · rename_i e; subst e; rfl
  · rename_i e
    have hn := number_itoa_in h0 h1
    unfold endOf
    rw [if_neg (fun e2 => by rw [e2, number_star] at hn; injection hn with _ h; cases h), hn]
    simp; omega
theorem spanOk_in {x : Span} (h : spanOk x = true) : (0 ≤ x.1 ∧ x.1 ≤ 999999999) ∧ (0 ≤ x.2 ∧ x.2 ≤ 999999999) := by
  unfold spanOk inR at h; simp at h; omega
theorem piece_text {x : Span} (h : spanOk x = true) : pieceOk (spanText x) = true ∧ pieceOf (spanText x) = x := by
  obtain ⟨⟨a0, a1⟩, b0, b1⟩ := spanOk_in h
  unfold pieceOk pieceOf fstP lstP spanText
  split
  · rename_i e
    have hp : parts 58 (endText x.1) = [endText x.1] := by
      unfold parts; rw [partsGo_one 58 _ [] (fun c hc => (endText_ch a0 c hc).2)]; rfl
    rw [hp]
    show ((endOf (endText x.1)).2 && (endOf (endText x.1)).2 && true) = true ∧ ((endOf (endText x.1)).1, (endOf (endText x.1)).1) = x
    rw [endOf_text a0 a1]
    exact ⟨rfl, Prod.ext rfl e.symm⟩
  · have hp : parts 58 (endText x.1 ++ (58 :: endText x.2)) = [endText x.1, endText x.2] := by
      unfold parts
      rw [partsGo_two 58 _ _ [] (fun c hc => (endText_ch a0 c hc).2), partsGo_one 58 _ [] (fun c hc => (endText_ch b0 c hc).2)]
      rfl
    rw [hp]
    show ((endOf (endText x.1)).2 && (endOf (endText x.2)).2 && true) = true ∧ ((endOf (endText x.1)).1, (endOf (endText x.2)).1) = x
    rw [endOf_text a0 a1, endOf_text b0 b1]
    exact ⟨rfl, rfl⟩
theorem spanText_ch {x : Span} (h : spanOk x = true) : ∀ c ∈ spanText x, c ≠ 44 := by
  obtain ⟨⟨a0, a1⟩, b0, b1⟩ := spanOk_in h
  intro c hc
  unfold spanText at hc
  split at hc
  · exact (endText_ch a0 c hc).1
  · rcases List.mem_append.1 hc with h1 | h1
    · exact (endText_ch a0 c h1).1
    · rcases List.mem_cons.1 h1 with rfl | h1
      · decide
      · exact (endText_ch b0 c h1).1
theorem setOk_all {l : List Span} (h : setOk l = true) : (∀ x ∈ l, spanOk x = true) ∧ l ≠ [] := by
  unfold setOk at h
  simp only [Bool.and_eq_true, List.all_eq_true] at h
  refine ⟨h.1, fun e => ?_⟩
  subst e
  exact absurd h.2 (by decide)
theorem parts_setText {l : List Span} (h : setOk l = true) : parts 44 (setText l) = l.map spanText := by
  obtain ⟨h1, h2⟩ := setOk_all h
  unfold setText
  rw [if_pos h]
  refine parts_join_back 44 _ (by simpa using h2) ?_
  intro p hp
  obtain ⟨x, hx, rfl⟩ := List.mem_map.1 hp
  exact spanText_ch (h1 x hx)
theorem readSet_setText {l : List Span} (h : setOk l = true) : readSet (setText l) = (l, true) := by
  obtain ⟨h1, h2⟩ := setOk_all h
  have e : readOutI (setText l) = l := by
    unfold readOutI
    rw [parts_setText h, List.map_map]
    conv => rhs; rw [← List.map_id l]
    apply List.map_congr_left
    intro x hx
    exact (piece_text (h1 x hx)).2
  have e2 : (parts 44 (setText l)).all pieceOk = true := by
    rw [parts_setText h, List.all_eq_true]
    intro p hp
    obtain ⟨x, hx, rfl⟩ := List.mem_map.1 hp
    exact (piece_text (h1 x hx)).1
  unfold readSet
  rw [e, if_pos ⟨e2, h, rfl⟩]
theorem readSet_nil : readSet [] = ([], false) := by
  unfold readSet
  rw [if_neg]
  rintro ⟨h, _⟩
  revert h
  decide
theorem readSet_eq (s : Str) : readSetS s = readSet s := by
  by_cases hs : s = []
  · subst hs; rw [readSet_nil]; unfold readSetS; rw [if_pos (.inl rfl)]
  by_cases hS : setText (readOutS s) = s
  · have hok : setOk (readOutS s) = true := by
      cases h : setOk (readOutS s) with
      | true => rfl
      | false => exfalso; unfold setText at hS; rw [h] at hS; exact hs hS.symm
    have h1 := readSet_setText hok
    rw [hS] at h1
    rw [h1]
    unfold readSetS
    rw [if_neg (by rintro (h | h); exact hs h; exact h hS)]
  · unfold readSetS
    rw [if_pos (.inr hS)]
    unfold readSet
    rw [if_neg]
    rintro ⟨ha, ho, ht⟩
    apply hS
    have hlen : (parts 44 s).length ≤ 5 := by
      have := setOk_n ho
      unfold readOutI at this
      simpa using this
    have e : readOutS s = readOutI s := by
      unfold readOutS readOutI
      rw [if_pos hlen]
      apply List.map_congr_left
      intro p hp
      have hpk := List.all_eq_true.1 ha p hp
      unfold pieceOk at hpk
      simp only [Bool.and_eq_true] at hpk
      unfold pairOf pieceOf
      rw [endOf_num hpk.1.1, endOf_num hpk.1.2]
    rw [e, ht]
theorem readSet_ok {s : Str} (h : (readSet s).2 = true) : setText (readSet s).1 = s ∧ setOk (readSet s).1 = true := by
  unfold readSet at *
  split
  · rename_i h2; exact ⟨h2.2.2, h2.2.1⟩
  · rename_i h2; rw [if_neg h2] at h; cases h
theorem readSet_no {s : Str} (h : (readSet s).2 = false) : (readSet s).1 = [] := by
  unfold readSet at *
  split
  · rename_i h2; rw [if_pos h2] at h; cases h
  · rfl
theorem join_len (m : Nat) (sep : Str) (h1 : sep.length = 1) : ∀ (l : List Str), (∀ y ∈ l, y.length ≤ m) → (Lib.join l sep).length ≤ l.length * (m + 1)
  | [], _ => by simp [Lib.join]
  | [p], h => by rw [Lib.join_one]; have := h p (by simp); simp; omega
  | p :: q :: l, h => by
    have ih := join_len m sep h1 (q :: l) (fun x hx => h x (by simp [hx]))
    have hp := h p (by simp)
    have e : Lib.join (p :: q :: l) sep = p ++ (sep ++ Lib.join (q :: l) sep) := by
      rw [Lib.join_cons, Lib.join_cons]
      simp [Lib.joinTail]
    rw [e, List.length_append, List.length_append, h1]
    simp only [List.length_cons] at ih ⊢
    rw [Nat.add_mul (l.length + 1) 1 (m + 1)]
    omega
theorem setText_len (l : List Span) : (setText l).length ≤ 300 := by
  unfold setText
  split
  · rename_i h
    have h1 := join_len 43 [44] rfl (l.map spanText) (by
      intro y hy
      obtain ⟨x, hx, rfl⟩ := List.mem_map.1 hy
      exact spanText_len ((setOk_all h).1 x hx))
    have h2 := setOk_n h
    rw [List.length_map] at h1
    omega
  · simp
theorem partsGo_ne' (b : UInt8) : ∀ (r cur : Str), partsGo b cur r ≠ []
  | [], cur => by simp [partsGo]
  | c :: r, cur => by
    unfold partsGo
    split
    · simp
    · exact partsGo_ne' b r _
theorem partsGo_fit' (b : UInt8) : ∀ (r cur : Str) (y : Str), y ∈ partsGo b cur r → y.length ≤ cur.length + r.length
  | [], cur, y, h => by simp [partsGo] at h; subst h; simp
  | c :: r, cur, y, h => by
    unfold partsGo at h
    split at h
    · rcases List.mem_cons.1 h with rfl | h
      · simp
      · have := partsGo_fit' b r [] y h
        simp at this ⊢; omega
    · have := partsGo_fit' b r _ y h
      simp at this ⊢; omega
theorem partsGo_len' (b : UInt8) : ∀ (r cur : Str), (partsGo b cur r).length ≤ r.length + 1
  | [], cur => by simp [partsGo]
  | c :: r, cur => by
    unfold partsGo
    split
    · have := partsGo_len' b r []
      simp; omega
    · have := partsGo_len' b r (cur ++ [c])
      simp; omega
/-- What parting a piece gives: the first part, the last one, how many. -/
theorem parts_ends (b : UInt8) (x : Str) : ∃ n, (parts b x).length = n + 1 ∧ (parts b x)[0]? = some ((parts b x).headD []) ∧ (parts b x)[n]? = some ((parts b x).getLastD []) ∧ ((parts b x).headD []).length ≤ x.length ∧ ((parts b x).getLastD []).length ≤ x.length ∧ (parts b x).length ≤ x.length + 1 := by
  have hne := partsGo_ne' b x []
  have hfit := fun y h => partsGo_fit' b x [] y h
  have hlen := partsGo_len' b x []
  show ∃ n, (partsGo b [] x).length = n + 1 ∧ (partsGo b [] x)[0]? = some ((partsGo b [] x).headD []) ∧ (partsGo b [] x)[n]? = some ((partsGo b [] x).getLastD []) ∧ ((partsGo b [] x).headD []).length ≤ x.length ∧ ((partsGo b [] x).getLastD []).length ≤ x.length ∧ (partsGo b [] x).length ≤ x.length + 1
  generalize partsGo b [] x = l at *
  cases l with
  | nil => exact absurd rfl hne
  | cons p r =>
    have hv : (p :: r)[r.length]? = some ((p :: r)[r.length]'(by simp)) := List.getElem?_eq_getElem _
    have hlast : (p :: r)[r.length]? = some ((p :: r).getLastD []) := by
      have e : (p :: r).getLastD [] = (p :: r)[r.length]'(by simp) := by
        rw [List.getLastD_eq_getLast?, List.getLast?_eq_getElem?]
        show ((p :: r)[(r.length + 1) - 1]?).getD [] = _
        rw [Nat.add_sub_cancel, hv]
        rfl
      rw [e]
      exact hv
    have hl : (p :: r).getLastD [] ∈ p :: r := List.mem_of_getElem? hlast
    refine ⟨r.length, rfl, rfl, hlast, ?_, ?_, hlen⟩
    · have := hfit p (by simp); simp at this; simpa using this
    · have := hfit _ hl; simpa using this
theorem readSet_bad {s p : Str} (h : p ∈ parts 44 s) (hp : pieceOk p = false) : readSet s = ([], false) := by
  unfold readSet
  rw [if_neg]
  rintro ⟨ha, _⟩
  rw [List.all_eq_true.1 ha p h] at hp
  cases hp
theorem readSet_all {s : Str} (h : ∀ p ∈ parts 44 s, pieceOk p = true) : readSet s = if setOk (readOutI s) = true ∧ setText (readOutI s) = s then (readOutI s, true) else ([], false) := by
  unfold readSet
  rw [List.all_eq_true.2 h]
  simp

set_option maxHeartbeats 800000 in
theorem impl_readEnd (s : ByteArray) (w : World) (hs : s.size ≤ 1048576) (htab : Lib.TabIs Tryd.prog w "internal/strconv.uint64pow10" .u64 Lib.pow10Tab)
    (hE1 : ∃ pp, w.var? Tryd.prog "strconv.ErrSyntax" = some #[.iface 95 pp]) (hE2 : ∃ pp, w.var? Tryd.prog "strconv.ErrRange" = some #[.iface 95 pp]) :
    Calls Tryd.prog 21 #[.string s] w fun e w' => e = .returned (.tuple #[.int .i64 (endOf s.data.toList).1, .bool (endOf s.data.toList).2]) ∧ Below w.heap.size w w' := by
  have HC := Lib.hid (impl_Number s w hs htab hE1 hE2)
  clear htab hE1 hE2
  cases hb : (s.toList == [42]) with
  | true =>
    have e : s.data.toList = [42] := by have := eq_of_beq hb; rwa [ByteArray.toList_eq] at this
    have HF := Lib.hid (show endOf s.data.toList = (0, true) by rw [e]; rfl)
    clear e
    go_enter Tryd.func21, Tryd.ntmps21
    go_wp2
    go_ret2
    exact ⟨ret_ib (by rw [HF.out]) (by rw [HF.out]), Below.refl _ _⟩
  | false =>
    have ne : ¬ s.data.toList = [42] := fun e => by rw [ByteArray.toList_eq, e] at hb; simp at hb
    obtain ⟨R, hR⟩ : ∃ R, (number s.data.toList).1 = R := ⟨_, rfl⟩
    obtain ⟨b, hbb⟩ : ∃ b, (number s.data.toList).2 = b := ⟨_, rfl⟩
    have HF := Lib.hid (show endOf s.data.toList = (R, b && decide (0 < R)) by unfold endOf; rw [if_neg ne, hR, hbb])
    have HR := Lib.hid hR
    have Hb := Lib.hid hbb
    clear hR hbb ne
    by_cases h0 : 0 < R
    · have hd : decide (0 < R) = true := decide_eq_true h0
      go_enter Tryd.func21, Tryd.ntmps21
      go_wp2_with fail
      refine HC.out.mono ?_
      rintro e w1 ⟨rfl, hb1⟩
      rw [HR.out, Hb.out]
      have HB1 := Lib.hid hb1
      clear hb1 HC
      cases b
      · go_wp2
        go_ret2
        exact ⟨ret_ib (by rw [HF.out]) (by rw [HF.out]; rfl), HB1.out⟩
      · go_wp2
        go_ret2
        exact ⟨ret_ib (by rw [HF.out]) (by rw [HF.out, hd]; rfl), HB1.out⟩
    · have hd : decide (0 < R) = false := decide_eq_false h0
      go_enter Tryd.func21, Tryd.ntmps21
      go_wp2_with fail
      refine HC.out.mono ?_
      rintro e w1 ⟨rfl, hb1⟩
      rw [HR.out, Hb.out]
      have HB1 := Lib.hid hb1
      clear hb1 HC
      cases b
      · go_wp2
        go_ret2
        exact ⟨ret_ib (by rw [HF.out]) (by rw [HF.out]; rfl), HB1.out⟩
      · go_wp2
        go_ret2
        exact ⟨ret_ib (by rw [HF.out]) (by rw [HF.out, hd]; rfl), HB1.out⟩
theorem spec_l4Number (s : ByteArray) (w : World) (hs : s.size ≤ 1048576) :
    Calls Tryd.prog 18 #[.string s] w fun e w' => e = .returned (.int .i64 (numOf s.data.toList)) ∧ Below w.heap.size w w' := by
  have HC := Lib.hid (spec_Number s w hs)
  go_enter Tryd.func18, Tryd.ntmps18
  go_wp2_with fail
  refine HC.out.mono ?_
  rintro e w1 ⟨rfl, hb1⟩
  have HB1 := Lib.hid hb1
  obtain ⟨R, hR⟩ : ∃ R, (number s.data.toList).1 = R := ⟨_, rfl⟩
  have HR := Lib.hid (show numOf s.data.toList = R from hR)
  rw [hR]
  clear hR hb1 HC
  go_wp2
  go_ret
  exact ⟨ret_i HR.out.symm, HB1.out⟩

/-- 'append(out, ys...)' with ys not nil: what it writes, and where the answer lies. -/
theorem wpList_appG {α : Type} {enc : α → List Value} {k : Nat} (hk : ∀ x, (enc x).length = k) (h1c : ∀ x, ∀ u ∈ enc x, u.oneCell' = true) (hk0 : 0 < k)
    {P : Program} {w : World} {ops : Array Oper} {rest : List Oper} {o : Oper} {a : Act} {Q : Exit → Act → World → Prop} (hgd : o.guard = none) (s x : Operand) (t e : TypeId)
    (ho : o.op = .call { callee := .builtin .append, args := #[s, x], argTypes := #[t, t] })
    (z : Value) (bytes : Nat) (ht : P.underlying t = some (.slice e)) (hinfo : (P.info? e).map (fun i => (i.zero, i.size, i.bytes)) = some (some z, k, bytes)) (hzs : z.cells.size = k)
    (base : Nat) (v : Value) (xs : List α) (hs : a.eval s = v) (hown : w.ownsRow base e k v xs.length (xs.flatMap enc))
    (ad : Addr) (m c : Nat) (ys : List α) (hx : a.eval x = .slice (some ad) m c) (hr : Rd enc k w (some ad) m ys)
    (hbytes : (xs.length + m) * bytes ≤ 140737488355328) (hb1 : 1 ≤ bytes) (hbase : base ≤ w.heap.size)
    (hK : ∀ v' w', w'.ownsRow base e k v' (xs ++ ys).length ((xs ++ ys).flatMap enc) → w.grownBy w' v.ownBlock → (v'.ownBlock = v.ownBlock ∨ v'.ownBlock = some w.heap.size) → wpList P ops Q rest (a.put o.dst v') w') :
    wpList P ops Q (o :: rest) a w := by
  obtain ⟨i, hi, hz0, hz1, hz2⟩ := info_parts hinfo
  have hlm : ys.length = m := hr.1
  have h63 : xs.length + m ≤ maxLen := by
    have := Nat.le_trans (Nat.le_mul_of_pos_right (xs.length + m) hb1) hbytes
    unfold maxLen; omega
  have hflat : (xs ++ ys).flatMap enc = xs.flatMap enc ++ ys.flatMap enc := List.flatMap_append
  obtain ⟨v', w', hrun, h2, h3, _, h5⟩ := run_append_own_at (P := P) w base t o.type e i z k bytes ht hi hz0 hz1 hz2 hzs hk0 v xs.length (xs.flatMap enc) hown ad m c (ys.flatMap enc) (by rw [flat_len hk, hlm]) (by
      intro j u hu
      have hj : j < (ys.flatMap enc).length := (List.getElem?_eq_some_iff.1 hu).1
      rw [flat_len hk, hlm] at hj
      have hm : 0 < m := Nat.pos_of_ne_zero (fun h => by subst h; simp at hj)
      obtain ⟨b, off, he, hb, hc⟩ := hr.2 hm
      injection he with he
      subst he
      have hq : j / k < m := Nat.div_lt_of_lt_mul (by rw [Nat.mul_comm]; exact hj)
      obtain ⟨y, hy⟩ := hr.get hq
      have hlt : j % k < (enc y).length := by rw [hk]; exact Nat.mod_lt _ hk0
      have h1 := flat_get hk ys (j / k) (j % k) y _ hy (List.getElem?_eq_getElem hlt)
      have hjj : j / k * k + j % k = j := by rw [Nat.mul_comm]; exact Nat.div_add_mod j k
      rw [hjj, hu] at h1
      have h2 := hc (j / k) y hy (j % k) _ (List.getElem?_eq_getElem hlt)
      rw [Addr.add_lit, ← hjj, ← Nat.add_assoc, h2, h1]) (by
      intro u hu
      obtain ⟨y, _, hy⟩ := List.mem_flatMap.1 hu
      exact h1c y u hy) h63 hbytes hbase
  refine wpList_plain hgd fun K hK' => ?_
  unfold Oper.wp
  simp [execOp, ho, resolve, invoke, builtin, hs, hx, hrun, Result.andThen]
  refine hK' _ _ (hK v' w' ?_ h3 h5)
  rw [hflat, List.length_append, hlm]
  exact h2
/-- The two slices lie apart. -/
def Apart (v u : Value) : Prop := ∀ i, v.ownBlock = some i → ∀ j, u.ownBlock = some j → i ≠ j
theorem Apart.or {v u : Value} (h : Apart v u) : v.ownBlock = none ∨ v.ownBlock ≠ u.ownBlock := by
  cases he : v.ownBlock with
  | none => exact .inl rfl
  | some k => exact .inr fun e => h k he k e.symm rfl
theorem Apart.step {v u u' : Value} {B : Nat} (h : Apart v u) (hv : ∀ k, v.ownBlock = some k → k < B) (h5 : u'.ownBlock = u.ownBlock ∨ u'.ownBlock = some B) : Apart v u' := by
  intro i hi j hj
  rcases h5 with h5 | h5
  · exact h i hi j (by rw [← h5, hj])
  · have := hv i hi
    rw [h5] at hj; injection hj with hj
    omega
theorem older {v u : Value} {B : Nat} (hv : ∀ k, v.ownBlock = some k → k < B) (hu : ∀ k, u.ownBlock = some k → B ≤ k) : v.ownBlock = none ∨ v.ownBlock ≠ u.ownBlock :=
  Apart.or (fun i hi j hj => by have h1 := hv i hi; have h2 := hu j hj; omega)

end Go.Proofs.YthccfnoebbimjaaDoor
