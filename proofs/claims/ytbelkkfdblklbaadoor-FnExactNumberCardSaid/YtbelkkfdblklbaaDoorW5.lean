/-
  Walks: what each function returns, and that it leaves what lay in memory as it was.
-/
import Derived.Test.YtbelkkfdblklbaaDoorProg
import Derived.Test.YtbelkkfdblklbaaDoorPlain
import Derived.Test.YtbelkkfdblklbaaDoorBase2
import Derived.Test.YtbelkkfdblklbaaDoorOpen2
import Derived.Test.YtbelkkfdblklbaaDoorShelf
import Derived.WalkKit
import Derived.WalkSpells
import Derived.WalkLawsBesides
import Derived.Lib.Hide
import Derived.Deep.LoopGhost
import Derived.Deep.QuietTactic
import Derived.BigQuiet
import Derived.Handy
import Derived.Deep.RegionHeld3
import Derived.StillTailTactics
import Derived.OpenShut
import Derived.ChangeSame
import Derived.Laws.StructEq

import Derived.Test.YtbelkkfdblklbaaDoorPlainT

import Derived.Test.YtbelkkfdblklbaaDoorW1

import Derived.Test.YtbelkkfdblklbaaDoorW2

import Derived.Test.YtbelkkfdblklbaaDoorBase3

import Derived.Lib.ItoaMem
import Derived.Lib.ItoaLen
import Derived.Lib.LaidTab

import Derived.Lib.AtoiTie
import Derived.Lib.AtoiBound
import Derived.Lib.ConvBytes

namespace Go.Proofs.YtbelkkfdblklbaaDoor
open Go.ChangeShapes Go.WideShapes Go.ChangeAt Go.RowKit Go.Deep
set_option linter.unusedVariables false
set_option linter.unusedSimpArgs false

theorem bne_of {a b : ByteArray} (h : ¬ a = b) : (a.toList != b.toList) = true := by
  have h1 : (a.toList == b.toList) = false := by rw [ba_beq, decide_eq_false h]
  unfold bne; rw [h1]; rfl

theorem decFrom_bad : ∀ (l : Str) (k acc : Nat) (b : UInt8), l[k]? = some b → Lib.digitVal b = none → Lib.decFrom acc l = none
  | [], k, acc, b, h, _ => by simp at h
  | a :: r, 0, acc, b, h, hb => by
    simp at h; subst h
    rw [Lib.decFrom, hb]
  | a :: r, k + 1, acc, b, h, hb => by
    have h' : r[k]? = some b := by simpa using h
    rw [Lib.decFrom]
    cases Lib.digitVal a with
    | none => rfl
    | some d => exact decFrom_bad r k _ b h' hb
theorem decFrom_snoc : ∀ (l : Str) (acc : Nat) (b : UInt8) (n d : Nat), Lib.decFrom acc l = some n → Lib.digitVal b = some d → Lib.decFrom acc (l ++ [b]) = some (n * 10 + d)
  | [], acc, b, n, d, h, hd => by
    simp only [Lib.decFrom, Option.some.injEq] at h
    subst h
    simp [Lib.decFrom, hd]
  | a :: r, acc, b, n, d, h, hd => by
    rw [List.cons_append, Lib.decFrom]
    rw [Lib.decFrom] at h
    cases ha : Lib.digitVal a with
    | none => rw [ha] at h; cases h
    | some e => rw [ha] at h; exact decFrom_snoc r _ b n d h hd
theorem digitVal_dig (u : Nat) : Lib.digitVal (UInt8.ofNat (48 + u % 10)) = some (u % 10) := by
  have hlt : 48 + u % 10 < 256 := by omega
  have e : (UInt8.ofNat (48 + u % 10)).toNat = 48 + u % 10 := UInt8.toNat_ofNat_of_lt' hlt
  unfold Lib.digitVal
  rw [e, if_pos (by omega)]
  congr 1; omega
theorem decFrom_dec (u : Nat) : Lib.decFrom 0 (Lib.decDigits u) = some u := by
  induction u using Nat.strongRecOn with
  | _ u ih =>
    by_cases h : u < 10
    · rw [Lib.decDigits_one h]
      have hd := digitVal_dig u
      rw [Nat.mod_eq_of_lt h] at hd
      rw [Lib.decFrom, hd]
      simp [Lib.decFrom]
    · rw [Lib.decDigits, dif_neg h]
      rw [decFrom_snoc _ _ _ _ _ (ih (u / 10) (by omega)) (digitVal_dig u)]
      congr 1; omega
theorem nDigits_le : ∀ (k u : Nat), u < 10 ^ (k + 1) → Lib.nDigits u ≤ k + 1
  | 0, u, h => by rw [Lib.nDigits_small (by simpa using h)]; omega
  | k + 1, u, h => by
    by_cases h10 : u < 10
    · rw [Lib.nDigits_small h10]; omega
    · rw [Lib.nDigits_big h10]
      have h2 : 10 ^ (k + 1 + 1) = 10 ^ (k + 1) * 10 := Nat.pow_succ 10 (k + 1)
      have := nDigits_le k (u / 10) (by omega)
      omega
theorem decFrom_lt : ∀ (l : Str) (acc n k : Nat), acc < 10 ^ k → Lib.decFrom acc l = some n → n < 10 ^ (k + l.length)
  | [], acc, n, k, h, hn => by
    simp only [Lib.decFrom, Option.some.injEq] at hn
    subst hn; simpa using h
  | b :: r, acc, n, k, h, hn => by
    rw [Lib.decFrom] at hn
    cases hb : Lib.digitVal b with
    | none => rw [hb] at hn; cases hn
    | some d =>
      rw [hb] at hn
      have hd : d ≤ 9 := by
        unfold Lib.digitVal at hb
        split at hb
        · injection hb with hb; omega
        · cases hb
      have h2 : 10 ^ (k + 1) = 10 ^ k * 10 := Nat.pow_succ 10 k
      have := decFrom_lt r _ n (k + 1) (by omega) hn
      rw [List.length_cons, show k + (r.length + 1) = k + 1 + r.length by omega]
      exact this
def number (s : Str) : Int × Bool :=
  if 1 ≤ s.length ∧ s.length ≤ 9 then
    (match Lib.decFrom 0 s with
     | some n => if Lib.itoa (n : Int) = s then ((n : Int), true) else (0, false)
     | none => (0, false))
  else (0, false)
theorem number_len {s : Str} (h : ¬ (1 ≤ s.length ∧ s.length ≤ 9)) : number s = (0, false) := by unfold number; rw [if_neg h]
theorem number_none {s : Str} (h : Lib.decFrom 0 s = none) : number s = (0, false) := by unfold number; rw [h]; split <;> rfl
theorem number_yes {s : Str} {n : Nat} (h : 1 ≤ s.length ∧ s.length ≤ 9) (hd : Lib.decFrom 0 s = some n) (hi : Lib.itoa (n : Int) = s) : number s = ((n : Int), true) := by
  unfold number; rw [if_pos h, hd]; simp only []; rw [if_pos hi]
theorem number_no {s : Str} {n : Nat} (hd : Lib.decFrom 0 s = some n) (hi : ¬ Lib.itoa (n : Int) = s) : number s = (0, false) := by
  unfold number; split
  · rw [hd]; simp only []; rw [if_neg hi]
  · rfl
theorem number_cases (s : Str) : (∃ n : Nat, (1 ≤ s.length ∧ s.length ≤ 9) ∧ Lib.decFrom 0 s = some n ∧ Lib.itoa (n : Int) = s) ∨ number s = (0, false) := by
  by_cases h : 1 ≤ s.length ∧ s.length ≤ 9
  · cases hd : Lib.decFrom 0 s with
    | none => exact Or.inr (number_none hd)
    | some n =>
      by_cases hi : Lib.itoa (n : Int) = s
      · exact Or.inl ⟨n, h, rfl, hi⟩
      · exact Or.inr (number_no hd hi)
  · exact Or.inr (number_len h)
theorem atoi_digits {s : Str} {n : Nat} (h : 1 ≤ s.length ∧ s.length ≤ 9) (hd : Lib.decFrom 0 s = some n) : Lib.atoiAll s = .ok (n : Int) := by
  rw [Lib.atoiAll_short s (by omega)]
  cases s with
  | nil => simp at h
  | cons b r =>
    have hb : ∃ d, Lib.digitVal b = some d := by
      rw [Lib.decFrom] at hd
      cases hb : Lib.digitVal b with
      | none => rw [hb] at hd; cases hd
      | some d => exact ⟨d, rfl⟩
    obtain ⟨d, hb⟩ := hb
    have h48 : 48 ≤ b.toNat := by
      unfold Lib.digitVal at hb
      split at hb
      · omega
      · cases hb
    have n45 : (b == 45) = false := by rw [beq_eq_false_iff_ne]; rintro rfl; simp at h48
    have n43 : (b == 43) = false := by rw [beq_eq_false_iff_ne]; rintro rfl; simp at h48
    have e : Lib.atoi (b :: r) = some (n : Int) := by
      rw [Lib.atoi, n45, n43]
      simp only [Bool.false_eq_true, if_false]
      unfold Lib.decNat
      rw [hd]; rfl
    rw [e]; rfl
/-- The program's way: what Atoi gives, and its range, and its text. -/
theorem number_atoi_ok {s : Str} {v : Int} (h : Lib.atoiAll s = .ok v) (h0 : 0 ≤ v) (h1 : v ≤ 999999999) (hi : Lib.itoa v = s) : number s = (v, true) := by
  obtain ⟨u, rfl⟩ := Int.eq_ofNat_of_zero_le h0
  have hs : Lib.decDigits u = s := by rw [← hi]; exact (Lib.itoa_nonneg u).symm
  have hl := nDigits_le 8 u (by omega)
  have hp := Lib.nDigits_pos u
  have hlen : s.length = Lib.nDigits u := by rw [← hs, Lib.decDigits_length]
  exact number_yes (by omega) (by rw [← hs]; exact decFrom_dec u) hi
theorem number_atoi_bad {s : Str} (h : ∀ v, Lib.atoiAll s = .ok v → ¬ (0 ≤ v ∧ v ≤ 999999999) ∨ ¬ Lib.itoa v = s) : number s = (0, false) := by
  rcases number_cases s with ⟨n, hl, hd, hi⟩ | h2
  · exfalso
    have hlt := decFrom_lt s 0 n 0 (by decide) hd
    have hle : 10 ^ (0 + s.length) ≤ 10 ^ 9 := Nat.pow_le_pow_right (by decide) (by omega)
    rcases h _ (atoi_digits hl hd) with h3 | h3
    · omega
    · exact h3 hi
  · exact h2
theorem below_bytes (w : World) (e : TypeId) (s : ByteArray) : Below w.heap.size w (Lib.bytesWorld w e s) := Lib.bytesWorld_below _ _ _
set_option maxHeartbeats 1600000 in
theorem spec_Number (s : ByteArray) (w : World) (hs : s.size ≤ 1048576) :
    Calls Tryd.prog 14 #[.string s] w fun e w' => e = .returned (.tuple #[.int .i64 (number s.data.toList).1, .bool (number s.data.toList).2]) ∧ Below w.heap.size w w' := by
  have HL := Lib.hid (size_len s)
  by_cases hlen : 1 ≤ s.size ∧ s.size ≤ 9
  · obtain ⟨hl1, hl9⟩ := hlen
    have hd1 : decide ((s.size : Int) < 1) = false := decide_eq_false (by omega)
    have hd9 : decide ((9 : Int) < (s.size : Int)) = false := decide_eq_false (by omega)
    go_enter Tryd.func14, Tryd.ntmps14
    go_wp2_with fail
    go_loop [4, 5] (fun o i => ∃ (k n : Nat), k ≤ s.size ∧ i = .int .i64 k ∧ o = .int .i64 n ∧ n < 10 ^ k ∧ Hid (Lib.decFrom 0 (s.data.toList.take k) = some n)) (fun _ i => s.size - (intOf i).toNat)
    case atStart => exact ⟨0, 0, by omega, rfl, rfl, by decide, Lib.hid rfl⟩
    case round =>
      obtain ⟨k, n, hk, rfl, rfl, hn, hd⟩ := hrel
      by_cases hlt : k < s.size
      · have hlt' : k < s.data.toList.length := by rw [← HL.out]; exact hlt
        have hx : s.data.toList[k]? = some s[k] := by rw [List.getElem?_eq_getElem hlt']; rfl
        have hpw : 10 ^ k ≤ 10 ^ 8 := Nat.pow_le_pow_right (by decide) (by omega)
        have hp2 : 10 ^ (k + 1) = 10 ^ k * 10 := Nat.pow_succ 10 k
        have HX := Lib.hid hx
        clear hx
        generalize hc : s[k] = c at *
        have hc8 := u8_lt c
        by_cases h1 : (c.toNat : Int) < 48
        · have HF := Lib.hid (number_none (decFrom_bad _ k 0 c HX.out (by unfold Lib.digitVal; rw [if_neg (by omega)])))
          clear hn hpw hp2
          go_wp2
          go_ret2
          exact ⟨ret_ib (by rw [HF.out]) (by rw [HF.out]), Below.refl _ _⟩
        · by_cases h2 : (57 : Int) < (c.toNat : Int)
          · have HF := Lib.hid (number_none (decFrom_bad _ k 0 c HX.out (by unfold Lib.digitVal; rw [if_neg (by omega)])))
            clear hn hpw hp2
            go_wp2
            go_ret2
            exact ⟨ret_ib (by rw [HF.out]) (by rw [HF.out]), Below.refl _ _⟩
          · have h1d : decide ((c.toNat : Int) < 48) = false := decide_eq_false h1
            have h2d : decide ((57 : Int) < (c.toNat : Int)) = false := decide_eq_false h2
            have HD := Lib.hid (Lib.decFrom_take s.data.toList k 0 n c (c.toNat - 48) hd.out HX.out (by unfold Lib.digitVal; rw [if_pos (by omega)]))
            have hn8 : (n : Int) < 100000000 := by omega
            have HNew := Lib.hid (show n * 10 + (c.toNat - 48) < 10 ^ (k + 1) by omega)
            have HEq := Lib.hid (show 10 * (n : Int) + ((c.toNat : Int) - 48) = ((n * 10 + (c.toNat - 48) : Nat) : Int) by omega)
            clear hn hpw hp2
            go_wp2
            go_round
            case rel => exact ⟨k + 1, n * 10 + (c.toNat - 48), by omega, by go_num, by rw [← HEq.out], HNew.out, HD.out⟩
            case measure => simp [intOf]; omega
      · have hke : k = s.size := by omega
        have HDs := Lib.hid (show Lib.decFrom 0 s.data.toList = some n by have h := hd.out; rw [List.take_of_length_le (by rw [← HL.out]; omega)] at h; exact h)
        have hpw : 10 ^ k ≤ 10 ^ 9 := Nat.pow_le_pow_right (by decide) (by omega)
        have hn9 : (n : Int) < 1000000000 := by omega
        clear hd hn hpw hke
        obtain ⟨Z, hZ⟩ : ∃ Z, (⟨(Lib.itoa (n : Int)).toArray⟩ : ByteArray) = Z := ⟨_, rfl⟩
        go_wp2_with fail
        refine (spec_Digits (n : Int) w (by omega) (by omega)).mono ?_
        rintro e w1 ⟨rfl, hb⟩
        rw [hZ]
        have HB := Lib.hid hb
        clear hb
        by_cases hzs : Z = s
        · subst hzs
          have HF := Lib.hid (number_yes (s := Z.data.toList) (by rw [← HL.out]; exact ⟨hl1, hl9⟩) HDs.out (by rw [← hZ]))
          clear hZ
          go_wp2
          go_ret2
          exact ⟨ret_ib (by rw [HF.out]) (by rw [HF.out]), HB.out⟩
        · have hb1 := bne_of hzs
          have hb2 : (Z.toList == s.toList) = false := by rw [ba_beq, decide_eq_false hzs]
          have HF := Lib.hid (number_no HDs.out (fun e => hzs (by rw [← hZ, e]; try exact mk_toList s)))
          clear hZ hzs
          go_wp2
          go_ret2
          exact ⟨ret_ib (by rw [HF.out]) (by rw [HF.out]), HB.out⟩
  · have HF := Lib.hid (number_len (s := s.data.toList) (by rw [← HL.out]; exact hlen))
    by_cases h1 : (s.size : Int) < 1
    · clear hlen
      go_enter Tryd.func14, Tryd.ntmps14
      go_wp2
      go_ret2
      exact ⟨ret_ib (by rw [HF.out]) (by rw [HF.out]), Below.refl _ _⟩
    · have h9 : (9 : Int) < (s.size : Int) := by omega
      clear hlen
      go_enter Tryd.func14, Tryd.ntmps14
      go_wp2
      go_ret2
      exact ⟨ret_ib (by rw [HF.out]) (by rw [HF.out]), Below.refl _ _⟩
set_option maxHeartbeats 1600000 in
theorem impl_Number (s : ByteArray) (w : World) (hs : s.size ≤ 1048576) (htab : Lib.TabIs Tryd.prog w "internal/strconv.uint64pow10" .u64 Lib.pow10Tab)
    (hE1 : ∃ pp, w.var? Tryd.prog "strconv.ErrSyntax" = some #[.iface 77 pp]) (hE2 : ∃ pp, w.var? Tryd.prog "strconv.ErrRange" = some #[.iface 77 pp]) :
    Calls Tryd.prog 15 #[.string s] w fun e w' => e = .returned (.tuple #[.int .i64 (number s.data.toList).1, .bool (number s.data.toList).2]) ∧ Below w.heap.size w w' := by
  obtain ⟨p1, hv1⟩ := hE1
  obtain ⟨p2, hv2⟩ := hE2
  have HT := Lib.hid htab
  clear htab
  cases ha : Lib.atoiAll s.data.toList with
  | range =>
    have HF := Lib.hid (number_atoi_bad (s := s.data.toList) (fun v h => by rw [ha] at h; cases h))
    have HC := Lib.hid (Tryd.strconv_Atoi_range_var s (by omega) ha 77 p2 w hv2)
    clear hv1 hv2 ha
    go_enter Tryd.func15, Tryd.ntmps15
    go_wp2_with fail
    refine HC.out.mono ?_
    rintro e w1 ⟨N, rfl, _, _, hb⟩
    have HB := Lib.hid hb
    clear hb HC
    go_wp2
    go_ret2
    exact ⟨ret_ib (by rw [HF.out]) (by rw [HF.out]), HB.out⟩
  | ok v =>
    have hvb := Lib.atoiAll_bounds ha
    have HC := Lib.hid (Tryd.strconv_Atoi_ok s (by omega) v ha w)
    clear hv1 hv2
    cases hr : inR v 0 999999999
    · have HF := Lib.hid (number_atoi_bad (s := s.data.toList) (fun u h => by
        rw [ha] at h; injection h with h; subst h
        left; intro ⟨h1, h2⟩; unfold inR at hr; simp at hr; omega))
      clear ha
      go_enter Tryd.func15, Tryd.ntmps15
      go_wp2_with fail
      refine HC.out.mono ?_
      rintro e w1 ⟨rfl, hb⟩
      have HB := Lib.hid (show Below w.heap.size w w1 by rcases hb with rfl | ⟨t, rfl⟩; exact Below.refl _ _; exact below_bytes _ _ _)
      clear hb HC
      go_wp2_with (go_at_call 22; refine (within_any _ _ _ _).mono ?_; rintro e w' ⟨rfl, rfl⟩; rw [hr])
      go_ret2
      exact ⟨ret_ib (by rw [HF.out]) (by rw [HF.out]), HB.out⟩
    · have hrr : 0 ≤ v ∧ v ≤ 999999999 := by unfold inR at hr; simpa using hr
      obtain ⟨Z, hZ⟩ : ∃ Z, (⟨(Lib.itoa v).toArray⟩ : ByteArray) = Z := ⟨_, rfl⟩
      have HZ := Lib.hid hZ
      have HA := Lib.hid ha
      clear ha hZ
      by_cases hzs : Z = s
      · have HF := Lib.hid (number_atoi_ok HA.out hrr.1 hrr.2 (by have h := HZ.out; rw [hzs] at h; rw [← h]))
        subst hzs
        go_enter Tryd.func15, Tryd.ntmps15
        go_wp2_with fail
        refine HC.out.mono ?_
        rintro e w1 ⟨rfl, hb⟩
        have HB := Lib.hid (show Below w.heap.size w w1 by rcases hb with rfl | ⟨t, rfl⟩; exact Below.refl _ _; exact below_bytes _ _ _)
        clear hb HC
        go_wp2_with (first | (go_at_call 22; refine (within_any _ _ _ _).mono ?_; rintro e w' ⟨rfl, rfl⟩; rw [hr]) | (go_at_call 29; refine (impl_Digits v _ (by omega) (by omega) (tab_below HT.out HB.out)).mono ?_; rw [HZ.out]; rintro e w2 ⟨rfl, hb2⟩))
        go_ret2
        exact ⟨ret_ib (by rw [HF.out]) (by rw [HF.out]), HB.out.trans (hb2.mono HB.out.size)⟩
      · have hb1 := bne_of hzs
        have hb2 : (Z.toList == s.toList) = false := by rw [ba_beq, decide_eq_false hzs]
        have HF := Lib.hid (number_atoi_bad (s := s.data.toList) (fun u h => by
          rw [HA.out] at h; injection h with h; subst h
          right; intro e; apply hzs; rw [← HZ.out, e]; try exact mk_toList s))
        clear hzs
        go_enter Tryd.func15, Tryd.ntmps15
        go_wp2_with fail
        refine HC.out.mono ?_
        rintro e w1 ⟨rfl, hb⟩
        have HB := Lib.hid (show Below w.heap.size w w1 by rcases hb with rfl | ⟨t, rfl⟩; exact Below.refl _ _; exact below_bytes _ _ _)
        clear hb HC
        go_wp2_with (first | (go_at_call 22; refine (within_any _ _ _ _).mono ?_; rintro e w' ⟨rfl, rfl⟩; rw [hr]) | (go_at_call 29; refine (impl_Digits v _ (by omega) (by omega) (tab_below HT.out HB.out)).mono ?_; rw [HZ.out]; rintro e w2 ⟨rfl, hbd2⟩))
        go_ret2
        exact ⟨ret_ib (by rw [HF.out]) (by rw [HF.out]), HB.out.trans (hbd2.mono HB.out.size)⟩
  | _ =>
    have HF := Lib.hid (number_atoi_bad (s := s.data.toList) (fun v h => by rw [ha] at h; cases h))
    have HC := Lib.hid (Tryd.strconv_Atoi_syntax_var s (by omega) ha 77 p1 w hv1)
    clear hv1 hv2 ha
    go_enter Tryd.func15, Tryd.ntmps15
    go_wp2_with fail
    refine HC.out.mono ?_
    rintro e w1 ⟨N, rfl, _, _, hb⟩
    have HB := Lib.hid hb
    clear hb HC
    go_wp2
    go_ret2
    exact ⟨ret_ib (by rw [HF.out]) (by rw [HF.out]), HB.out⟩
theorem walk_FnExactNumber (a0 : ByteArray) (w : World) (w0 : a0.size ≤ maxLen) (htab : Lib.TabIs Tryd.prog w "internal/strconv.uint64pow10" .u64 Lib.pow10Tab)
    (hE2 : ∃ pp, w.var? Tryd.prog "strconv.ErrRange" = some #[.iface 77 pp]) (hE1 : ∃ pp, w.var? Tryd.prog "strconv.ErrSyntax" = some #[.iface 77 pp]) :
    Calls Tryd.prog 6 #[.string a0] w fun e w' => e = .returned (.bool true) ∧ Below w.heap.size w w' := by
  unfold maxLen at w0
  have HT := Lib.hid htab
  have HE1 := Lib.hid hE1
  have HE2 := Lib.hid hE2
  clear htab hE1 hE2
  by_cases hs : (1048576 : Int) < (a0.size : Int)
  · go_enter Tryd.func6, Tryd.ntmps6
    go_wp2
    go_ret
    exact ⟨rfl, Below.refl _ _⟩
  · have hs' : a0.size ≤ 1048576 := by omega
    obtain ⟨R, hR⟩ : ∃ R, (number a0.data.toList).1 = R := ⟨_, rfl⟩
    obtain ⟨b, hb⟩ : ∃ b, (number a0.data.toList).2 = b := ⟨_, rfl⟩
    have HR := Lib.hid hR
    have Hb := Lib.hid hb
    clear hR hb
    go_enter Tryd.func6, Tryd.ntmps6
    go_wp2_with fail
    refine (spec_Number _ _ hs').mono ?_
    rintro e w1 ⟨rfl, hb1⟩
    rw [HR.out, Hb.out]
    have HB1 := Lib.hid hb1
    obtain ⟨p1, hp1⟩ := HE1.out
    obtain ⟨p2, hp2⟩ := HE2.out
    have HC := Lib.hid (impl_Number a0 w1 hs' (tab_below HT.out hb1) ⟨p1, var_below hp1 hb1⟩ ⟨p2, var_below hp2 hb1⟩)
    clear hb1 hp1 hp2
    go_wp2_with fail
    refine HC.out.mono ?_
    rintro e w2 ⟨rfl, hb2⟩
    rw [HR.out, Hb.out]
    have HB2 := Lib.hid (HB1.out.trans (hb2.mono HB1.out.size))
    clear hb2 HC
    go_wp2
    go_ret
    exact ⟨rfl, HB2.out⟩

end Go.Proofs.YtbelkkfdblklbaaDoor
