/-
  Walks: what each function returns, and that it leaves what lay in memory as it was.
-/
import Derived.Test.YtlehpgnhfpegoaaDoorProg
import Derived.Test.YtlehpgnhfpegoaaDoorPlain
import Derived.Test.YtlehpgnhfpegoaaDoorBase2
import Derived.Test.YtlehpgnhfpegoaaDoorOpen2
import Derived.Test.YtlehpgnhfpegoaaDoorShelf
import Derived.WalkKit
import Derived.WalkSpells
import Derived.WalkLawsBesides
import Derived.Lib.Hide
import Derived.Deep.LoopGhost
import Derived.Deep.QuietTactic
import Derived.BigQuiet
import Derived.Handy
import Derived.Deep.RegionHeld3
import Derived.StillTailTactics
import Derived.OpenShut
import Derived.ChangeSame
import Derived.Laws.StructEq

import Derived.Test.YtlehpgnhfpegoaaDoorPlainT

import Derived.Test.YtlehpgnhfpegoaaDoorW1

import Derived.Test.YtlehpgnhfpegoaaDoorW2

import Derived.Test.YtlehpgnhfpegoaaDoorW3

import Derived.Test.YtlehpgnhfpegoaaDoorW4

import Derived.Test.YtlehpgnhfpegoaaDoorW5

import Derived.Test.YtlehpgnhfpegoaaDoorW6

import Derived.Test.YtlehpgnhfpegoaaDoorBase3

import Derived.Lib.ItoaMem
import Derived.Lib.ItoaLen
import Derived.Lib.LaidTab

import Derived.Lib.AtoiTie
import Derived.Lib.AtoiBound
import Derived.Lib.ConvBytes

import Derived.Test.YtlehpgnhfpegoaaDoorW7

import Derived.Test.YtlehpgnhfpegoaaDoorW13

namespace Go.Proofs.YtlehpgnhfpegoaaDoor
open Go.ChangeShapes Go.WideShapes Go.ChangeAt Go.RowKit Go.Deep
set_option linter.unusedVariables false
set_option linter.unusedSimpArgs false

set_option maxRecDepth 20000

theorem unq_quote (tl : Str) : ∀ (r out : Str) (k : Nat), r.all quotB = true → (out ++ r).length ≤ 40 → unqGo out k (esc r ++ 34 :: tl) = (out ++ r, (k : Int) + (esc r).length + 1)
  | [], out, k, _, h40 => by
    have h := unq_close (s := List.replicate k (0 : UInt8) ++ 34 :: tl) (out := out) (k := k) (by simp)
    rw [if_pos (by simpa using h40)] at h
    rw [List.drop_append_of_le_length (by simp), List.drop_of_length_le (by simp)] at h
    simpa [esc] using h
  | c :: r, out, k, hq, h40 => by
    have hq1 : quotB c = true := by simp at hq; exact hq.1
    have hq2 : r.all quotB = true := by simp at hq ⊢; exact hq.2
    have he : esc (c :: r) = escB c ++ esc r := by show esc ([c] ++ r) = _; rw [esc_app, esc_one]
    have hrec := unq_quote tl r (out ++ [c])
    by_cases hc : c = 34 ∨ c = 92
    · have h := unq_esc (s := List.replicate k (0 : UInt8) ++ 92 :: c :: (esc r ++ 34 :: tl)) (out := out) (k := k) (d := c) (by simp) (by simp [List.getElem?_append])
      rw [if_pos hc] at h
      have d1 : (List.replicate k (0 : UInt8) ++ 92 :: c :: (esc r ++ 34 :: tl)).drop k = 92 :: c :: (esc r ++ 34 :: tl) := by
        rw [List.drop_append_of_le_length (by simp), List.drop_of_length_le (by simp)]; rfl
      have d2 : (List.replicate k (0 : UInt8) ++ 92 :: c :: (esc r ++ 34 :: tl)).drop (k + 2) = esc r ++ 34 :: tl := by
        rw [← List.drop_drop, d1]; rfl
      rw [d1, d2, hrec (k + 2) hq2 (by simp at h40 ⊢; omega)] at h
      rw [he, escB_esc hc]
      show unqGo out k (92 :: c :: (esc r ++ 34 :: tl)) = _
      rw [h]
      simp
      omega
    · have h1 : c ≠ 34 := fun e => hc (Or.inl e)
      have h2 : c ≠ 92 := fun e => hc (Or.inr e)
      have h := unq_plain (s := List.replicate k (0 : UInt8) ++ c :: (esc r ++ 34 :: tl)) (out := out) (k := k) (c := c) (by simp) h1 h2
      rw [if_pos hq1] at h
      have d1 : (List.replicate k (0 : UInt8) ++ c :: (esc r ++ 34 :: tl)).drop k = c :: (esc r ++ 34 :: tl) := by
        rw [List.drop_append_of_le_length (by simp), List.drop_of_length_le (by simp)]; rfl
      have d2 : (List.replicate k (0 : UInt8) ++ c :: (esc r ++ 34 :: tl)).drop (k + 1) = esc r ++ 34 :: tl := by
        rw [← List.drop_drop, d1]; rfl
      rw [d1, d2, hrec (k + 1) hq2 (by simp at h40 ⊢; omega)] at h
      rw [he, escB_plain h1 h2]
      show unqGo out k (c :: (esc r ++ 34 :: tl)) = _
      rw [h]
      simp
      omega
/-- A quoted text, wherever it stands, is read back. -/
theorem unquote_quote (s : Str) : unquote ([97, 98] ++ quote s ++ [99]) 2 = (if quote s = [] then ([], -1) else (s, 2 + ((quote s).length : Int))) := by
  by_cases hq : quotable s = true
  · have hquote : quote s = 34 :: (esc s ++ [34]) := by unfold quote; rw [if_pos hq]
    have h1 : s.all quotB = true ∧ s.length ≤ 40 := by unfold quotable at hq; simpa using hq
    rw [if_neg (by rw [hquote]; simp)]
    have := unquote_yes (s := [97, 98] ++ quote s ++ [99]) (a := 2) (by rw [hquote]; rfl)
    have e2 : ((2 : Nat) : Int) = 2 := rfl
    rw [e2] at this
    rw [this, hquote]
    have hd : ([97, 98] ++ 34 :: (esc s ++ [34]) ++ [99]).drop (2 + 1) = esc s ++ 34 :: [99] := by simp
    rw [hd, unq_quote [99] s [] 3 (by simpa using h1.1) (by simpa using h1.2)]
    simp
    omega
  · have hquote : quote s = [] := by unfold quote; rw [if_neg hq]
    rw [hquote, if_pos rfl]
    exact unquote_no2 (s := [97, 98] ++ [] ++ [99]) (a := 2) (by decide)
theorem UInv.back {t : Str} {a : Nat} {R : Str × Int} (ha : t[a]? = some 34) : ∀ (n k : Nat) (out : Str), t.length - k ≤ n → UInv t a R out k → R = ([], -1) ∨ ∃ E : Nat, a < E ∧ E ≤ t.length ∧ R.2 = (E : Int) ∧ quote R.1 = (t.drop a).take (E - a)
  | n, k, out, hn, i => by
    by_cases hk : t.length ≤ k
    · exact Or.inl (i.end_ hk)
    · have hk' : k < t.length := by omega
      have hlo := i.lo
      cases n with
      | zero => omega
      | succ n =>
        have hg : t[k]? = some t[k] := List.getElem?_eq_getElem hk'
        by_cases h34 : t[k] = 34
        · rw [h34] at hg
          rcases i.close ha hg with ⟨h1, h2⟩ | ⟨_, h2⟩
          · right
            refine ⟨k + 1, by omega, by omega, by rw [h2]; rfl, by rw [h2]; exact h1⟩
          · exact Or.inl h2
        · by_cases h92 : t[k] = 92
          · rw [h92] at hg
            by_cases hk2 : k + 1 < t.length
            · exact UInv.back ha n (k + 2) _ (by omega) (i.esc hg (List.getElem?_eq_getElem hk2))
            · exact Or.inl (i.esc_end hg (by omega))
          · exact UInv.back ha n (k + 1) _ (by omega) (i.plain hg h34 h92)
theorem unquote_back (t : Str) (x : Int) : unquote t x = ([], -1) ∨ ∃ a E : Nat, x = (a : Int) ∧ a < E ∧ E ≤ t.length ∧ (unquote t x).2 = (E : Int) ∧ quote (unquote t x).1 = (t.drop a).take (E - a) := by
  cases hin : inR x 0 ((t.length : Int) - 1) with
  | false => exact Or.inl (unquote_no hin)
  | true =>
    have hin2 : 0 ≤ x ∧ x ≤ (t.length : Int) - 1 := by simpa [inR] using hin
    obtain ⟨a, rfl⟩ := Int.eq_ofNat_of_zero_le hin2.1
    by_cases h : t[a]? = some 34
    · rcases UInv.back h t.length (a + 1) [] (by omega) (UInv.start (R := unquote t (a : Int)) (by omega) (unquote_yes h)) with h1 | ⟨E, h1, h2, h3, h4⟩
      · exact Or.inl h1
      · exact Or.inr ⟨a, E, rfl, h1, h2, h3, h4⟩
    · exact Or.inl (unquote_no2 h)
/-! ### what is written as a line is read as it was -/
theorem ba_back (s : ByteArray) : (⟨s.data.toList.toArray⟩ : ByteArray) = s := by cases s; simp
theorem atomB_ne {c : UInt8} (h : atomB c = true) : c ≠ 32 ∧ c ≠ 40 ∧ c ≠ 41 ∧ c ≠ 34 ∧ c ≠ 123 := by
  refine ⟨?_, ?_, ?_, ?_, ?_⟩ <;> (rintro rfl; revert h; decide)
theorem atomOk_facts {s : Str} (h : atomOk s = true) : s.all atomB = true ∧ 1 ≤ s.length ∧ s.length ≤ 40 := by
  unfold atomOk inR at h
  simp only [Bool.and_eq_true, decide_eq_true_eq] at h
  exact ⟨h.1, by omega, by omega⟩
theorem quote_facts {s : Str} (h : ¬ quote s = []) : quote s = 34 :: (esc s ++ [34]) ∧ s.all quotB = true ∧ s.length ≤ 40 := by
  by_cases hq : quotable s = true
  · refine ⟨by unfold quote; rw [if_pos hq], ?_⟩
    unfold quotable at hq
    simpa using hq
  · exact absurd (by unfold quote; rw [if_neg hq]) h
theorem litText_ne (s : Str) : litText s ≠ [] := by unfold litText; simp
/-- The text of a token that is none empty does not begin with a space. -/
theorem tok_head {t : Token} {c : UInt8} {r : Str} (h : tokenText t = c :: r) : c ≠ 32 := by
  obtain ⟨k, s⟩ := t
  unfold tokenText at h
  simp only [] at h
  split at h
  · split at h
    · rename_i ha
      have h2 := (atomOk_facts ha).1
      rw [h] at h2
      simp at h2
      exact (atomB_ne h2.1).1
    · cases h
  · split at h
    · split at h
      · unfold litOr at h
        split at h
        · unfold litText at h; injection h with h; rw [← h]; decide
        · cases h
      · rename_i hq
        rw [(quote_facts hq).1] at h
        injection h with h; rw [← h]; decide
    · split at h
      · split at h
        · injection h with h; rw [← h]; decide
        · cases h
      · split at h
        · split at h
          · injection h with h; rw [← h]; decide
          · cases h
        · cases h
theorem at_pre (pre : Str) (c : UInt8) (r : Str) : (pre ++ c :: r)[pre.length]? = some c := by
  rw [List.getElem?_append_right (Nat.le_refl _)]; simp
theorem drop_pre1 (pre : Str) (c : UInt8) (r : Str) : (pre ++ c :: r).drop (pre.length + 1) = r := by
  rw [← List.drop_drop, List.drop_left]; rfl
theorem dec_digs (n : Nat) : ∀ c ∈ Lib.decDigits n, c ≠ 125 := by
  intro c hc
  have h0 : Lib.itoa (n : Int) = Lib.decDigits n := by rw [itoa_nat (by omega), Int.toNat_natCast]
  rw [← h0] at hc
  obtain ⟨d, hd⟩ := itoa_digs (by omega) c hc
  rintro rfl
  simp [Lib.digitVal] at hd
theorem litTok_back (pre l rest : Str) (hl : l.length ≤ 40) :
    litTok (pre ++ (litText l ++ rest)) pre.length = some (l, pre.length + (litText l).length) := by
  have hd : (pre ++ (litText l ++ rest)).drop (pre.length + 1) = Lib.decDigits l.length ++ (125 :: (13 :: 10 :: (l ++ rest))) := by
    unfold litText
    rw [List.cons_append, drop_pre1]; simp
  have hh : headL (Lib.decDigits l.length ++ (125 :: (13 :: 10 :: (l ++ rest)))) = Lib.decDigits l.length := headL_app (dec_digs _)
  have hn : number (Lib.decDigits l.length) = ((l.length : Int), true) := by
    have := number_itoa_in (n := (l.length : Int)) (by omega) (by omega)
    rwa [itoa_nat (by omega), Int.toNat_natCast] at this
  have hlen : (pre ++ (litText l ++ rest)).length = pre.length + 1 + (Lib.decDigits l.length).length + 3 + l.length + rest.length := by
    unfold litText; simp; omega
  unfold litTok
  rw [hd, hh, List.drop_left]
  unfold litOf
  rw [hn, hlen, if_pos ⟨decide_eq_true rfl, rfl, by show (l.length : Int) ≤ 40; omega, by show (l.length : Int) ≤ _; omega⟩]
  have hd2 : (pre ++ (litText l ++ rest)).drop (pre.length + 1 + (Lib.decDigits l.length).length + 3) = l ++ rest := by
    rw [← List.drop_drop, ← List.drop_drop, hd, List.drop_left]; rfl
  rw [hd2]
  show some ((l ++ rest).take (l.length : Int).toNat, pre.length + 1 + (Lib.decDigits l.length).length + 3 + (l.length : Int).toNat) = _
  rw [Int.toNat_natCast, List.take_left]
  unfold litText
  simp
  omega
theorem takeWhile_pre {p : UInt8 → Bool} : ∀ {l r : Str}, l.all p = true → (∀ c r', r = c :: r' → p c = false) → (l ++ r).takeWhile p = l
  | [], [], _, _ => rfl
  | [], c :: r, _, h => by simp [List.takeWhile_cons, h c r rfl]
  | c :: l, r, h, h2 => by
    simp only [List.all_cons, Bool.and_eq_true] at h
    rw [List.cons_append, List.takeWhile_cons, if_pos h.1, takeWhile_pre h.2 h2]
/-- A token's text, wherever it stands, is read as that token. -/
theorem tok_take (pre rest : Str) (t : Token) (hne : tokenText t ≠ []) (hr : t.kind = 1 → ∀ c r, rest = c :: r → atomB c = false) :
    takeTok (pre ++ (tokenText t ++ rest)) pre.length = (t, ((pre.length + (tokenText t).length : Nat) : Int)) := by
  obtain ⟨k, s⟩ := t
  by_cases h1 : k = 1
  · subst h1
    rw [tt1] at hne ⊢
    by_cases ha : atomOk s.data.toList = true
    · rw [if_pos ha] at hne ⊢
      obtain ⟨f1, f2, f3⟩ := atomOk_facts ha
      have hb := ba_back s
      generalize s.data.toList = l at *
      cases l with
      | nil => exact absurd rfl hne
      | cons c l =>
        have hc := atomB_ne (show atomB c = true by simp at f1; exact f1.1)
        have ht := takeWhile_pre (p := atomB) (l := c :: l) (r := rest) f1 (hr rfl)
        unfold takeTok
        have hat : (pre ++ (c :: l ++ rest))[pre.length]? = some c := at_pre pre c (l ++ rest)
        rw [hat, if_neg (by simp [hc.2.1]), if_neg (by simp [hc.2.2.1]), if_neg (by simp [hc.2.2.2.1]), if_neg (by simp [hc.2.2.2.2]), List.drop_left, ht, if_pos ha, hb]
        simp
    · rw [if_neg ha] at hne; exact absurd rfl hne
  by_cases h2 : k = 2
  · subst h2
    rw [tt2] at hne ⊢
    by_cases hq : quote s.data.toList = []
    · rw [if_pos hq] at hne ⊢
      by_cases hl : s.data.toList.length ≤ 40
      · rw [litOr_yes hl] at hne ⊢
        have hb := ba_back s
        have hlt := litTok_back pre s.data.toList rest hl
        have hat : (pre ++ (litText s.data.toList ++ rest))[pre.length]? = some 123 := at_pre pre 123 _
        unfold takeTok
        rw [hat, if_neg (by decide), if_neg (by decide), if_neg (by decide), if_pos rfl, hlt]
      · rw [litOr_no hl] at hne; exact absurd rfl hne
    · rw [if_neg hq] at hne ⊢
      obtain ⟨f1, f2, f3⟩ := quote_facts hq
      have hb := ba_back s
      rw [f1]
      have hat : (pre ++ (34 :: (esc s.data.toList ++ [34]) ++ rest))[pre.length]? = some 34 := at_pre pre 34 _
      have hd : (pre ++ (34 :: (esc s.data.toList ++ [34]) ++ rest)).drop (pre.length + 1) = esc s.data.toList ++ 34 :: rest := by
        rw [List.cons_append, drop_pre1]; simp
      have hu := unquote_yes hat
      rw [hd, unq_quote rest s.data.toList [] (pre.length + 1) f2 (by simpa using f3)] at hu
      unfold takeTok
      rw [hat, if_neg (by decide), if_neg (by decide), if_pos rfl, hu]
      simp only [List.nil_append]
      rw [hb]
      simp
      omega
  by_cases h3 : k = 3
  · subst h3
    rw [tt3] at hne ⊢
    by_cases hs : s = ⟨#[]⟩
    · rw [if_pos hs]
      have hat : (pre ++ ([40] ++ rest))[pre.length]? = some 40 := at_pre pre 40 rest
      unfold takeTok
      rw [hat, if_pos rfl, hs]
      rfl
    · rw [if_neg hs] at hne; exact absurd rfl hne
  by_cases h4 : k = 4
  · subst h4
    rw [tt4] at hne ⊢
    by_cases hs : s = ⟨#[]⟩
    · rw [if_pos hs]
      have hat : (pre ++ ([41] ++ rest))[pre.length]? = some 41 := at_pre pre 41 rest
      unfold takeTok
      rw [hat, if_neg (by decide), if_pos rfl, hs]
      rfl
    · rw [if_neg hs] at hne; exact absurd rfl hne
  · rw [tt5 s h1 h2 h3 h4] at hne; exact absurd rfl hne
def piece (l : List Token) (j : Nat) : Str := sepAt l j ++ tokenText (l.getD j zeroToken)
theorem lineTo_ext (l : List Token) (j : Nat) : ∀ d, ∃ r, lineTo l (j + d) = lineTo l j ++ r
  | 0 => ⟨[], by simp⟩
  | d + 1 => by
    obtain ⟨r, hr⟩ := lineTo_ext l j d
    exact ⟨r ++ piece l (j + d), by rw [← Nat.add_assoc, lineTo_succ, hr]; unfold piece; simp⟩
theorem lineTo_tail (l : List Token) (j n : Nat) (h : j < n) : ∃ r, lineTo l n = lineTo l j ++ (piece l j ++ r) ∧ (r = [] ∨ (j + 1 < n ∧ ∃ r2, r = piece l (j + 1) ++ r2)) := by
  obtain ⟨r, hr⟩ := lineTo_ext l (j + 1) (n - j - 1)
  rw [show j + 1 + (n - j - 1) = n by omega] at hr
  have hp : lineTo l n = lineTo l j ++ (piece l j ++ r) := by rw [hr, lineTo_succ]; unfold piece; simp
  refine ⟨r, hp, ?_⟩
  by_cases h2 : j + 1 < n
  · obtain ⟨r2, hr2⟩ := lineTo_ext l (j + 2) (n - j - 2)
    rw [show j + 2 + (n - j - 2) = n by omega] at hr2
    right
    refine ⟨h2, r2, ?_⟩
    have h3 : lineTo l (j + 1) ++ r = lineTo l (j + 1) ++ (piece l (j + 1) ++ r2) := by
      rw [← hr, hr2, show j + 2 = j + 1 + 1 from rfl, lineTo_succ l (j + 1)]; unfold piece; simp
    exact List.append_cancel_left h3
  · left
    have : n = j + 1 := by omega
    subst this
    exact List.self_eq_append_right.1 hr
theorem lex_go (l : List Token) (hg : ∀ t ∈ l, tokenText t ≠ []) : ∀ (d j f : Nat), j + d = l.length → (lineTo l l.length).length < f + (lineTo l j).length →
    lexGo2 (lineTo l l.length) f (lineTo l j).length (l.take j) = (l, true)
  | 0, j, f, hj, hf => by
    obtain rfl : j = l.length := by omega
    rw [lexGo2_end (by omega), List.take_length]
  | d + 1, j, f, hj, hf => by
    have hjl : j < l.length := by omega
    obtain ⟨r, hS, hr⟩ := lineTo_tail l j l.length hjl
    obtain ⟨t, ht⟩ : ∃ t, l[j] = t := ⟨_, rfl⟩
    have htg : l[j]? = some t := by rw [List.getElem?_eq_getElem hjl, ht]
    have htm : t ∈ l := by rw [← ht]; exact List.getElem_mem hjl
    have hne := hg t htm
    have hgd : l.getD j zeroToken = t := getD_of htg
    have hpc : piece l j = sepAt l j ++ tokenText t := by unfold piece; rw [hgd]
    have hatom : t.kind = 1 → ∀ c r', r = c :: r' → atomB c = false := by
      intro hk c r' hc
      rcases hr with rfl | ⟨hn, r2, rfl⟩
      · cases hc
      · obtain ⟨u, hu⟩ : ∃ u, l[j + 1] = u := ⟨_, rfl⟩
        have hug : l[j + 1]? = some u := by rw [List.getElem?_eq_getElem hn, hu]
        have hune := hg u (by rw [← hu]; exact List.getElem_mem hn)
        have hsep := sepAt_later (l := l) (k := j + 1) (a := t) (b := u) (by omega) (by simpa using htg) hug
        unfold piece at hc
        rw [getD_of hug, hsep] at hc
        by_cases hgp : gapT t u = true
        · rw [if_pos hgp] at hc
          injection hc with hc
          rw [← hc]; decide
        · rw [if_neg hgp] at hc
          have hk4 : u.kind = 4 := by
            unfold gapT at hgp
            rw [hk] at hgp
            simp at hgp
            exact hgp
          obtain ⟨k, s⟩ := u
          simp only at hk4
          subst hk4
          rw [tt4] at hune hc
          by_cases hs : s = ⟨#[]⟩
          · rw [if_pos hs] at hc
            injection hc with hc
            rw [← hc]; decide
          · rw [if_neg hs] at hune; exact absurd rfl hune
    have hnext : lineTo l (j + 1) = lineTo l j ++ (sepAt l j ++ tokenText t) := by rw [lineTo_succ, hgd]
    obtain ⟨c, tl, hct⟩ : ∃ c tl, tokenText t = c :: tl := by
      cases h : tokenText t with
      | nil => exact absurd h hne
      | cons c tl => exact ⟨c, tl, rfl⟩
    have hc32 := tok_head hct
    have hlast : j ≠ 0 → (l.take j)[(l.take j).length - 1]? = l[j - 1]? := by
      intro h0
      rw [List.length_take, Nat.min_eq_left (by omega), List.getElem?_take, if_pos (by omega)]
    have htake : l.take j ++ [t] = l.take (j + 1) := by
      rw [List.take_add_one, htg]; rfl
    have key : lexStep (lineTo l l.length) (lineTo l j).length (l.take j) = some (t, (lineTo l (j + 1)).length) := by
      by_cases hsp : sepAt l j = []
      · rw [hsp, List.nil_append] at hpc hnext
        have hat : (lineTo l l.length)[(lineTo l j).length]? = some c := by
          rw [hS, hpc, hct]; exact at_pre _ _ _
        have htk := tok_take (lineTo l j) r t hne hatom
        rw [← hpc, ← hS, hpc] at htk
        refine lexStep_yes (q := (lineTo l j).length) (b := false) (g := false) ?_ ?_ ?_ ?_ ?_ rfl
        · unfold lexAt; rw [hat, if_neg (by simp [hc32])]
        · exact (List.getElem?_eq_some_iff.1 hat).1
        · rw [htk, hnext, List.length_append]
        · rw [hat]; simp [hc32]
        · by_cases h0 : j = 0
          · subst h0; exact apartL_nil (by simp)
          · have hj1 : j - 1 < l.length := by omega
            have hy : l[j - 1]? = some l[j - 1] := List.getElem?_eq_getElem hj1
            rw [apartL_at ((hlast h0).trans hy)]
            rw [sepAt_later (by omega) hy htg] at hsp
            by_cases hgp : gapT l[j - 1] t = true
            · rw [if_pos hgp] at hsp; cases hsp
            · simpa using hgp
      · have h0 : j ≠ 0 := by rintro rfl; exact hsp (sepAt_first l)
        have hj1 : j - 1 < l.length := by omega
        have hy : l[j - 1]? = some l[j - 1] := List.getElem?_eq_getElem hj1
        have hsl := sepAt_later (by omega) hy htg
        have hgp : gapT l[j - 1] t = true := by
          by_cases hgp : gapT l[j - 1] t = true
          · exact hgp
          · rw [if_neg hgp] at hsl; exact absurd hsl hsp
        rw [if_pos hgp] at hsl
        rw [hsl] at hpc hnext
        have hat : (lineTo l l.length)[(lineTo l j).length]? = some 32 := by
          rw [hS, hpc]; exact at_pre _ _ _
        have hS2 : lineTo l l.length = (lineTo l j ++ [32]) ++ (tokenText t ++ r) := by rw [hS, hpc]; simp
        have hplen : (lineTo l j ++ [32]).length = (lineTo l j).length + 1 := by simp
        have htk := tok_take (lineTo l j ++ [32]) r t hne hatom
        rw [← hS2, hplen] at htk
        refine lexStep_yes (q := (lineTo l j).length + 1) (b := true) (g := true) ?_ ?_ ?_ ?_ ?_ rfl
        · unfold lexAt; rw [hat, if_pos rfl]
        · rw [hS2, hct]; simp
        · rw [htk, hnext]
          simp
          omega
        · rw [hat]; simp
        · rw [apartL_at ((hlast h0).trans hy), hgp]
    have hlt : (lineTo l j).length < (lineTo l l.length).length := by rw [hS, hpc, hct]; simp; omega
    rw [lexGo2_yes hlt hf key, htake]
    refine lex_go l hg d (j + 1) (f - 1) (by omega) ?_
    have : (lineTo l j).length < (lineTo l (j + 1)).length := by rw [hnext, hct]; simp; omega
    omega
theorem lex_line {l : List Token} (hg : ∀ t ∈ l, tokenText t ≠ []) : lex (lineOf l) = (l, true) := by
  have h1 : lineOf l = lineTo l l.length := lineOf_good (fun j x hj hx => hg x (List.mem_of_getElem? hx))
  rw [h1]
  exact lex_go l hg l.length 0 _ (by omega) (by simp [lineTo])
theorem lineOf_ne {l : List Token} (h : lineOf l ≠ []) : ∀ t ∈ l, tokenText t ≠ [] := fun t ht h2 => h (lineOf_bad ht h2)
theorem lex_nil : lex [] = ([], true) := rfl
theorem takeTok_ok {s : Str} {a : Nat} (h : ¬ (takeTok s a).2 < 0) : tokenText (takeTok s a).1 ≠ [] ∧ (takeTok s a).1.text.size ≤ 40 := by
  unfold takeTok at h ⊢
  by_cases c1 : s[a]? = some 40
  · rw [if_pos c1]; exact ⟨by rw [tt3, if_pos rfl]; simp, Nat.zero_le 40⟩
  rw [if_neg c1] at h ⊢
  by_cases c2 : s[a]? = some 41
  · rw [if_pos c2]; exact ⟨by rw [tt4, if_pos rfl]; simp, Nat.zero_le 40⟩
  rw [if_neg c2] at h ⊢
  by_cases c3 : s[a]? = some 34
  · rw [if_pos c3] at h ⊢
    rcases unquote_back s (a : Int) with e | ⟨a', E, e1, e2, e3, e4, e5⟩
    · rw [e] at h; exact absurd (by decide) h
    · have hne : ¬ quote (unquote s (a : Int)).1 = [] := by
        rw [e5]
        intro e
        have := congrArg List.length e
        simp at this
        omega
      have hq := (quote_facts hne).2.2
      refine ⟨?_, by rw [size_len]; simpa using hq⟩
      rw [tt2, if_neg hne]; exact hne
  rw [if_neg c3] at h ⊢
  by_cases c4 : s[a]? = some 123
  · rw [if_pos c4] at h ⊢
    cases hl : litTok s a with
    | none => rw [hl] at h; exact absurd (by decide) h
    | some p =>
      simp only []
      have hp : p.1.length ≤ 40 := by
        unfold litTok litOf at hl
        split at hl
        · rename_i hc
          have h1 := hc.2.2.1
          injection hl with hl
          rw [← hl]
          simp only [List.length_take]
          omega
        · cases hl
      refine ⟨?_, by rw [size_len]; simpa using hp⟩
      rw [tt2]
      simp only [List.toList_toArray]
      by_cases hq : quote p.1 = []
      · rw [if_pos hq, litOr_yes hp]; exact litText_ne _
      · rw [if_neg hq]; exact hq
  rw [if_neg c4] at h ⊢
  by_cases c5 : atomOk ((s.drop a).takeWhile atomB) = true
  · rw [if_pos c5]
    obtain ⟨f1, f2, f3⟩ := atomOk_facts c5
    refine ⟨?_, by rw [size_len]; simpa using f3⟩
    rw [tt1]
    simp only [List.toList_toArray]
    rw [if_pos c5]
    intro e; rw [e] at f2; simp at f2
  · rw [if_neg c5] at h; exact absurd (by decide) h
theorem lexGo2_ok (s : Str) : ∀ (f k : Nat) (out : List Token), (∀ t ∈ out, tokenText t ≠ [] ∧ t.text.size ≤ 40) → ∀ t ∈ (lexGo2 s f k out).1, tokenText t ≠ [] ∧ t.text.size ≤ 40
  | 0, k, out, h => by unfold lexGo2; exact h
  | f + 1, k, out, h => by
    unfold lexGo2
    split
    · cases hs : lexStep s k out with
      | none => simp
      | some p =>
        simp only []
        refine lexGo2_ok s f p.2 _ ?_
        intro t ht
        rcases List.mem_append.1 ht with h1 | h1
        · exact h t h1
        · simp at h1
          subst h1
          unfold lexStep at hs
          by_cases a1 : lexAt s k ≥ s.length
          · rw [if_pos a1] at hs; cases hs
          · rw [if_neg a1] at hs
            by_cases a2 : (takeTok s (lexAt s k)).2 < 0
            · rw [if_pos a2] at hs; cases hs
            · rw [if_neg a2] at hs
              split at hs
              · have hp := Option.some.inj hs
                rw [← hp]
                exact takeTok_ok a2
              · cases hs
    · exact h
theorem lex_ok (s : Str) : ∀ t ∈ (lex s).1, tokenText t ≠ [] ∧ t.text.size ≤ 40 := lexGo2_ok s _ _ _ (by simp)
theorem lexGo2_bad (s : Str) : ∀ (f k : Nat) (out : List Token), (lexGo2 s f k out).2 = false → (lexGo2 s f k out).1 = []
  | 0, k, out => by unfold lexGo2; simp
  | f + 1, k, out => by
    unfold lexGo2
    split
    · cases hs : lexStep s k out with
      | none => simp
      | some p => simp only []; exact lexGo2_bad s f p.2 _
    · simp
theorem lex_bad {s : Str} (h : (lex s).2 = false) : (lex s).1 = [] := lexGo2_bad s _ _ _ h
/-- The line of what was read is read as that. -/
theorem lex_back (s : Str) : lex (lineOf (lex s).1) = ((lex s).1, true) := lex_line (fun t ht => (lex_ok s t ht).1)

end Go.Proofs.YtlehpgnhfpegoaaDoor
