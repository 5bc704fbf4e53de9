/-
  Walks: what each function returns, and that it leaves what lay in memory as it was.
-/
import Derived.Test.YtlehpgnhfpegoaaDoorProg
import Derived.Test.YtlehpgnhfpegoaaDoorPlain
import Derived.Test.YtlehpgnhfpegoaaDoorBase2
import Derived.Test.YtlehpgnhfpegoaaDoorOpen2
import Derived.Test.YtlehpgnhfpegoaaDoorShelf
import Derived.WalkKit
import Derived.WalkSpells
import Derived.WalkLawsBesides
import Derived.Lib.Hide
import Derived.Deep.LoopGhost
import Derived.Deep.QuietTactic
import Derived.BigQuiet
import Derived.Handy
import Derived.Deep.RegionHeld3
import Derived.StillTailTactics
import Derived.OpenShut
import Derived.ChangeSame
import Derived.Laws.StructEq

import Derived.Test.YtlehpgnhfpegoaaDoorPlainT

import Derived.Test.YtlehpgnhfpegoaaDoorW1

import Derived.Test.YtlehpgnhfpegoaaDoorW2

import Derived.Test.YtlehpgnhfpegoaaDoorW3

import Derived.Test.YtlehpgnhfpegoaaDoorW4

import Derived.Test.YtlehpgnhfpegoaaDoorW5

import Derived.Test.YtlehpgnhfpegoaaDoorBase3

import Derived.Lib.ItoaMem
import Derived.Lib.ItoaLen
import Derived.Lib.LaidTab

import Derived.Lib.AtoiTie
import Derived.Lib.AtoiBound
import Derived.Lib.ConvBytes

namespace Go.Proofs.YtlehpgnhfpegoaaDoor
open Go.ChangeShapes Go.WideShapes Go.ChangeAt Go.RowKit Go.Deep
set_option linter.unusedVariables false
set_option linter.unusedSimpArgs false

set_option maxRecDepth 20000

def gapT (a b : Token) : Bool := !(a.kind == 3) && !(b.kind == 4)
def sepAt (l : List Token) (k : Nat) : Str := if k = 0 then [] else (if gapT (l.getD (k - 1) zeroToken) (l.getD k zeroToken) = true then [32] else [])
def lineTo (l : List Token) (k : Nat) : Str := (List.range k).flatMap (fun j => sepAt l j ++ tokenText (l.getD j zeroToken))
def lineOf (l : List Token) : Str := if l.all (fun t => !(tokenText t).isEmpty) = true then lineTo l l.length else []
theorem lineTo_succ (l : List Token) (k : Nat) : lineTo l (k + 1) = lineTo l k ++ (sepAt l k ++ tokenText (l.getD k zeroToken)) := by
  unfold lineTo; rw [List.range_succ, List.flatMap_append]; simp
theorem getD_of {l : List Token} {k : Nat} {x : Token} (h : l[k]? = some x) : l.getD k zeroToken = x := by rw [List.getD_eq_getElem?_getD, h]; rfl
theorem sepAt_first (l : List Token) : sepAt l 0 = [] := rfl
theorem sepAt_later {l : List Token} {k : Nat} {a b : Token} (h0 : 0 < k) (ha : l[k - 1]? = some a) (hb : l[k]? = some b) : sepAt l k = if gapT a b = true then [32] else [] := by
  unfold sepAt; rw [if_neg (by omega), getD_of ha, getD_of hb]
theorem sepAt_len (l : List Token) (k : Nat) : (sepAt l k).length ≤ 1 := by unfold sepAt; split; simp; split <;> simp
theorem tokenText_len (t : Token) : (tokenText t).length ≤ 100 := by
  unfold tokenText
  split
  · split
    · rename_i h; unfold atomOk inR at h; simp at h; rw [← size_len]; omega
    · simp
  · split
    · split
      · unfold litOr; split
        · rename_i h
          unfold litText
          have h1 : (Lib.decDigits t.text.data.toList.length).length ≤ 20 := by
            have := dig_size (n := t.text.data.toList.length) (by omega)
            rw [size_len] at this; simpa using this
          simp only [List.length_cons, List.length_append, List.length_nil]; omega
        · simp
      · have := quote_size t.text.data.toList
        rw [size_len] at this; simp only [List.toList_toArray] at this; omega
    · split
      · split <;> simp
      · split
        · split <;> simp
        · simp
theorem lineTo_len (l : List Token) (k : Nat) : (lineTo l k).length ≤ k * 101 := by
  induction k with
  | zero => simp [lineTo]
  | succ k ih =>
    rw [lineTo_succ, List.length_append, List.length_append]
    have h1 := sepAt_len l k
    have h2 := tokenText_len (l.getD k zeroToken)
    omega
theorem lineOf_bad {l : List Token} {x : Token} (h : x ∈ l) (hx : tokenText x = []) : lineOf l = [] := by
  unfold lineOf
  rw [if_neg]
  intro ha
  have := List.all_eq_true.1 ha x h
  rw [hx] at this
  cases this
theorem lineOf_good {l : List Token} (h : ∀ (j : Nat) (x : Token), j < l.length → l[j]? = some x → ¬ tokenText x = []) : lineOf l = lineTo l l.length := by
  unfold lineOf
  rw [if_pos]
  rw [List.all_eq_true]
  intro x hx
  obtain ⟨j, hj, e⟩ := List.getElem_of_mem hx
  have := h j x hj (by rw [List.getElem?_eq_getElem hj, e])
  cases ht : tokenText x with
  | nil => exact absurd ht this
  | cons a b => rfl
theorem bytes_empty {l : Str} : (⟨l.toArray⟩ : ByteArray).toList.isEmpty = l.isEmpty := by rw [ByteArray.toList_eq]
theorem bytes_empty2 {l : Str} : ((⟨l.toArray⟩ : ByteArray).toList == []) = l.isEmpty := by rw [ByteArray.toList_eq]; cases l <;> rfl

/-! ### Lex -/
theorem itoa_digs {n : Int} (h : 0 ≤ n) : ∀ c ∈ Lib.itoa n, ∃ d, Lib.digitVal c = some d := by
  intro c hc
  obtain ⟨k, hk, e⟩ := List.getElem_of_mem hc
  cases hd : Lib.digitVal c with
  | some d => exact ⟨d, rfl⟩
  | none =>
    have h1 := decFrom_bad (Lib.itoa n) k 0 c (by rw [← e]; exact List.getElem?_eq_getElem hk) hd
    rw [dec_itoa h] at h1
    cases h1
theorem number_dig {h : Str} (hk : (number h).2 = true) : (∀ c ∈ h, c ≠ 125) ∧ 0 ≤ (number h).1 := by
  rcases number_in h with ⟨n, h0, h1, e, hn⟩ | e
  · refine ⟨fun c hc => ?_, by rw [hn]; exact h0⟩
    rw [← e] at hc
    obtain ⟨d, hd⟩ := itoa_digs h0 c hc
    rintro rfl
    simp [Lib.digitVal] at hd
  · rw [e] at hk; cases hk
def sepL : Str := [125, 13, 10]
def headL (r : Str) : Str := r.takeWhile (fun c => !decide (c = 125))
theorem headL_app : ∀ {h t : Str}, (∀ c ∈ h, c ≠ 125) → headL (h ++ 125 :: t) = h
  | [], t, _ => by simp [headL]
  | c :: h, t, hh => by
    have h1 : c ≠ 125 := hh c (by simp)
    have ih := headL_app (h := h) (t := t) (fun x hx => hh x (by simp [hx]))
    unfold headL at ih ⊢
    rw [List.cons_append, List.takeWhile_cons, if_pos (by simp [h1]), ih]
theorem headL_ne : ∀ {r : Str} {c : UInt8}, c ∈ headL r → c ≠ 125 := by
  intro r c h
  unfold headL at h
  have := List.all_takeWhile (p := fun c => !decide (c = (125 : UInt8))) (l := r)
  have h2 := List.all_eq_true.1 this c h
  simpa using h2
theorem headL_split (r : Str) : headL r ++ r.drop (headL r).length = r := by
  have h : headL r = r.take (headL r).length := List.prefix_iff_eq_take.1 (List.takeWhile_prefix _)
  generalize hm : (headL r).length = m at *
  rw [h]
  exact List.take_append_drop m r
theorem index_sep {h t : Str} (hh : ∀ c ∈ h, c ≠ 125) : Lib.index (h ++ (125 :: 13 :: 10 :: t)) sepL = h.length := by
  refine Lib.index_first (by simp) ?_ ?_
  · unfold Lib.occAt sepL
    rw [List.drop_left]
    simp
  · intro j hj
    unfold Lib.occAt sepL
    rw [List.drop_append_of_le_length (by omega), List.drop_eq_getElem_cons hj]
    have h1 : h[j] ≠ 125 := hh _ (List.getElem_mem _)
    show ((125 == h[j]) && _) = false
    rw [beq_eq_false_iff_ne.2 (Ne.symm h1)]
    rfl
def litOf (s : Str) (a : Nat) (ok : Bool) (h : Str) : Option (Str × Nat) :=
  if ok = true ∧ (number h).2 = true ∧ (number h).1 ≤ 40 ∧ (number h).1 ≤ (s.length : Int) - ((a + 1 + h.length + 3 : Nat) : Int) then
    some ((s.drop (a + 1 + h.length + 3)).take (number h).1.toNat, a + 1 + h.length + 3 + (number h).1.toNat) else none
def litTok (s : Str) (a : Nat) : Option (Str × Nat) := litOf s a (decide (((s.drop (a + 1)).drop (headL (s.drop (a + 1))).length).take 3 = sepL)) (headL (s.drop (a + 1)))
def litI (s : Str) (a : Nat) : Option (Str × Nat) := litOf s a (Lib.cut (s.drop (a + 1)) sepL).2.2 (Lib.cut (s.drop (a + 1)) sepL).1
theorem take3 {l : Str} (h : l.take 3 = sepL) : ∃ t, l = 125 :: 13 :: 10 :: t := by
  refine ⟨l.drop 3, ?_⟩
  have := List.take_append_drop 3 l
  rw [h] at this
  exact this.symm
theorem litI_eq (s : Str) (a : Nat) : litI s a = litTok s a := by
  unfold litI litTok
  generalize s.drop (a + 1) = r
  by_cases h3 : (r.drop (headL r).length).take 3 = sepL
  · obtain ⟨t, ht⟩ := take3 h3
    have hr : r = headL r ++ (125 :: 13 :: 10 :: t) := by rw [← ht]; exact (headL_split r).symm
    have hix : Lib.index r sepL = (headL r).length := by
      conv => lhs; rw [hr]
      exact index_sep (fun c hc => headL_ne hc)
    have hc : (Lib.cut r sepL).1 = headL r ∧ (Lib.cut r sepL).2.2 = true := by
      unfold Lib.cut
      rw [hix, if_pos (by omega)]
      refine ⟨?_, rfl⟩
      show r.take ((headL r).length : Int).toNat = _
      rw [Int.toNat_natCast]
      exact (List.prefix_iff_eq_take.1 (List.takeWhile_prefix (l := r) (fun c => !decide (c = (125 : UInt8))))).symm
    rw [hc.1, hc.2, decide_eq_true h3]
  · rw [decide_eq_false h3]
    have hn : litOf s a false (headL r) = none := by unfold litOf; rw [if_neg (by rintro ⟨h, _⟩; cases h)]
    rw [hn]
    unfold litOf
    rw [if_neg]
    rintro ⟨c1, c2, _⟩
    apply h3
    rcases Lib.index_spec r sepL with ⟨e, _⟩ | ⟨i, e, hi, ho, _⟩
    · unfold Lib.cut at c1; rw [e, if_neg (by omega)] at c1; cases c1
    · have e1 : (Lib.cut r sepL).1 = r.take i := by unfold Lib.cut; rw [e, if_pos (by omega)]; show r.take (i : Int).toNat = _; rw [Int.toNat_natCast]
      rw [e1] at c2
      obtain ⟨hd, _⟩ := number_dig c2
      unfold Lib.occAt at ho
      obtain ⟨t, ht⟩ := List.isPrefixOf_iff_prefix.1 ho
      have hr : r = r.take i ++ (125 :: 13 :: 10 :: t) := by
        conv => lhs; rw [← List.take_append_drop i r]
        rw [← ht]; rfl
      have hh : headL r = r.take i := by
        conv => lhs; rw [hr]
        exact headL_app hd
      rw [hh, List.length_take, Nat.min_eq_left hi, ← ht]
      rfl
def takeTok (s : Str) (a : Nat) : Token × Int :=
  if s[a]? = some 40 then (⟨3, ⟨#[]⟩⟩, a + 1)
  else if s[a]? = some 41 then (⟨4, ⟨#[]⟩⟩, a + 1)
  else if s[a]? = some 34 then (⟨2, ⟨(unquote s a).1.toArray⟩⟩, (unquote s a).2)
  else if s[a]? = some 123 then (match litTok s a with | some p => (⟨2, ⟨p.1.toArray⟩⟩, p.2) | none => (⟨0, ⟨#[]⟩⟩, -1))
  else if atomOk ((s.drop a).takeWhile atomB) = true then (⟨1, ⟨((s.drop a).takeWhile atomB).toArray⟩⟩, a + ((s.drop a).takeWhile atomB).length)
  else (⟨0, ⟨#[]⟩⟩, -1)
theorem unqGo_bound : ∀ (n : Nat) (r out : Str) (k : Nat), r.length ≤ n → (unqGo out k r).2 = -1 ∨ ((k : Int) < (unqGo out k r).2 ∧ (unqGo out k r).2 ≤ k + r.length)
  | _, [], out, k, _ => by rw [unqGo]; exact .inl rfl
  | _, [c], out, k, _ => by
    rw [unqGo]
    split
    · split
      · exact .inr ⟨by show (k : Int) < k + 1; omega, by show (k : Int) + 1 ≤ _; simp⟩
      · exact .inl rfl
    · exact .inl rfl
  | 0, c :: d :: r, out, k, h => by simp at h
  | n + 1, c :: d :: r, out, k, h => by
    rw [unqGo]
    split
    · split
      · exact .inr ⟨by show (k : Int) < k + 1; omega, by show (k : Int) + 1 ≤ _; simp; omega⟩
      · exact .inl rfl
    · split
      · split
        · rcases unqGo_bound n r (out ++ [d]) (k + 2) (by simp at h; omega) with e | ⟨e1, e2⟩
          · exact .inl e
          · refine .inr ⟨by simp at e1; omega, by simp at e2 ⊢; omega⟩
        · exact .inl rfl
      · split
        · rcases unqGo_bound n (d :: r) (out ++ [c]) (k + 1) (by simp at h ⊢; omega) with e | ⟨e1, e2⟩
          · exact .inl e
          · refine .inr ⟨by simp at e1; omega, by simp at e2 ⊢; omega⟩
        · exact .inl rfl
theorem unquote_bound (s : Str) (a : Nat) (ha : a < s.length) : (unquote s a).2 = -1 ∨ ((a : Int) < (unquote s a).2 ∧ (unquote s a).2 ≤ s.length) := by
  unfold unquote
  split
  · rw [Int.toNat_natCast]
    rcases unqGo_bound _ (s.drop (a + 1)) [] (a + 1) (Nat.le_refl _) with e | ⟨e1, e2⟩
    · exact .inl e
    · refine .inr ⟨by simp at e1; omega, by rw [List.length_drop] at e2; simp at e2 ⊢; omega⟩
  · exact .inl rfl
theorem litTok_bound {s : Str} {a : Nat} {p : Str × Nat} (h : litTok s a = some p) : a < p.2 ∧ p.2 ≤ s.length := by
  unfold litTok litOf at h
  split at h
  · rename_i hc
    have hn := (number_dig hc.2.1).2
    injection h with h
    rw [← h]
    simp only []
    omega
  · cases h
theorem takeTok_bound (s : Str) (a : Nat) (ha : a < s.length) : (takeTok s a).2 = -1 ∨ ((a : Int) < (takeTok s a).2 ∧ (takeTok s a).2 ≤ s.length) := by
  unfold takeTok
  split
  · exact .inr ⟨by show (a : Int) < a + 1; omega, by show (a : Int) + 1 ≤ _; omega⟩
  split
  · exact .inr ⟨by show (a : Int) < a + 1; omega, by show (a : Int) + 1 ≤ _; omega⟩
  split
  · exact unquote_bound s a ha
  split
  · cases h : litTok s a with
    | none => exact .inl rfl
    | some p => have := litTok_bound h; exact .inr ⟨by show (a : Int) < (p.2 : Int); omega, by show (p.2 : Int) ≤ _; omega⟩
  split
  · rename_i h
    have h1 : 1 ≤ ((s.drop a).takeWhile atomB).length := by unfold atomOk inR at h; simp at h; omega
    have h2 := (List.takeWhile_prefix (l := s.drop a) atomB).length_le
    rw [List.length_drop] at h2
    exact .inr ⟨by show (a : Int) < a + ((s.drop a).takeWhile atomB).length; omega, by show (a : Int) + ((s.drop a).takeWhile atomB).length ≤ _; omega⟩
  · exact .inl rfl
def apartL (out : List Token) (t : Token) : Bool := match out.getLast? with | none => false | some l => gapT l t
def lexAt (s : Str) (k : Nat) : Nat := if s[k]? = some 32 then k + 1 else k
theorem lexAt_ge (s : Str) (k : Nat) : k ≤ lexAt s k := by unfold lexAt; split <;> omega
/-- One step: nothing, or the token and where it ends. -/
def lexStep (s : Str) (k : Nat) (out : List Token) : Option (Token × Nat) :=
  if lexAt s k ≥ s.length then none
  else if (takeTok s (lexAt s k)).2 < 0 then none
  else if decide (s[k]? = some 32) = apartL out (takeTok s (lexAt s k)).1 then some ((takeTok s (lexAt s k)).1, (takeTok s (lexAt s k)).2.toNat)
  else none
def lexGo2 (s : Str) : Nat → Nat → List Token → List Token × Bool
  | 0, _, out => (out, true)
  | f + 1, k, out => if k < s.length then (match lexStep s k out with | some p => lexGo2 s f p.2 (out ++ [p.1]) | none => ([], false)) else (out, true)
def lex (s : Str) : List Token × Bool := lexGo2 s (s.length + 1) 0 []
theorem lexStep_bound {s : Str} {k : Nat} {out : List Token} {p : Token × Nat} (h : lexStep s k out = some p) : k < p.2 ∧ p.2 ≤ s.length := by
  unfold lexStep at h
  have hge := lexAt_ge s k
  generalize lexAt s k = q at *
  by_cases h1 : q ≥ s.length
  · rw [if_pos h1] at h; cases h
  · rw [if_neg h1] at h
    by_cases h2 : (takeTok s q).2 < 0
    · rw [if_pos h2] at h; cases h
    · rw [if_neg h2] at h
      by_cases h3 : decide (s[k]? = some 32) = apartL out (takeTok s q).1
      · rw [if_pos h3] at h
        have hp := Option.some.inj h
        rw [← hp]
        simp only []
        rcases takeTok_bound s q (by omega) with e | ⟨e1, e2⟩
        · omega
        · omega
      · rw [if_neg h3] at h; cases h
theorem lexGo2_len (s : Str) : ∀ (f k : Nat) (out : List Token), k ≤ s.length → out.length ≤ k → (lexGo2 s f k out).1.length ≤ s.length
  | 0, k, out, h1, h2 => by unfold lexGo2; simp only []; omega
  | f + 1, k, out, h1, h2 => by
    unfold lexGo2
    split
    · cases h : lexStep s k out with
      | none => simp
      | some p =>
        have hb := lexStep_bound h
        exact lexGo2_len s f p.2 _ hb.2 (by simp; omega)
    · simp only []; omega
theorem lex_len (s : Str) : (lex s).1.length ≤ s.length := lexGo2_len s _ _ _ (Nat.zero_le _) (Nat.zero_le _)

end Go.Proofs.YtlehpgnhfpegoaaDoor
