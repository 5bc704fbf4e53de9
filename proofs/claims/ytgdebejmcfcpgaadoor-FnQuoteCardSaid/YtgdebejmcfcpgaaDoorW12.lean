/-
  Walks: what each function returns, and that it leaves what lay in memory as it was.
-/
import Derived.Test.YtgdebejmcfcpgaaDoorProg
import Derived.Test.YtgdebejmcfcpgaaDoorPlain
import Derived.Test.YtgdebejmcfcpgaaDoorBase2
import Derived.Test.YtgdebejmcfcpgaaDoorOpen2
import Derived.Test.YtgdebejmcfcpgaaDoorShelf
import Derived.WalkKit
import Derived.WalkSpells
import Derived.WalkLawsBesides
import Derived.Lib.Hide
import Derived.Deep.LoopGhost
import Derived.Deep.QuietTactic
import Derived.BigQuiet
import Derived.Handy
import Derived.Deep.RegionHeld3
import Derived.StillTailTactics
import Derived.OpenShut
import Derived.ChangeSame
import Derived.Laws.StructEq

import Derived.Test.YtgdebejmcfcpgaaDoorPlainT

import Derived.Test.YtgdebejmcfcpgaaDoorW1

import Derived.Test.YtgdebejmcfcpgaaDoorW10

namespace Go.Proofs.YtgdebejmcfcpgaaDoor
open Go.ChangeShapes Go.WideShapes Go.ChangeAt Go.RowKit Go.Deep
set_option linter.unusedVariables false
set_option linter.unusedSimpArgs false

set_option maxRecDepth 20000

/-! ### Unquote -/
def unqGo : Str → Nat → Str → Str × Int
  | _, _, [] => ([], -1)
  | out, k, [c] => if c = 34 then (if out.length ≤ 40 then (out, (k : Int) + 1) else ([], -1)) else ([], -1)
  | out, k, c :: d :: r =>
    if c = 34 then (if out.length ≤ 40 then (out, (k : Int) + 1) else ([], -1))
    else if c = 92 then (if d = 34 ∨ d = 92 then unqGo (out ++ [d]) (k + 2) r else ([], -1))
    else if quotB c = true then unqGo (out ++ [c]) (k + 1) (d :: r) else ([], -1)
def unquote (s : Str) (x : Int) : Str × Int :=
  if (inR x 0 ((s.length : Int) - 1) && decide (s[x.toNat]? = some 34)) = true then unqGo [] (x.toNat + 1) (s.drop (x.toNat + 1)) else ([], -1)
section
variable {s : Str} {out : Str} {k : Nat}
theorem unq_end (h : s.length ≤ k) : unqGo out k (s.drop k) = ([], -1) := by rw [List.drop_eq_nil_of_le h, unqGo]
theorem unq_close (h : s[k]? = some 34) : unqGo out k (s.drop k) = if out.length ≤ 40 then (out, (k : Int) + 1) else ([], -1) := by
  obtain ⟨h1, h2⟩ := List.getElem?_eq_some_iff.1 h
  rw [List.drop_eq_getElem_cons h1, h2]
  cases s.drop (k + 1) with
  | nil => rw [unqGo, if_pos rfl]
  | cons d r => rw [unqGo, if_pos rfl]
theorem unq_esc {d : UInt8} (h : s[k]? = some 92) (h2 : s[k + 1]? = some d) : unqGo out k (s.drop k) = if d = 34 ∨ d = 92 then unqGo (out ++ [d]) (k + 2) (s.drop (k + 2)) else ([], -1) := by
  obtain ⟨h1, e1⟩ := List.getElem?_eq_some_iff.1 h
  obtain ⟨h3, e3⟩ := List.getElem?_eq_some_iff.1 h2
  rw [List.drop_eq_getElem_cons h1, e1, List.drop_eq_getElem_cons h3, e3, unqGo, if_neg (by decide), if_pos rfl]
theorem unq_esc_end (h : s[k]? = some 92) (h2 : s.length ≤ k + 1) : unqGo out k (s.drop k) = ([], -1) := by
  obtain ⟨h1, e1⟩ := List.getElem?_eq_some_iff.1 h
  rw [List.drop_eq_getElem_cons h1, e1, List.drop_eq_nil_of_le h2, unqGo, if_neg (by decide)]
theorem unq_plain {c : UInt8} (h : s[k]? = some c) (h1 : c ≠ 34) (h2 : c ≠ 92) : unqGo out k (s.drop k) = if quotB c = true then unqGo (out ++ [c]) (k + 1) (s.drop (k + 1)) else ([], -1) := by
  obtain ⟨h3, e1⟩ := List.getElem?_eq_some_iff.1 h
  rw [List.drop_eq_getElem_cons h3, e1]
  cases hd : s.drop (k + 1) with
  | nil =>
    have e2 : unqGo out k [c] = ([], -1) := by rw [unqGo, if_neg h1]
    have e3 : unqGo (out ++ [c]) (k + 1) [] = ([], -1) := by rw [unqGo]
    rw [e2, e3]
    split <;> rfl
  | cons d r => rw [unqGo, if_neg h1, if_neg h2]
end
theorem esc_app (a b : Str) : esc (a ++ b) = esc a ++ esc b := by unfold esc; rw [List.flatMap_append]
theorem esc_one (c : UInt8) : esc [c] = escB c := by unfold esc; simp
theorem escB_plain {c : UInt8} (h1 : c ≠ 34) (h2 : c ≠ 92) : escB c = [c] := by unfold escB; rw [if_neg (by simp [h1, h2])]
theorem escB_esc {c : UInt8} (h : c = 34 ∨ c = 92) : escB c = [92, c] := by unfold escB; rw [if_pos h]
theorem escB_len (c : UInt8) : 1 ≤ (escB c).length ∧ (escB c).length ≤ 2 := by unfold escB; split <;> simp
/-- The program's way: it takes what stands there, and compares at the end. -/
structure UInv (s : Str) (a : Nat) (R : Str × Int) (out : Str) (k : Nat) : Prop where
  lo : a + 1 ≤ k
  hi : k ≤ s.length
  esc_le : (esc out).length ≤ k - (a + 1)
  out_le : out.length ≤ k
  or_ : (esc out = (s.drop (a + 1)).take (k - (a + 1)) ∧ out.all quotB = true ∧ R = unqGo out k (s.drop k)) ∨ (R = ([], -1) ∧ ((esc out).length < k - (a + 1) ∨ out.all quotB = false))
section
variable {s : Str} {a : Nat} {R : Str × Int} {out : Str} {k : Nat}
theorem UInv.start (h : a + 1 ≤ s.length) (hR : R = unqGo [] (a + 1) (s.drop (a + 1))) : UInv s a R [] (a + 1) :=
  ⟨Nat.le_refl _, h, by simp [esc], by simp, Or.inl ⟨by simp [esc], rfl, hR⟩⟩
theorem take_ext {t : Str} {m : Nat} {c : UInt8} (h : t[m]? = some c) : t.take (m + 1) = t.take m ++ [c] := by
  obtain ⟨h1, h2⟩ := List.getElem?_eq_some_iff.1 h
  rw [List.take_succ_eq_append_getElem h1, h2]
theorem UInv.plain (i : UInv s a R out k) {c : UInt8} (h : s[k]? = some c) (h1 : c ≠ 34) (h2 : c ≠ 92) : UInv s a R (out ++ [c]) (k + 1) := by
  have hl := (List.getElem?_eq_some_iff.1 h).1
  have hlo := i.lo
  have he : esc (out ++ [c]) = esc out ++ [c] := by rw [esc_app, esc_one, escB_plain h1 h2]
  refine ⟨by omega, hl, ?_, ?_, ?_⟩
  · rw [he]; have := i.esc_le; simp; omega
  · have := i.out_le; simp; omega
  · rcases i.or_ with ⟨g1, g2, g3⟩ | ⟨b1, b2⟩
    · cases hq : quotB c with
      | true =>
        left
        refine ⟨?_, by simp [g2, hq], ?_⟩
        · rw [he, g1, show k + 1 - (a + 1) = (k - (a + 1)) + 1 by omega]
          exact (take_ext (by rw [List.getElem?_drop, ← h]; congr 1; omega)).symm
        · rw [g3, unq_plain h h1 h2, if_pos hq]
      | false =>
        right
        refine ⟨?_, Or.inr (by simp [hq])⟩
        rw [g3, unq_plain h h1 h2, if_neg (by rw [hq]; decide)]
    · right
      refine ⟨b1, ?_⟩
      rcases b2 with b2 | b2
      · left; rw [he]; simp; omega
      · right; simp [b2]
theorem UInv.esc (i : UInv s a R out k) {d : UInt8} (h : s[k]? = some 92) (hd : s[k + 1]? = some d) : UInv s a R (out ++ [d]) (k + 2) := by
  have hl := (List.getElem?_eq_some_iff.1 hd).1
  have hlo := i.lo
  have he : Go.Proofs.YtgdebejmcfcpgaaDoor.esc (out ++ [d]) = Go.Proofs.YtgdebejmcfcpgaaDoor.esc out ++ escB d := by rw [esc_app, esc_one]
  have hb := escB_len d
  refine ⟨by omega, by omega, ?_, ?_, ?_⟩
  · rw [he]; have := i.esc_le; simp; omega
  · have := i.out_le; simp; omega
  · rcases i.or_ with ⟨g1, g2, g3⟩ | ⟨b1, b2⟩
    · by_cases hq : d = 34 ∨ d = 92
      · left
        refine ⟨?_, ?_, ?_⟩
        · rw [he, g1, escB_esc hq, show k + 2 - (a + 1) = (k - (a + 1)) + 1 + 1 by omega,
            take_ext (t := s.drop (a + 1)) (m := k - (a + 1) + 1) (c := d) (by rw [List.getElem?_drop, ← hd]; congr 1; omega),
            take_ext (t := s.drop (a + 1)) (m := k - (a + 1)) (c := 92) (by rw [List.getElem?_drop, ← h]; congr 1; omega), List.append_assoc]
          rfl
        · rcases hq with rfl | rfl <;> simp [g2] <;> decide
        · rw [g3, unq_esc h hd, if_pos hq]
      · right
        refine ⟨by rw [g3, unq_esc h hd, if_neg hq], Or.inl ?_⟩
        rw [he, escB_plain (fun e => hq (Or.inl e)) (fun e => hq (Or.inr e))]
        have := i.esc_le
        simp; omega
    · right
      refine ⟨b1, ?_⟩
      rcases b2 with b2 | b2
      · left; rw [he]; simp; omega
      · right; simp [b2]
theorem UInv.esc_end (i : UInv s a R out k) (h : s[k]? = some 92) (h2 : s.length ≤ k + 1) : R = ([], -1) := by
  rcases i.or_ with ⟨_, _, g3⟩ | ⟨b1, _⟩
  · rw [g3, unq_esc_end h h2]
  · exact b1
theorem UInv.end_ (i : UInv s a R out k) (h : s.length ≤ k) : R = ([], -1) := by
  rcases i.or_ with ⟨_, _, g3⟩ | ⟨b1, _⟩
  · rw [g3, unq_end h]
  · exact b1
theorem UInv.close (i : UInv s a R out k) (ha : s[a]? = some 34) (h : s[k]? = some 34) :
    (quote out = (s.drop a).take (k + 1 - a) ∧ R = (out, (k : Int) + 1)) ∨ (¬ quote out = (s.drop a).take (k + 1 - a) ∧ R = ([], -1)) := by
  have hl := (List.getElem?_eq_some_iff.1 h).1
  obtain ⟨hla, ea⟩ := List.getElem?_eq_some_iff.1 ha
  have hlo := i.lo
  have hseg : (s.drop a).take (k + 1 - a) = 34 :: ((s.drop (a + 1)).take (k - (a + 1)) ++ [34]) := by
    rw [List.drop_eq_getElem_cons hla, ea, show k + 1 - a = (k - (a + 1)) + 1 + 1 by omega, List.take_succ_cons]
    congr 1
    exact take_ext (by rw [List.getElem?_drop, ← h]; congr 1; omega)
  have hsl : ((s.drop (a + 1)).take (k - (a + 1))).length = k - (a + 1) := by simp; omega
  rw [hseg]
  by_cases h40 : out.length ≤ 40
  · cases hq : out.all quotB with
    | true =>
      have hquote := quote_good h40 hq
      rw [hquote]
      rcases i.or_ with ⟨g1, g2, g3⟩ | ⟨b1, b2⟩
      · left
        refine ⟨by rw [g1], by rw [g3, unq_close h, if_pos h40]⟩
      · right
        refine ⟨?_, b1⟩
        rcases b2 with b2 | b2
        · intro e
          have := congrArg List.length e
          simp only [List.length_cons, List.length_append, List.length_nil, hsl] at this
          omega
        · rw [hq] at b2; cases b2
    | false =>
      have hquote : quote out = [] := by unfold quote quotable; rw [hq]; rfl
      rw [hquote]
      right
      refine ⟨by simp, ?_⟩
      rcases i.or_ with ⟨g1, g2, g3⟩ | ⟨b1, b2⟩
      · rw [hq] at g2; cases g2
      · exact b1
  · rw [quote_long h40]
    right
    refine ⟨by simp, ?_⟩
    rcases i.or_ with ⟨g1, g2, g3⟩ | ⟨b1, b2⟩
    · rw [g3, unq_close h, if_neg h40]
    · exact b1
end
theorem unquote_no {s : Str} {x : Int} (h : inR x 0 ((s.length : Int) - 1) = false) : unquote s x = ([], -1) := by unfold unquote; rw [h]; rfl
theorem unquote_no2 {s : Str} {a : Nat} (h : ¬ s[a]? = some 34) : unquote s (a : Int) = ([], -1) := by
  unfold unquote; rw [Int.toNat_natCast, decide_eq_false h, Bool.and_false]; rfl
theorem unquote_yes {s : Str} {a : Nat} (h : s[a]? = some 34) : unquote s (a : Int) = unqGo [] (a + 1) (s.drop (a + 1)) := by
  have hl := (List.getElem?_eq_some_iff.1 h).1
  have h1 : inR (a : Int) 0 ((s.length : Int) - 1) = true := by
    unfold inR
    simp only [Bool.and_eq_true, decide_eq_true_eq]
    omega
  unfold unquote
  rw [Int.toNat_natCast, decide_eq_true h, h1]
  rfl
theorem getb (s : ByteArray) {k : Nat} (h : k < s.size) : s.data.toList[k]? = some s[k] := by
  have hl : k < s.data.toList.length := by rw [← size_len]; exact h
  rw [List.getElem?_eq_getElem hl]; rfl

end Go.Proofs.YtgdebejmcfcpgaaDoor
