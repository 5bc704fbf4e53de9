/-
  Walks: what each function returns, and that it leaves what lay in memory as it was.
-/
import Derived.Test.YtlehpgnhfpegoaaDoorProg
import Derived.Test.YtlehpgnhfpegoaaDoorPlain
import Derived.Test.YtlehpgnhfpegoaaDoorBase2
import Derived.Test.YtlehpgnhfpegoaaDoorOpen2
import Derived.Test.YtlehpgnhfpegoaaDoorShelf
import Derived.WalkKit
import Derived.WalkSpells
import Derived.WalkLawsBesides
import Derived.Lib.Hide
import Derived.Deep.LoopGhost
import Derived.Deep.QuietTactic
import Derived.BigQuiet
import Derived.Handy
import Derived.Deep.RegionHeld3
import Derived.StillTailTactics
import Derived.OpenShut
import Derived.ChangeSame
import Derived.Laws.StructEq

import Derived.Test.YtlehpgnhfpegoaaDoorPlainT

import Derived.Test.YtlehpgnhfpegoaaDoorW1

import Derived.Test.YtlehpgnhfpegoaaDoorW4

namespace Go.Proofs.YtlehpgnhfpegoaaDoor
open Go.ChangeShapes Go.WideShapes Go.ChangeAt Go.RowKit Go.Deep
set_option linter.unusedVariables false
set_option linter.unusedSimpArgs false

set_option maxRecDepth 20000

/-! ### Unquote -/
def unqGo : Str → Nat → Str → Str × Int
  | _, _, [] => ([], -1)
  | out, k, [c] => if c = 34 then (if out.length ≤ 40 then (out, (k : Int) + 1) else ([], -1)) else ([], -1)
  | out, k, c :: d :: r =>
    if c = 34 then (if out.length ≤ 40 then (out, (k : Int) + 1) else ([], -1))
    else if c = 92 then (if d = 34 ∨ d = 92 then unqGo (out ++ [d]) (k + 2) r else ([], -1))
    else if quotB c = true then unqGo (out ++ [c]) (k + 1) (d :: r) else ([], -1)
def unquote (s : Str) (x : Int) : Str × Int :=
  if (inR x 0 ((s.length : Int) - 1) && decide (s[x.toNat]? = some 34)) = true then unqGo [] (x.toNat + 1) (s.drop (x.toNat + 1)) else ([], -1)
section
variable {s : Str} {out : Str} {k : Nat}
theorem unq_end (h : s.length ≤ k) : unqGo out k (s.drop k) = ([], -1) := by rw [List.drop_eq_nil_of_le h, unqGo]
theorem unq_close (h : s[k]? = some 34) : unqGo out k (s.drop k) = if out.length ≤ 40 then (out, (k : Int) + 1) else ([], -1) := by
  obtain ⟨h1, h2⟩ := List.getElem?_eq_some_iff.1 h
  rw [List.drop_eq_getElem_cons h1, h2]
  cases s.drop (k + 1) with
  | nil => rw [unqGo, if_pos rfl]
  | cons d r => rw [unqGo, if_pos rfl]
theorem unq_esc {d : UInt8} (h : s[k]? = some 92) (h2 : s[k + 1]? = some d) : unqGo out k (s.drop k) = if d = 34 ∨ d = 92 then unqGo (out ++ [d]) (k + 2) (s.drop (k + 2)) else ([], -1) := by
  obtain ⟨h1, e1⟩ := List.getElem?_eq_some_iff.1 h
  obtain ⟨h3, e3⟩ := List.getElem?_eq_some_iff.1 h2
  rw [List.drop_eq_getElem_cons h1, e1, List.drop_eq_getElem_cons h3, e3, unqGo, if_neg (by decide), if_pos rfl]
theorem unq_esc_end (h : s[k]? = some 92) (h2 : s.length ≤ k + 1) : unqGo out k (s.drop k) = ([], -1) := by
  obtain ⟨h1, e1⟩ := List.getElem?_eq_some_iff.1 h
  rw [List.drop_eq_getElem_cons h1, e1, List.drop_eq_nil_of_le h2, unqGo, if_neg (by decide)]
theorem unq_plain {c : UInt8} (h : s[k]? = some c) (h1 : c ≠ 34) (h2 : c ≠ 92) : unqGo out k (s.drop k) = if quotB c = true then unqGo (out ++ [c]) (k + 1) (s.drop (k + 1)) else ([], -1) := by
  obtain ⟨h3, e1⟩ := List.getElem?_eq_some_iff.1 h
  rw [List.drop_eq_getElem_cons h3, e1]
  cases hd : s.drop (k + 1) with
  | nil =>
    have e2 : unqGo out k [c] = ([], -1) := by rw [unqGo, if_neg h1]
    have e3 : unqGo (out ++ [c]) (k + 1) [] = ([], -1) := by rw [unqGo]
    rw [e2, e3]
    split <;> rfl
  | cons d r => rw [unqGo, if_neg h1, if_neg h2]
end
theorem esc_app (a b : Str) : esc (a ++ b) = esc a ++ esc b := by unfold esc; rw [List.flatMap_append]
theorem esc_one (c : UInt8) : esc [c] = escB c := by unfold esc; simp
theorem escB_plain {c : UInt8} (h1 : c ≠ 34) (h2 : c ≠ 92) : escB c = [c] := by unfold escB; rw [if_neg (by simp [h1, h2])]
theorem escB_esc {c : UInt8} (h : c = 34 ∨ c = 92) : escB c = [92, c] := by unfold escB; rw [if_pos h]
theorem escB_len (c : UInt8) : 1 ≤ (escB c).length ∧ (escB c).length ≤ 2 := by unfold escB; split <;> simp
/-- The program's way: it takes what stands there, and compares at the end. -/
structure UInv (s : Str) (a : Nat) (R : Str × Int) (out : Str) (k : Nat) : Prop where
  lo : a + 1 ≤ k
  hi : k ≤ s.length
  esc_le : (esc out).length ≤ k - (a + 1)
  out_le : out.length ≤ k
  or_ : (esc out = (s.drop (a + 1)).take (k - (a + 1)) ∧ out.all quotB = true ∧ R = unqGo out k (s.drop k)) ∨ (R = ([], -1) ∧ ((esc out).length < k - (a + 1) ∨ out.all quotB = false))
section
variable {s : Str} {a : Nat} {R : Str × Int} {out : Str} {k : Nat}
theorem UInv.start (h : a + 1 ≤ s.length) (hR : R = unqGo [] (a + 1) (s.drop (a + 1))) : UInv s a R [] (a + 1) :=
  ⟨Nat.le_refl _, h, by simp [esc], by simp, Or.inl ⟨by simp [esc], rfl, hR⟩⟩
theorem take_ext {t : Str} {m : Nat} {c : UInt8} (h : t[m]? = some c) : t.take (m + 1) = t.take m ++ [c] := by
  obtain ⟨h1, h2⟩ := List.getElem?_eq_some_iff.1 h
  rw [List.take_succ_eq_append_getElem h1, h2]
theorem UInv.plain (i : UInv s a R out k) {c : UInt8} (h : s[k]? = some c) (h1 : c ≠ 34) (h2 : c ≠ 92) : UInv s a R (out ++ [c]) (k + 1) := by
  have hl := (List.getElem?_eq_some_iff.1 h).1
  have hlo := i.lo
  have he : esc (out ++ [c]) = esc out ++ [c] := by rw [esc_app, esc_one, escB_plain h1 h2]
  refine ⟨by omega, hl, ?_, ?_, ?_⟩
  · rw [he]; have := i.esc_le; simp; omega
  · have := i.out_le; simp; omega
  · rcases i.or_ with ⟨g1, g2, g3⟩ | ⟨b1, b2⟩
    · cases hq : quotB c with
      | true =>
        left
        refine ⟨?_, by simp [g2, hq], ?_⟩
        · rw [he, g1, show k + 1 - (a + 1) = (k - (a + 1)) + 1 by omega]
          exact (take_ext (by rw [List.getElem?_drop, ← h]; congr 1; omega)).symm
        · rw [g3, unq_plain h h1 h2, if_pos hq]
      | false =>
        right
        refine ⟨?_, Or.inr (by simp [hq])⟩
        rw [g3, unq_plain h h1 h2, if_neg (by rw [hq]; decide)]
    · right
      refine ⟨b1, ?_⟩
      rcases b2 with b2 | b2
      · left; rw [he]; simp; omega
      · right; simp [b2]
theorem UInv.esc (i : UInv s a R out k) {d : UInt8} (h : s[k]? = some 92) (hd : s[k + 1]? = some d) : UInv s a R (out ++ [d]) (k + 2) := by
  have hl := (List.getElem?_eq_some_iff.1 hd).1
  have hlo := i.lo
  have he : Go.Proofs.YtlehpgnhfpegoaaDoor.esc (out ++ [d]) = Go.Proofs.YtlehpgnhfpegoaaDoor.esc out ++ escB d := by rw [esc_app, esc_one]
  have hb := escB_len d
  refine ⟨by omega, by omega, ?_, ?_, ?_⟩
  · rw [he]; have := i.esc_le; simp; omega
  · have := i.out_le; simp; omega
  · rcases i.or_ with ⟨g1, g2, g3⟩ | ⟨b1, b2⟩
    · by_cases hq : d = 34 ∨ d = 92
      · left
        refine ⟨?_, ?_, ?_⟩
        · rw [he, g1, escB_esc hq, show k + 2 - (a + 1) = (k - (a + 1)) + 1 + 1 by omega,
            take_ext (t := s.drop (a + 1)) (m := k - (a + 1) + 1) (c := d) (by rw [List.getElem?_drop, ← hd]; congr 1; omega),
            take_ext (t := s.drop (a + 1)) (m := k - (a + 1)) (c := 92) (by rw [List.getElem?_drop, ← h]; congr 1; omega), List.append_assoc]
          rfl
        · rcases hq with rfl | rfl <;> simp [g2] <;> decide
        · rw [g3, unq_esc h hd, if_pos hq]
      · right
        refine ⟨by rw [g3, unq_esc h hd, if_neg hq], Or.inl ?_⟩
        rw [he, escB_plain (fun e => hq (Or.inl e)) (fun e => hq (Or.inr e))]
        have := i.esc_le
        simp; omega
    · right
      refine ⟨b1, ?_⟩
      rcases b2 with b2 | b2
      · left; rw [he]; simp; omega
      · right; simp [b2]
theorem UInv.esc_end (i : UInv s a R out k) (h : s[k]? = some 92) (h2 : s.length ≤ k + 1) : R = ([], -1) := by
  rcases i.or_ with ⟨_, _, g3⟩ | ⟨b1, _⟩
  · rw [g3, unq_esc_end h h2]
  · exact b1
theorem UInv.end_ (i : UInv s a R out k) (h : s.length ≤ k) : R = ([], -1) := by
  rcases i.or_ with ⟨_, _, g3⟩ | ⟨b1, _⟩
  · rw [g3, unq_end h]
  · exact b1
theorem UInv.close (i : UInv s a R out k) (ha : s[a]? = some 34) (h : s[k]? = some 34) :
    (quote out = (s.drop a).take (k + 1 - a) ∧ R = (out, (k : Int) + 1)) ∨ (¬ quote out = (s.drop a).take (k + 1 - a) ∧ R = ([], -1)) := by
  have hl := (List.getElem?_eq_some_iff.1 h).1
  obtain ⟨hla, ea⟩ := List.getElem?_eq_some_iff.1 ha
  have hlo := i.lo
  have hseg : (s.drop a).take (k + 1 - a) = 34 :: ((s.drop (a + 1)).take (k - (a + 1)) ++ [34]) := by
    rw [List.drop_eq_getElem_cons hla, ea, show k + 1 - a = (k - (a + 1)) + 1 + 1 by omega, List.take_succ_cons]
    congr 1
    exact take_ext (by rw [List.getElem?_drop, ← h]; congr 1; omega)
  have hsl : ((s.drop (a + 1)).take (k - (a + 1))).length = k - (a + 1) := by simp; omega
  rw [hseg]
  by_cases h40 : out.length ≤ 40
  · cases hq : out.all quotB with
    | true =>
      have hquote := quote_good h40 hq
      rw [hquote]
      rcases i.or_ with ⟨g1, g2, g3⟩ | ⟨b1, b2⟩
      · left
        refine ⟨by rw [g1], by rw [g3, unq_close h, if_pos h40]⟩
      · right
        refine ⟨?_, b1⟩
        rcases b2 with b2 | b2
        · intro e
          have := congrArg List.length e
          simp only [List.length_cons, List.length_append, List.length_nil, hsl] at this
          omega
        · rw [hq] at b2; cases b2
    | false =>
      have hquote : quote out = [] := by unfold quote quotable; rw [hq]; rfl
      rw [hquote]
      right
      refine ⟨by simp, ?_⟩
      rcases i.or_ with ⟨g1, g2, g3⟩ | ⟨b1, b2⟩
      · rw [hq] at g2; cases g2
      · exact b1
  · rw [quote_long h40]
    right
    refine ⟨by simp, ?_⟩
    rcases i.or_ with ⟨g1, g2, g3⟩ | ⟨b1, b2⟩
    · rw [g3, unq_close h, if_neg h40]
    · exact b1
end
theorem unquote_no {s : Str} {x : Int} (h : inR x 0 ((s.length : Int) - 1) = false) : unquote s x = ([], -1) := by unfold unquote; rw [h]; rfl
theorem unquote_no2 {s : Str} {a : Nat} (h : ¬ s[a]? = some 34) : unquote s (a : Int) = ([], -1) := by
  unfold unquote; rw [Int.toNat_natCast, decide_eq_false h, Bool.and_false]; rfl
theorem unquote_yes {s : Str} {a : Nat} (h : s[a]? = some 34) : unquote s (a : Int) = unqGo [] (a + 1) (s.drop (a + 1)) := by
  have hl := (List.getElem?_eq_some_iff.1 h).1
  have h1 : inR (a : Int) 0 ((s.length : Int) - 1) = true := by
    unfold inR
    simp only [Bool.and_eq_true, decide_eq_true_eq]
    omega
  unfold unquote
  rw [Int.toNat_natCast, decide_eq_true h, h1]
  rfl
theorem getb (s : ByteArray) {k : Nat} (h : k < s.size) : s.data.toList[k]? = some s[k] := by
  have hl : k < s.data.toList.length := by rw [← size_len]; exact h
  rw [List.getElem?_eq_getElem hl]; rfl

set_option maxHeartbeats 3200000 in
theorem spec_Unquote (s : ByteArray) (x : Int) (w : World) (hs : s.size ≤ 2097152) (hx0 : -9223372036854775808 ≤ x) (hx1 : x ≤ 9223372036854775807) :
    Calls Tryd.prog 32 #[.string s, .int .i64 x] w fun e w' => e = .returned (.tuple #[.string ⟨(unquote s.data.toList x).1.toArray⟩, .int .i64 (unquote s.data.toList x).2]) ∧ Below w.heap.size w w' := by
  have HL := Lib.hid (size_len s)
  obtain ⟨R, hR⟩ : ∃ R, unquote s.data.toList x = R := ⟨_, rfl⟩
  rw [hR]
  cases hin : inR x 0 ((s.size : Int) - 1) with
  | false =>
    have HR := Lib.hid (show R = ([], -1) by rw [← hR]; exact unquote_no (by rw [← HL.out]; exact hin))
    clear hR
    go_enter Tryd.func32, Tryd.ntmps32
    go_wp2_with (go_at_call 48; refine (l1In_any _ _ _ _).mono ?_; rw [hin]; rintro e w' ⟨rfl, rfl⟩)
    go_ret2
    exact ⟨ret_si (by rw [HR.out]) (by rw [HR.out]), Below.refl _ _⟩
  | true =>
    have hin2 : 0 ≤ x ∧ x ≤ (s.size : Int) - 1 := by simpa [inR] using hin
    obtain ⟨a, rfl⟩ := Int.eq_ofNat_of_zero_le hin2.1
    have ha : a < s.size := by omega
    have hga := getb s ha
    obtain ⟨ca, hca⟩ : ∃ ca, s[a] = ca := ⟨_, rfl⟩
    rw [hca] at hga
    by_cases h34 : (ca.toNat : Int) = 34
    · have e34 : ca = 34 := UInt8.toNat_inj.1 (by show ca.toNat = 34; omega)
      have HG := Lib.hid (show unqGo [] (a + 1) (s.data.toList.drop (a + 1)) = R by rw [← hR, unquote_yes (by rw [hga, e34])])
      have hnew := World.ownsRow_made (base := w.heap.size) (e := 5) (size := 1) w #[] 0 (Nat.le_refl _) (by unfold maxLen; omega) rfl
      clear hR hga
      subst e34
      clear h34
      go_enter Tryd.func32, Tryd.ntmps32
      go_wp2_with (go_at_call 48; refine (l1In_any _ _ _ _).mono ?_; rw [hin]; rintro e w' ⟨rfl, rfl⟩)
      go_loopw [6, 7] (fun o i wr => ∃ (k : Nat) (l : Str), a + 1 ≤ k ∧ k ≤ s.size ∧ i = .int .i64 k ∧ l.length ≤ k ∧ Hid (unqGo l k (s.data.toList.drop k) = R) ∧ wr.ownsRow w.heap.size 5 1 o l.length (l.flatMap encB) ∧ Below w.heap.size w wr) (fun _ i _ => s.size - (intOf i).toNat)
      case atStart => exact ⟨a + 1, [], by omega, by omega, by go_num, by simp, HG, hnew, (Below.refl _ _).alloc (Nat.le_refl _) _⟩
      case round =>
        obtain ⟨k, l, hk0, hk, rfl, hll, hg, hown, hW⟩ := hrel
        clear hnew HG
        have hsz := hW.size
        by_cases hlt : k < s.size
        · have hgk := getb s hlt
          obtain ⟨ch, hch⟩ : ∃ ch, s[k] = ch := ⟨_, rfl⟩
          rw [hch] at hgk
          have hch8 := u8_lt ch
          have HW := Lib.hid hW
          have Hown := Lib.hid hown
          clear hW hown
          by_cases c34 : (ch.toNat : Int) = 34
          · have e34 : ch = 34 := UInt8.toNat_inj.1 (by show ch.toNat = 34; omega)
            have HC := Lib.hid (unq_close (out := l) (by rw [hgk, e34]))
            clear hgk e34
            by_cases h40 : (40 : Int) < (l.length : Int)
            · have HF := Lib.hid (show R = ([], -1) by rw [← hg.out, HC.out, if_neg (by omega)])
              obtain ⟨A', c', rfl⟩ := own_form Hown.out
              clear HC hg
              go_wp2
              go_ret2
              exact ⟨ret_si (by rw [HF.out]) (by rw [HF.out]), HW.out⟩
            · have HF := Lib.hid (show R = (l, (k : Int) + 1) by rw [← hg.out, HC.out, if_pos (by omega)])
              obtain ⟨A', c', rfl⟩ := own_form Hown.out
              have hcv := run_ofBytes (P := Tryd.prog) 28 9 5 Tryd.underlying28 Tryd.underlying5 Tryd.underlying9 (Rd.of_own (enc := encB) (k := 1) (fun _ => rfl) Hown.out rfl) c'
              clear HC hg
              go_wp2
              go_ret2
              exact ⟨ret_si (by rw [HF.out]) (by rw [HF.out]), HW.out⟩
          · have n34 : ch ≠ 34 := by rintro rfl; exact c34 rfl
            have n34b : ((ch.toNat : Int) == 34) = false := beq_eq_false_iff_ne.2 c34
            by_cases c92 : (ch.toNat : Int) = 92
            · have e92 : ch = 92 := UInt8.toNat_inj.1 (by show ch.toNat = 92; omega)
              have c92b : ((ch.toNat : Int) == 92) = true := beq_iff_eq.2 c92
              by_cases hlt2 : k + 1 < s.size
              · have hgk2 := getb s hlt2
                obtain ⟨dh, hdh⟩ : ∃ dh, s[k + 1] = dh := ⟨_, rfl⟩
                rw [hdh] at hgk2
                have hdh8 := u8_lt dh
                have HC := Lib.hid (unq_esc (out := l) (by rw [hgk, e92]) hgk2)
                clear hgk hgk2 e92
                by_cases hd : (dh.toNat : Int) = 34 ∨ (dh.toNat : Int) = 92
                · have HG2 := Lib.hid (show unqGo (l ++ [dh]) (k + 2) (s.data.toList.drop (k + 2)) = R by
                    rw [← hg.out, HC.out, if_pos]
                    rcases hd with hd | hd
                    · exact Or.inl (UInt8.toNat_inj.1 (by show dh.toNat = 34; omega))
                    · exact Or.inr (UInt8.toNat_inj.1 (by show dh.toNat = 92; omega)))
                  rcases hd with hd | hd
                  · have edh : dh = 34 := UInt8.toNat_inj.1 (by show dh.toNat = 34; omega)
                    subst edh
                    have Hown2 := Lib.hid (Hown.out.alloc (.cells #[.int .u8 34] 5))
                    have Hrd2 := Lib.hid (Rd.new (enc := encB) (k := 1) (fun _ => rfl) wr #[.int .u8 34] 5 (n := 1) [34] rfl rfl)
                    have HB3 := Lib.hid (HW.out.alloc hsz (.cells #[.int .u8 34] 5))
                    clear HC hg hd
                    go_wp2_with (at_builtin; refine wpList_app (enc := encB) (k := 1) (fun _ => rfl) (fun _ u hu => by simp at hu; subst hu; rfl) (by omega) rfl _ _ 28 5 rfl (.int .u8 0) 1 Tryd.underlying28 (by kernel_rfl) rfl w.heap.size _ l rfl Hown2.out _ _ _ _ rfl Hrd2.out (by first | omega | (simp; omega)) (by omega) (by first | omega | (simp; omega)) ?_; intro v2 w2 hown2 hbel2)
                    have HB := Lib.hid (HB3.out.trans hbel2)
                    clear hbel2
                    go_roundw
                    case rel => exact ⟨k + 2, l ++ [34], by omega, by omega, by go_num, by simp; omega, HG2, hown2, HB.out⟩
                    case measure => simp [intOf]; omega
                  · have edh : dh = 92 := UInt8.toNat_inj.1 (by show dh.toNat = 92; omega)
                    subst edh
                    have Hown2 := Lib.hid (Hown.out.alloc (.cells #[.int .u8 92] 5))
                    have Hrd2 := Lib.hid (Rd.new (enc := encB) (k := 1) (fun _ => rfl) wr #[.int .u8 92] 5 (n := 1) [92] rfl rfl)
                    have HB3 := Lib.hid (HW.out.alloc hsz (.cells #[.int .u8 92] 5))
                    clear HC hg hd
                    go_wp2_with (at_builtin; refine wpList_app (enc := encB) (k := 1) (fun _ => rfl) (fun _ u hu => by simp at hu; subst hu; rfl) (by omega) rfl _ _ 28 5 rfl (.int .u8 0) 1 Tryd.underlying28 (by kernel_rfl) rfl w.heap.size _ l rfl Hown2.out _ _ _ _ rfl Hrd2.out (by first | omega | (simp; omega)) (by omega) (by first | omega | (simp; omega)) ?_; intro v2 w2 hown2 hbel2)
                    have HB := Lib.hid (HB3.out.trans hbel2)
                    clear hbel2
                    go_roundw
                    case rel => exact ⟨k + 2, l ++ [92], by omega, by omega, by go_num, by simp; omega, HG2, hown2, HB.out⟩
                    case measure => simp [intOf]; omega
                · have d34 : ¬ (dh.toNat : Int) = 34 := fun h => hd (Or.inl h)
                  have d92 : ¬ (dh.toNat : Int) = 92 := fun h => hd (Or.inr h)
                  have d34b : ((dh.toNat : Int) == 34) = false := beq_eq_false_iff_ne.2 d34
                  have d92b : ((dh.toNat : Int) == 92) = false := beq_eq_false_iff_ne.2 d92
                  have d34c : ((dh.toNat : Int) != 34) = true := by unfold bne; rw [d34b]; rfl
                  have d92c : ((dh.toNat : Int) != 92) = true := by unfold bne; rw [d92b]; rfl
                  have HF := Lib.hid (show R = ([], -1) by
                    rw [← hg.out, HC.out, if_neg]
                    rintro (rfl | rfl)
                    · exact d34 rfl
                    · exact d92 rfl)
                  clear HC hg hd
                  go_wp2
                  go_ret2
                  exact ⟨ret_si (by rw [HF.out]) (by rw [HF.out]), HW.out⟩
              · have HF := Lib.hid (show R = ([], -1) by rw [← hg.out, unq_esc_end (by rw [hgk, e92]) (by rw [← HL.out]; omega)])
                clear hg hgk e92
                go_wp2
                go_ret2
                exact ⟨ret_si (by rw [HF.out]) (by rw [HF.out]), HW.out⟩
            · have n92 : ch ≠ 92 := by rintro rfl; exact c92 rfl
              have n92b : ((ch.toNat : Int) == 92) = false := beq_eq_false_iff_ne.2 c92
              have HC := Lib.hid (unq_plain (out := l) hgk n34 n92)
              clear hgk
              by_cases hq : 32 ≤ (ch.toNat : Int) ∧ (ch.toNat : Int) ≤ 126
              · obtain ⟨hq1, hq2⟩ := hq
                have HG2 := Lib.hid (show unqGo (l ++ [ch]) (k + 1) (s.data.toList.drop (k + 1)) = R by rw [← hg.out, HC.out, if_pos ((quotB_iff ch).2 ⟨hq1, hq2⟩)])
                have h1d : decide ((ch.toNat : Int) < 32) = false := decide_eq_false (by omega)
                have h2d : decide ((126 : Int) < (ch.toNat : Int)) = false := decide_eq_false (by omega)
                have Hown2 := Lib.hid (Hown.out.alloc (.cells #[.int .u8 (ch.toNat : Int)] 5))
                have Hrd2 := Lib.hid (Rd.new (enc := encB) (k := 1) (fun _ => rfl) wr #[.int .u8 (ch.toNat : Int)] 5 (n := 1) [ch] rfl rfl)
                have HB3 := Lib.hid (HW.out.alloc hsz (.cells #[.int .u8 (ch.toNat : Int)] 5))
                clear HC hg
                go_wp2_with (at_builtin; refine wpList_app (enc := encB) (k := 1) (fun _ => rfl) (fun _ u hu => by simp at hu; subst hu; rfl) (by omega) rfl _ _ 28 5 rfl (.int .u8 0) 1 Tryd.underlying28 (by kernel_rfl) rfl w.heap.size _ l rfl Hown2.out _ _ _ _ rfl Hrd2.out (by first | omega | (simp; omega)) (by omega) (by first | omega | (simp; omega)) ?_; intro v2 w2 hown2 hbel2)
                have HB := Lib.hid (HB3.out.trans hbel2)
                clear hbel2
                go_roundw
                case rel => exact ⟨k + 1, l ++ [ch], by omega, by omega, by go_num, by simp; omega, HG2, hown2, HB.out⟩
                case measure => simp [intOf]; omega
              · have HF := Lib.hid (show R = ([], -1) by rw [← hg.out, HC.out, if_neg (by intro h; exact hq ((quotB_iff ch).1 h))])
                clear HC hg
                by_cases h1 : (ch.toNat : Int) < 32
                · go_wp2
                  go_ret2
                  exact ⟨ret_si (by rw [HF.out]) (by rw [HF.out]), HW.out⟩
                · have h2 : (126 : Int) < (ch.toNat : Int) := by omega
                  go_wp2
                  go_ret2
                  exact ⟨ret_si (by rw [HF.out]) (by rw [HF.out]), HW.out⟩
        · have HF := Lib.hid (show R = ([], -1) by rw [← hg.out, unq_end (by rw [← HL.out]; omega)])
          have HW := Lib.hid hW
          clear hW hown hg
          go_wp2
          go_ret2
          exact ⟨ret_si (by rw [HF.out]) (by rw [HF.out]), HW.out⟩
    · have HR := Lib.hid (show R = ([], -1) by
        rw [← hR]
        refine unquote_no2 ?_
        rw [hga]
        intro e
        injection e with e
        exact h34 (by rw [e]; rfl))
      have n34b : ((ca.toNat : Int) == 34) = false := beq_eq_false_iff_ne.2 h34
      have n34c : ((ca.toNat : Int) != 34) = true := by unfold bne; rw [n34b]; rfl
      clear hR hga
      go_enter Tryd.func32, Tryd.ntmps32
      go_wp2_with (go_at_call 48; refine (l1In_any _ _ _ _).mono ?_; rw [hin]; rintro e w' ⟨rfl, rfl⟩)
      go_ret2
      exact ⟨ret_si (by rw [HR.out]) (by rw [HR.out]), Below.refl _ _⟩

theorem Calls.knownS {P : Program} {f : FuncId} {args : Array Value} {w : World} {a b : ByteArray} {R : World → Prop} (h : Calls P f args w fun e w' => e = .returned (.string a) ∧ R w') (e : a = b) : Calls P f args w fun e w' => e = .returned (.string b) ∧ R w' := e ▸ h
set_option maxHeartbeats 3200000 in
theorem impl_Unquote (s : ByteArray) (x : Int) (w : World) (hs : s.size ≤ 1048576) (hml : ML w) (hx0 : -9223372036854775808 ≤ x) (hx1 : x ≤ 9223372036854775807) :
    Calls Tryd.prog 35 #[.string s, .int .i64 x] w fun e w' => e = .returned (.tuple #[.string ⟨(unquote s.data.toList x).1.toArray⟩, .int .i64 (unquote s.data.toList x).2]) ∧ Below w.heap.size w w' := by
  have HL := Lib.hid (size_len s)
  have HM := Lib.hid hml
  clear hml
  obtain ⟨R, hR⟩ : ∃ R, unquote s.data.toList x = R := ⟨_, rfl⟩
  rw [hR]
  cases hin : inR x 0 ((s.size : Int) - 1) with
  | false =>
    have HR := Lib.hid (show R = ([], -1) by rw [← hR]; exact unquote_no (by rw [← HL.out]; exact hin))
    clear hR
    go_enter Tryd.func35, Tryd.ntmps35
    go_wp2_with (go_at_call 50; refine (within_any _ _ _ _).mono ?_; rw [hin]; rintro e w' ⟨rfl, rfl⟩)
    go_ret2
    exact ⟨ret_si (by rw [HR.out]) (by rw [HR.out]), Below.refl _ _⟩
  | true =>
    have hin2 : 0 ≤ x ∧ x ≤ (s.size : Int) - 1 := by simpa [inR] using hin
    obtain ⟨a, rfl⟩ := Int.eq_ofNat_of_zero_le hin2.1
    have ha : a < s.size := by omega
    have hga := getb s ha
    obtain ⟨ca, hca⟩ : ∃ ca, s[a] = ca := ⟨_, rfl⟩
    rw [hca] at hga
    by_cases h34 : (ca.toNat : Int) = 34
    · have e34 : ca = 34 := UInt8.toNat_inj.1 (by show ca.toNat = 34; omega)
      have HG := Lib.hid (show UInv s.data.toList a R [] (a + 1) from UInv.start (by rw [← HL.out]; omega) (by rw [← hR, unquote_yes (by rw [hga, e34])]))
      have HGA := Lib.hid (show s.data.toList[a]? = some 34 by rw [hga, e34])
      have hnew := World.ownsRow_made (base := w.heap.size) (e := 5) (size := 1) w #[] 0 (Nat.le_refl _) (by unfold maxLen; omega) rfl
      clear hR hga
      subst e34
      clear h34
      go_enter Tryd.func35, Tryd.ntmps35
      go_wp2_with (go_at_call 50; refine (within_any _ _ _ _).mono ?_; rw [hin]; rintro e w' ⟨rfl, rfl⟩)
      go_loopw [6, 7] (fun o i wr => ∃ (k : Nat) (l : Str), a + 1 ≤ k ∧ k ≤ s.size ∧ i = .int .i64 k ∧ l.length ≤ k ∧ Hid (UInv s.data.toList a R l k) ∧ wr.ownsRow w.heap.size 5 1 o l.length (l.flatMap encB) ∧ Below w.heap.size w wr) (fun _ i _ => s.size - (intOf i).toNat)
      case atStart => exact ⟨a + 1, [], by omega, by omega, by go_num, by simp, HG, hnew, (Below.refl _ _).alloc (Nat.le_refl _) _⟩
      case round =>
        obtain ⟨k, l, hk0, hk, rfl, hll, hg, hown, hW⟩ := hrel
        clear hnew HG
        have hsz := hW.size
        by_cases hlt : k < s.size
        · have hgk := getb s hlt
          obtain ⟨ch, hch⟩ : ∃ ch, s[k] = ch := ⟨_, rfl⟩
          rw [hch] at hgk
          have hch8 := u8_lt ch
          have HW := Lib.hid hW
          have Hown := Lib.hid hown
          clear hW hown
          by_cases c34 : (ch.toNat : Int) = 34
          · have e34 : ch = 34 := UInt8.toNat_inj.1 (by show ch.toNat = 34; omega)
            have HC := Lib.hid (hg.out.close HGA.out (by rw [hgk, e34]))
            clear hgk
            subst e34
            clear c34
            obtain ⟨A', c', rfl⟩ := own_form Hown.out
            obtain ⟨Z, hZ⟩ : ∃ Z : ByteArray, (⟨l.toArray⟩ : ByteArray) = Z := ⟨_, rfl⟩
            have hcv : ∀ u : Later wr, (convert 28 9 (.slice A' l.length c')).run Tryd.prog u.at_ = .ok (.string Z) u.at_ := fun u => by
              rw [← hZ]
              exact run_ofBytes (P := Tryd.prog) 28 9 5 Tryd.underlying28 Tryd.underlying5 Tryd.underlying9 ((Rd.of_own (enc := encB) (k := 1) (fun _ => rfl) Hown.out rfl).below u.bel) c'
            have HZL := Lib.hid (show Z.data.toList = l by rw [← hZ])
            have HZ := Lib.hid hZ
            have hZs : Z.size ≤ 1048576 := by rw [size_len, HZL.out]; omega
            obtain ⟨Q, hQ⟩ : ∃ Q : ByteArray, (⟨(quote Z.data.toList).toArray⟩ : ByteArray) = Q := ⟨_, rfl⟩
            have HQ := Lib.hid hQ
            have HQL := Lib.hid (show Q.data.toList = quote l by rw [← hQ, HZL.out])
            have HMr := Lib.hid (HM.out.below HW.out)
            have HSeg := Lib.hid (show (s.extract a (k + 1)).data.toList = (s.data.toList.drop a).take (k + 1 - a) from Lib.extract_data s a (k + 1))
            clear hQ hZ hg
            rcases HC.out with ⟨hq, hr⟩ | ⟨hq, hr⟩
            · have HF := Lib.hid hr
              have hcmp : (Q.toList == (s.extract a (k + 1)).toList) = true := by rw [ba_beq, decide_eq_true (ba_eq.2 (by rw [HQL.out, HSeg.out, hq]))]
              clear HC hq hr
              go_wp2_with fail
              refine wp_region_calm_lit (by kernel_rfl) (by kernel_rfl) ?_
              repeat (go_big_quiet_step (first | (go_at_call 43; exact Calls.calm (Calls.knownS (impl_Quote Z _ hZs (HMr.out.below (Later.bel _))) HQ.out))))
              refine wpQuiet_nil ?_
              intro _ hw'
              obtain ⟨u, rfl⟩ := hw'
              have HBf := Lib.hid (HW.out.trans (u.bel.mono HW.out.size))
              go_wp2
              go_ret2
              exact ⟨ret_si (by rw [HF.out, HZ.out]) (by rw [HF.out]), HBf.out⟩
            · have HF := Lib.hid hr
              have hcmp : (Q.toList == (s.extract a (k + 1)).toList) = false := by rw [ba_beq, decide_eq_false (fun e => hq (by rw [← HQL.out, ← HSeg.out, e]))]
              clear HC hq hr
              go_wp2_with fail
              refine wp_region_calm_lit (by kernel_rfl) (by kernel_rfl) ?_
              repeat (go_big_quiet_step (first | (go_at_call 43; exact Calls.calm (Calls.knownS (impl_Quote Z _ hZs (HMr.out.below (Later.bel _))) HQ.out))))
              refine wpQuiet_nil ?_
              intro _ hw'
              obtain ⟨u, rfl⟩ := hw'
              have HBf := Lib.hid (HW.out.trans (u.bel.mono HW.out.size))
              go_wp2
              go_ret2
              exact ⟨ret_si (by rw [HF.out]) (by rw [HF.out]), HBf.out⟩
          · have n34 : ch ≠ 34 := by rintro rfl; exact c34 rfl
            have n34b : ((ch.toNat : Int) == 34) = false := beq_eq_false_iff_ne.2 c34
            by_cases c92 : (ch.toNat : Int) = 92
            · have e92 : ch = 92 := UInt8.toNat_inj.1 (by show ch.toNat = 92; omega)
              have c92b : ((ch.toNat : Int) == 92) = true := beq_iff_eq.2 c92
              by_cases hlt2 : k + 1 < s.size
              · have hgk2 := getb s hlt2
                obtain ⟨dh, hdh⟩ : ∃ dh, s[k + 1] = dh := ⟨_, rfl⟩
                rw [hdh] at hgk2
                have hdh8 := u8_lt dh
                have HG2 := Lib.hid (hg.out.esc (by rw [hgk, e92]) hgk2)
                clear hgk hgk2 e92 hg
                have Hown2 := Lib.hid (Hown.out.alloc (.cells #[.int .u8 (dh.toNat : Int)] 5))
                have Hrd2 := Lib.hid (Rd.new (enc := encB) (k := 1) (fun _ => rfl) wr #[.int .u8 (dh.toNat : Int)] 5 (n := 1) [dh] rfl rfl)
                have HB3 := Lib.hid (HW.out.alloc hsz (.cells #[.int .u8 (dh.toNat : Int)] 5))
                go_wp2_with (at_builtin; refine wpList_app (enc := encB) (k := 1) (fun _ => rfl) (fun _ u hu => by simp at hu; subst hu; rfl) (by omega) rfl _ _ 28 5 rfl (.int .u8 0) 1 Tryd.underlying28 (by kernel_rfl) rfl w.heap.size _ l rfl Hown2.out _ _ _ _ rfl Hrd2.out (by first | omega | (simp; omega)) (by omega) (by first | omega | (simp; omega)) ?_; intro v2 w2 hown2 hbel2)
                have HB := Lib.hid (HB3.out.trans hbel2)
                clear hbel2
                go_roundw
                case rel => exact ⟨k + 2, l ++ [dh], by omega, by omega, by go_num, by simp; omega, HG2, hown2, HB.out⟩
                case measure => simp [intOf]; omega
              · have hke : k + 1 = s.size := by omega
                have HF := Lib.hid (hg.out.esc_end (by rw [hgk, e92]) (by rw [← HL.out]; omega))
                clear hg hgk e92
                go_wp2
                go_ret2
                exact ⟨ret_si (by rw [HF.out]) (by rw [HF.out]), HW.out⟩
            · have n92 : ch ≠ 92 := by rintro rfl; exact c92 rfl
              have n92b : ((ch.toNat : Int) == 92) = false := beq_eq_false_iff_ne.2 c92
              have HG2 := Lib.hid (hg.out.plain hgk n34 n92)
              clear hgk hg
              have Hown2 := Lib.hid (Hown.out.alloc (.cells #[.int .u8 (ch.toNat : Int)] 5))
              have Hrd2 := Lib.hid (Rd.new (enc := encB) (k := 1) (fun _ => rfl) wr #[.int .u8 (ch.toNat : Int)] 5 (n := 1) [ch] rfl rfl)
              have HB3 := Lib.hid (HW.out.alloc hsz (.cells #[.int .u8 (ch.toNat : Int)] 5))
              go_wp2_with (at_builtin; refine wpList_app (enc := encB) (k := 1) (fun _ => rfl) (fun _ u hu => by simp at hu; subst hu; rfl) (by omega) rfl _ _ 28 5 rfl (.int .u8 0) 1 Tryd.underlying28 (by kernel_rfl) rfl w.heap.size _ l rfl Hown2.out _ _ _ _ rfl Hrd2.out (by first | omega | (simp; omega)) (by omega) (by first | omega | (simp; omega)) ?_; intro v2 w2 hown2 hbel2)
              have HB := Lib.hid (HB3.out.trans hbel2)
              clear hbel2
              go_roundw
              case rel => exact ⟨k + 1, l ++ [ch], by omega, by omega, by go_num, by simp; omega, HG2, hown2, HB.out⟩
              case measure => simp [intOf]; omega
        · have HF := Lib.hid (hg.out.end_ (by rw [← HL.out]; omega))
          have HW := Lib.hid hW
          clear hW hown hg
          go_wp2
          go_ret2
          exact ⟨ret_si (by rw [HF.out]) (by rw [HF.out]), HW.out⟩
    · have HR := Lib.hid (show R = ([], -1) by
        rw [← hR]
        refine unquote_no2 ?_
        rw [hga]
        intro e
        injection e with e
        exact h34 (by rw [e]; rfl))
      have n34b : ((ca.toNat : Int) == 34) = false := beq_eq_false_iff_ne.2 h34
      have n34c : ((ca.toNat : Int) != 34) = true := by unfold bne; rw [n34b]; rfl
      clear hR hga
      go_enter Tryd.func35, Tryd.ntmps35
      go_wp2_with (go_at_call 50; refine (within_any _ _ _ _).mono ?_; rw [hin]; rintro e w' ⟨rfl, rfl⟩)
      go_ret2
      exact ⟨ret_si (by rw [HR.out]) (by rw [HR.out]), Below.refl _ _⟩

end Go.Proofs.YtlehpgnhfpegoaaDoor
