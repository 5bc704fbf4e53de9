/-
  Plain lists of bytes: what the program's and the reference's functions compute, in loop style; no Go in sight.
-/
import Derived.WalkKit
import Derived.Lib.Strings
import Derived.Lib.IndexMore
import Derived.Lib.HexFns
set_option linter.unusedVariables false



namespace Go.Proofs.Ytnphoodoheccoaa
abbrev Str := List UInt8

/-! ### Upper -/
def upB (c : UInt8) : UInt8 := if 97 ≤ c.toNat ∧ c.toNat ≤ 122 then c - 32 else c
def upper (l : Str) : Str := l.map upB

/-! ### Parts -/
def partsGo (b : UInt8) (cur : Str) : Str → List Str
  | [] => [cur]
  | c :: r => if c = b then cur :: partsGo b [] r else partsGo b (cur ++ [c]) r
def parts (b : UInt8) (s : Str) : List Str := partsGo b [] s

/-! ### Joined -/
def joined (by_ : Str) : List Str → Str
  | [] => []
  | [x] => x
  | x :: y :: r => x ++ by_ ++ joined by_ (y :: r)

/-! ### Hex -/
def hexD (n : Nat) : UInt8 := if n < 10 then UInt8.ofNat (48 + n) else UInt8.ofNat (87 + n)
def hex : Str → Str
  | [] => []
  | c :: r => hexD (c.toNat / 16) :: hexD (c.toNat % 16) :: hex r

/-! ### ranges -/
def inR (n lo hi : Int) : Bool := decide (lo ≤ n) && decide (n ≤ hi)

/-! ### Atoms, names, quotables -/
def atomB (c : UInt8) : Bool := decide (33 ≤ c.toNat) && decide (c.toNat ≤ 126) && !(c == 40 || c == 41 || c == 123 || c == 34 || c == 92)
def atomOk (s : Str) : Bool := s.all atomB && inR s.length 1 40
def alnumB (c : UInt8) : Bool := (decide (97 ≤ c.toNat) && decide (c.toNat ≤ 122)) || (decide (65 ≤ c.toNat) && decide (c.toNat ≤ 90)) || (decide (48 ≤ c.toNat) && decide (c.toNat ≤ 57))
def tagOk (s : Str) : Bool := s.all alnumB && inR s.length 1 8

end Go.Proofs.Ytnphoodoheccoaa

namespace Go.Proofs.Ytnphoodoheccoaa
def opText (n : Int) : Str := if n = 1 then [43] else if n = 2 then [45] else if n = 3 then [61] else []
def readOp (s : Str) : Int × Bool := if opText 1 = s then (1, true) else if opText 2 = s then (2, true) else if opText 3 = s then (3, true) else (0, false)
/-- the flags after an operation -/
def changed (op a b : Int) : Int :=
  if (inR a 0 31 && inR b 0 31) = true then
    if op = 1 then bits .or .i64 a b else if op = 2 then bits .andNot .i64 a b else if op = 3 then b else a
  else a
end Go.Proofs.Ytnphoodoheccoaa
namespace Go.Proofs.Ytnphoodoheccoaa
/-- the words of the kinds, as the program's text has them -/
def kindList : List Str := [[], [108, 111, 103, 105, 110], [115, 101, 108, 101, 99, 116], [99, 108, 111, 115, 101], [110, 111, 111, 112], [105, 100, 108, 101], [110, 111, 116, 105, 102, 121], [102, 101, 116, 99, 104], [115, 116, 111, 114, 101], [101, 120, 112, 117, 110, 103, 101], [99, 111, 112, 121], [97, 112, 112, 101, 110, 100], [99, 114, 101, 97, 116, 101], [100, 101, 108, 101, 116, 101], [114, 101, 110, 97, 109, 101], [108, 111, 103, 111, 117, 116]]
def kindWord (k : Int) : Str := if inR k 1 15 = true then kindList.getD k.toNat [] else []
end Go.Proofs.Ytnphoodoheccoaa

namespace Go.Proofs.Ytnphoodoheccoaa
/-! ### bytes: a statement on each of the 256 -/
theorem u8_all (p : UInt8 → Bool) (h : (List.range 256).all (fun n => p (UInt8.ofNat n)) = true) (c : UInt8) : p c = true := by
  have h1 := List.all_eq_true.1 h c.toNat (List.mem_range.2 c.toNat_lt)
  simpa using h1
theorem u8_lt (c : UInt8) : (c.toNat : Int) < 256 := by have := c.toNat_lt; omega
/-- What a loop's round looks at: byte k of s. -/
theorem drop_cons {l : List UInt8} {k : Nat} (h : k < l.length) : l.drop k = l[k] :: l.drop (k + 1) := List.drop_eq_getElem_cons h
theorem all_take_succ {p : UInt8 → Bool} {l : List UInt8} {k : Nat} (h : k < l.length) (ha : (l.take k).all p = true) (hc : p l[k] = true) : (l.take (k + 1)).all p = true := by
  rw [List.take_succ_eq_append_getElem h, List.all_append, ha]
  simp [hc]
theorem all_false {p : UInt8 → Bool} {l : List UInt8} {k : Nat} (h : k < l.length) (hc : p l[k] = false) : l.all p = false := by
  rw [List.all_eq_false]
  exact ⟨l[k], List.getElem_mem h, by simp [hc]⟩
end Go.Proofs.Ytnphoodoheccoaa
namespace Go.Proofs.Ytnphoodoheccoaa
/-! ### Upper: what a loop over the bytes has done after k rounds -/
def upTo (l : Str) (k : Nat) : Str := (l.take k).map upB ++ l.drop k
theorem upTo_zero (l : Str) : upTo l 0 = l := by simp [upTo]
theorem upTo_len (l : Str) (k : Nat) : (upTo l k).length = l.length := by simp [upTo]; omega
theorem upTo_all (l : Str) {k : Nat} (h : l.length ≤ k) : upTo l k = upper l := by
  simp [upTo, upper, List.take_of_length_le h, List.drop_eq_nil_of_le h]
theorem upTo_at (l : Str) {k : Nat} (h : k < l.length) : (upTo l k)[k]? = some l[k] := by
  unfold upTo
  rw [List.getElem?_append_right (by rw [List.length_map, List.length_take]; omega), List.length_map, List.length_take, Nat.min_eq_left (by omega), Nat.sub_self, drop_cons h]
  rfl
theorem upTo_set (l : Str) {k : Nat} (h : k < l.length) : (upTo l k).set k (upB l[k]) = upTo l (k + 1) := by
  unfold upTo
  rw [List.set_append_right _ _ (by rw [List.length_map, List.length_take]; omega), List.length_map, List.length_take, Nat.min_eq_left (by omega), Nat.sub_self, drop_cons h, List.take_succ_eq_append_getElem h, List.set_cons_zero, List.map_append, List.append_assoc]
  rfl
theorem upTo_skip (l : Str) {k : Nat} (h : k < l.length) (hu : upB l[k] = l[k]) : upTo l k = upTo l (k + 1) := by
  rw [← upTo_set l h, hu]
  have h1 := upTo_at l h
  obtain ⟨hl, e⟩ := List.getElem?_eq_some_iff.1 h1
  rw [← e]
  exact (List.set_getElem_self hl).symm
theorem upB_low {c : UInt8} (h : 97 ≤ (c.toNat : Int)) (h2 : (c.toNat : Int) ≤ 122) : ((upB c).toNat : Int) = (c.toNat : Int) - 32 := by
  unfold upB
  rw [if_pos (by omega), UInt8.toNat_sub_of_le c 32 (by rw [UInt8.le_iff_toNat_le]; simp; omega)]
  simp; omega
theorem upB_other {c : UInt8} (h : ¬ (97 ≤ (c.toNat : Int) ∧ (c.toNat : Int) ≤ 122)) : upB c = c := by
  unfold upB
  rw [if_neg (by omega)]
theorem alnum_up (c : UInt8) : alnumB c = true ↔ (65 ≤ ((upB c).toNat : Int) ∧ ((upB c).toNat : Int) ≤ 90) ∨ (48 ≤ ((upB c).toNat : Int) ∧ ((upB c).toNat : Int) ≤ 57) := by
  have h := u8_all (fun c => alnumB c == decide ((65 ≤ ((upB c).toNat : Int) ∧ ((upB c).toNat : Int) ≤ 90) ∨ (48 ≤ ((upB c).toNat : Int) ∧ ((upB c).toNat : Int) ≤ 57))) (by decide +kernel) c
  rw [beq_iff_eq.1 h, decide_eq_true_iff]
theorem alnum_in (c : UInt8) : alnumB c = (inR (c.toNat : Int) 97 122 || inR (c.toNat : Int) 65 90 || inR (c.toNat : Int) 48 57) := by
  have h := u8_all (fun c => alnumB c == (inR (c.toNat : Int) 97 122 || inR (c.toNat : Int) 65 90 || inR (c.toNat : Int) 48 57)) (by decide +kernel) c
  exact beq_iff_eq.1 h
end Go.Proofs.Ytnphoodoheccoaa

namespace Go.Proofs.Ytnphoodoheccoaa
/-! ### the laws' own marks: a letter m, then the decimal digits -/
def mtGo : Nat → Nat → Str → Str
  | 0, _, l => l
  | f + 1, k, l => if k = 0 then l else mtGo f (k / 10) (UInt8.ofNat (48 + k % 10) :: l)
def mt (n : Int) : Str := if n ≤ 0 then [109, 48] else 109 :: mtGo n.toNat n.toNat []
theorem mtGo_fuel : ∀ (f g k : Nat) (l : Str), k ≤ f → k ≤ g → mtGo f k l = mtGo g k l
  | 0, g, k, l, h, _ => by
    obtain rfl : k = 0 := by omega
    cases g <;> simp [mtGo]
  | f + 1, 0, k, l, _, h => by
    obtain rfl : k = 0 := by omega
    simp [mtGo]
  | f + 1, g + 1, k, l, h1, h2 => by
    unfold mtGo
    by_cases hk : k = 0
    · rw [if_pos hk, if_pos hk]
    · rw [if_neg hk, if_neg hk]
      exact mtGo_fuel f g _ _ (by omega) (by omega)
theorem mtGo_step (k : Nat) (l : Str) (h : 0 < k) : mtGo k k l = mtGo (k / 10) (k / 10) (UInt8.ofNat (48 + k % 10) :: l) := by
  obtain ⟨f, rfl⟩ : ∃ f, k = f + 1 := ⟨k - 1, by omega⟩
  rw [mtGo, if_neg (by omega)]
  exact mtGo_fuel _ _ _ _ (by omega) (Nat.le_refl _)
theorem mtGo_len : ∀ (f k : Nat) (l : Str), k ≤ f → (mtGo f k l).length ≤ l.length + k
  | 0, k, l, h => by simp [mtGo]
  | f + 1, k, l, h => by
    rw [mtGo]
    split
    · omega
    · have := mtGo_len f (k / 10) (UInt8.ofNat (48 + k % 10) :: l) (by omega)
      simp only [List.length_cons] at this; omega
end Go.Proofs.Ytnphoodoheccoaa
namespace Go.Proofs.Ytnphoodoheccoaa
/-! ### Parts, round by round -/
theorem partsGo_hit {b : UInt8} {l : Str} {k j : Nat} (h : k < l.length) (hj : j ≤ k) (hc : l[k] = b) :
    partsGo b ((l.take k).drop j) (l.drop k) = (l.take k).drop j :: partsGo b ((l.take (k + 1)).drop (k + 1)) (l.drop (k + 1)) := by
  rw [drop_cons h, partsGo, if_pos hc, List.drop_eq_nil_of_le (as := l.take (k + 1)) (by rw [List.length_take]; omega)]
theorem partsGo_miss {b : UInt8} {l : Str} {k j : Nat} (h : k < l.length) (hj : j ≤ k) (hc : ¬ l[k] = b) :
    partsGo b ((l.take k).drop j) (l.drop k) = partsGo b ((l.take (k + 1)).drop j) (l.drop (k + 1)) := by
  rw [drop_cons h, partsGo, if_neg hc, List.take_succ_eq_append_getElem h, List.drop_append_of_le_length (by simp; omega)]
theorem partsGo_end (b : UInt8) (l : Str) (j : Nat) : partsGo b ((l.take l.length).drop j) (l.drop l.length) = [l.drop j] := by
  rw [List.take_of_length_le (Nat.le_refl _), List.drop_eq_nil_of_le (Nat.le_refl _), partsGo]
theorem extract_str (s : ByteArray) (i j : Nat) : s.extract i j = ⟨((s.data.toList.take j).drop i).toArray⟩ := by
  have h := Lib.extract_data s i j
  have h2 : (s.extract i j).data.toList = (s.data.toList.take j).drop i := by rw [h, List.drop_take]
  rw [← h2]
abbrev encStr (l : Str) : List Value := [.string ⟨l.toArray⟩]
end Go.Proofs.Ytnphoodoheccoaa
namespace Go.Proofs.Ytnphoodoheccoaa
def marks (k0 : Int) (n : Nat) : List Str := (List.range n).map fun j => mt (k0 + (j : Nat))
theorem marks_len (k0 : Int) (n : Nat) : (marks k0 n).length = n := by simp [marks]
theorem marks_at (k0 : Int) {n j : Nat} (h : j < n) : (marks k0 n)[j]? = some (mt (k0 + (j : Nat))) := by simp [marks, h]
theorem marks_succ (k0 : Int) (n : Nat) : marks k0 (n + 1) = marks k0 n ++ [mt (k0 + (n : Nat))] := by simp [marks, List.range_succ]
theorem marks_set (k0 : Int) (j : Nat) (xs : List Str) (h : j < xs.length) : (marks k0 j ++ xs.drop j).set j (mt (k0 + (j : Nat))) = marks k0 (j + 1) ++ xs.drop (j + 1) := by
  rw [List.set_append_right _ _ (by rw [marks_len]; exact Nat.le_refl _), marks_len, Nat.sub_self, List.drop_eq_getElem_cons h, marks_succ, List.set_cons_zero, List.append_assoc]
  rfl
theorem flat_setS (l : List Str) (k : Nat) (c : Str) : (l.flatMap encStr).set k (.string ⟨c.toArray⟩) = (l.set k c).flatMap encStr := by
  induction l generalizing k with
  | nil => rfl
  | cons x r ih =>
    cases k with
    | zero => rfl
    | succ k =>
      rw [List.flatMap_cons, List.set_cons_succ, List.flatMap_cons, ← ih k]
      rfl
end Go.Proofs.Ytnphoodoheccoaa

namespace Go.Proofs.Ytnphoodoheccoaa
/-! ### spans -/
abbrev Span := Int × Int
abbrev encSpan (x : Span) : List Value := [.int .i64 x.1, .int .i64 x.2]
def spanOk (x : Span) : Bool := inR x.1 0 999999999 && inR x.2 0 999999999
def setOk (l : List Span) : Bool := l.all spanOk && inR l.length 1 5
theorem flat_set2 : ∀ (l : List Span) (j : Nat) (x : Span), ((l.flatMap encSpan).set (j * 2) (.int .i64 x.1)).set (j * 2 + 1) (.int .i64 x.2) = (l.set j x).flatMap encSpan
  | [], j, x => by simp
  | y :: r, 0, x => rfl
  | y :: r, j + 1, x => by
    have ih := flat_set2 r j x
    rw [List.set_cons_succ, List.flatMap_cons, List.flatMap_cons, ← ih, show (j + 1) * 2 = j * 2 + 1 + 1 from by omega]
    rfl
theorem take_set {α : Type} (xs : List α) (y0 x : α) (n j : Nat) (hl : xs.length = n) (hj : j < n) (hx : xs[j]? = some x) :
    (xs.take j ++ List.replicate (n - j) y0).set j x = xs.take (j + 1) ++ List.replicate (n - (j + 1)) y0 := by
  obtain ⟨h1, h2⟩ := List.getElem?_eq_some_iff.1 hx
  rw [List.set_append_right _ _ (by rw [List.length_take]; omega), List.length_take, Nat.min_eq_left (by omega), Nat.sub_self,
    show n - j = (n - (j + 1)) + 1 from by omega, List.replicate_succ, List.set_cons_zero, List.take_succ_eq_append_getElem h1, h2, List.append_assoc]
  rfl
theorem take_at {α : Type} (xs : List α) (y0 : α) (n j : Nat) (hl : xs.length = n) (hj : j < n) : (xs.take j ++ List.replicate (n - j) y0)[j]? = some y0 := by
  rw [List.getElem?_append_right (by rw [List.length_take]; omega), List.length_take, Nat.min_eq_left (by omega), Nat.sub_self, List.getElem?_replicate, if_pos (by omega)]
def szLeft (left n : Int) : Int := if left < n then -1 else left - n
theorem szLeft_neg {l n : Int} (h : szLeft l n < 0) : szLeft l n = -1 := by
  unfold szLeft at h ⊢
  by_cases c : l < n
  · rw [if_pos c]
  · rw [if_neg c] at h; omega
theorem szLeft_pos {l n : Int} (h : ¬ szLeft l n < 0) : szLeft l n = l - n := by
  unfold szLeft at h ⊢
  by_cases c : l < n
  · rw [if_pos c] at h; omega
  · rw [if_neg c]
end Go.Proofs.Ytnphoodoheccoaa

namespace Go.Proofs.Ytnphoodoheccoaa
/-! ### what a loop over a list has tested -/
theorem allB_succ {α : Type} {p : α → Bool} {xs : List α} {k : Nat} {x : α} (h : ∀ (j : Nat) (y : α), j < k → xs[j]? = some y → p y = true) (hx : xs[k]? = some x) (hp : p x = true) :
    ∀ (j : Nat) (y : α), j < k + 1 → xs[j]? = some y → p y = true := by
  intro j y hj hy
  by_cases hk : j < k
  · exact h j y hk hy
  · have e : j = k := by omega
    subst e
    rw [hx] at hy
    rw [← Option.some.inj hy]; exact hp
theorem allB_false {α : Type} {p : α → Bool} {xs : List α} {k : Nat} {x : α} (hx : xs[k]? = some x) (hp : p x = false) : xs.all p = false := by
  rw [List.all_eq_false]
  exact ⟨x, List.mem_of_getElem? hx, by simp [hp]⟩
theorem allB_true {α : Type} {p : α → Bool} {xs : List α} (h : ∀ (j : Nat) (y : α), xs[j]? = some y → p y = true) : xs.all p = true := by
  rw [List.all_eq_true]
  intro x hx
  obtain ⟨j, hj, e⟩ := List.getElem_of_mem hx
  exact h j x (by rw [List.getElem?_eq_getElem hj, e])
theorem anyF_succ {α : Type} {p : α → Bool} {xs : List α} {k : Nat} {x : α} (h : ∀ (j : Nat) (y : α), j < k → xs[j]? = some y → p y = false) (hx : xs[k]? = some x) (hp : p x = false) :
    ∀ (j : Nat) (y : α), j < k + 1 → xs[j]? = some y → p y = false := by
  intro j y hj hy
  by_cases hk : j < k
  · exact h j y hk hy
  · have e : j = k := by omega
    subst e
    rw [hx] at hy
    rw [← Option.some.inj hy]; exact hp
end Go.Proofs.Ytnphoodoheccoaa

namespace Go.Proofs.Ytnphoodoheccoaa
/-! ### hexadecimal -/
theorem hexDigit_low : ∀ d : Nat, d < 10 → ((Lib.Hx.digit d).toNat : Int) = (d : Int) + 48 := by decide
theorem hexDigit_high : ∀ d : Nat, d < 16 → ¬ d < 10 → ((Lib.Hx.digit d).toNat : Int) = (d : Int) - 10 + 97 := by decide
theorem hexEnc_take {l : List UInt8} {k : Nat} (hk : k < l.length) : Lib.Hx.encode (l.take (k + 1)) = Lib.Hx.encode (l.take k) ++ [Lib.Hx.digit (l[k].toNat / 16), Lib.Hx.digit (l[k].toNat % 16)] := by
  unfold Lib.Hx.encode
  rw [List.take_succ_eq_append_getElem hk, List.flatMap_append]
  rfl
end Go.Proofs.Ytnphoodoheccoaa

namespace Go.Proofs.Ytnphoodoheccoaa
/-! ### names of mailboxes -/
def lcB (c : UInt8) : Bool := decide (97 ≤ (c.toNat : Int)) && decide ((c.toNat : Int) ≤ 122)
def nmB (c : UInt8) : Bool := decide (c = 47) || lcB c
def slashAt (s : Str) (i : Nat) : Bool := decide (s[i]? = some 47)
/-- The byte at place i does not fit a name. -/
def badAt (s : Str) (i : Nat) : Bool :=
  (slashAt s i && (decide (i = 0) || decide (i + 1 = s.length) || slashAt s (i - 1))) || (!slashAt s i && !lcB (s.getD i 0))
def nameOk (s : Str) : Bool := (List.range s.length).all (fun i => !badAt s i) && inR s.length 1 12
theorem contains_cons (b : UInt8) (l sub : Str) : Lib.contains (b :: l) sub = (sub.isPrefixOf (b :: l) || Lib.contains l sub) := by
  unfold Lib.contains
  rw [Lib.index]
  have := Lib.index_ge l sub
  by_cases h : sub.isPrefixOf (b :: l) = true
  · rw [if_pos h, h]; rfl
  · rw [if_neg h]
    have hf : sub.isPrefixOf (b :: l) = false := Bool.not_eq_true _ ▸ h
    rw [hf, Bool.false_or]
    by_cases h2 : Lib.index l sub = -1
    · rw [if_pos (by simp [h2]), h2]
    · rw [if_neg (by simp [h2])]
      rw [decide_eq_true (show 0 ≤ Lib.index l sub + 1 by omega), decide_eq_true (show 0 ≤ Lib.index l sub by omega)]
theorem contains_slashes (s : Str) : Lib.contains s [47, 47] = true ↔ ∃ i : Nat, s[i]? = some 47 ∧ s[i + 1]? = some 47 := by
  induction s with
  | nil => simp [Lib.contains, Lib.index]
  | cons b l ih =>
    rw [contains_cons, Bool.or_eq_true, ih]
    constructor
    · rintro (h | ⟨i, h1, h2⟩)
      · refine ⟨0, ?_⟩
        cases l with
        | nil => simp [List.isPrefixOf] at h
        | cons c r => simp [List.isPrefixOf] at h; simp [h.1.symm, h.2.symm]
      · exact ⟨i + 1, by simpa using h1, by simpa using h2⟩
    · rintro ⟨i, h1, h2⟩
      cases i with
      | zero =>
        left
        cases l with
        | nil => simp at h2
        | cons c r => simp at h1 h2; simp [List.isPrefixOf, h1, h2]
      | succ i => exact .inr ⟨i, by simpa using h1, by simpa using h2⟩
theorem nameOk_bad {s : Str} {i : Nat} (h : i < s.length) (hb : badAt s i = true) : nameOk s = false := by
  unfold nameOk
  have : (List.range s.length).all (fun i => !badAt s i) = false := by
    rw [List.all_eq_false]
    exact ⟨i, List.mem_range.2 h, by simp [hb]⟩
  rw [this, Bool.false_and]
theorem nameOk_good {s : Str} (h : ∀ i, i < s.length → badAt s i = false) : nameOk s = inR s.length 1 12 := by
  unfold nameOk
  have : (List.range s.length).all (fun i => !badAt s i) = true := by
    rw [List.all_eq_true]
    intro i hi
    simp [h i (List.mem_range.1 hi)]
  rw [this, Bool.true_and]
/-- The program's way: every byte is one of a name's; the ends and the neighbours afterwards. -/
theorem nameOk_byte {s : Str} {i : Nat} (h : i < s.length) (hb : nmB s[i] = false) : nameOk s = false := by
  refine nameOk_bad h ?_
  have hg : s.getD i 0 = s[i] := by simp [h]
  have hs : slashAt s i = false := by
    unfold slashAt; unfold nmB at hb
    rw [decide_eq_false_iff_not, List.getElem?_eq_getElem h]
    intro e
    rw [Bool.or_eq_false_iff, decide_eq_false_iff_not] at hb
    exact hb.1 (Option.some.inj e)
  unfold badAt
  unfold nmB at hb
  rw [hs, hg, (Bool.or_eq_false_iff.1 hb).2]
  rfl
theorem nameOk_rest {s : Str} (h : s.all nmB = true) : nameOk s = (inR s.length 1 12 && (!slashAt s 0 && (!slashAt s (s.length - 1) && !Lib.contains s [47, 47]))) := by
  have hb : ∀ i, i < s.length → slashAt s i = false → badAt s i = false := by
    intro i hi hs
    have h1 := List.all_eq_true.1 h s[i] (List.getElem_mem hi)
    unfold slashAt at hs
    rw [decide_eq_false_iff_not, List.getElem?_eq_getElem hi] at hs
    unfold nmB at h1
    rw [decide_eq_false (fun e => hs (by rw [e])), Bool.false_or] at h1
    unfold badAt slashAt
    rw [List.getElem?_eq_getElem hi, decide_eq_false hs]
    simp [hi, h1]
  by_cases h0 : slashAt s 0 = true
  · rw [h0]
    have hl : 0 < s.length := by
      unfold slashAt at h0; rw [decide_eq_true_iff] at h0
      exact (List.getElem?_eq_some_iff.1 h0).1
    rw [nameOk_bad hl (by unfold badAt; rw [h0]; simp)]
    simp
  by_cases h1 : slashAt s (s.length - 1) = true
  · rw [h1]
    have hl : s.length - 1 < s.length := by
      unfold slashAt at h1; rw [decide_eq_true_iff] at h1
      exact (List.getElem?_eq_some_iff.1 h1).1
    rw [nameOk_bad hl (by unfold badAt; rw [h1]; simp; omega)]
    simp
  by_cases h2 : Lib.contains s [47, 47] = true
  · rw [h2]
    obtain ⟨i, e1, e2⟩ := (contains_slashes s).1 h2
    have hl : i + 1 < s.length := (List.getElem?_eq_some_iff.1 e2).1
    rw [nameOk_bad hl (by unfold badAt slashAt; rw [e2, Nat.add_sub_cancel, e1]; simp)]
    simp
  rw [Bool.not_eq_true] at h0 h1 h2
  rw [h0, h1, h2]
  rw [nameOk_good]
  · simp
  · intro i hi
    cases hs : slashAt s i with
    | false => exact hb i hi hs
    | true =>
      have n0 : ¬ i = 0 := by intro e; subst e; rw [h0] at hs; cases hs
      have n1 : ¬ i + 1 = s.length := by
        intro e
        rw [show i = s.length - 1 from by omega, h1] at hs; cases hs
      have n2 : slashAt s (i - 1) = false := by
        rw [← Bool.not_eq_true]
        intro e
        have : Lib.contains s [47, 47] = true := (contains_slashes s).2 ⟨i - 1, by simpa [slashAt] using e, by rw [show i - 1 + 1 = i from by omega]; simpa [slashAt] using hs⟩
        rw [h2] at this; cases this
      unfold badAt
      rw [hs, n2, decide_eq_false n0, decide_eq_false n1]
      rfl
/-! ### below another name -/
def underIn (name top : Str) : Bool := nameOk name && (nameOk top && (decide (name = top) || Lib.hasPrefix name (top ++ [47])))
end Go.Proofs.Ytnphoodoheccoaa
namespace Go.Proofs.Ytnphoodoheccoaa
theorem hasPrefix_sep (n t : Str) : Lib.hasPrefix n (t ++ [47]) = (decide (t.length < n.length) && (decide (n.take t.length = t) && slashAt n t.length)) := by
  unfold Lib.hasPrefix slashAt
  rw [Bool.eq_iff_iff]
  simp only [Bool.and_eq_true, decide_eq_true_eq, List.isPrefixOf_iff_prefix]
  constructor
  · rintro ⟨r, rfl⟩
    simp
  · rintro ⟨h1, h2, h3⟩
    refine ⟨n.drop (t.length + 1), ?_⟩
    have h4 : n = n.take t.length ++ n.drop t.length := (List.take_append_drop _ _).symm
    have h5 : n.drop t.length = 47 :: n.drop (t.length + 1) := by
      rw [List.drop_eq_getElem_cons h1]
      rw [List.getElem?_eq_getElem h1] at h3
      rw [Option.some.inj h3]
    rw [h5, h2] at h4
    rw [List.append_assoc]
    exact h4.symm
end Go.Proofs.Ytnphoodoheccoaa

namespace Go.Proofs.Ytnphoodoheccoaa
/-! ### the first part -/
theorem partsGo_head (b : UInt8) : ∀ (s cur : Str), ∃ t, partsGo b cur s = (cur ++ s.takeWhile (fun c => !decide (c = b))) :: t
  | [], cur => ⟨[], by simp [partsGo]⟩
  | c :: r, cur => by
    rw [partsGo]
    by_cases h : c = b
    · rw [if_pos h]; exact ⟨partsGo b [] r, by simp [h]⟩
    · rw [if_neg h]
      obtain ⟨t, ht⟩ := partsGo_head b r (cur ++ [c])
      exact ⟨t, by rw [ht]; simp [h]⟩
theorem parts_head (b : UInt8) (s : Str) : ∃ t, parts b s = s.takeWhile (fun c => !decide (c = b)) :: t := partsGo_head b s []
theorem index_one_head (b : UInt8) : ∀ (s : Str), (0 ≤ Lib.index s [b] → s.takeWhile (fun c => !decide (c = b)) = s.take (Lib.index s [b]).toNat) ∧ (¬ 0 ≤ Lib.index s [b] → s.takeWhile (fun c => !decide (c = b)) = s)
  | [] => by simp [Lib.index]
  | c :: r => by
    have ih := index_one_head b r
    have hge := Lib.index_ge r [b]
    rw [Lib.index]
    by_cases h : c = b
    · have hp : ([b] : List UInt8).isPrefixOf (c :: r) = true := by simp [List.isPrefixOf, h]
      rw [if_pos hp]
      exact ⟨fun _ => by simp [h], fun h => absurd h (by omega)⟩
    · have hp : ¬ ([b] : List UInt8).isPrefixOf (c :: r) = true := by simp [List.isPrefixOf]; exact fun e => h e.symm
      rw [if_neg hp]
      have htw : (c :: r).takeWhile (fun c => !decide (c = b)) = c :: r.takeWhile (fun c => !decide (c = b)) := by simp [h]
      rw [htw]
      by_cases h2 : Lib.index r [b] = -1
      · rw [if_pos (by simp [h2])]
        exact ⟨fun h => absurd h (by omega), fun _ => by rw [ih.2 (by omega)]⟩
      · rw [if_neg (by simp [h2])]
        refine ⟨fun _ => ?_, fun h => absurd h (by omega)⟩
        rw [ih.1 (by omega), show (Lib.index r [b] + 1).toNat = (Lib.index r [b]).toNat + 1 from by omega, List.take_succ_cons]
theorem cut_head (b : UInt8) (s : Str) : (Lib.cut s [b]).1 = s.takeWhile (fun c => !decide (c = b)) := by
  unfold Lib.cut
  by_cases h : 0 ≤ Lib.index s [b]
  · rw [if_pos h, (index_one_head b s).1 h]
  · rw [if_neg h, (index_one_head b s).2 h]
/-- the tag at the head of a line -/
def tagIn (s : Str) : Str := if tagOk (s.takeWhile (fun c => !decide (c = 32))) then s.takeWhile (fun c => !decide (c = 32)) else [42]
end Go.Proofs.Ytnphoodoheccoaa
