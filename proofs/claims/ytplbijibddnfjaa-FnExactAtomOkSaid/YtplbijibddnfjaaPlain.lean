/-
  Plain lists of bytes: what the program's and the reference's functions compute, in loop style; no Go in sight.
-/
import Derived.WalkKit
namespace Go.Proofs.Ytplbijibddnfjaa
abbrev Str := List UInt8

/-! ### Upper -/
def upB (c : UInt8) : UInt8 := if 97 ≤ c.toNat ∧ c.toNat ≤ 122 then c - 32 else c
def upper (l : Str) : Str := l.map upB

/-! ### Parts -/
def partsGo (b : UInt8) (cur : Str) : Str → List Str
  | [] => [cur]
  | c :: r => if c = b then cur :: partsGo b [] r else partsGo b (cur ++ [c]) r
def parts (b : UInt8) (s : Str) : List Str := partsGo b [] s

/-! ### Joined -/
def joined (by_ : Str) : List Str → Str
  | [] => []
  | [x] => x
  | x :: y :: r => x ++ by_ ++ joined by_ (y :: r)

/-! ### Hex -/
def hexD (n : Nat) : UInt8 := if n < 10 then UInt8.ofNat (48 + n) else UInt8.ofNat (87 + n)
def hex : Str → Str
  | [] => []
  | c :: r => hexD (c.toNat / 16) :: hexD (c.toNat % 16) :: hex r

/-! ### ranges -/
def inR (n lo hi : Int) : Bool := decide (lo ≤ n) && decide (n ≤ hi)

/-! ### Atoms, names, quotables -/
def atomB (c : UInt8) : Bool := decide (33 ≤ c.toNat) && decide (c.toNat ≤ 126) && !(c == 40 || c == 41 || c == 123 || c == 34 || c == 92)
def atomOk (s : Str) : Bool := s.all atomB && inR s.length 1 40
def alnumB (c : UInt8) : Bool := (decide (97 ≤ c.toNat) && decide (c.toNat ≤ 122)) || (decide (65 ≤ c.toNat) && decide (c.toNat ≤ 90)) || (decide (48 ≤ c.toNat) && decide (c.toNat ≤ 57))
def tagOk (s : Str) : Bool := s.all alnumB && inR s.length 1 8

end Go.Proofs.Ytplbijibddnfjaa

namespace Go.Proofs.Ytplbijibddnfjaa
def opText (n : Int) : Str := if n = 1 then [43] else if n = 2 then [45] else if n = 3 then [61] else []
def readOp (s : Str) : Int × Bool := if s = [43] then (1, true) else if s = [45] then (2, true) else if s = [61] then (3, true) else (0, false)
/-- the flags after an operation -/
def changed (op a b : Int) : Int :=
  if (inR a 0 31 && inR b 0 31) = true then
    if op = 1 then bits .or .i64 a b else if op = 2 then bits .andNot .i64 a b else if op = 3 then b else a
  else a
end Go.Proofs.Ytplbijibddnfjaa

namespace Go.Proofs.Ytplbijibddnfjaa
/-! ### bytes: a statement on each of the 256 -/
theorem u8_all (p : UInt8 → Bool) (h : (List.range 256).all (fun n => p (UInt8.ofNat n)) = true) (c : UInt8) : p c = true := by
  have h1 := List.all_eq_true.1 h c.toNat (List.mem_range.2 c.toNat_lt)
  simpa using h1
theorem u8_lt (c : UInt8) : (c.toNat : Int) < 256 := by have := c.toNat_lt; omega
/-- What a loop's round looks at: byte k of s. -/
theorem drop_cons {l : List UInt8} {k : Nat} (h : k < l.length) : l.drop k = l[k] :: l.drop (k + 1) := List.drop_eq_getElem_cons h
theorem all_take_succ {p : UInt8 → Bool} {l : List UInt8} {k : Nat} (h : k < l.length) (ha : (l.take k).all p = true) (hc : p l[k] = true) : (l.take (k + 1)).all p = true := by
  rw [List.take_succ_eq_append_getElem h, List.all_append, ha]
  simp [hc]
theorem all_false {p : UInt8 → Bool} {l : List UInt8} {k : Nat} (h : k < l.length) (hc : p l[k] = false) : l.all p = false := by
  rw [List.all_eq_false]
  exact ⟨l[k], List.getElem_mem h, by simp [hc]⟩
end Go.Proofs.Ytplbijibddnfjaa
