/-
  Walks: what each function returns, and that it leaves what lay in memory as it was.
-/
import Derived.Test.YtgdebejmcfcpgaaProg
import Derived.Test.YtgdebejmcfcpgaaPlain
import Derived.Test.YtgdebejmcfcpgaaBase2
import Derived.Test.YtgdebejmcfcpgaaOpen2
import Derived.Test.YtgdebejmcfcpgaaShelf
import Derived.WalkKit
import Derived.WalkSpells
import Derived.WalkLawsBesides
import Derived.Lib.Hide
import Derived.Deep.LoopGhost
import Derived.Deep.QuietTactic
import Derived.BigQuiet
import Derived.Handy
import Derived.Deep.RegionHeld3
import Derived.StillTailTactics
import Derived.OpenShut
import Derived.ChangeSame
import Derived.Laws.StructEq

import Derived.Test.YtgdebejmcfcpgaaPlainT

import Derived.Test.YtgdebejmcfcpgaaW1

import Derived.Test.YtgdebejmcfcpgaaW4

import Derived.Test.YtgdebejmcfcpgaaBase3

namespace Go.Proofs.Ytgdebejmcfcpgaa
open Go.ChangeShapes Go.WideShapes Go.ChangeAt Go.RowKit Go.Deep
set_option linter.unusedVariables false
set_option linter.unusedSimpArgs false

set_option maxHeartbeats 800000 in
theorem impl_Upper (s : ByteArray) (w : World) (hs : s.size ≤ maxLen) :
    Calls Try.prog 11 #[.string s] w fun e w' => e = .returned (.string ⟨(upper s.data.toList).toArray⟩) ∧ Below w.heap.size w w' := by
  unfold maxLen at hs
  have HL := Lib.hid (size_len s)
  go_enter Try.func11, Try.ntmps11
  go_wp2_with (refine wpList_toBytes rfl 9 22 5 _ rfl Try.underlying9 Try.underlying22 Try.underlying5 s rfl ?_; intro w1 g cap hbuf hbel hg hcap)
  go_loopw [10] (fun i wr => ∃ k : Nat, k ≤ s.size ∧ i = .int .i64 k ∧ Buf wr g ((upTo s.data.toList k).flatMap encB) ∧ Below w.heap.size w wr) (fun i _ => s.size - (intOf i).toNat)
  case atStart => exact ⟨0, Nat.zero_le _, rfl, by rw [upTo_zero]; exact hbuf, hbel⟩
  case round =>
    obtain ⟨k, hk, rfl, hB, hW⟩ := hrel
    by_cases hlt : k < s.size
    · have hlt' : k < s.data.toList.length := by rw [← HL.out]; exact hlt
      have hat : ((upTo s.data.toList k).flatMap encB)[k]? = some (.int .u8 (s.data.toList[k].toNat : Int)) := by
        have := flat_get (enc := encB) (k := 1) (fun _ => rfl) _ k 0 _ _ (upTo_at _ hlt') rfl
        simpa using this
      have hc := hB.cell hat
      have hf : wr.frozen? ⟨g, k, none⟩ = false := hB.frozen (List.getElem?_eq_some_iff.1 hat).1
      have hset : ∀ v : UInt8, v = upB s.data.toList[k] → Buf (wr.setCell ⟨g, k, none⟩ (.int .u8 (v.toNat : Int))) g ((upTo s.data.toList (k + 1)).flatMap encB) := by
        intro v hv
        have h := hB.set k (.int .u8 (v.toNat : Int))
        rw [flat_set] at h
        rw [← upTo_set _ hlt', ← hv]
        exact h
      have hskip := upTo_skip s.data.toList hlt'
      have hlow := @upB_low s.data.toList[k]
      have hoth := @upB_other s.data.toList[k]
      have Hset := Lib.hid hset
      have Hskip := Lib.hid hskip
      have Hlow := Lib.hid hlow
      have Hoth := Lib.hid hoth
      have HB := Lib.hid hB
      have hlt256 := u8_lt s.data.toList[k]
      generalize s.data.toList[k] = c at *
      clear hset hskip hlow hoth hat hB hlt' hbuf hbel
      by_cases h1 : (97 : Int) ≤ (c.toNat : Int)
      · by_cases h2 : (c.toNat : Int) ≤ 122
        · go_wp2
          go_roundw
          case rel => exact ⟨k + 1, by omega, by go_num, by have := Hset.out _ rfl; rw [Hlow.out h1 h2] at this; rw [show (c.toNat : Int) - 97 + 65 = (c.toNat : Int) - 32 from by omega]; exact this, hW.setCell hg _⟩
          case measure => simp [intOf]; omega
        · have h2' : decide ((c.toNat : Int) ≤ 122) = false := by simpa using h2
          go_wp2
          go_roundw
          case rel => exact ⟨k + 1, by omega, by go_num, by rw [← Hskip.out (Hoth.out (by omega))]; exact HB.out, hW⟩
          case measure => simp [intOf]; omega
      · have h1' : decide ((97 : Int) ≤ (c.toNat : Int)) = false := by simpa using h1
        go_wp2
        go_roundw
        case rel => exact ⟨k + 1, by omega, by go_num, by rw [← Hskip.out (Hoth.out (by omega))]; exact HB.out, hW⟩
        case measure => simp [intOf]; omega
    · have hke : k = s.size := by omega
      subst hke
      have hfin : (upTo s.data.toList s.size) = upper s.data.toList := upTo_all _ (by rw [HL.out]; exact Nat.le_refl _)
      rw [hfin] at hB
      have hcv := run_ofBytes (P := Try.prog) 22 9 5 Try.underlying22 Try.underlying5 Try.underlying9 (Buf.rd (enc := encB) (k := 1) (fun _ => rfl) hB (n := s.size) (by rw [HL.out]; simp [upper])) cap
      clear hB hbuf hfin
      go_wp2
      go_ret
      exact ⟨rfl, hW⟩
set_option maxHeartbeats 800000 in
theorem spec_Upper (s : ByteArray) (w : World) (hs : s.size ≤ maxLen) :
    Calls Try.prog 12 #[.string s] w fun e w' => e = .returned (.string ⟨(upper s.data.toList).toArray⟩) ∧ Below w.heap.size w w' := by
  unfold maxLen at hs
  have HL := Lib.hid (size_len s)
  go_enter Try.func12, Try.ntmps12
  go_wp2_with (refine wpList_toBytes rfl 9 22 5 _ rfl Try.underlying9 Try.underlying22 Try.underlying5 s rfl ?_; intro w1 g cap hbuf hbel hg hcap)
  go_loopw [4] (fun i wr => ∃ k : Nat, k ≤ s.size ∧ i = .int .i64 k ∧ Buf wr g ((upTo s.data.toList k).flatMap encB) ∧ Below w.heap.size w wr) (fun i _ => s.size - (intOf i).toNat)
  case atStart => exact ⟨0, Nat.zero_le _, rfl, by rw [upTo_zero]; exact hbuf, hbel⟩
  case round =>
    obtain ⟨k, hk, rfl, hB, hW⟩ := hrel
    by_cases hlt : k < s.size
    · have hlt' : k < s.data.toList.length := by rw [← HL.out]; exact hlt
      have hat : ((upTo s.data.toList k).flatMap encB)[k]? = some (.int .u8 (s.data.toList[k].toNat : Int)) := by
        have := flat_get (enc := encB) (k := 1) (fun _ => rfl) _ k 0 _ _ (upTo_at _ hlt') rfl
        simpa using this
      have hc := hB.cell hat
      have hf : wr.frozen? ⟨g, k, none⟩ = false := hB.frozen (List.getElem?_eq_some_iff.1 hat).1
      have hset : ∀ v : UInt8, v = upB s.data.toList[k] → Buf (wr.setCell ⟨g, k, none⟩ (.int .u8 (v.toNat : Int))) g ((upTo s.data.toList (k + 1)).flatMap encB) := by
        intro v hv
        have h := hB.set k (.int .u8 (v.toNat : Int))
        rw [flat_set] at h
        rw [← upTo_set _ hlt', ← hv]
        exact h
      have hskip := upTo_skip s.data.toList hlt'
      have hlow := @upB_low s.data.toList[k]
      have hoth := @upB_other s.data.toList[k]
      have Hset := Lib.hid hset
      have Hskip := Lib.hid hskip
      have Hlow := Lib.hid hlow
      have Hoth := Lib.hid hoth
      have HB := Lib.hid hB
      have hlt256 := u8_lt s.data.toList[k]
      generalize s.data.toList[k] = c at *
      clear hset hskip hlow hoth hat hB hlt' hbuf hbel
      by_cases h1 : (97 : Int) ≤ (c.toNat : Int)
      · by_cases h2 : (c.toNat : Int) ≤ 122
        · go_wp2
          go_roundw
          case rel => exact ⟨k + 1, by omega, by go_num, by have := Hset.out _ rfl; rw [Hlow.out h1 h2] at this; exact this, hW.setCell hg _⟩
          case measure => simp [intOf]; omega
        · have h2' : decide ((c.toNat : Int) ≤ 122) = false := by simpa using h2
          go_wp2
          go_roundw
          case rel => exact ⟨k + 1, by omega, by go_num, by rw [← Hskip.out (Hoth.out (by omega))]; exact HB.out, hW⟩
          case measure => simp [intOf]; omega
      · have h1' : decide ((97 : Int) ≤ (c.toNat : Int)) = false := by simpa using h1
        go_wp2
        go_roundw
        case rel => exact ⟨k + 1, by omega, by go_num, by rw [← Hskip.out (Hoth.out (by omega))]; exact HB.out, hW⟩
        case measure => simp [intOf]; omega
    · have hke : k = s.size := by omega
      subst hke
      have hfin : (upTo s.data.toList s.size) = upper s.data.toList := upTo_all _ (by rw [HL.out]; exact Nat.le_refl _)
      rw [hfin] at hB
      have hcv := run_ofBytes (P := Try.prog) 22 9 5 Try.underlying22 Try.underlying5 Try.underlying9 (Buf.rd (enc := encB) (k := 1) (fun _ => rfl) hB (n := s.size) (by rw [HL.out]; simp [upper])) cap
      clear hB hbuf hfin
      go_wp2
      go_ret
      exact ⟨rfl, hW⟩

def flagList : List Str := [[115, 101, 101, 110], [97, 110, 115, 119, 101, 114, 101, 100], [102, 108, 97, 103, 103, 101, 100], [100, 101, 108, 101, 116, 101, 100], [100, 114, 97, 102, 116]]
def hasBit (b : Int) (k : Nat) : Bool := bits .and .i64 (b / 2 ^ k) 1 == 1
def selTo (b : Int) (ws : List Str) (k : Nat) : List Str := ((List.range k).filter (hasBit b)).filterMap (fun j => ws[j]?)
theorem selTo_yes {b : Int} {ws : List Str} {k : Nat} {x : Str} (h : ws[k]? = some x) (hb : hasBit b k = true) : selTo b ws (k + 1) = selTo b ws k ++ [x] := by
  unfold selTo
  rw [List.range_succ, List.filter_append, List.filterMap_append, List.filter_cons_of_pos (by simpa using hb)]
  simp [h]
theorem selTo_no {b : Int} {ws : List Str} {k : Nat} (hb : hasBit b k = false) : selTo b ws (k + 1) = selTo b ws k := by
  unfold selTo
  rw [List.range_succ, List.filter_append, List.filterMap_append, List.filter_cons_of_neg (by simp [hb])]
  simp
theorem selTo_len (b : Int) (ws : List Str) : ∀ k, (selTo b ws k).length ≤ k
  | 0 => by simp [selTo]
  | k + 1 => by
    have ih := selTo_len b ws k
    unfold selTo at ih ⊢
    rw [List.range_succ, List.filter_append, List.filterMap_append, List.length_append]
    have h1 := List.length_filterMap_le (fun j => ws[j]?) (List.filter (hasBit b) [k])
    have h2 := List.length_filter_le (hasBit b) [k]
    simp only [List.length_singleton] at h2
    omega
theorem selTo_mem {b : Int} {ws : List Str} {k : Nat} {x : Str} (h : x ∈ selTo b ws k) : x ∈ ws := by
  unfold selTo at h
  obtain ⟨j, _, hj⟩ := List.mem_filterMap.1 h
  exact List.mem_of_getElem? hj
def flagsText (b : Int) : Str := if inR b 0 31 = true then Lib.join (selTo b flagList 5) [32] else []
theorem flagList_fit : ∀ y ∈ flagList, strFit y := by
  intro y hy
  unfold strFit
  simp [flagList] at hy
  rcases hy with rfl | rfl | rfl | rfl | rfl <;> simp
theorem impl_flagWords (w : World) :
    Calls Try.prog 30 #[] w fun e w' => e = .returned (.slice (some ⟨w.heap.size, 0, none⟩) 5 5) ∧ w' = w.alloc (.cells (flagList.map fun l => Value.string ⟨l.toArray⟩).toArray 9) := by
  go_enter Try.func30, Try.ntmps30
  go_wp2
  go_ret
  exact ⟨rfl, rfl⟩
theorem flagList_rd (w : World) (e : TypeId) : Rd encStr 1 (w.alloc (.cells (flagList.map fun l => Value.string ⟨l.toArray⟩).toArray e)) (some ⟨w.heap.size, 0, none⟩) 5 flagList :=
  Rd.new (enc := encStr) (k := 1) (fun _ => rfl) w _ e (n := 5) flagList (by rfl) rfl

def isFlag (w : Str) (s : Str) : Bool := decide (upper s = upper w)
def fwIx (w : Str) : Int := ixOf (isFlag w) flagList
def bitTo (w : Str) : Nat → Int
  | 0 => 0
  | i + 1 => if isFlag w (flagList.getD i []) = true then ((2 ^ i : Nat) : Int) else bitTo w i
/-- The one flag that a word names, if any: both ways of looking. -/
theorem flag_ways (w : Str) : (fwIx w = -1 ∧ bitTo w 5 = 0) ∨ ∃ i : Nat, i < 5 ∧ fwIx w = (i : Int) ∧ bitTo w 5 = ((2 ^ i : Nat) : Int) := by
  unfold fwIx ixOf isFlag flagList bitTo bitTo bitTo bitTo bitTo bitTo
  simp only [isFlag, flagList, List.getD_cons_zero, List.getD_cons_succ]
  by_cases h0 : upper w = upper [115, 101, 101, 110]
  · right; refine ⟨0, by omega, ?_⟩; rw [h0]; decide
  by_cases h1 : upper w = upper [97, 110, 115, 119, 101, 114, 101, 100]
  · right; refine ⟨1, by omega, ?_⟩; rw [h1]; decide
  by_cases h2 : upper w = upper [102, 108, 97, 103, 103, 101, 100]
  · right; refine ⟨2, by omega, ?_⟩; rw [h2]; decide
  by_cases h3 : upper w = upper [100, 101, 108, 101, 116, 101, 100]
  · right; refine ⟨3, by omega, ?_⟩; rw [h3]; decide
  by_cases h4 : upper w = upper [100, 114, 97, 102, 116]
  · right; refine ⟨4, by omega, ?_⟩; rw [h4]; decide
  left
  have e0 : ¬ upper [115, 101, 101, 110] = upper w := fun h => h0 h.symm
  have e1 : ¬ upper [97, 110, 115, 119, 101, 114, 101, 100] = upper w := fun h => h1 h.symm
  have e2 : ¬ upper [102, 108, 97, 103, 103, 101, 100] = upper w := fun h => h2 h.symm
  have e3 : ¬ upper [100, 101, 108, 101, 116, 101, 100] = upper w := fun h => h3 h.symm
  have e4 : ¬ upper [100, 114, 97, 102, 116] = upper w := fun h => h4 h.symm
  simp [List.findIdx?_cons, e0, e1, e2, e3, e4]
def bitHas (b : Nat) (i : Nat) : Bool := bits .and .i64 ((b : Int) / 2 ^ i) 1 == 1
def bitSet (b : Nat) (i : Nat) : Nat := (bits .or .i64 (b : Int) ((2 ^ i : Nat) : Int)).toNat
theorem bit_facts (b i : Nat) (hb : b < 32) (hi : i < 5) : (bits .and .i64 (b : Int) ((2 ^ i : Nat) : Int) != 0) = bitHas b i ∧ bits .or .i64 (b : Int) ((2 ^ i : Nat) : Int) = (bitSet b i : Int) ∧ bitSet b i < 32 := by
  have h : (List.range 32).all (fun b => (List.range 5).all (fun i => decide ((bits .and .i64 (b : Int) ((2 ^ i : Nat) : Int) != 0) = bitHas b i ∧ bits .or .i64 (b : Int) ((2 ^ i : Nat) : Int) = (bitSet b i : Int) ∧ bitSet b i < 32))) = true := by decide +kernel
  have h1 := List.all_eq_true.1 h b (List.mem_range.2 hb)
  have h2 := List.all_eq_true.1 h1 i (List.mem_range.2 hi)
  exact of_decide_eq_true h2
def rfStep (b : Nat) (w : Str) : Option Nat := if fwIx w < 0 then none else if bitHas b (fwIx w).toNat = true then none else some (bitSet b (fwIx w).toNat)
def rfGo : Nat → List Str → Int × Bool
  | b, [] => ((b : Int), true)
  | b, w :: r => match rfStep b w with | some b' => rfGo b' r | none => (0, false)
def readFlags (ws : List Str) : Int × Bool := rfGo 0 ws
theorem rf_bad {ws : List Str} {k b : Nat} {x : Str} (h : readFlags ws = rfGo b (ws.drop k)) (hx : ws[k]? = some x) (hs : rfStep b x = none) : readFlags ws = (0, false) := by
  obtain ⟨h1, h2⟩ := List.getElem?_eq_some_iff.1 hx
  rw [h, List.drop_eq_getElem_cons h1, h2, rfGo, hs]
theorem rf_good {ws : List Str} {k b b' : Nat} {x : Str} (h : readFlags ws = rfGo b (ws.drop k)) (hx : ws[k]? = some x) (hs : rfStep b x = some b') : readFlags ws = rfGo b' (ws.drop (k + 1)) := by
  obtain ⟨h1, h2⟩ := List.getElem?_eq_some_iff.1 hx
  rw [h, List.drop_eq_getElem_cons h1, h2, rfGo, hs]
theorem rf_end {ws : List Str} {b : Nat} {n : Nat} (h : readFlags ws = rfGo b (ws.drop n)) (hn : ws.length ≤ n) : readFlags ws = ((b : Int), true) := by
  rw [h, List.drop_eq_nil_of_le hn, rfGo]
theorem step_none {b : Nat} {x : Str} (h : fwIx x = -1) : rfStep b x = none := by unfold rfStep; rw [if_pos (by omega)]
theorem step_has {b i : Nat} {x : Str} (h : fwIx x = (i : Int)) (hb : bitHas b i = true) : rfStep b x = none := by unfold rfStep; rw [if_neg (by omega), h, Int.toNat_natCast, if_pos hb]
theorem step_new {b i : Nat} {x : Str} (h : fwIx x = (i : Int)) (hb : bitHas b i = false) : rfStep b x = some (bitSet b i) := by unfold rfStep; rw [if_neg (by omega), h, Int.toNat_natCast, if_neg (by rw [hb]; simp)]
theorem upper_size (s : Str) : (⟨(upper s).toArray⟩ : ByteArray).size = s.length := by show (upper s).toArray.size = _; simp [upper]
theorem wrap_pow {i : Nat} (h : i < 5) : wrap64 ((2 : Int) ^ i) = ((2 ^ i : Nat) : Int) := by
  have hi : i = 0 ∨ i = 1 ∨ i = 2 ∨ i = 3 ∨ i = 4 := by omega
  rcases hi with rfl | rfl | rfl | rfl | rfl <;> first | decide | (simp [wrap64]) | (unfold wrap64; rfl)
set_option maxHeartbeats 800000 in
theorem impl_bitsOf_1 (x : Str) (s : ByteArray) (g : Nat) (w : World) (hx : x.length ≤ 1048576) (hs : s.size ≤ 1048576) (hc : w.cell? ⟨g, 0, none⟩ = some (.string s)) :
    Calls Try.prog 38 #[.string ⟨x.toArray⟩, .pointer (some ⟨g, 0, none⟩)] w fun e w' => e = .returned (.bool (isFlag s.data.toList x)) ∧ Below w.heap.size w w' := by
  obtain ⟨z, hz⟩ : ∃ z : ByteArray, (⟨x.toArray⟩ : ByteArray) = z := ⟨_, rfl⟩
  have hzx : z.data.toList = x := by rw [← hz]
  have hzs : z.size ≤ maxLen := by rw [← hz, encStr_size]; unfold maxLen; omega
  have hss : s.size ≤ maxLen := by unfold maxLen; omega
  have hq : ((⟨(upper z.data.toList).toArray⟩ : ByteArray).toList == (⟨(upper s.data.toList).toArray⟩ : ByteArray).toList) = isFlag s.data.toList x := by
    rw [ba_mk_beq, hzx]
    unfold isFlag
    simp
  have f1 : ∀ u : Later w, u.at_.cell? ⟨g, 0, none⟩ = some (.string s) := fun u => u.cell hc
  rw [hz]
  have HQ := Lib.hid hq
  have HQ2 := Lib.hid (show (upper x == upper s.data.toList) = isFlag s.data.toList x by unfold isFlag; rw [Bool.eq_iff_iff]; simp)
  clear hz hc hq
  generalize isFlag s.data.toList x = R at *
  go_enter Try.func38, Try.ntmps38
  go_wp2
  refine wp_region_calm_lit (by kernel_rfl) (by kernel_rfl) ?_
  repeat (go_big_quiet_step (first | (go_at_call 11; exact Calls.calm (impl_Upper _ _ (by first | exact hzs | exact hss)))))
  refine wpQuiet_nil ?_
  intro _ hw'
  obtain ⟨u, rfl⟩ := hw'
  have HB := Lib.hid u.bel
  go_wp2
  go_ret
  exact ⟨ret_b (by first | exact HQ.out | exact HQ2.out), HB.out⟩
set_option maxHeartbeats 1600000 in
theorem impl_bitsOf (A : Option Addr) (n c : Nat) (B : Option Addr) (xs : List Str) (w : World) (hn : n ≤ 1048576) (h : Rd encStr 1 w A n xs) (hf : ∀ y ∈ xs, strFit y) (hB : Rd encStr 1 w B 5 flagList) :
    Calls Try.prog 31 #[.slice B 5 5, .slice A n c] w fun e w' => e = .returned (.tuple #[.int .i64 (readFlags xs).1, .bool (readFlags xs).2]) ∧ Below w.heap.size w w' := by
  have HL := Lib.hid h.1
  have H := Lib.hid h
  have HF := Lib.hid hf
  have HFl := Lib.hid hB
  clear h hf hB
  go_enter Try.func31, Try.ntmps31
  go_wp2_with fail
  go_loopw [6, 12] (fun o i wr => ∃ (k b : Nat), k ≤ n ∧ i = .int .i64 k ∧ o = .int .i64 b ∧ b < 32 ∧ Hid (readFlags xs = rfGo b (xs.drop k)) ∧ Below w.heap.size w wr) (fun _ i _ => n - (intOf i).toNat)
  case atStart => exact ⟨0, 0, by omega, rfl, rfl, by omega, Lib.hid rfl, Below.refl _ _⟩
  case round =>
    obtain ⟨k, b, hk, rfl, rfl, hb32, hr, hW⟩ := hrel
    by_cases hlt : k < n
    · obtain ⟨bk, off, x, rfl, _, hx, hc⟩ := (H.out.below hW).elem hlt
      have g0 : wr.cell? ⟨bk, off + k, none⟩ = some (.string ⟨x.toArray⟩) := by simpa using hc 0 _ rfl
      have hxl : x.length ≤ 1048576 := HF.out x (List.mem_of_getElem? hx)
      have HX := Lib.hid hx
      have HW := Lib.hid hW
      obtain ⟨z, hz⟩ : ∃ z : ByteArray, (⟨x.toArray⟩ : ByteArray) = z := ⟨_, rfl⟩
      have HZ := Lib.hid (show z.data.toList = x by rw [← hz])
      have hzl : z.size ≤ 1048576 := by rw [← hz, encStr_size]; exact hxl
      rw [hz] at g0
      clear hc hx hW hz
      go_wp2_with fail
      have hA : Below wr.heap.size wr (wr.alloc (.cells #[.string z] 9)) := by go_grown
      have hcell : (wr.alloc (.cells #[.string z] 9)).cell? ⟨wr.heap.size, 0, none⟩ = some (.string z) := by go_simp
      have hlt2 := World.block_lt_of_cell? _ _ hcell
      simp only [] at hlt2
      have HA := Lib.hid (HW.out.trans (hA.mono HW.out.size))
      clear hA
      generalize hG : wr.heap.size = G at *
      generalize wr.alloc (.cells #[.string z] 9) = w1 at *
      refine (slices_IndexFunc_Str B 5 5 _ _ (isFlag x) flagList w1 (by omega) (HFl.out.below HA.out) (enters_of Try.func38 (by kernel_rfl) rfl) ?_).mono ?_
      · intro W y hy hbW
        have hcW : W.cell? ⟨G, 0, none⟩ = some (.string z) := (hbW.cell (p := ⟨G, 0, none⟩) hlt2).trans hcell
        have := impl_bitsOf_1 y z G W (flagList_fit y hy) hzl hcW
        rw [HZ.out] at this
        exact this
      · rintro e w2 ⟨rfl, hb2⟩
        have HB2 := Lib.hid (HA.out.trans (hb2.mono HA.out.size))
        have e0 : ixOf (isFlag x) flagList = fwIx x := rfl
        rw [e0]
        clear hb2 hcell hlt2
        rcases flag_ways x with ⟨hi, _⟩ | ⟨i, hi5, hi, _⟩
        · have HE := Lib.hid (rf_bad hr.out HX.out (step_none hi))
          rw [hi]
          clear hi
          go_wp2
          go_ret2
          exact ⟨ret_ib (by rw [HE.out]) (by rw [HE.out]), HB2.out⟩
        · obtain ⟨hf1, hf2, hf3⟩ := bit_facts b i hb32 hi5
          have hin : ¬ (i : Int) < 0 := by omega
          have hi64 : (i : Int) ≤ 64 := by omega
          have hi63 : (i : Int) < 64 := by omega
          cases hbh : bitHas b i
          · have HE := Lib.hid (rf_good hr.out HX.out (step_new hi hbh))
            have hbe : (bits .and .i64 ((b : Int) / 2 ^ i) 1 == 1) = false := hbh
            rw [hi]
            clear hi hbh hf1
            go_wp2
            go_roundw
            case rel => exact ⟨k + 1, bitSet b i, by omega, by go_num, by rw [wrap_pow hi5, hf2], hf3, HE.out, HB2.out⟩
            case measure => simp [intOf]; omega
          · have HE := Lib.hid (rf_bad hr.out HX.out (step_has hi hbh))
            have hbe : (bits .and .i64 ((b : Int) / 2 ^ i) 1 == 1) = true := hbh
            rw [hi]
            clear hi hbh hf1 hf2
            go_wp2
            go_ret2
            exact ⟨ret_ib (by rw [HE.out]) (by rw [HE.out]), HB2.out⟩
    · have hke : k = n := by omega
      have HE := Lib.hid (rf_end hr.out (by rw [HL.out, hke]; exact Nat.le_refl _))
      have HB := Lib.hid hW
      clear hr hW hke
      go_wp2
      go_ret2
      exact ⟨ret_ib (by rw [HE.out]) (by rw [HE.out]), HB.out⟩
theorem impl_ReadFlags (A : Option Addr) (n c : Nat) (xs : List Str) (w : World) (hn : n ≤ 1048576) (h : Rd encStr 1 w A n xs) (hf : ∀ y ∈ xs, strFit y) :
    Calls Try.prog 18 #[.slice A n c] w fun e w' => e = .returned (.tuple #[.int .i64 (readFlags xs).1, .bool (readFlags xs).2]) ∧ Below w.heap.size w w' := by
  have H := Lib.hid h
  have HFl := Lib.hid (flagList_rd w 9)
  clear h
  go_enter Try.func18, Try.ntmps18
  go_wp2_with (go_at_call 30; refine (impl_flagWords _).mono ?_; rintro e w' ⟨rfl, rfl⟩)
  refine (impl_bitsOf A n c _ xs _ hn (H.out.below (by go_grown)) hf HFl.out).mono ?_
  rintro e w2 ⟨rfl, hb⟩
  have HB := Lib.hid (Below.trans (by go_grown : Below w.heap.size w _) (hb.mono (by simp)))
  clear hb
  go_wp2
  go_ret2
  exact ⟨rfl, HB.out⟩

end Go.Proofs.Ytgdebejmcfcpgaa
