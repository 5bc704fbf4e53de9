/-
  Walks: what each function returns, and that it leaves what lay in memory as it was.
-/
import Derived.Test.YtjpkceimokkpgaaGreatDoorProg
import Derived.Test.YtjpkceimokkpgaaGreatDoorPlain
import Derived.Test.YtjpkceimokkpgaaGreatDoorBase2
import Derived.Test.YtjpkceimokkpgaaGreatDoorOpen2
import Derived.Test.YtjpkceimokkpgaaGreatDoorShelf
import Derived.WalkKit
import Derived.WalkSpells
import Derived.WalkLawsBesides
import Derived.Lib.Hide
import Derived.Deep.LoopGhost
import Derived.Deep.QuietTactic
import Derived.BigQuiet
import Derived.Handy
import Derived.Deep.RegionHeld3
import Derived.StillTailTactics
import Derived.OpenShut
import Derived.ChangeSame
import Derived.Laws.StructEq

import Derived.Test.YtjpkceimokkpgaaGreatDoorPlainT

import Derived.Test.YtjpkceimokkpgaaGreatDoorW1

import Derived.Test.YtjpkceimokkpgaaGreatDoorW2

import Derived.Test.YtjpkceimokkpgaaGreatDoorW3

import Derived.Test.YtjpkceimokkpgaaGreatDoorW4

import Derived.Test.YtjpkceimokkpgaaGreatDoorW5

import Derived.Test.YtjpkceimokkpgaaGreatDoorW7

import Derived.Test.YtjpkceimokkpgaaGreatDoorW9

import Derived.Test.YtjpkceimokkpgaaGreatDoorW14

import Derived.Test.YtjpkceimokkpgaaGreatDoorW15

import Derived.Test.YtjpkceimokkpgaaGreatDoorW17

import Derived.Test.YtjpkceimokkpgaaGreatDoorW18

namespace Go.Proofs.YtjpkceimokkpgaaGreatDoor
open Go.ChangeShapes Go.WideShapes Go.ChangeAt Go.RowKit Go.Deep
set_option linter.unusedVariables false
set_option linter.unusedSimpArgs false

set_option maxRecDepth 20000

theorem Calls.knownS {P : Program} {f : FuncId} {args : Array Value} {w : World} {a b : ByteArray} {R : World → Prop} (h : Calls P f args w fun e w' => e = .returned (.string a) ∧ R w') (e : a = b) : Calls P f args w fun e w' => e = .returned (.string b) ∧ R w' := e ▸ h

/-- The order of the text is one that a region may take, and what is passed over lies apart: one pass. -/
def lexGo (ops : Array Oper) : List Oper → Nat → Bool
  | [], _ => true
  | o :: rest, k => (o.after.all fun e => !Region.binds .any e || decide (e.on < k)) && (rest.all (fun oj => oj.after.any (fun e => Region.binds .any e && e.on == k) || o.apart ops oj) && lexGo ops rest (k + 1))
theorem lexFrom_go (ops : Array Oper) : ∀ (l : List Oper) (k : Nat) (listed : Array Bool), (∀ j, l[j]? = ops[k + j]?) → k + l.length = ops.size → listed.size = ops.size → (∀ j, j < ops.size → listed[j]? = some (decide (j < k))) → lexGo ops l k = true →
    Region.lexFrom .any ops l.length k listed = true
  | [], k, listed, hl, hk, hs, hm, h => by
    show (Region.ready .any ops listed).isEmpty = true
    rw [List.isEmpty_iff]
    unfold Region.ready
    rw [List.filter_eq_nil_iff]
    intro i hi
    rw [List.mem_range] at hi
    have h1 := hm i hi
    have h2 : i < k := by simp at hk; omega
    rw [Array.getD_eq_getD_getElem?, h1]
    simp [h2]
  | o :: rest, k, listed, hl, hk, hs, hm, h => by
    have hkn : k < ops.size := by simp at hk; omega
    have h0 : ops[k]? = some o := by simpa using (hl 0).symm
    unfold lexGo at h
    simp only [Bool.and_eq_true] at h
    obtain ⟨ha, hr, hg⟩ := h
    have hlk := hm k hkn
    have c1 : (Region.ready .any ops listed).contains k = true := by
      rw [List.contains_iff_mem]
      unfold Region.ready
      rw [List.mem_filter]
      refine ⟨List.mem_range.2 hkn, ?_⟩
      rw [Array.getD_eq_getD_getElem?, hlk, h0]
      simp only [Nat.lt_irrefl, decide_false, Option.getD_some, Bool.not_false, Bool.true_and, Option.map_some]
      rw [Array.all_eq_true_iff_forall_mem] at ha ⊢
      intro e he
      have h1 := ha e he
      rcases Bool.or_eq_true_iff.1 h1 with h2 | h2
      · rw [h2]; rfl
      · have h3 : e.on < k := by simpa using h2
        rw [Array.getD_eq_getD_getElem?, hm e.on (by omega)]
        simp [h3]
    have c2 : Region.free .any ops listed k = true := by
      unfold Region.free
      rw [h0]
      simp only []
      rw [List.all_eq_true]
      intro j hj
      rw [List.mem_range] at hj
      have hlj := hm j hj
      by_cases h1 : j = k
      · simp [h1]
      by_cases h2 : j < k
      · rw [Array.getD_eq_getD_getElem?, hlj]; simp [h2]
      · have h3 : ops[j]? = rest[j - k - 1]? := by
          have := hl (j - k)
          rw [show k + (j - k) = j by omega] at this
          rw [← this, show j - k = (j - k - 1) + 1 by omega]
          simp
        cases hoj : ops[j]? with
        | none => simp
        | some oj =>
          have hmem : oj ∈ rest := List.mem_of_getElem? (by rw [← h3, hoj])
          have h4 := List.all_eq_true.1 hr oj hmem
          simp only [h4, Bool.or_true]
    show ((Region.ready .any ops listed).contains k && Region.free .any ops listed k && Region.lexFrom .any ops rest.length (k + 1) (listed.setIfInBounds k true)) = true
    rw [c1, c2]
    refine lexFrom_go ops rest (k + 1) _ (fun j => ?_) (by simp at hk; omega) (by simpa using hs) (fun j hj => ?_) hg
    · have := hl (j + 1)
      rw [show k + 1 + j = k + (j + 1) by omega, ← this]
      simp
    · rw [Array.getElem?_setIfInBounds]
      by_cases h1 : k = j
      · rw [if_pos h1]
        have : j < listed.size := by omega
        simp [this, h1]
      · rw [if_neg h1, hm j hj]
        congr 1
        exact decide_eq_decide.2 (by omega)
theorem lexB_go {l : List Oper} (h1 : Region.noSelect l.toArray = true) (h2 : lexGo l.toArray l 0 = true) : Region.lexB .any l.toArray = true := by
  unfold Region.lexB
  rw [h1]
  refine lexFrom_go l.toArray l 0 _ (fun j => by simp) (by simp) (by simp) (fun j hj => ?_) h2
  have hj' : j < l.length := by simpa using hj
  simp [Array.getElem?_replicate, hj']

theorem impl_isOneOf (b n c : Nat) (zs : List Int) (x : Int) (R : Bool) (w : World) (hR : zs.contains x = R) (hz : zs.length = n) (hn : n ≤ 100) (h : Holds w b (zs.map fun z => Value.int .i64 z)) :
    Calls Tryz.prog 80 #[.int .i64 x, .slice (some ⟨b, 0, none⟩) n c] w fun e w' => e = .returned (.bool R) ∧ w = w' := by
  have HC := Lib.hid (Tryz.slices_Contains_int b 0 n c zs x w (by omega) (by omega) (fun j hj => by
    have h1 : zs[j]? = some zs[j] := List.getElem?_eq_getElem hj
    have h2 := h.2 j (.int .i64 zs[j]) (by rw [List.getElem?_map, h1]; rfl)
    rw [List.getD_eq_getElem?_getD, h1]
    simpa using h2))
  rw [List.take_of_length_le (by omega), hR] at HC
  clear hR
  go_enter Tryz.func80, Tryz.ntmps80
  go_wp2_with fail
  refine HC.out.mono ?_
  rintro e w1 ⟨rfl, rfl⟩
  go_wp2
  go_ret
  exact ⟨rfl, rfl⟩
theorem impl_usesBox (k : Int) (w : World) :
    Calls Tryz.prog 68 #[.int .i64 k] w fun e w' => e = .returned (.bool (boxedK k)) ∧ Below w.heap.size w w' := by
  have HE := Lib.hid (show (([2, 11, 12, 13, 14, 10] : List Int).contains k) = boxedK k by simp [List.contains_cons]; rfl)
  have HH := Lib.hid (show Holds (w.alloc (.cells #[.int .i64 2, .int .i64 11, .int .i64 12, .int .i64 13, .int .i64 14, .int .i64 10] 3)) w.heap.size (([2, 11, 12, 13, 14, 10] : List Int).map fun z => Value.int .i64 z) from Holds.new w _ _)
  go_enter Tryz.func68, Tryz.ntmps68
  go_wp2_with fail
  refine (impl_isOneOf _ 6 6 [2, 11, 12, 13, 14, 10] k _ _ HE.out rfl (by omega) HH.out).mono ?_
  rintro e w1 ⟨rfl, rfl⟩
  go_wp2
  go_ret
  exact ⟨rfl, by go_grown⟩
theorem impl_usesSet (k : Int) (w : World) :
    Calls Tryz.prog 70 #[.int .i64 k] w fun e w' => e = .returned (.bool (setsK k)) ∧ Below w.heap.size w w' := by
  have HE := Lib.hid (show (([7, 8, 10] : List Int).contains k) = setsK k by simp [List.contains_cons]; rfl)
  have HH := Lib.hid (show Holds (w.alloc (.cells #[.int .i64 7, .int .i64 8, .int .i64 10] 3)) w.heap.size (([7, 8, 10] : List Int).map fun z => Value.int .i64 z) from Holds.new w _ _)
  go_enter Tryz.func70, Tryz.ntmps70
  go_wp2_with fail
  refine (impl_isOneOf _ 3 3 [7, 8, 10] k _ _ HE.out rfl (by omega) HH.out).mono ?_
  rintro e w1 ⟨rfl, rfl⟩
  go_wp2
  go_ret
  exact ⟨rfl, by go_grown⟩
theorem impl_usesFlags (k : Int) (w : World) :
    Calls Tryz.prog 35 #[.int .i64 k] w fun e w' => e = .returned (.bool (flagsK k)) ∧ Below w.heap.size w w' := by
  have HE := Lib.hid (show (([8, 11] : List Int).contains k) = flagsK k by simp [List.contains_cons]; rfl)
  have HH := Lib.hid (show Holds (w.alloc (.cells #[.int .i64 8, .int .i64 11] 3)) w.heap.size (([8, 11] : List Int).map fun z => Value.int .i64 z) from Holds.new w _ _)
  go_enter Tryz.func35, Tryz.ntmps35
  go_wp2_with fail
  refine (impl_isOneOf _ 2 2 [8, 11] k _ _ HE.out rfl (by omega) HH.out).mono ?_
  rintro e w1 ⟨rfl, rfl⟩
  go_wp2
  go_ret
  exact ⟨rfl, by go_grown⟩
theorem impl_isOp (k : Int) (w : World) :
    Calls Tryz.prog 72 #[.int .i64 k] w fun e w' => e = .returned (.bool (inR k 1 3)) ∧ w = w' := by
  go_enter Tryz.func72, Tryz.ntmps72
  go_wp2_with (go_at_call 76; refine (within_any _ _ _ _).mono ?_; rintro e w' ⟨rfl, rfl⟩)
  go_ret
  exact ⟨rfl, rfl⟩
theorem impl_zeroIf (u o z : Bool) (w : World) :
    Calls Tryz.prog 66 #[.bool u, .bool o, .bool z] w fun e w' => e = .returned (.bool (zeroIf u o z)) ∧ w = w' := by
  cases u <;> cases o <;> cases z
  all_goals
    go_enter Tryz.func66, Tryz.ntmps66
    go_wp2
    go_ret
    exact ⟨rfl, rfl⟩
set_option maxHeartbeats 6400000 in
set_option maxRecDepth 20000 in
theorem impl_CommandOk (x : Command) (h : CHd) (w : World) (i : CommandIs w x h) (f : x.Fit) (hml : ML w) :
    Calls Tryz.prog 30 #[.agg #[.string x.tag, .int .i64 x.kind, .string x.box, .string x.dest, .bool x.uid, .slice h.s.A h.s.n h.s.c, .int .i64 x.op, .int .i64 x.flags, .string x.text, .bool x.filter.on, .slice h.f.A h.f.n h.f.c]] w fun e w' => e = .returned (.bool (commandOk x)) ∧ Below w.heap.size w w' := by
  have hn1 : h.s.n ≤ 1048576 := by rw [← i.2.1.1]; exact f.2.1
  have F := Lib.hid f
  have HNs := Lib.hid i.2.1.1
  obtain ⟨t0, ht0⟩ : ∃ b, tagOk x.tag.data.toList = b := ⟨_, rfl⟩
  obtain ⟨k0, hk0⟩ : ∃ b, inR x.kind 1 15 = b := ⟨_, rfl⟩
  obtain ⟨b1, hb1⟩ : ∃ b, boxedK x.kind = b := ⟨_, rfl⟩
  obtain ⟨n1, hn1⟩ : ∃ b, nameOk x.box.data.toList = b := ⟨_, rfl⟩
  obtain ⟨e1, he1⟩ : ∃ b, decide (x.box = emptyB) = b := ⟨_, rfl⟩
  obtain ⟨n2, hn2⟩ : ∃ b, nameOk x.dest.data.toList = b := ⟨_, rfl⟩
  obtain ⟨e2, he2⟩ : ∃ b, decide (x.dest = emptyB) = b := ⟨_, rfl⟩
  obtain ⟨b3, hb3⟩ : ∃ b, setsK x.kind = b := ⟨_, rfl⟩
  obtain ⟨s3, hs3⟩ : ∃ b, setOk x.set = b := ⟨_, rfl⟩
  obtain ⟨o4, ho4⟩ : ∃ b, inR x.op 1 3 = b := ⟨_, rfl⟩
  obtain ⟨b5, hb5⟩ : ∃ b, flagsK x.kind = b := ⟨_, rfl⟩
  obtain ⟨f5, hf5⟩ : ∃ b, inR x.flags 0 31 = b := ⟨_, rfl⟩
  obtain ⟨t6, ht6⟩ : ∃ b, decide (x.text.size ≤ 40) = b := ⟨_, rfl⟩
  obtain ⟨e6, he6⟩ : ∃ b, decide (x.text = emptyB) = b := ⟨_, rfl⟩
  obtain ⟨f7, hf7⟩ : ∃ b, filterOk x.filter = b := ⟨_, rfl⟩
  obtain ⟨s7, hs7⟩ : ∃ b, sameFilter x.filter noFilter = b := ⟨_, rfl⟩
  obtain ⟨l3, hl3⟩ : ∃ b, (decide (x.set.length = 0) && !x.uid) = b := ⟨_, rfl⟩
  obtain ⟨b2, hb2⟩ : ∃ b, (x.kind == 14) = b := ⟨_, rfl⟩
  obtain ⟨b4, hb4⟩ : ∃ b, (x.kind == 8) = b := ⟨_, rfl⟩
  obtain ⟨b6, hb6⟩ : ∃ b, (x.kind == 11) = b := ⟨_, rfl⟩
  obtain ⟨b7, hb7⟩ : ∃ b, (x.kind == 6) = b := ⟨_, rfl⟩
  obtain ⟨z4, hz4⟩ : ∃ b, (x.op == 0) = b := ⟨_, rfl⟩
  obtain ⟨z5, hz5⟩ : ∃ b, (x.flags == 0) = b := ⟨_, rfl⟩
  have HDef := Lib.hid (show commandOk x = (t0 && (k0 && (zeroIf b1 n1 e1 && (zeroIf b2 n2 e2 && (zeroIf b3 s3 l3 && (zeroIf b4 o4 z4 && (zeroIf b5 f5 z5 && (zeroIf b6 t6 e6 && zeroIf b7 f7 s7)))))))) by
    unfold commandOk
    rw [ht0, hk0, hb1, hn1, he1, hn2, he2, hb3, hs3, ho4, hb5, hf5, ht6, he6, hf7, hs7, hl3, hb2, hb4, hb6, hb7, hz4, hz5])
  have Ht0 := Lib.hid ht0
  clear ht0
  have Hk0 := Lib.hid hk0
  clear hk0
  have Hb1 := Lib.hid hb1
  clear hb1
  have Hn1 := Lib.hid hn1
  clear hn1
  have Hn2 := Lib.hid hn2
  clear hn2
  have Hb3 := Lib.hid hb3
  clear hb3
  have Hs3 := Lib.hid hs3
  clear hs3
  have Ho4 := Lib.hid ho4
  clear ho4
  have Hb5 := Lib.hid hb5
  clear hb5
  have Hf5 := Lib.hid hf5
  clear hf5
  have Ht6 := Lib.hid ht6
  clear ht6
  have Hf7 := Lib.hid hf7
  clear hf7
  have Hs7 := Lib.hid hs7
  clear hs7
  have Hl3 := Lib.hid hl3
  clear hl3
  have he1a : x.box.toList.isEmpty = e1 := by rw [ba_empty, ← he1]; rfl
  have he1b : (x.box.toList == []) = e1 := by rw [← he1, ← ba_empty_beq]; rfl
  clear he1
  have he2a : x.dest.toList.isEmpty = e2 := by rw [ba_empty, ← he2]; rfl
  have he2b : (x.dest.toList == []) = e2 := by rw [← he2, ← ba_empty_beq]; rfl
  clear he2
  have he6a : x.text.toList.isEmpty = e6 := by rw [ba_empty, ← he6]; rfl
  have he6b : (x.text.toList == []) = e6 := by rw [← he6, ← ba_empty_beq]; rfl
  clear he6
  have ht6i : decide ((x.text.size : Int) ≤ 40) = t6 := by rw [← Ht6.out]; exact decide_eq_decide.2 (by omega)
  obtain ⟨KW, hKW⟩ : ∃ K : ByteArray, (⟨(kindWord x.kind).toArray⟩ : ByteArray) = K := ⟨_, rfl⟩
  have hk0a : KW.toList.isEmpty = !k0 := by rw [← hKW, ← Hk0.out]; exact kindWord_empty x.kind
  have hk0b : (KW.toList == []) = !k0 := by rw [← hk0a]; cases KW.toList <;> rfl
  have HKW := Lib.hid hKW
  clear hKW
  obtain ⟨Z1, hZ1⟩ : ∃ b, zeroIf b1 n1 e1 = b := ⟨_, rfl⟩
  obtain ⟨Z2, hZ2⟩ : ∃ b, zeroIf b2 n2 e2 = b := ⟨_, rfl⟩
  obtain ⟨Z3, hZ3⟩ : ∃ b, zeroIf b3 s3 l3 = b := ⟨_, rfl⟩
  obtain ⟨Z4, hZ4⟩ : ∃ b, zeroIf b4 o4 z4 = b := ⟨_, rfl⟩
  obtain ⟨Z5, hZ5⟩ : ∃ b, zeroIf b5 f5 z5 = b := ⟨_, rfl⟩
  obtain ⟨Z6, hZ6⟩ : ∃ b, zeroIf b6 t6 e6 = b := ⟨_, rfl⟩
  obtain ⟨Z7, hZ7⟩ : ∃ b, zeroIf b7 f7 s7 = b := ⟨_, rfl⟩
  rw [hZ1, hZ2, hZ3, hZ4, hZ5, hZ6, hZ7] at HDef
  have HZ1 := Lib.hid hZ1
  clear hZ1
  have HZ2 := Lib.hid hZ2
  clear hZ2
  have HZ3 := Lib.hid hZ3
  clear hZ3
  have HZ4 := Lib.hid hZ4
  clear hZ4
  have HZ5 := Lib.hid hZ5
  clear hZ5
  have HZ6 := Lib.hid hZ6
  clear hZ6
  have HZ7 := Lib.hid hZ7
  clear hZ7
  rw [HDef.out]
  clear HDef
  have nB : Below w.heap.size w (w.alloc (.cells #[.string x.tag, .int .i64 x.kind, .string x.box, .string x.dest, .bool x.uid, .slice h.s.A h.s.n h.s.c, .int .i64 x.op, .int .i64 x.flags, .string x.text, .bool x.filter.on, .slice h.f.A h.f.n h.f.c] 36)) := by go_grown
  have nP : Holds (w.alloc (.cells #[.string x.tag, .int .i64 x.kind, .string x.box, .string x.dest, .bool x.uid, .slice h.s.A h.s.n h.s.c, .int .i64 x.op, .int .i64 x.flags, .string x.text, .bool x.filter.on, .slice h.f.A h.f.n h.f.c] 36)) w.heap.size [.string x.tag, .int .i64 x.kind, .string x.box, .string x.dest, .bool x.uid, .slice h.s.A h.s.n h.s.c, .int .i64 x.op, .int .i64 x.flags, .string x.text, .bool x.filter.on, .slice h.f.A h.f.n h.f.c] := Holds.new w _ _
  have HI := Lib.hid (i.below nB)
  have HM := Lib.hid (hml.below nB)
  have HB := Lib.hid nB
  have HP := Lib.hid nP
  clear i f hml nB nP
  go_enter Tryz.func30, Tryz.ntmps30
  have c0 := HP.out.2 0 _ rfl
  clear c0
  go_wp2_with fail
  have HBq := HB.out
  generalize hW0 : (w.alloc (.cells #[.string x.tag, .int .i64 x.kind, .string x.box, .string x.dest, .bool x.uid, .slice h.s.A h.s.n h.s.c, .int .i64 x.op, .int .i64 x.flags, .string x.text, .bool x.filter.on, .slice h.f.A h.f.n h.f.c] 36)) = w1 at *
  have c0 : ∀ u : Later w1, u.at_.cell? ⟨w.heap.size, 0, none⟩ = some (.string x.tag) := fun u => u.cell (HP.out.2 0 _ rfl)
  have c1 : ∀ u : Later w1, u.at_.cell? ⟨w.heap.size, 1, none⟩ = some (.int .i64 x.kind) := fun u => u.cell (HP.out.2 1 _ rfl)
  have c2 : ∀ u : Later w1, u.at_.cell? ⟨w.heap.size, 2, none⟩ = some (.string x.box) := fun u => u.cell (HP.out.2 2 _ rfl)
  have c3 : ∀ u : Later w1, u.at_.cell? ⟨w.heap.size, 3, none⟩ = some (.string x.dest) := fun u => u.cell (HP.out.2 3 _ rfl)
  have c4 : ∀ u : Later w1, u.at_.cell? ⟨w.heap.size, 4, none⟩ = some (.bool x.uid) := fun u => u.cell (HP.out.2 4 _ rfl)
  have c5 : ∀ u : Later w1, u.at_.cell? ⟨w.heap.size, 5, none⟩ = some (.slice h.s.A h.s.n h.s.c) := fun u => u.cell (HP.out.2 5 _ rfl)
  have c6 : ∀ u : Later w1, u.at_.cell? ⟨w.heap.size, 6, none⟩ = some (.int .i64 x.op) := fun u => u.cell (HP.out.2 6 _ rfl)
  have c7 : ∀ u : Later w1, u.at_.cell? ⟨w.heap.size, 7, none⟩ = some (.int .i64 x.flags) := fun u => u.cell (HP.out.2 7 _ rfl)
  have c8 : ∀ u : Later w1, u.at_.cell? ⟨w.heap.size, 8, none⟩ = some (.string x.text) := fun u => u.cell (HP.out.2 8 _ rfl)
  have c9 : ∀ u : Later w1, u.at_.cell? ⟨w.heap.size, 9, none⟩ = some (.bool x.filter.on) := fun u => u.cell (HP.out.2 9 _ rfl)
  have c10 : ∀ u : Later w1, u.at_.cell? ⟨w.heap.size, 10, none⟩ = some (.slice h.f.A h.f.n h.f.c) := fun u => u.cell (HP.out.2 10 _ rfl)
  have hKz : ∀ {a b c : Bool} {e1 e2 e3 : Bool}, True := fun {_ _ _ _ _ _} => trivial
  clear hKz HBq
  have hz1 := HZ1.out
  have hz2 := HZ2.out
  have hz3 := HZ3.out
  have hz4 := HZ4.out
  have hz5 := HZ5.out
  have hz6 := HZ6.out
  have hz7 := HZ7.out
  obtain ⟨uu, huu⟩ : ∃ u, x.uid = u := ⟨_, rfl⟩
  rw [huu] at c4
  have hl3 := Hl3.out
  rw [huu, HNs.out] at hl3
  clear Hl3 huu HZ1 HZ2 HZ3 HZ4 HZ5 HZ6 HZ7
  have hbs : x.box.size ≤ 1099511627 := by have := F.out.1.2.1; omega
  have hts : x.dest.size ≤ 1099511627 := by have := F.out.1.2.2.1; omega
  refine wp_region_calm_lit (by kernel_rfl) (lexB_go (by kernel_rfl) (by kernel_rfl)) ?_
  simp only [List.append_eq, List.cons_append, List.nil_append]
  iterate 4 (go_big_quiet_step (first | (go_at_call 67; exact Calls.calm (Calls.known (impl_TagOk x.tag _ (by have := F.out.1.1; unfold maxLen; omega)) Ht0.out)) | (go_at_call 32; exact Calls.calm (Calls.knownS (impl_KindWord x.kind _) HKW.out)) | (go_at_call 68; exact Calls.calm (Calls.known (impl_usesBox x.kind _) Hb1.out)) | (go_at_call 70; exact Calls.calm (Calls.known (impl_usesSet x.kind _) Hb3.out)) | (go_at_call 35; exact Calls.calm (Calls.known (impl_usesFlags x.kind _) Hb5.out)) | (go_at_call 69; exact Calls.calm_same (Calls.flip (Calls.known (impl_NameOk x.box _ hbs (HM.out.below (Later.bel _))) Hn1.out))) | (go_at_call 71; exact Calls.calm (Calls.known (impl_SetOk h.s.A h.s.n h.s.c x.set _ (by omega) (HI.out.2.1.below (Later.bel _))) Hs3.out)) | (go_at_call 72; exact Calls.calm_same (Calls.flip (Calls.known (impl_isOp x.op _) Ho4.out))) | (go_at_call 73; exact Calls.calm_same (Calls.flip (Calls.known (impl_FlagsOk x.flags _) Hf5.out))) | (go_at_call 74; exact Calls.calm (Calls.known (impl_FilterOk x.filter h.f _ (HI.out.2.2.2.below (Later.bel _)) F.out.2.2 (HM.out.below (Later.bel _))) Hf7.out)) | (go_at_call 75; exact Calls.calm (Calls.known (impl_SameFilter x.filter noFilter h.f ⟨none, 0, 0, []⟩ _ (HI.out.2.2.2.below (Later.bel _)) (noFilter_is _) F.out.2.2 noFilter_fit) Hs7.out)) | (go_at_call 66; exact Calls.calm_same (Calls.flip (impl_zeroIf _ _ _ _)))))
  cases t0 with
  | false =>
    repeat (go_big_quiet_step (first | (go_at_call 67; exact Calls.calm (Calls.known (impl_TagOk x.tag _ (by have := F.out.1.1; unfold maxLen; omega)) Ht0.out)) | (go_at_call 32; exact Calls.calm (Calls.knownS (impl_KindWord x.kind _) HKW.out)) | (go_at_call 68; exact Calls.calm (Calls.known (impl_usesBox x.kind _) Hb1.out)) | (go_at_call 70; exact Calls.calm (Calls.known (impl_usesSet x.kind _) Hb3.out)) | (go_at_call 35; exact Calls.calm (Calls.known (impl_usesFlags x.kind _) Hb5.out)) | (go_at_call 69; exact Calls.calm_same (Calls.flip (Calls.known (impl_NameOk x.box _ hbs (HM.out.below (Later.bel _))) Hn1.out))) | (go_at_call 71; exact Calls.calm (Calls.known (impl_SetOk h.s.A h.s.n h.s.c x.set _ (by omega) (HI.out.2.1.below (Later.bel _))) Hs3.out)) | (go_at_call 72; exact Calls.calm_same (Calls.flip (Calls.known (impl_isOp x.op _) Ho4.out))) | (go_at_call 73; exact Calls.calm_same (Calls.flip (Calls.known (impl_FlagsOk x.flags _) Hf5.out))) | (go_at_call 74; exact Calls.calm (Calls.known (impl_FilterOk x.filter h.f _ (HI.out.2.2.2.below (Later.bel _)) F.out.2.2 (HM.out.below (Later.bel _))) Hf7.out)) | (go_at_call 75; exact Calls.calm (Calls.known (impl_SameFilter x.filter noFilter h.f ⟨none, 0, 0, []⟩ _ (HI.out.2.2.2.below (Later.bel _)) (noFilter_is _) F.out.2.2 noFilter_fit) Hs7.out)) | (go_at_call 66; exact Calls.calm_same (Calls.flip (impl_zeroIf _ _ _ _)))))
    refine wpQuiet_nil ?_
    intro _ hw'
    obtain ⟨u, rfl⟩ := hw'
    have HBf := Lib.hid (HB.out.trans (u.bel.mono HB.out.size))
    go_wp2
    go_ret
    exact ⟨rfl, HBf.out⟩
  | true =>
    iterate 6 (go_big_quiet_step (first | (go_at_call 67; exact Calls.calm (Calls.known (impl_TagOk x.tag _ (by have := F.out.1.1; unfold maxLen; omega)) Ht0.out)) | (go_at_call 32; exact Calls.calm (Calls.knownS (impl_KindWord x.kind _) HKW.out)) | (go_at_call 68; exact Calls.calm (Calls.known (impl_usesBox x.kind _) Hb1.out)) | (go_at_call 70; exact Calls.calm (Calls.known (impl_usesSet x.kind _) Hb3.out)) | (go_at_call 35; exact Calls.calm (Calls.known (impl_usesFlags x.kind _) Hb5.out)) | (go_at_call 69; exact Calls.calm_same (Calls.flip (Calls.known (impl_NameOk x.box _ hbs (HM.out.below (Later.bel _))) Hn1.out))) | (go_at_call 71; exact Calls.calm (Calls.known (impl_SetOk h.s.A h.s.n h.s.c x.set _ (by omega) (HI.out.2.1.below (Later.bel _))) Hs3.out)) | (go_at_call 72; exact Calls.calm_same (Calls.flip (Calls.known (impl_isOp x.op _) Ho4.out))) | (go_at_call 73; exact Calls.calm_same (Calls.flip (Calls.known (impl_FlagsOk x.flags _) Hf5.out))) | (go_at_call 74; exact Calls.calm (Calls.known (impl_FilterOk x.filter h.f _ (HI.out.2.2.2.below (Later.bel _)) F.out.2.2 (HM.out.below (Later.bel _))) Hf7.out)) | (go_at_call 75; exact Calls.calm (Calls.known (impl_SameFilter x.filter noFilter h.f ⟨none, 0, 0, []⟩ _ (HI.out.2.2.2.below (Later.bel _)) (noFilter_is _) F.out.2.2 noFilter_fit) Hs7.out)) | (go_at_call 66; exact Calls.calm_same (Calls.flip (impl_zeroIf _ _ _ _)))))
    cases k0 with
    | false =>
      repeat (go_big_quiet_step (first | (go_at_call 67; exact Calls.calm (Calls.known (impl_TagOk x.tag _ (by have := F.out.1.1; unfold maxLen; omega)) Ht0.out)) | (go_at_call 32; exact Calls.calm (Calls.knownS (impl_KindWord x.kind _) HKW.out)) | (go_at_call 68; exact Calls.calm (Calls.known (impl_usesBox x.kind _) Hb1.out)) | (go_at_call 70; exact Calls.calm (Calls.known (impl_usesSet x.kind _) Hb3.out)) | (go_at_call 35; exact Calls.calm (Calls.known (impl_usesFlags x.kind _) Hb5.out)) | (go_at_call 69; exact Calls.calm_same (Calls.flip (Calls.known (impl_NameOk x.box _ hbs (HM.out.below (Later.bel _))) Hn1.out))) | (go_at_call 71; exact Calls.calm (Calls.known (impl_SetOk h.s.A h.s.n h.s.c x.set _ (by omega) (HI.out.2.1.below (Later.bel _))) Hs3.out)) | (go_at_call 72; exact Calls.calm_same (Calls.flip (Calls.known (impl_isOp x.op _) Ho4.out))) | (go_at_call 73; exact Calls.calm_same (Calls.flip (Calls.known (impl_FlagsOk x.flags _) Hf5.out))) | (go_at_call 74; exact Calls.calm (Calls.known (impl_FilterOk x.filter h.f _ (HI.out.2.2.2.below (Later.bel _)) F.out.2.2 (HM.out.below (Later.bel _))) Hf7.out)) | (go_at_call 75; exact Calls.calm (Calls.known (impl_SameFilter x.filter noFilter h.f ⟨none, 0, 0, []⟩ _ (HI.out.2.2.2.below (Later.bel _)) (noFilter_is _) F.out.2.2 noFilter_fit) Hs7.out)) | (go_at_call 66; exact Calls.calm_same (Calls.flip (impl_zeroIf _ _ _ _)))))
      refine wpQuiet_nil ?_
      intro _ hw'
      obtain ⟨u, rfl⟩ := hw'
      have HBf := Lib.hid (HB.out.trans (u.bel.mono HB.out.size))
      go_wp2
      go_ret
      exact ⟨rfl, HBf.out⟩
    | true =>
      iterate 13 (go_big_quiet_step (first | (go_at_call 67; exact Calls.calm (Calls.known (impl_TagOk x.tag _ (by have := F.out.1.1; unfold maxLen; omega)) Ht0.out)) | (go_at_call 32; exact Calls.calm (Calls.knownS (impl_KindWord x.kind _) HKW.out)) | (go_at_call 68; exact Calls.calm (Calls.known (impl_usesBox x.kind _) Hb1.out)) | (go_at_call 70; exact Calls.calm (Calls.known (impl_usesSet x.kind _) Hb3.out)) | (go_at_call 35; exact Calls.calm (Calls.known (impl_usesFlags x.kind _) Hb5.out)) | (go_at_call 69; exact Calls.calm_same (Calls.flip (Calls.known (impl_NameOk x.box _ hbs (HM.out.below (Later.bel _))) Hn1.out))) | (go_at_call 71; exact Calls.calm (Calls.known (impl_SetOk h.s.A h.s.n h.s.c x.set _ (by omega) (HI.out.2.1.below (Later.bel _))) Hs3.out)) | (go_at_call 72; exact Calls.calm_same (Calls.flip (Calls.known (impl_isOp x.op _) Ho4.out))) | (go_at_call 73; exact Calls.calm_same (Calls.flip (Calls.known (impl_FlagsOk x.flags _) Hf5.out))) | (go_at_call 74; exact Calls.calm (Calls.known (impl_FilterOk x.filter h.f _ (HI.out.2.2.2.below (Later.bel _)) F.out.2.2 (HM.out.below (Later.bel _))) Hf7.out)) | (go_at_call 75; exact Calls.calm (Calls.known (impl_SameFilter x.filter noFilter h.f ⟨none, 0, 0, []⟩ _ (HI.out.2.2.2.below (Later.bel _)) (noFilter_is _) F.out.2.2 noFilter_fit) Hs7.out)) | (go_at_call 66; exact Calls.calm_same (Calls.flip (impl_zeroIf _ _ _ _)))))
      cases Z1 with
      | false =>
        repeat (go_big_quiet_step (first | (go_at_call 67; exact Calls.calm (Calls.known (impl_TagOk x.tag _ (by have := F.out.1.1; unfold maxLen; omega)) Ht0.out)) | (go_at_call 32; exact Calls.calm (Calls.knownS (impl_KindWord x.kind _) HKW.out)) | (go_at_call 68; exact Calls.calm (Calls.known (impl_usesBox x.kind _) Hb1.out)) | (go_at_call 70; exact Calls.calm (Calls.known (impl_usesSet x.kind _) Hb3.out)) | (go_at_call 35; exact Calls.calm (Calls.known (impl_usesFlags x.kind _) Hb5.out)) | (go_at_call 69; exact Calls.calm_same (Calls.flip (Calls.known (impl_NameOk x.box _ hbs (HM.out.below (Later.bel _))) Hn1.out))) | (go_at_call 71; exact Calls.calm (Calls.known (impl_SetOk h.s.A h.s.n h.s.c x.set _ (by omega) (HI.out.2.1.below (Later.bel _))) Hs3.out)) | (go_at_call 72; exact Calls.calm_same (Calls.flip (Calls.known (impl_isOp x.op _) Ho4.out))) | (go_at_call 73; exact Calls.calm_same (Calls.flip (Calls.known (impl_FlagsOk x.flags _) Hf5.out))) | (go_at_call 74; exact Calls.calm (Calls.known (impl_FilterOk x.filter h.f _ (HI.out.2.2.2.below (Later.bel _)) F.out.2.2 (HM.out.below (Later.bel _))) Hf7.out)) | (go_at_call 75; exact Calls.calm (Calls.known (impl_SameFilter x.filter noFilter h.f ⟨none, 0, 0, []⟩ _ (HI.out.2.2.2.below (Later.bel _)) (noFilter_is _) F.out.2.2 noFilter_fit) Hs7.out)) | (go_at_call 66; exact Calls.calm_same (Calls.flip (impl_zeroIf _ _ _ _)))))
        refine wpQuiet_nil ?_
        intro _ hw'
        obtain ⟨u, rfl⟩ := hw'
        have HBf := Lib.hid (HB.out.trans (u.bel.mono HB.out.size))
        go_wp2
        go_ret
        exact ⟨rfl, HBf.out⟩
      | true =>
        iterate 13 (go_big_quiet_step (first | (go_at_call 67; exact Calls.calm (Calls.known (impl_TagOk x.tag _ (by have := F.out.1.1; unfold maxLen; omega)) Ht0.out)) | (go_at_call 32; exact Calls.calm (Calls.knownS (impl_KindWord x.kind _) HKW.out)) | (go_at_call 68; exact Calls.calm (Calls.known (impl_usesBox x.kind _) Hb1.out)) | (go_at_call 70; exact Calls.calm (Calls.known (impl_usesSet x.kind _) Hb3.out)) | (go_at_call 35; exact Calls.calm (Calls.known (impl_usesFlags x.kind _) Hb5.out)) | (go_at_call 69; exact Calls.calm_same (Calls.flip (Calls.known (impl_NameOk x.dest _ hts (HM.out.below (Later.bel _))) Hn2.out))) | (go_at_call 71; exact Calls.calm (Calls.known (impl_SetOk h.s.A h.s.n h.s.c x.set _ (by omega) (HI.out.2.1.below (Later.bel _))) Hs3.out)) | (go_at_call 72; exact Calls.calm_same (Calls.flip (Calls.known (impl_isOp x.op _) Ho4.out))) | (go_at_call 73; exact Calls.calm_same (Calls.flip (Calls.known (impl_FlagsOk x.flags _) Hf5.out))) | (go_at_call 74; exact Calls.calm (Calls.known (impl_FilterOk x.filter h.f _ (HI.out.2.2.2.below (Later.bel _)) F.out.2.2 (HM.out.below (Later.bel _))) Hf7.out)) | (go_at_call 75; exact Calls.calm (Calls.known (impl_SameFilter x.filter noFilter h.f ⟨none, 0, 0, []⟩ _ (HI.out.2.2.2.below (Later.bel _)) (noFilter_is _) F.out.2.2 noFilter_fit) Hs7.out)) | (go_at_call 66; exact Calls.calm_same (Calls.flip (impl_zeroIf _ _ _ _)))))
        cases Z2 with
        | false =>
          repeat (go_big_quiet_step (first | (go_at_call 67; exact Calls.calm (Calls.known (impl_TagOk x.tag _ (by have := F.out.1.1; unfold maxLen; omega)) Ht0.out)) | (go_at_call 32; exact Calls.calm (Calls.knownS (impl_KindWord x.kind _) HKW.out)) | (go_at_call 68; exact Calls.calm (Calls.known (impl_usesBox x.kind _) Hb1.out)) | (go_at_call 70; exact Calls.calm (Calls.known (impl_usesSet x.kind _) Hb3.out)) | (go_at_call 35; exact Calls.calm (Calls.known (impl_usesFlags x.kind _) Hb5.out)) | (go_at_call 69; exact Calls.calm_same (Calls.flip (Calls.known (impl_NameOk x.box _ hbs (HM.out.below (Later.bel _))) Hn1.out))) | (go_at_call 71; exact Calls.calm (Calls.known (impl_SetOk h.s.A h.s.n h.s.c x.set _ (by omega) (HI.out.2.1.below (Later.bel _))) Hs3.out)) | (go_at_call 72; exact Calls.calm_same (Calls.flip (Calls.known (impl_isOp x.op _) Ho4.out))) | (go_at_call 73; exact Calls.calm_same (Calls.flip (Calls.known (impl_FlagsOk x.flags _) Hf5.out))) | (go_at_call 74; exact Calls.calm (Calls.known (impl_FilterOk x.filter h.f _ (HI.out.2.2.2.below (Later.bel _)) F.out.2.2 (HM.out.below (Later.bel _))) Hf7.out)) | (go_at_call 75; exact Calls.calm (Calls.known (impl_SameFilter x.filter noFilter h.f ⟨none, 0, 0, []⟩ _ (HI.out.2.2.2.below (Later.bel _)) (noFilter_is _) F.out.2.2 noFilter_fit) Hs7.out)) | (go_at_call 66; exact Calls.calm_same (Calls.flip (impl_zeroIf _ _ _ _)))))
          refine wpQuiet_nil ?_
          intro _ hw'
          obtain ⟨u, rfl⟩ := hw'
          have HBf := Lib.hid (HB.out.trans (u.bel.mono HB.out.size))
          go_wp2
          go_ret
          exact ⟨rfl, HBf.out⟩
        | true =>
          obtain ⟨n0, hn0⟩ : ∃ b, ((h.s.n : Int) == 0) = b := ⟨_, rfl⟩
          have hn0d : decide (h.s.n = 0) = n0 := by
            rw [← hn0]
            by_cases h0 : h.s.n = 0
            · rw [decide_eq_true h0]; exact (beq_iff_eq.2 (by omega)).symm
            · rw [decide_eq_false h0]; exact (beq_eq_false_iff_ne.2 (by omega)).symm
          have hl3b : (n0 && !uu) = l3 := by rw [← hl3, hn0d]
          clear hl3 hn0d
          iterate 12 (go_big_quiet_step (first | (go_at_call 67; exact Calls.calm (Calls.known (impl_TagOk x.tag _ (by have := F.out.1.1; unfold maxLen; omega)) Ht0.out)) | (go_at_call 32; exact Calls.calm (Calls.knownS (impl_KindWord x.kind _) HKW.out)) | (go_at_call 68; exact Calls.calm (Calls.known (impl_usesBox x.kind _) Hb1.out)) | (go_at_call 70; exact Calls.calm (Calls.known (impl_usesSet x.kind _) Hb3.out)) | (go_at_call 35; exact Calls.calm (Calls.known (impl_usesFlags x.kind _) Hb5.out)) | (go_at_call 69; exact Calls.calm_same (Calls.flip (Calls.known (impl_NameOk x.dest _ hts (HM.out.below (Later.bel _))) Hn2.out))) | (go_at_call 71; exact Calls.calm (Calls.known (impl_SetOk h.s.A h.s.n h.s.c x.set _ (by omega) (HI.out.2.1.below (Later.bel _))) Hs3.out)) | (go_at_call 72; exact Calls.calm_same (Calls.flip (Calls.known (impl_isOp x.op _) Ho4.out))) | (go_at_call 73; exact Calls.calm_same (Calls.flip (Calls.known (impl_FlagsOk x.flags _) Hf5.out))) | (go_at_call 74; exact Calls.calm (Calls.known (impl_FilterOk x.filter h.f _ (HI.out.2.2.2.below (Later.bel _)) F.out.2.2 (HM.out.below (Later.bel _))) Hf7.out)) | (go_at_call 75; exact Calls.calm (Calls.known (impl_SameFilter x.filter noFilter h.f ⟨none, 0, 0, []⟩ _ (HI.out.2.2.2.below (Later.bel _)) (noFilter_is _) F.out.2.2 noFilter_fit) Hs7.out)) | (go_at_call 66; exact Calls.calm_same (Calls.flip (impl_zeroIf _ _ _ _)))))
          cases n0 with
          | false =>
            obtain rfl : false = l3 := hl3b
            iterate 7 (go_big_quiet_step (first | (go_at_call 67; exact Calls.calm (Calls.known (impl_TagOk x.tag _ (by have := F.out.1.1; unfold maxLen; omega)) Ht0.out)) | (go_at_call 32; exact Calls.calm (Calls.knownS (impl_KindWord x.kind _) HKW.out)) | (go_at_call 68; exact Calls.calm (Calls.known (impl_usesBox x.kind _) Hb1.out)) | (go_at_call 70; exact Calls.calm (Calls.known (impl_usesSet x.kind _) Hb3.out)) | (go_at_call 35; exact Calls.calm (Calls.known (impl_usesFlags x.kind _) Hb5.out)) | (go_at_call 69; exact Calls.calm_same (Calls.flip (Calls.known (impl_NameOk x.dest _ hts (HM.out.below (Later.bel _))) Hn2.out))) | (go_at_call 71; exact Calls.calm (Calls.known (impl_SetOk h.s.A h.s.n h.s.c x.set _ (by omega) (HI.out.2.1.below (Later.bel _))) Hs3.out)) | (go_at_call 72; exact Calls.calm_same (Calls.flip (Calls.known (impl_isOp x.op _) Ho4.out))) | (go_at_call 73; exact Calls.calm_same (Calls.flip (Calls.known (impl_FlagsOk x.flags _) Hf5.out))) | (go_at_call 74; exact Calls.calm (Calls.known (impl_FilterOk x.filter h.f _ (HI.out.2.2.2.below (Later.bel _)) F.out.2.2 (HM.out.below (Later.bel _))) Hf7.out)) | (go_at_call 75; exact Calls.calm (Calls.known (impl_SameFilter x.filter noFilter h.f ⟨none, 0, 0, []⟩ _ (HI.out.2.2.2.below (Later.bel _)) (noFilter_is _) F.out.2.2 noFilter_fit) Hs7.out)) | (go_at_call 66; exact Calls.calm_same (Calls.flip (impl_zeroIf _ _ _ _)))))
            cases Z3 with
            | false =>
              repeat (go_big_quiet_step (first | (go_at_call 67; exact Calls.calm (Calls.known (impl_TagOk x.tag _ (by have := F.out.1.1; unfold maxLen; omega)) Ht0.out)) | (go_at_call 32; exact Calls.calm (Calls.knownS (impl_KindWord x.kind _) HKW.out)) | (go_at_call 68; exact Calls.calm (Calls.known (impl_usesBox x.kind _) Hb1.out)) | (go_at_call 70; exact Calls.calm (Calls.known (impl_usesSet x.kind _) Hb3.out)) | (go_at_call 35; exact Calls.calm (Calls.known (impl_usesFlags x.kind _) Hb5.out)) | (go_at_call 69; exact Calls.calm_same (Calls.flip (Calls.known (impl_NameOk x.box _ hbs (HM.out.below (Later.bel _))) Hn1.out))) | (go_at_call 71; exact Calls.calm (Calls.known (impl_SetOk h.s.A h.s.n h.s.c x.set _ (by omega) (HI.out.2.1.below (Later.bel _))) Hs3.out)) | (go_at_call 72; exact Calls.calm_same (Calls.flip (Calls.known (impl_isOp x.op _) Ho4.out))) | (go_at_call 73; exact Calls.calm_same (Calls.flip (Calls.known (impl_FlagsOk x.flags _) Hf5.out))) | (go_at_call 74; exact Calls.calm (Calls.known (impl_FilterOk x.filter h.f _ (HI.out.2.2.2.below (Later.bel _)) F.out.2.2 (HM.out.below (Later.bel _))) Hf7.out)) | (go_at_call 75; exact Calls.calm (Calls.known (impl_SameFilter x.filter noFilter h.f ⟨none, 0, 0, []⟩ _ (HI.out.2.2.2.below (Later.bel _)) (noFilter_is _) F.out.2.2 noFilter_fit) Hs7.out)) | (go_at_call 66; exact Calls.calm_same (Calls.flip (impl_zeroIf _ _ _ _)))))
              refine wpQuiet_nil ?_
              intro _ hw'
              obtain ⟨u, rfl⟩ := hw'
              have HBf := Lib.hid (HB.out.trans (u.bel.mono HB.out.size))
              go_wp2
              go_ret
              exact ⟨rfl, HBf.out⟩
            | true =>
              iterate 13 (go_big_quiet_step (first | (go_at_call 67; exact Calls.calm (Calls.known (impl_TagOk x.tag _ (by have := F.out.1.1; unfold maxLen; omega)) Ht0.out)) | (go_at_call 32; exact Calls.calm (Calls.knownS (impl_KindWord x.kind _) HKW.out)) | (go_at_call 68; exact Calls.calm (Calls.known (impl_usesBox x.kind _) Hb1.out)) | (go_at_call 70; exact Calls.calm (Calls.known (impl_usesSet x.kind _) Hb3.out)) | (go_at_call 35; exact Calls.calm (Calls.known (impl_usesFlags x.kind _) Hb5.out)) | (go_at_call 69; exact Calls.calm_same (Calls.flip (Calls.known (impl_NameOk x.dest _ hts (HM.out.below (Later.bel _))) Hn2.out))) | (go_at_call 71; exact Calls.calm (Calls.known (impl_SetOk h.s.A h.s.n h.s.c x.set _ (by omega) (HI.out.2.1.below (Later.bel _))) Hs3.out)) | (go_at_call 72; exact Calls.calm_same (Calls.flip (Calls.known (impl_isOp x.op _) Ho4.out))) | (go_at_call 73; exact Calls.calm_same (Calls.flip (Calls.known (impl_FlagsOk x.flags _) Hf5.out))) | (go_at_call 74; exact Calls.calm (Calls.known (impl_FilterOk x.filter h.f _ (HI.out.2.2.2.below (Later.bel _)) F.out.2.2 (HM.out.below (Later.bel _))) Hf7.out)) | (go_at_call 75; exact Calls.calm (Calls.known (impl_SameFilter x.filter noFilter h.f ⟨none, 0, 0, []⟩ _ (HI.out.2.2.2.below (Later.bel _)) (noFilter_is _) F.out.2.2 noFilter_fit) Hs7.out)) | (go_at_call 66; exact Calls.calm_same (Calls.flip (impl_zeroIf _ _ _ _)))))
              cases Z4 with
              | false =>
                repeat (go_big_quiet_step (first | (go_at_call 67; exact Calls.calm (Calls.known (impl_TagOk x.tag _ (by have := F.out.1.1; unfold maxLen; omega)) Ht0.out)) | (go_at_call 32; exact Calls.calm (Calls.knownS (impl_KindWord x.kind _) HKW.out)) | (go_at_call 68; exact Calls.calm (Calls.known (impl_usesBox x.kind _) Hb1.out)) | (go_at_call 70; exact Calls.calm (Calls.known (impl_usesSet x.kind _) Hb3.out)) | (go_at_call 35; exact Calls.calm (Calls.known (impl_usesFlags x.kind _) Hb5.out)) | (go_at_call 69; exact Calls.calm_same (Calls.flip (Calls.known (impl_NameOk x.box _ hbs (HM.out.below (Later.bel _))) Hn1.out))) | (go_at_call 71; exact Calls.calm (Calls.known (impl_SetOk h.s.A h.s.n h.s.c x.set _ (by omega) (HI.out.2.1.below (Later.bel _))) Hs3.out)) | (go_at_call 72; exact Calls.calm_same (Calls.flip (Calls.known (impl_isOp x.op _) Ho4.out))) | (go_at_call 73; exact Calls.calm_same (Calls.flip (Calls.known (impl_FlagsOk x.flags _) Hf5.out))) | (go_at_call 74; exact Calls.calm (Calls.known (impl_FilterOk x.filter h.f _ (HI.out.2.2.2.below (Later.bel _)) F.out.2.2 (HM.out.below (Later.bel _))) Hf7.out)) | (go_at_call 75; exact Calls.calm (Calls.known (impl_SameFilter x.filter noFilter h.f ⟨none, 0, 0, []⟩ _ (HI.out.2.2.2.below (Later.bel _)) (noFilter_is _) F.out.2.2 noFilter_fit) Hs7.out)) | (go_at_call 66; exact Calls.calm_same (Calls.flip (impl_zeroIf _ _ _ _)))))
                refine wpQuiet_nil ?_
                intro _ hw'
                obtain ⟨u, rfl⟩ := hw'
                have HBf := Lib.hid (HB.out.trans (u.bel.mono HB.out.size))
                go_wp2
                go_ret
                exact ⟨rfl, HBf.out⟩
              | true =>
                iterate 13 (go_big_quiet_step (first | (go_at_call 67; exact Calls.calm (Calls.known (impl_TagOk x.tag _ (by have := F.out.1.1; unfold maxLen; omega)) Ht0.out)) | (go_at_call 32; exact Calls.calm (Calls.knownS (impl_KindWord x.kind _) HKW.out)) | (go_at_call 68; exact Calls.calm (Calls.known (impl_usesBox x.kind _) Hb1.out)) | (go_at_call 70; exact Calls.calm (Calls.known (impl_usesSet x.kind _) Hb3.out)) | (go_at_call 35; exact Calls.calm (Calls.known (impl_usesFlags x.kind _) Hb5.out)) | (go_at_call 69; exact Calls.calm_same (Calls.flip (Calls.known (impl_NameOk x.dest _ hts (HM.out.below (Later.bel _))) Hn2.out))) | (go_at_call 71; exact Calls.calm (Calls.known (impl_SetOk h.s.A h.s.n h.s.c x.set _ (by omega) (HI.out.2.1.below (Later.bel _))) Hs3.out)) | (go_at_call 72; exact Calls.calm_same (Calls.flip (Calls.known (impl_isOp x.op _) Ho4.out))) | (go_at_call 73; exact Calls.calm_same (Calls.flip (Calls.known (impl_FlagsOk x.flags _) Hf5.out))) | (go_at_call 74; exact Calls.calm (Calls.known (impl_FilterOk x.filter h.f _ (HI.out.2.2.2.below (Later.bel _)) F.out.2.2 (HM.out.below (Later.bel _))) Hf7.out)) | (go_at_call 75; exact Calls.calm (Calls.known (impl_SameFilter x.filter noFilter h.f ⟨none, 0, 0, []⟩ _ (HI.out.2.2.2.below (Later.bel _)) (noFilter_is _) F.out.2.2 noFilter_fit) Hs7.out)) | (go_at_call 66; exact Calls.calm_same (Calls.flip (impl_zeroIf _ _ _ _)))))
                cases Z5 with
                | false =>
                  repeat (go_big_quiet_step (first | (go_at_call 67; exact Calls.calm (Calls.known (impl_TagOk x.tag _ (by have := F.out.1.1; unfold maxLen; omega)) Ht0.out)) | (go_at_call 32; exact Calls.calm (Calls.knownS (impl_KindWord x.kind _) HKW.out)) | (go_at_call 68; exact Calls.calm (Calls.known (impl_usesBox x.kind _) Hb1.out)) | (go_at_call 70; exact Calls.calm (Calls.known (impl_usesSet x.kind _) Hb3.out)) | (go_at_call 35; exact Calls.calm (Calls.known (impl_usesFlags x.kind _) Hb5.out)) | (go_at_call 69; exact Calls.calm_same (Calls.flip (Calls.known (impl_NameOk x.box _ hbs (HM.out.below (Later.bel _))) Hn1.out))) | (go_at_call 71; exact Calls.calm (Calls.known (impl_SetOk h.s.A h.s.n h.s.c x.set _ (by omega) (HI.out.2.1.below (Later.bel _))) Hs3.out)) | (go_at_call 72; exact Calls.calm_same (Calls.flip (Calls.known (impl_isOp x.op _) Ho4.out))) | (go_at_call 73; exact Calls.calm_same (Calls.flip (Calls.known (impl_FlagsOk x.flags _) Hf5.out))) | (go_at_call 74; exact Calls.calm (Calls.known (impl_FilterOk x.filter h.f _ (HI.out.2.2.2.below (Later.bel _)) F.out.2.2 (HM.out.below (Later.bel _))) Hf7.out)) | (go_at_call 75; exact Calls.calm (Calls.known (impl_SameFilter x.filter noFilter h.f ⟨none, 0, 0, []⟩ _ (HI.out.2.2.2.below (Later.bel _)) (noFilter_is _) F.out.2.2 noFilter_fit) Hs7.out)) | (go_at_call 66; exact Calls.calm_same (Calls.flip (impl_zeroIf _ _ _ _)))))
                  refine wpQuiet_nil ?_
                  intro _ hw'
                  obtain ⟨u, rfl⟩ := hw'
                  have HBf := Lib.hid (HB.out.trans (u.bel.mono HB.out.size))
                  go_wp2
                  go_ret
                  exact ⟨rfl, HBf.out⟩
                | true =>
                  iterate 14 (go_big_quiet_step (first | (go_at_call 67; exact Calls.calm (Calls.known (impl_TagOk x.tag _ (by have := F.out.1.1; unfold maxLen; omega)) Ht0.out)) | (go_at_call 32; exact Calls.calm (Calls.knownS (impl_KindWord x.kind _) HKW.out)) | (go_at_call 68; exact Calls.calm (Calls.known (impl_usesBox x.kind _) Hb1.out)) | (go_at_call 70; exact Calls.calm (Calls.known (impl_usesSet x.kind _) Hb3.out)) | (go_at_call 35; exact Calls.calm (Calls.known (impl_usesFlags x.kind _) Hb5.out)) | (go_at_call 69; exact Calls.calm_same (Calls.flip (Calls.known (impl_NameOk x.dest _ hts (HM.out.below (Later.bel _))) Hn2.out))) | (go_at_call 71; exact Calls.calm (Calls.known (impl_SetOk h.s.A h.s.n h.s.c x.set _ (by omega) (HI.out.2.1.below (Later.bel _))) Hs3.out)) | (go_at_call 72; exact Calls.calm_same (Calls.flip (Calls.known (impl_isOp x.op _) Ho4.out))) | (go_at_call 73; exact Calls.calm_same (Calls.flip (Calls.known (impl_FlagsOk x.flags _) Hf5.out))) | (go_at_call 74; exact Calls.calm (Calls.known (impl_FilterOk x.filter h.f _ (HI.out.2.2.2.below (Later.bel _)) F.out.2.2 (HM.out.below (Later.bel _))) Hf7.out)) | (go_at_call 75; exact Calls.calm (Calls.known (impl_SameFilter x.filter noFilter h.f ⟨none, 0, 0, []⟩ _ (HI.out.2.2.2.below (Later.bel _)) (noFilter_is _) F.out.2.2 noFilter_fit) Hs7.out)) | (go_at_call 66; exact Calls.calm_same (Calls.flip (impl_zeroIf _ _ _ _)))))
                  cases Z6 with
                  | false =>
                    repeat (go_big_quiet_step (first | (go_at_call 67; exact Calls.calm (Calls.known (impl_TagOk x.tag _ (by have := F.out.1.1; unfold maxLen; omega)) Ht0.out)) | (go_at_call 32; exact Calls.calm (Calls.knownS (impl_KindWord x.kind _) HKW.out)) | (go_at_call 68; exact Calls.calm (Calls.known (impl_usesBox x.kind _) Hb1.out)) | (go_at_call 70; exact Calls.calm (Calls.known (impl_usesSet x.kind _) Hb3.out)) | (go_at_call 35; exact Calls.calm (Calls.known (impl_usesFlags x.kind _) Hb5.out)) | (go_at_call 69; exact Calls.calm_same (Calls.flip (Calls.known (impl_NameOk x.box _ hbs (HM.out.below (Later.bel _))) Hn1.out))) | (go_at_call 71; exact Calls.calm (Calls.known (impl_SetOk h.s.A h.s.n h.s.c x.set _ (by omega) (HI.out.2.1.below (Later.bel _))) Hs3.out)) | (go_at_call 72; exact Calls.calm_same (Calls.flip (Calls.known (impl_isOp x.op _) Ho4.out))) | (go_at_call 73; exact Calls.calm_same (Calls.flip (Calls.known (impl_FlagsOk x.flags _) Hf5.out))) | (go_at_call 74; exact Calls.calm (Calls.known (impl_FilterOk x.filter h.f _ (HI.out.2.2.2.below (Later.bel _)) F.out.2.2 (HM.out.below (Later.bel _))) Hf7.out)) | (go_at_call 75; exact Calls.calm (Calls.known (impl_SameFilter x.filter noFilter h.f ⟨none, 0, 0, []⟩ _ (HI.out.2.2.2.below (Later.bel _)) (noFilter_is _) F.out.2.2 noFilter_fit) Hs7.out)) | (go_at_call 66; exact Calls.calm_same (Calls.flip (impl_zeroIf _ _ _ _)))))
                    refine wpQuiet_nil ?_
                    intro _ hw'
                    obtain ⟨u, rfl⟩ := hw'
                    have HBf := Lib.hid (HB.out.trans (u.bel.mono HB.out.size))
                    go_wp2
                    go_ret
                    exact ⟨rfl, HBf.out⟩
                  | true =>
                    repeat (go_big_quiet_step (first | (go_at_call 67; exact Calls.calm (Calls.known (impl_TagOk x.tag _ (by have := F.out.1.1; unfold maxLen; omega)) Ht0.out)) | (go_at_call 32; exact Calls.calm (Calls.knownS (impl_KindWord x.kind _) HKW.out)) | (go_at_call 68; exact Calls.calm (Calls.known (impl_usesBox x.kind _) Hb1.out)) | (go_at_call 70; exact Calls.calm (Calls.known (impl_usesSet x.kind _) Hb3.out)) | (go_at_call 35; exact Calls.calm (Calls.known (impl_usesFlags x.kind _) Hb5.out)) | (go_at_call 69; exact Calls.calm_same (Calls.flip (Calls.known (impl_NameOk x.box _ hbs (HM.out.below (Later.bel _))) Hn1.out))) | (go_at_call 71; exact Calls.calm (Calls.known (impl_SetOk h.s.A h.s.n h.s.c x.set _ (by omega) (HI.out.2.1.below (Later.bel _))) Hs3.out)) | (go_at_call 72; exact Calls.calm_same (Calls.flip (Calls.known (impl_isOp x.op _) Ho4.out))) | (go_at_call 73; exact Calls.calm_same (Calls.flip (Calls.known (impl_FlagsOk x.flags _) Hf5.out))) | (go_at_call 74; exact Calls.calm (Calls.known (impl_FilterOk x.filter h.f _ (HI.out.2.2.2.below (Later.bel _)) F.out.2.2 (HM.out.below (Later.bel _))) Hf7.out)) | (go_at_call 75; exact Calls.calm (Calls.known (impl_SameFilter x.filter noFilter h.f ⟨none, 0, 0, []⟩ _ (HI.out.2.2.2.below (Later.bel _)) (noFilter_is _) F.out.2.2 noFilter_fit) Hs7.out)) | (go_at_call 66; exact Calls.calm_same (Calls.flip (impl_zeroIf _ _ _ _)))))
                    refine wpQuiet_nil ?_
                    intro _ hw'
                    obtain ⟨u, rfl⟩ := hw'
                    have HBf := Lib.hid (HB.out.trans (u.bel.mono HB.out.size))
                    go_wp2
                    go_ret
                    exact ⟨rfl, HBf.out⟩
          | true =>
            have hl3c : (!uu) = l3 := hl3b
            clear hl3b
            iterate 7 (go_big_quiet_step (first | (go_at_call 67; exact Calls.calm (Calls.known (impl_TagOk x.tag _ (by have := F.out.1.1; unfold maxLen; omega)) Ht0.out)) | (go_at_call 32; exact Calls.calm (Calls.knownS (impl_KindWord x.kind _) HKW.out)) | (go_at_call 68; exact Calls.calm (Calls.known (impl_usesBox x.kind _) Hb1.out)) | (go_at_call 70; exact Calls.calm (Calls.known (impl_usesSet x.kind _) Hb3.out)) | (go_at_call 35; exact Calls.calm (Calls.known (impl_usesFlags x.kind _) Hb5.out)) | (go_at_call 69; exact Calls.calm_same (Calls.flip (Calls.known (impl_NameOk x.dest _ hts (HM.out.below (Later.bel _))) Hn2.out))) | (go_at_call 71; exact Calls.calm (Calls.known (impl_SetOk h.s.A h.s.n h.s.c x.set _ (by omega) (HI.out.2.1.below (Later.bel _))) Hs3.out)) | (go_at_call 72; exact Calls.calm_same (Calls.flip (Calls.known (impl_isOp x.op _) Ho4.out))) | (go_at_call 73; exact Calls.calm_same (Calls.flip (Calls.known (impl_FlagsOk x.flags _) Hf5.out))) | (go_at_call 74; exact Calls.calm (Calls.known (impl_FilterOk x.filter h.f _ (HI.out.2.2.2.below (Later.bel _)) F.out.2.2 (HM.out.below (Later.bel _))) Hf7.out)) | (go_at_call 75; exact Calls.calm (Calls.known (impl_SameFilter x.filter noFilter h.f ⟨none, 0, 0, []⟩ _ (HI.out.2.2.2.below (Later.bel _)) (noFilter_is _) F.out.2.2 noFilter_fit) Hs7.out)) | (go_at_call 66; exact Calls.calm_same (Calls.flip (impl_zeroIf _ _ _ _)))))
            cases Z3 with
            | false =>
              repeat (go_big_quiet_step (first | (go_at_call 67; exact Calls.calm (Calls.known (impl_TagOk x.tag _ (by have := F.out.1.1; unfold maxLen; omega)) Ht0.out)) | (go_at_call 32; exact Calls.calm (Calls.knownS (impl_KindWord x.kind _) HKW.out)) | (go_at_call 68; exact Calls.calm (Calls.known (impl_usesBox x.kind _) Hb1.out)) | (go_at_call 70; exact Calls.calm (Calls.known (impl_usesSet x.kind _) Hb3.out)) | (go_at_call 35; exact Calls.calm (Calls.known (impl_usesFlags x.kind _) Hb5.out)) | (go_at_call 69; exact Calls.calm_same (Calls.flip (Calls.known (impl_NameOk x.box _ hbs (HM.out.below (Later.bel _))) Hn1.out))) | (go_at_call 71; exact Calls.calm (Calls.known (impl_SetOk h.s.A h.s.n h.s.c x.set _ (by omega) (HI.out.2.1.below (Later.bel _))) Hs3.out)) | (go_at_call 72; exact Calls.calm_same (Calls.flip (Calls.known (impl_isOp x.op _) Ho4.out))) | (go_at_call 73; exact Calls.calm_same (Calls.flip (Calls.known (impl_FlagsOk x.flags _) Hf5.out))) | (go_at_call 74; exact Calls.calm (Calls.known (impl_FilterOk x.filter h.f _ (HI.out.2.2.2.below (Later.bel _)) F.out.2.2 (HM.out.below (Later.bel _))) Hf7.out)) | (go_at_call 75; exact Calls.calm (Calls.known (impl_SameFilter x.filter noFilter h.f ⟨none, 0, 0, []⟩ _ (HI.out.2.2.2.below (Later.bel _)) (noFilter_is _) F.out.2.2 noFilter_fit) Hs7.out)) | (go_at_call 66; exact Calls.calm_same (Calls.flip (impl_zeroIf _ _ _ _)))))
              refine wpQuiet_nil ?_
              intro _ hw'
              obtain ⟨u, rfl⟩ := hw'
              have HBf := Lib.hid (HB.out.trans (u.bel.mono HB.out.size))
              go_wp2
              go_ret
              exact ⟨rfl, HBf.out⟩
            | true =>
              iterate 13 (go_big_quiet_step (first | (go_at_call 67; exact Calls.calm (Calls.known (impl_TagOk x.tag _ (by have := F.out.1.1; unfold maxLen; omega)) Ht0.out)) | (go_at_call 32; exact Calls.calm (Calls.knownS (impl_KindWord x.kind _) HKW.out)) | (go_at_call 68; exact Calls.calm (Calls.known (impl_usesBox x.kind _) Hb1.out)) | (go_at_call 70; exact Calls.calm (Calls.known (impl_usesSet x.kind _) Hb3.out)) | (go_at_call 35; exact Calls.calm (Calls.known (impl_usesFlags x.kind _) Hb5.out)) | (go_at_call 69; exact Calls.calm_same (Calls.flip (Calls.known (impl_NameOk x.dest _ hts (HM.out.below (Later.bel _))) Hn2.out))) | (go_at_call 71; exact Calls.calm (Calls.known (impl_SetOk h.s.A h.s.n h.s.c x.set _ (by omega) (HI.out.2.1.below (Later.bel _))) Hs3.out)) | (go_at_call 72; exact Calls.calm_same (Calls.flip (Calls.known (impl_isOp x.op _) Ho4.out))) | (go_at_call 73; exact Calls.calm_same (Calls.flip (Calls.known (impl_FlagsOk x.flags _) Hf5.out))) | (go_at_call 74; exact Calls.calm (Calls.known (impl_FilterOk x.filter h.f _ (HI.out.2.2.2.below (Later.bel _)) F.out.2.2 (HM.out.below (Later.bel _))) Hf7.out)) | (go_at_call 75; exact Calls.calm (Calls.known (impl_SameFilter x.filter noFilter h.f ⟨none, 0, 0, []⟩ _ (HI.out.2.2.2.below (Later.bel _)) (noFilter_is _) F.out.2.2 noFilter_fit) Hs7.out)) | (go_at_call 66; exact Calls.calm_same (Calls.flip (impl_zeroIf _ _ _ _)))))
              cases Z4 with
              | false =>
                repeat (go_big_quiet_step (first | (go_at_call 67; exact Calls.calm (Calls.known (impl_TagOk x.tag _ (by have := F.out.1.1; unfold maxLen; omega)) Ht0.out)) | (go_at_call 32; exact Calls.calm (Calls.knownS (impl_KindWord x.kind _) HKW.out)) | (go_at_call 68; exact Calls.calm (Calls.known (impl_usesBox x.kind _) Hb1.out)) | (go_at_call 70; exact Calls.calm (Calls.known (impl_usesSet x.kind _) Hb3.out)) | (go_at_call 35; exact Calls.calm (Calls.known (impl_usesFlags x.kind _) Hb5.out)) | (go_at_call 69; exact Calls.calm_same (Calls.flip (Calls.known (impl_NameOk x.box _ hbs (HM.out.below (Later.bel _))) Hn1.out))) | (go_at_call 71; exact Calls.calm (Calls.known (impl_SetOk h.s.A h.s.n h.s.c x.set _ (by omega) (HI.out.2.1.below (Later.bel _))) Hs3.out)) | (go_at_call 72; exact Calls.calm_same (Calls.flip (Calls.known (impl_isOp x.op _) Ho4.out))) | (go_at_call 73; exact Calls.calm_same (Calls.flip (Calls.known (impl_FlagsOk x.flags _) Hf5.out))) | (go_at_call 74; exact Calls.calm (Calls.known (impl_FilterOk x.filter h.f _ (HI.out.2.2.2.below (Later.bel _)) F.out.2.2 (HM.out.below (Later.bel _))) Hf7.out)) | (go_at_call 75; exact Calls.calm (Calls.known (impl_SameFilter x.filter noFilter h.f ⟨none, 0, 0, []⟩ _ (HI.out.2.2.2.below (Later.bel _)) (noFilter_is _) F.out.2.2 noFilter_fit) Hs7.out)) | (go_at_call 66; exact Calls.calm_same (Calls.flip (impl_zeroIf _ _ _ _)))))
                refine wpQuiet_nil ?_
                intro _ hw'
                obtain ⟨u, rfl⟩ := hw'
                have HBf := Lib.hid (HB.out.trans (u.bel.mono HB.out.size))
                go_wp2
                go_ret
                exact ⟨rfl, HBf.out⟩
              | true =>
                iterate 13 (go_big_quiet_step (first | (go_at_call 67; exact Calls.calm (Calls.known (impl_TagOk x.tag _ (by have := F.out.1.1; unfold maxLen; omega)) Ht0.out)) | (go_at_call 32; exact Calls.calm (Calls.knownS (impl_KindWord x.kind _) HKW.out)) | (go_at_call 68; exact Calls.calm (Calls.known (impl_usesBox x.kind _) Hb1.out)) | (go_at_call 70; exact Calls.calm (Calls.known (impl_usesSet x.kind _) Hb3.out)) | (go_at_call 35; exact Calls.calm (Calls.known (impl_usesFlags x.kind _) Hb5.out)) | (go_at_call 69; exact Calls.calm_same (Calls.flip (Calls.known (impl_NameOk x.dest _ hts (HM.out.below (Later.bel _))) Hn2.out))) | (go_at_call 71; exact Calls.calm (Calls.known (impl_SetOk h.s.A h.s.n h.s.c x.set _ (by omega) (HI.out.2.1.below (Later.bel _))) Hs3.out)) | (go_at_call 72; exact Calls.calm_same (Calls.flip (Calls.known (impl_isOp x.op _) Ho4.out))) | (go_at_call 73; exact Calls.calm_same (Calls.flip (Calls.known (impl_FlagsOk x.flags _) Hf5.out))) | (go_at_call 74; exact Calls.calm (Calls.known (impl_FilterOk x.filter h.f _ (HI.out.2.2.2.below (Later.bel _)) F.out.2.2 (HM.out.below (Later.bel _))) Hf7.out)) | (go_at_call 75; exact Calls.calm (Calls.known (impl_SameFilter x.filter noFilter h.f ⟨none, 0, 0, []⟩ _ (HI.out.2.2.2.below (Later.bel _)) (noFilter_is _) F.out.2.2 noFilter_fit) Hs7.out)) | (go_at_call 66; exact Calls.calm_same (Calls.flip (impl_zeroIf _ _ _ _)))))
                cases Z5 with
                | false =>
                  repeat (go_big_quiet_step (first | (go_at_call 67; exact Calls.calm (Calls.known (impl_TagOk x.tag _ (by have := F.out.1.1; unfold maxLen; omega)) Ht0.out)) | (go_at_call 32; exact Calls.calm (Calls.knownS (impl_KindWord x.kind _) HKW.out)) | (go_at_call 68; exact Calls.calm (Calls.known (impl_usesBox x.kind _) Hb1.out)) | (go_at_call 70; exact Calls.calm (Calls.known (impl_usesSet x.kind _) Hb3.out)) | (go_at_call 35; exact Calls.calm (Calls.known (impl_usesFlags x.kind _) Hb5.out)) | (go_at_call 69; exact Calls.calm_same (Calls.flip (Calls.known (impl_NameOk x.box _ hbs (HM.out.below (Later.bel _))) Hn1.out))) | (go_at_call 71; exact Calls.calm (Calls.known (impl_SetOk h.s.A h.s.n h.s.c x.set _ (by omega) (HI.out.2.1.below (Later.bel _))) Hs3.out)) | (go_at_call 72; exact Calls.calm_same (Calls.flip (Calls.known (impl_isOp x.op _) Ho4.out))) | (go_at_call 73; exact Calls.calm_same (Calls.flip (Calls.known (impl_FlagsOk x.flags _) Hf5.out))) | (go_at_call 74; exact Calls.calm (Calls.known (impl_FilterOk x.filter h.f _ (HI.out.2.2.2.below (Later.bel _)) F.out.2.2 (HM.out.below (Later.bel _))) Hf7.out)) | (go_at_call 75; exact Calls.calm (Calls.known (impl_SameFilter x.filter noFilter h.f ⟨none, 0, 0, []⟩ _ (HI.out.2.2.2.below (Later.bel _)) (noFilter_is _) F.out.2.2 noFilter_fit) Hs7.out)) | (go_at_call 66; exact Calls.calm_same (Calls.flip (impl_zeroIf _ _ _ _)))))
                  refine wpQuiet_nil ?_
                  intro _ hw'
                  obtain ⟨u, rfl⟩ := hw'
                  have HBf := Lib.hid (HB.out.trans (u.bel.mono HB.out.size))
                  go_wp2
                  go_ret
                  exact ⟨rfl, HBf.out⟩
                | true =>
                  iterate 14 (go_big_quiet_step (first | (go_at_call 67; exact Calls.calm (Calls.known (impl_TagOk x.tag _ (by have := F.out.1.1; unfold maxLen; omega)) Ht0.out)) | (go_at_call 32; exact Calls.calm (Calls.knownS (impl_KindWord x.kind _) HKW.out)) | (go_at_call 68; exact Calls.calm (Calls.known (impl_usesBox x.kind _) Hb1.out)) | (go_at_call 70; exact Calls.calm (Calls.known (impl_usesSet x.kind _) Hb3.out)) | (go_at_call 35; exact Calls.calm (Calls.known (impl_usesFlags x.kind _) Hb5.out)) | (go_at_call 69; exact Calls.calm_same (Calls.flip (Calls.known (impl_NameOk x.dest _ hts (HM.out.below (Later.bel _))) Hn2.out))) | (go_at_call 71; exact Calls.calm (Calls.known (impl_SetOk h.s.A h.s.n h.s.c x.set _ (by omega) (HI.out.2.1.below (Later.bel _))) Hs3.out)) | (go_at_call 72; exact Calls.calm_same (Calls.flip (Calls.known (impl_isOp x.op _) Ho4.out))) | (go_at_call 73; exact Calls.calm_same (Calls.flip (Calls.known (impl_FlagsOk x.flags _) Hf5.out))) | (go_at_call 74; exact Calls.calm (Calls.known (impl_FilterOk x.filter h.f _ (HI.out.2.2.2.below (Later.bel _)) F.out.2.2 (HM.out.below (Later.bel _))) Hf7.out)) | (go_at_call 75; exact Calls.calm (Calls.known (impl_SameFilter x.filter noFilter h.f ⟨none, 0, 0, []⟩ _ (HI.out.2.2.2.below (Later.bel _)) (noFilter_is _) F.out.2.2 noFilter_fit) Hs7.out)) | (go_at_call 66; exact Calls.calm_same (Calls.flip (impl_zeroIf _ _ _ _)))))
                  cases Z6 with
                  | false =>
                    repeat (go_big_quiet_step (first | (go_at_call 67; exact Calls.calm (Calls.known (impl_TagOk x.tag _ (by have := F.out.1.1; unfold maxLen; omega)) Ht0.out)) | (go_at_call 32; exact Calls.calm (Calls.knownS (impl_KindWord x.kind _) HKW.out)) | (go_at_call 68; exact Calls.calm (Calls.known (impl_usesBox x.kind _) Hb1.out)) | (go_at_call 70; exact Calls.calm (Calls.known (impl_usesSet x.kind _) Hb3.out)) | (go_at_call 35; exact Calls.calm (Calls.known (impl_usesFlags x.kind _) Hb5.out)) | (go_at_call 69; exact Calls.calm_same (Calls.flip (Calls.known (impl_NameOk x.box _ hbs (HM.out.below (Later.bel _))) Hn1.out))) | (go_at_call 71; exact Calls.calm (Calls.known (impl_SetOk h.s.A h.s.n h.s.c x.set _ (by omega) (HI.out.2.1.below (Later.bel _))) Hs3.out)) | (go_at_call 72; exact Calls.calm_same (Calls.flip (Calls.known (impl_isOp x.op _) Ho4.out))) | (go_at_call 73; exact Calls.calm_same (Calls.flip (Calls.known (impl_FlagsOk x.flags _) Hf5.out))) | (go_at_call 74; exact Calls.calm (Calls.known (impl_FilterOk x.filter h.f _ (HI.out.2.2.2.below (Later.bel _)) F.out.2.2 (HM.out.below (Later.bel _))) Hf7.out)) | (go_at_call 75; exact Calls.calm (Calls.known (impl_SameFilter x.filter noFilter h.f ⟨none, 0, 0, []⟩ _ (HI.out.2.2.2.below (Later.bel _)) (noFilter_is _) F.out.2.2 noFilter_fit) Hs7.out)) | (go_at_call 66; exact Calls.calm_same (Calls.flip (impl_zeroIf _ _ _ _)))))
                    refine wpQuiet_nil ?_
                    intro _ hw'
                    obtain ⟨u, rfl⟩ := hw'
                    have HBf := Lib.hid (HB.out.trans (u.bel.mono HB.out.size))
                    go_wp2
                    go_ret
                    exact ⟨rfl, HBf.out⟩
                  | true =>
                    repeat (go_big_quiet_step (first | (go_at_call 67; exact Calls.calm (Calls.known (impl_TagOk x.tag _ (by have := F.out.1.1; unfold maxLen; omega)) Ht0.out)) | (go_at_call 32; exact Calls.calm (Calls.knownS (impl_KindWord x.kind _) HKW.out)) | (go_at_call 68; exact Calls.calm (Calls.known (impl_usesBox x.kind _) Hb1.out)) | (go_at_call 70; exact Calls.calm (Calls.known (impl_usesSet x.kind _) Hb3.out)) | (go_at_call 35; exact Calls.calm (Calls.known (impl_usesFlags x.kind _) Hb5.out)) | (go_at_call 69; exact Calls.calm_same (Calls.flip (Calls.known (impl_NameOk x.box _ hbs (HM.out.below (Later.bel _))) Hn1.out))) | (go_at_call 71; exact Calls.calm (Calls.known (impl_SetOk h.s.A h.s.n h.s.c x.set _ (by omega) (HI.out.2.1.below (Later.bel _))) Hs3.out)) | (go_at_call 72; exact Calls.calm_same (Calls.flip (Calls.known (impl_isOp x.op _) Ho4.out))) | (go_at_call 73; exact Calls.calm_same (Calls.flip (Calls.known (impl_FlagsOk x.flags _) Hf5.out))) | (go_at_call 74; exact Calls.calm (Calls.known (impl_FilterOk x.filter h.f _ (HI.out.2.2.2.below (Later.bel _)) F.out.2.2 (HM.out.below (Later.bel _))) Hf7.out)) | (go_at_call 75; exact Calls.calm (Calls.known (impl_SameFilter x.filter noFilter h.f ⟨none, 0, 0, []⟩ _ (HI.out.2.2.2.below (Later.bel _)) (noFilter_is _) F.out.2.2 noFilter_fit) Hs7.out)) | (go_at_call 66; exact Calls.calm_same (Calls.flip (impl_zeroIf _ _ _ _)))))
                    refine wpQuiet_nil ?_
                    intro _ hw'
                    obtain ⟨u, rfl⟩ := hw'
                    have HBf := Lib.hid (HB.out.trans (u.bel.mono HB.out.size))
                    go_wp2
                    go_ret
                    exact ⟨rfl, HBf.out⟩

end Go.Proofs.YtjpkceimokkpgaaGreatDoor
