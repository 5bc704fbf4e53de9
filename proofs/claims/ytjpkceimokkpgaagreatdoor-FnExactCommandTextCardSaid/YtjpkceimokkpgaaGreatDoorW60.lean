/-
  Walks: what each function returns, and that it leaves what lay in memory as it was.
-/
import Derived.Test.YtjpkceimokkpgaaGreatDoorProg
import Derived.Test.YtjpkceimokkpgaaGreatDoorPlain
import Derived.Test.YtjpkceimokkpgaaGreatDoorBase2
import Derived.Test.YtjpkceimokkpgaaGreatDoorOpen2
import Derived.Test.YtjpkceimokkpgaaGreatDoorShelf
import Derived.WalkKit
import Derived.WalkSpells
import Derived.WalkLawsBesides
import Derived.Lib.Hide
import Derived.Deep.LoopGhost
import Derived.Deep.QuietTactic
import Derived.BigQuiet
import Derived.Handy
import Derived.Deep.RegionHeld3
import Derived.StillTailTactics
import Derived.OpenShut
import Derived.ChangeSame
import Derived.Laws.StructEq

import Derived.Test.YtjpkceimokkpgaaGreatDoorPlainT

import Derived.Test.YtjpkceimokkpgaaGreatDoorBase3

import Derived.Test.YtjpkceimokkpgaaGreatDoorW1

import Derived.Test.YtjpkceimokkpgaaGreatDoorW2

import Derived.Test.YtjpkceimokkpgaaGreatDoorW3

import Derived.Test.YtjpkceimokkpgaaGreatDoorW4

import Derived.Test.YtjpkceimokkpgaaGreatDoorW5

import Derived.Test.YtjpkceimokkpgaaGreatDoorW7

import Derived.Test.YtjpkceimokkpgaaGreatDoorW9

import Derived.Test.YtjpkceimokkpgaaGreatDoorW14

import Derived.Test.YtjpkceimokkpgaaGreatDoorW15

import Derived.Test.YtjpkceimokkpgaaGreatDoorW17

import Derived.Test.YtjpkceimokkpgaaGreatDoorW18

import Derived.Test.YtjpkceimokkpgaaGreatDoorW19

import Derived.Test.YtjpkceimokkpgaaGreatDoorW20

import Derived.Test.YtjpkceimokkpgaaGreatDoorW30

import Derived.Test.YtjpkceimokkpgaaGreatDoorW31

import Derived.Test.YtjpkceimokkpgaaGreatDoorW32

import Derived.Test.YtjpkceimokkpgaaGreatDoorW33

import Derived.Test.YtjpkceimokkpgaaGreatDoorW41

import Derived.Test.YtjpkceimokkpgaaGreatDoorW42

import Derived.Test.YtjpkceimokkpgaaGreatDoorW50

import Derived.Test.YtjpkceimokkpgaaGreatDoorW51

import Derived.Test.YtjpkceimokkpgaaGreatDoorW52

import Derived.Test.YtjpkceimokkpgaaGreatDoorW56

import Derived.Test.YtjpkceimokkpgaaGreatDoorW57

import Derived.Test.YtjpkceimokkpgaaGreatDoorW58

import Derived.Test.YtjpkceimokkpgaaGreatDoorW59

namespace Go.Proofs.YtjpkceimokkpgaaGreatDoor
open Go.ChangeShapes Go.WideShapes Go.ChangeAt Go.RowKit Go.Deep
set_option linter.unusedVariables false
set_option linter.unusedSimpArgs false

set_option maxRecDepth 20000

/-! ### the text of a command -/
theorem setText_small (l : List Span) : (setText l).length ≤ 300 := by
  unfold setText
  split
  · rename_i h
    have h1 := join_len_le (M := 43) (S := 1) [44] (by simp) (l.map spanText) (by
      intro y hy
      obtain ⟨x, hx, rfl⟩ := List.mem_map.1 hy
      unfold setOk at h
      simp only [Bool.and_eq_true, List.all_eq_true] at h
      exact spanText_len (h.1 x hx))
    have h2 := setOk_n h
    rw [List.length_map] at h1
    omega
  · simp
theorem kindWord_small (k : Int) : (kindWord k).length ≤ 100 := by
  unfold kindWord
  split
  · rw [List.getD_eq_getElem?_getD]
    cases h : kindList[k.toNat]? with
    | none => simp
    | some y =>
      have hm := List.mem_of_getElem? h
      have ha : ∀ z ∈ kindList, z.length ≤ 100 := by decide +kernel
      exact ha y hm
  · simp
theorem opText_small (n : Int) : (opText n).length ≤ 100 := by
  unfold opText
  split
  · simp
  · split
    · simp
    · split <;> simp
theorem scopeWord_small (k : Nat) : (scopeList.getD k []).length ≤ 100 := by
  rw [List.getD_eq_getElem?_getD]
  cases h : scopeList[k]? with
  | none => simp
  | some y =>
    have hm := List.mem_of_getElem? h
    have ha : ∀ z ∈ scopeList, z.length ≤ 100 := by decide +kernel
    exact ha y hm
theorem tkA_fit {s : Str} (h : s.length ≤ 1048576) : (tkA s).Fit := by
  unfold Token.Fit tkA
  rw [size_len]
  simpa using h
theorem groupT_fit {ws : List Str} (h : ∀ y ∈ ws, strFit y) : ∀ y ∈ groupT ws, y.Fit := by
  intro y hy
  unfold groupT at hy
  simp only [List.mem_append, List.mem_cons, List.mem_map, List.not_mem_nil, or_false] at hy
  rcases hy with (rfl | ⟨z, hz, rfl⟩) | rfl
  · unfold Token.Fit tkO; decide
  · exact tkA_fit (h z hz)
  · unfold Token.Fit tkC; decide
theorem scopeT_fit {s : Scope} (f : s.Fit) : ∀ y ∈ scopeT s, y.Fit := by
  intro y hy
  unfold scopeT scopeHead scopeNames at hy
  simp only [List.mem_append, List.mem_cons, List.not_mem_nil, or_false] at hy
  rcases hy with (((rfl | rfl) | hy) | hy) | rfl
  · unfold Token.Fit tkO; decide
  · have := scopeWord_small s.kind.toNat
    exact tkA_fit (by omega)
  · split at hy
    · cases hy
    · exact groupT_fit f.2 y hy
  · exact groupT_fit (fun z hz => eventList_fit z (selTo_mem hz)) y hy
  · unfold Token.Fit tkC; decide
theorem filterT_fit {x : Filter} (f : x.Fit) : ∀ y ∈ filterT x, y.Fit := by
  intro y hy
  unfold filterT at hy
  split at hy
  · split at hy
    · rcases List.mem_cons.1 hy with rfl | hy
      · exact tkA_fit (by simp)
      · obtain ⟨s, hs, hy⟩ := List.mem_flatMap.1 hy
        exact scopeT_fit (f.2 s hs) y hy
    · rw [List.mem_singleton.1 hy]
      exact tkA_fit (by simp)
  · cases hy
theorem opt_fit {b : Bool} {l : List Token} (h : ∀ y ∈ l, y.Fit) : ∀ y ∈ opt b l, y.Fit := by
  intro y hy
  unfold opt at hy
  split at hy
  · exact h y hy
  · cases hy
theorem app_fit {l r : List Token} (h : ∀ y ∈ l, y.Fit) (k : ∀ y ∈ r, y.Fit) : ∀ y ∈ l ++ r, y.Fit := by
  intro y hy
  rcases List.mem_append.1 hy with hy | hy
  · exact h y hy
  · exact k y hy
theorem one_fit {t : Token} (h : t.Fit) : ∀ y ∈ [t], y.Fit := by
  intro y hy
  rw [List.mem_singleton.1 hy]; exact h
theorem commandT_fit {x : Command} (f : x.Fit) : ∀ y ∈ commandT x, y.Fit := by
  obtain ⟨⟨f1, f2, f3, f4⟩, _, f6⟩ := f
  have k1 := setText_small x.set
  have k2 := kindWord_small x.kind
  have k3 := opText_small x.op
  unfold commandT cT10 cT9 cT8 cT7 cT6 cT5 cT4 cT3 cT2 cT1
  refine opt_fit (app_fit (app_fit (app_fit (app_fit (app_fit (app_fit (app_fit (app_fit (app_fit (one_fit f1) (opt_fit (one_fit (tkA_fit (by simp))))) (one_fit (tkA_fit (by omega)))) (opt_fit (one_fit (tkA_fit (by omega))))) (opt_fit (one_fit (tkA_fit (by omega))))) (opt_fit (one_fit f2))) (opt_fit (one_fit f3))) (opt_fit (groupT_fit (fun z hz => flagList_fit z (selTo_mem hz))))) (opt_fit (one_fit f4))) (opt_fit (filterT_fit f6)))
set_option maxHeartbeats 1600000 in
set_option maxRecDepth 20000 in
theorem spec_CommandText (x : Command) (h : CHd) (w : World) (i : CommandIs w x h) (f : x.Fit) :
    Calls Tryz.prog 14 #[.agg #[.string x.tag, .int .i64 x.kind, .string x.box, .string x.dest, .bool x.uid, .slice h.s.A h.s.n h.s.c, .int .i64 x.op, .int .i64 x.flags, .string x.text, .bool x.filter.on, .slice h.f.A h.f.n h.f.c]] w fun e w' => e = .returned (.string ⟨(lineOf (commandT x)).toArray⟩) ∧ Below w.heap.size w w' := by
  have hfit := commandT_fit f
  have hlen := commandT_len x
  have nB : Below w.heap.size w (w.alloc (.cells #[.string x.tag, .int .i64 x.kind, .string x.box, .string x.dest, .bool x.uid, .slice h.s.A h.s.n h.s.c, .int .i64 x.op, .int .i64 x.flags, .string x.text, .bool x.filter.on, .slice h.f.A h.f.n h.f.c] 36)) := by go_grown
  have nI := i.below nB
  obtain ⟨R, hR⟩ : ∃ R, commandT x = R := ⟨_, rfl⟩
  have HC := Lib.hid (hR ▸ spec_CommandTokens x h _ nI f)
  rw [hR] at hfit hlen ⊢
  obtain ⟨Z, hZ⟩ : ∃ Z : ByteArray, (⟨(lineOf R).toArray⟩ : ByteArray) = Z := ⟨_, rfl⟩
  have HZ := Lib.hid hZ
  have HFit := Lib.hid hfit
  have HB := Lib.hid nB
  rw [hZ]
  clear hR hZ hfit nB nI i f
  go_enter Tryz.func14, Tryz.ntmps14
  go_wp2_with fail
  refine HC.out.mono ?_
  rintro e w1 ⟨A1, c1, rfl, ho, hb⟩
  have HR := Lib.hid (Rd.of_own (enc := encToken) (k := 2) (fun _ => rfl) ho rfl)
  have HB1 := Lib.hid (HB.out.trans (hb.mono HB.out.size))
  clear ho hb
  go_wp2_with fail
  refine (spec_LineOf A1 R.length c1 R w1 (by omega) HR.out HFit.out).mono ?_
  rw [HZ.out]
  rintro e w2 ⟨rfl, hb2⟩
  have HB2 := Lib.hid (HB1.out.trans (hb2.mono HB1.out.size))
  clear hb2
  go_wp2
  go_ret
  exact ⟨rfl, HB2.out⟩
set_option maxHeartbeats 1600000 in
set_option maxRecDepth 20000 in
theorem impl_CommandText (x : Command) (h : CHd) (w : World) (i : CommandIs w x h) (f : x.Fit) (hml : ML w) (htab : Lib.TabIs Tryz.prog w "internal/strconv.uint64pow10" .u64 Lib.pow10Tab) :
    Calls Tryz.prog 15 #[.agg #[.string x.tag, .int .i64 x.kind, .string x.box, .string x.dest, .bool x.uid, .slice h.s.A h.s.n h.s.c, .int .i64 x.op, .int .i64 x.flags, .string x.text, .bool x.filter.on, .slice h.f.A h.f.n h.f.c]] w fun e w' => e = .returned (.string ⟨(lineOf (commandT x)).toArray⟩) ∧ Below w.heap.size w w' := by
  have hfit := commandT_fit f
  have hlen := commandT_len x
  have nB : Below w.heap.size w (w.alloc (.cells #[.string x.tag, .int .i64 x.kind, .string x.box, .string x.dest, .bool x.uid, .slice h.s.A h.s.n h.s.c, .int .i64 x.op, .int .i64 x.flags, .string x.text, .bool x.filter.on, .slice h.f.A h.f.n h.f.c] 36)) := by go_grown
  have nI := i.below nB
  obtain ⟨R, hR⟩ : ∃ R, commandT x = R := ⟨_, rfl⟩
  have HC := Lib.hid (hR ▸ impl_CommandTokens x h _ nI f (hml.below nB) (tab_below htab nB))
  have HML := Lib.hid (hml.below nB)
  rw [hR] at hfit hlen ⊢
  obtain ⟨Z, hZ⟩ : ∃ Z : ByteArray, (⟨(lineOf R).toArray⟩ : ByteArray) = Z := ⟨_, rfl⟩
  have HZ := Lib.hid hZ
  have HFit := Lib.hid hfit
  have HB := Lib.hid nB
  rw [hZ]
  clear hR hZ hfit nB nI i f hml htab
  go_enter Tryz.func15, Tryz.ntmps15
  go_wp2_with fail
  refine HC.out.mono ?_
  rintro e w1 ⟨A1, c1, rfl, ho, hb⟩
  have HR := Lib.hid (Rd.of_own (enc := encToken) (k := 2) (fun _ => rfl) ho rfl)
  have HB1 := Lib.hid (HB.out.trans (hb.mono HB.out.size))
  have HM1 := Lib.hid (HML.out.below hb)
  clear ho hb
  go_wp2_with fail
  refine (impl_LineOf A1 R.length c1 R w1 (by omega) HR.out HFit.out HM1.out).mono ?_
  rw [HZ.out]
  rintro e w2 ⟨rfl, hb2⟩
  have HB2 := Lib.hid (HB1.out.trans (hb2.mono HB1.out.size))
  clear hb2
  go_wp2
  go_ret
  exact ⟨rfl, HB2.out⟩

end Go.Proofs.YtjpkceimokkpgaaGreatDoor
