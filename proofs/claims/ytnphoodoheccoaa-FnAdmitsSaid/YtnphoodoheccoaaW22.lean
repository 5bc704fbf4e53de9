/-
  Walks: what each function returns, and that it leaves what lay in memory as it was.
-/
import Derived.Test.YtnphoodoheccoaaProg
import Derived.Test.YtnphoodoheccoaaPlain
import Derived.Test.YtnphoodoheccoaaBase2
import Derived.Test.YtnphoodoheccoaaOpen2
import Derived.Test.YtnphoodoheccoaaShelf
import Derived.WalkKit
import Derived.WalkSpells
import Derived.WalkLawsBesides
import Derived.Lib.Hide
import Derived.Deep.LoopGhost
import Derived.Deep.QuietTactic
import Derived.BigQuiet
import Derived.Handy
import Derived.Deep.RegionHeld3
import Derived.StillTailTactics
import Derived.OpenShut
import Derived.ChangeSame
import Derived.Laws.StructEq

import Derived.Test.YtnphoodoheccoaaPlainT

import Derived.Test.YtnphoodoheccoaaW1

import Derived.Test.YtnphoodoheccoaaW9

import Derived.Test.YtnphoodoheccoaaW21

namespace Go.Proofs.Ytnphoodoheccoaa
open Go.ChangeShapes Go.WideShapes Go.ChangeAt Go.RowKit Go.Deep
set_option linter.unusedVariables false
set_option linter.unusedSimpArgs false

theorem ba_eq {a b : ByteArray} : a = b ↔ a.data.toList = b.data.toList := by
  constructor
  · rintro rfl; rfl
  · intro h
    rw [str_eq h]
theorem ba_beq (a b : ByteArray) : (a.toList == b.toList) = decide (a = b) := by
  rw [Bool.eq_iff_iff, beq_iff_eq, decide_eq_true_iff, ByteArray.toList_eq, ByteArray.toList_eq, ba_eq]
set_option maxHeartbeats 800000 in
theorem spec_Under (s t : ByteArray) (w : World) (hs : s.size ≤ 1099511627) (ht : t.size ≤ 1099511627) :
    Calls Try.prog 51 #[.string s, .string t] w fun e w' => e = .returned (.bool (underIn s.data.toList t.data.toList)) ∧ w = w' := by
  have hu : underIn s.data.toList t.data.toList = (nameOk s.data.toList && (nameOk t.data.toList && (decide (s = t) || (decide (t.size < s.size) && (decide (s.extract 0 t.size = t) && slashAt s.data.toList t.size))))) := by
    unfold underIn
    rw [hasPrefix_sep, ← size_len, ← size_len]
    congr 3
    · rw [decide_eq_decide]; exact ba_eq.symm
    · congr 2
      rw [decide_eq_decide, ba_eq, extract_str]
      simp
  have HU := Lib.hid hu
  clear hu
  have hb1 := ba_beq s t
  have hb2 := ba_beq (s.extract 0 t.size) t
  cases h1 : nameOk s.data.toList
  · have Hr := Lib.hid (HU.out.trans (by rw [h1, Bool.false_and]))
    go_enter Try.func51, Try.ntmps51
    go_wp2_with (go_at_call 50; refine (spec_NameOk _ _ (by unfold maxLen; omega)).mono ?_; rintro e w' ⟨rfl, rfl⟩)
    go_ret
    exact ⟨ret_b Hr.out.symm, rfl⟩
  · cases h2 : nameOk t.data.toList
    · have Hr := Lib.hid (HU.out.trans (by rw [h1, h2, Bool.false_and, Bool.and_false]))
      go_enter Try.func51, Try.ntmps51
      go_wp2_with (go_at_call 50; refine (spec_NameOk _ _ (by unfold maxLen; omega)).mono ?_; rintro e w' ⟨rfl, rfl⟩; first | rw [h1] | rw [h2])
      go_ret
      exact ⟨ret_b Hr.out.symm, rfl⟩
    · cases e1 : decide (s = t)
      · by_cases hl : t.size < s.size
        · have hlb : (t.size : Int) < (s.size : Int) := by omega
          have Hsl := Lib.hid (slash_at s t.size hl)
          cases hp : decide (s.extract 0 t.size = t) <;> by_cases hc : (s[t.size].toNat : Int) = 47
          all_goals
            have Hr := Lib.hid (HU.out.trans (by rw [h1, h2, e1, decide_eq_true hl, hp, Hsl.out]))
            have hb1' := hb1.trans e1
            have hb2' := hb2.trans hp
            clear hb1 hb2 e1 hp HU
            have HC := Lib.hid hc
            go_enter Try.func51, Try.ntmps51
            go_wp2_with (go_at_call 50; refine (spec_NameOk _ _ (by unfold maxLen; omega)).mono ?_; rintro e w' ⟨rfl, rfl⟩; first | rw [h1] | rw [h2])
            go_ret
            exact ⟨ret_b (by rw [Hr.out]; simp [HC.out]), rfl⟩
        · have hlb : ¬ (t.size : Int) < (s.size : Int) := by omega
          have Hr := Lib.hid (HU.out.trans (by rw [h1, h2, e1, decide_eq_false hl, Bool.false_and]))
          have hb1' := hb1.trans e1
          clear hb1 hb2 e1 HU
          go_enter Try.func51, Try.ntmps51
          go_wp2_with (go_at_call 50; refine (spec_NameOk _ _ (by unfold maxLen; omega)).mono ?_; rintro e w' ⟨rfl, rfl⟩; first | rw [h1] | rw [h2])
          go_ret
          exact ⟨ret_b (by rw [Hr.out]; rfl), rfl⟩
      · have Hr := Lib.hid (HU.out.trans (by rw [h1, h2, e1]))
        have hb1' := hb1.trans e1
        clear hb1 hb2 e1 HU
        go_enter Try.func51, Try.ntmps51
        go_wp2_with (go_at_call 50; refine (spec_NameOk _ _ (by unfold maxLen; omega)).mono ?_; rintro e w' ⟨rfl, rfl⟩; first | rw [h1] | rw [h2])
        go_ret
        exact ⟨ret_b (by rw [Hr.out]; rfl), rfl⟩
set_option maxHeartbeats 800000 in
theorem impl_Under (s t : ByteArray) (w : World) (hs : s.size ≤ 1099511627) (ht : t.size ≤ 1099511627) (hml : ML w) :
    Calls Try.prog 30 #[.string s, .string t] w fun e w' => e = .returned (.bool (underIn s.data.toList t.data.toList)) ∧ w = w' := by
  have hcat : (t ++ (⟨#[47]⟩ : ByteArray)).data.toList = t.data.toList ++ [47] := by simp
  have hu : underIn s.data.toList t.data.toList = (nameOk s.data.toList && (nameOk t.data.toList && (decide (s = t) || Lib.hasPrefix s.data.toList (t ++ (⟨#[47]⟩ : ByteArray)).data.toList))) := by
    unfold underIn
    rw [hcat]
    congr 3
    rw [decide_eq_decide]; exact ba_eq.symm
  have hpre := Try.strings_HasPrefix s (t ++ (⟨#[47]⟩ : ByteArray)) w
  have HU := Lib.hid hu
  have Hml := Lib.hid hml
  have Hpre := Lib.hid hpre
  have hb1 := ba_beq s t
  clear hu hml hcat hpre
  cases h1 : nameOk s.data.toList <;> cases h2 : nameOk t.data.toList <;> cases e1 : decide (s = t) <;> cases h3 : Lib.hasPrefix s.data.toList (t ++ (⟨#[47]⟩ : ByteArray)).data.toList
  all_goals
    have Hr := Lib.hid (HU.out.trans (by rw [h1, h2, e1, h3]))
    have H3 := Lib.hid h3
    have hb1' := hb1.trans e1
    clear h3 HU hb1 e1
    go_enter Try.func30, Try.ntmps30
    go_wp2_with (first | (go_at_call 27; refine (impl_NameOk _ _ (by omega) Hml.out).mono ?_; rintro e w' ⟨rfl, rfl⟩; first | rw [h1] | rw [h2]) | (go_at_call 55; refine Hpre.out.mono ?_; rintro e w' ⟨rfl, rfl⟩; rw [H3.out]))
    go_ret
    exact ⟨ret_b (by rw [Hr.out]; rfl), rfl⟩

def covers (s : Scope) (sel name : ByteArray) : Bool :=
  if s.kind = 1 then decide (name = sel) && !decide (name = ⟨#[]⟩)
  else if s.kind = 2 then nameOk name.data.toList
  else if s.kind = 3 then s.names.any (fun top => underIn name.data.toList top)
  else if s.kind = 4 then s.names.any (fun t => decide (t = name.data.toList)) else false
theorem covers1 {s : Scope} {sel name : ByteArray} (h : s.kind = 1) : covers s sel name = (decide (name = sel) && !decide (name = ⟨#[]⟩)) := by unfold covers; rw [if_pos h]
theorem covers2 {s : Scope} {sel name : ByteArray} (h : s.kind = 2) : covers s sel name = nameOk name.data.toList := by unfold covers; rw [if_neg (by omega), if_pos h]
theorem covers3 {s : Scope} {sel name : ByteArray} (h : s.kind = 3) : covers s sel name = s.names.any (fun top => underIn name.data.toList top) := by unfold covers; rw [if_neg (by omega), if_neg (by omega), if_pos h]
theorem covers4 {s : Scope} {sel name : ByteArray} (h : s.kind = 4) : covers s sel name = s.names.any (fun t => decide (t = name.data.toList)) := by unfold covers; rw [if_neg (by omega), if_neg (by omega), if_neg (by omega), if_pos h]
theorem covers5 {s : Scope} {sel name : ByteArray} (h1 : s.kind ≠ 1) (h2 : s.kind ≠ 2) (h3 : s.kind ≠ 3) (h4 : s.kind ≠ 4) : covers s sel name = false := by unfold covers; rw [if_neg h1, if_neg h2, if_neg h3, if_neg h4]
theorem ba_mk (l : Str) (s : ByteArray) : (⟨l.toArray⟩ : ByteArray) = s ↔ l = s.data.toList := by
  constructor
  · rintro rfl; simp
  · rintro rfl; exact mk_toList s
theorem ba_mk_beq (l : Str) (s : ByteArray) : ((⟨l.toArray⟩ : ByteArray).toList == s.toList) = decide (l = s.data.toList) := by
  rw [ba_beq]; exact decide_eq_decide.2 (ba_mk l s)
theorem ba_empty (a : ByteArray) : a.toList.isEmpty = decide (a = ⟨#[]⟩) := by
  rw [Bool.eq_iff_iff, List.isEmpty_iff, decide_eq_true_iff, ByteArray.toList_eq]
  constructor
  · intro h; cases a; simp at h; subst h; rfl
  · rintro rfl; rfl
theorem any_hit {α : Type} {p : α → Bool} {l : List α} {k : Nat} {x : α} (h : l[k]? = some x) (hp : p x = true) : l.any p = true := List.any_eq_true.2 ⟨x, List.mem_of_getElem? h, hp⟩
theorem any_miss {α : Type} {p : α → Bool} {l : List α} (h : ∀ (j : Nat) (y : α), l[j]? = some y → p y = false) : l.any p = false := by
  rw [List.any_eq_false]; intro x hx
  obtain ⟨j, hj, e⟩ := List.getElem_of_mem hx
  rw [h j x (by rw [List.getElem?_eq_getElem hj, e])]; simp
set_option maxHeartbeats 800000 in
theorem spec_l1Has (A : Option Addr) (n c : Nat) (xs : List Str) (s : ByteArray) (w : World) (hn : n ≤ 1048576) (h : Rd encStr 1 w A n xs) :
    Calls Try.prog 52 #[.slice A n c, .string s] w fun e w' => e = .returned (.bool (xs.any (fun t => decide (t = s.data.toList)))) ∧ w = w' := by
  have HL := Lib.hid h.1
  have H := Lib.hid h
  clear h
  go_enter Try.func52, Try.ntmps52
  go_wp2_with fail
  go_loop [5] (fun i => ∃ k : Nat, k ≤ n ∧ i = .int .i64 k ∧ Hid (∀ (j : Nat) (y : Str), j < k → xs[j]? = some y → decide (y = s.data.toList) = false)) (fun i => n - (intOf i).toNat)
  case atStart => exact ⟨0, Nat.zero_le _, rfl, fun j y hj => absurd hj (by omega)⟩
  case round =>
    obtain ⟨k, hk, rfl, ha⟩ := hrel
    by_cases hlt : k < n
    · obtain ⟨b, off, y, rfl, _, hy, hc⟩ := H.out.elem hlt
      have g0 : w.cell? ⟨b, off + k, none⟩ = some (.string ⟨y.toArray⟩) := by simpa using hc 0 _ rfl
      have HX := Lib.hid hy
      have hbq := ba_mk_beq y s
      clear hc hy H
      cases hq : decide (y = s.data.toList)
      · rw [hq] at hbq
        have hs := Lib.hid (anyF_succ (p := fun t : Str => decide (t = s.data.toList)) ha.out HX.out hq)
        clear ha hq
        generalize (⟨y.toArray⟩ : ByteArray) = z at *
        go_wp2
        go_round
        case rel => exact ⟨k + 1, by omega, by go_num, hs.out⟩
        case measure => simp [intOf]; omega
      · rw [hq] at hbq
        have hfin := Lib.hid (any_hit (p := fun t : Str => decide (t = s.data.toList)) HX.out hq)
        clear ha hq
        generalize (⟨y.toArray⟩ : ByteArray) = z at *
        go_wp2
        go_ret
        exact ⟨ret_b hfin.out.symm, rfl⟩
    · have hke : k = n := by omega
      have hfin := Lib.hid (any_miss (p := fun t : Str => decide (t = s.data.toList)) (l := xs) (fun j y hy => ha.out j y (by rw [hke, ← HL.out]; exact (List.getElem?_eq_some_iff.1 hy).1) hy))
      clear ha hke
      go_wp2
      go_ret
      exact ⟨ret_b hfin.out.symm, rfl⟩
set_option maxHeartbeats 800000 in
theorem impl_Covers_1 (x : Str) (s : ByteArray) (g : Nat) (w : World) (hx : x.length ≤ 1048576) (hs : s.size ≤ 1048576) (hc : w.cell? ⟨g, 0, none⟩ = some (.string s)) (hml : ML w) :
    Calls Try.prog 29 #[.string ⟨x.toArray⟩, .pointer (some ⟨g, 0, none⟩)] w fun e w' => e = .returned (.bool (underIn s.data.toList x)) ∧ Below w.heap.size w w' := by
  have hU := impl_Under s ⟨x.toArray⟩ w (by omega) (by rw [encStr_size]; omega) hml
  rw [show (⟨x.toArray⟩ : ByteArray).data.toList = x from by simp] at hU
  have HU := Lib.hid hU
  clear hml hU
  go_enter Try.func29, Try.ntmps29
  go_wp2_with fail
  refine HU.out.mono ?_
  rintro e w' ⟨rfl, rfl⟩
  clear HU
  go_wp2
  go_ret
  exact ⟨rfl, Below.refl _ _⟩
theorem has_contains (xs : List Str) (s : ByteArray) : Lib.containsS (xs.map fun l => (⟨l.toArray⟩ : ByteArray)) s = xs.any (fun t => decide (t = s.data.toList)) := by
  rw [Bool.eq_iff_iff, Lib.containsS_iff, List.any_eq_true]
  constructor
  · intro h
    obtain ⟨l, hl, e⟩ := List.mem_map.1 h
    exact ⟨l, hl, decide_eq_true ((ba_mk l s).1 e)⟩
  · rintro ⟨l, hl, e⟩
    exact List.mem_map.2 ⟨l, hl, (ba_mk l s).2 (of_decide_eq_true e)⟩
theorem slices_Contains_Str (A : Option Addr) (n c : Nat) (xs : List Str) (s : ByteArray) (w : World) (hn : n ≤ 1048576) (h : Rd encStr 1 w A n xs) :
    Calls Try.prog 31 #[.slice A n c, .string s] w fun e w' => e = .returned (.bool (xs.any (fun t => decide (t = s.data.toList)))) ∧ w' = w := by
  by_cases h0 : n = 0
  · subst h0
    have hx : xs = [] := List.eq_nil_of_length_eq_zero h.1
    subst hx
    exact Try.slices_Contains_string_empty A c s w
  · obtain ⟨b, off, rfl, _, hc⟩ := h.2 (by omega)
    have := Try.slices_Contains_string b off n c (xs.map fun l => (⟨l.toArray⟩ : ByteArray)) s w (by rw [List.length_map, h.1]; exact Nat.le_refl _) (by omega) (fun j hj => by
      rw [List.length_map] at hj
      have h1 := hc j xs[j] (List.getElem?_eq_getElem hj) 0 _ rfl
      rw [List.getD_eq_getElem?_getD, List.getElem?_map, List.getElem?_eq_getElem hj]
      simpa using h1)
    rw [List.take_of_length_le (by rw [List.length_map, h.1]; exact Nat.le_refl _), has_contains] at this
    exact this
set_option maxHeartbeats 1600000 in
set_option maxRecDepth 20000 in
theorem spec_Covers (x : Scope) (h : Hd) (sel name : ByteArray) (w : World) (hs : sel.size ≤ 1048576) (ht : name.size ≤ 1048576) (i : ScopeIs w x h) (f : x.Fit) :
    Calls Try.prog 26 #[.agg #[.int .i64 x.kind, .slice h.A h.n h.c, .int .i64 x.events], .string sel, .string name] w fun e w' => e = .returned (.bool (covers x sel name)) ∧ Below w.heap.size w w' := by
  obtain ⟨A, n, c⟩ := h
  have hr := i.1
  simp only [] at hr
  have hn : n ≤ 1048576 := by rw [← hr.1]; exact f.1
  have HF := Lib.hid f.2
  have HR := Lib.hid hr
  clear i hr f
  have hsz : name.size ≤ maxLen := by unfold maxLen; omega
  by_cases k1 : x.kind = 1
  · have e1 := ba_beq name sel
    have e2 := ba_empty name
    cases q1 : decide (name = sel)
    · have HFin := Lib.hid (show covers x sel name = false by rw [covers1 k1, q1]; rfl)
      rw [q1] at e1
      have kb : (x.kind == 1) = true := beq_iff_eq.2 k1
      clear q1
      go_enter Try.func26, Try.ntmps26
      go_wp2
      go_ret
      exact ⟨ret_b HFin.out.symm, by go_grown⟩
    · have hns : name = sel := of_decide_eq_true q1
      cases q2 : decide (name = ⟨#[]⟩)
      all_goals
        have HFin := Lib.hid (covers1 k1 (sel := sel) (name := name))
        have HQ1 := Lib.hid q1
        have HQ2 := Lib.hid q2
        rw [q1] at e1
        rw [q2] at e2
        have kb : (x.kind == 1) = true := beq_iff_eq.2 k1
        clear q1 q2 hns
        go_enter Try.func26, Try.ntmps26
        go_wp2
        go_ret
        exact ⟨ret_b (by rw [HFin.out, HQ1.out, HQ2.out]; rfl), by go_grown⟩
  have kb1 : (x.kind == 1) = false := beq_eq_false_iff_ne.2 k1
  by_cases k2 : x.kind = 2
  · have HFin := Lib.hid (show covers x sel name = nameOk name.data.toList from covers2 k2)
    have kb2 : (x.kind == 2) = true := beq_iff_eq.2 k2
    go_enter Try.func26, Try.ntmps26
    go_wp2_with (go_at_call 50; refine (spec_NameOk _ _ hsz).mono ?_; rintro e w' ⟨rfl, rfl⟩)
    go_ret
    exact ⟨ret_b HFin.out.symm, by go_grown⟩
  have kb2 : (x.kind == 2) = false := beq_eq_false_iff_ne.2 k2
  by_cases k3 : x.kind = 3
  · have HFin := Lib.hid (show covers x sel name = x.names.any (fun top => underIn name.data.toList top) from covers3 k3)
    clear k1 k2 kb1 kb2
    obtain ⟨kd, nms, ev⟩ := x
    simp only [] at k3 HR HF HFin
    subst k3
    dsimp only
    go_enter Try.func26, Try.ntmps26
    go_wp2_with fail
    have hW : Below w.heap.size w (w.alloc (.cells #[.int .i64 3, .slice A n c, .int .i64 ev] 32)) := by go_grown
    have hP : Holds (w.alloc (.cells #[.int .i64 3, .slice A n c, .int .i64 ev] 32)) w.heap.size [.int .i64 3, .slice A n c, .int .i64 ev] := Holds.new w _ _
    have p1 := hP.2 1 (.slice A n c) rfl
    generalize (w.alloc (.cells #[.int .i64 3, .slice A n c, .int .i64 ev] 32)) = w1 at *
    have H := Lib.hid (HR.out.below hW)
    have HW := Lib.hid hW
    clear hW HR hP
    go_loop [7] (fun i => ∃ k : Nat, k ≤ n ∧ i = .int .i64 k ∧ Hid (∀ (j : Nat) (y : Str), j < k → nms[j]? = some y → underIn name.data.toList y = false)) (fun i => n - (intOf i).toNat)
    case atStart => exact ⟨0, Nat.zero_le _, rfl, fun j y hj => absurd hj (by omega)⟩
    case round =>
      obtain ⟨k, hk, rfl, ha⟩ := hrel
      by_cases hlt : k < n
      · obtain ⟨b, off, y, rfl, _, hy, hc⟩ := H.out.elem hlt
        have g0 : w1.cell? ⟨b, off + k, none⟩ = some (.string ⟨y.toArray⟩) := by simpa using hc 0 _ rfl
        have HX := Lib.hid hy
        have hyl : y.length ≤ 1048576 := HF.out y (List.mem_of_getElem? hy)
        have hU := spec_Under name ⟨y.toArray⟩ w1 (by omega) (by rw [encStr_size]; omega)
        rw [show (⟨y.toArray⟩ : ByteArray).data.toList = y from by simp] at hU
        have HU := Lib.hid hU
        clear hc hy H hU
        cases hq : underIn name.data.toList y
        · have hs := Lib.hid (anyF_succ (p := fun t : Str => underIn name.data.toList t) ha.out HX.out hq)
          have Hq := Lib.hid hq
          clear ha hq
          go_wp2_with (go_at_call 51; refine HU.out.mono ?_; rw [Hq.out]; rintro e w' ⟨rfl, rfl⟩)
          go_round
          case rel => exact ⟨k + 1, by omega, by go_num, hs.out⟩
          case measure => simp [intOf]; omega
        · have hfin := Lib.hid (any_hit (p := fun t : Str => underIn name.data.toList t) HX.out hq)
          have Hq := Lib.hid hq
          clear ha hq
          go_wp2_with (go_at_call 51; refine HU.out.mono ?_; rw [Hq.out]; rintro e w' ⟨rfl, rfl⟩)
          go_ret
          exact ⟨ret_b (by rw [HFin.out, hfin.out]), HW.out⟩
      · have hke : k = n := by omega
        have hfin := Lib.hid (any_miss (p := fun t : Str => underIn name.data.toList t) (l := nms) (fun j y hy => ha.out j y (by rw [hke, ← H.out.1]; exact (List.getElem?_eq_some_iff.1 hy).1) hy))
        clear ha hke
        go_wp2
        go_ret
        exact ⟨ret_b (by rw [HFin.out, hfin.out]), HW.out⟩
  have kb3 : (x.kind == 3) = false := beq_eq_false_iff_ne.2 k3
  by_cases k4 : x.kind = 4
  · have HFin := Lib.hid (show covers x sel name = x.names.any (fun t => decide (t = name.data.toList)) from covers4 k4)
    have kb4 : (x.kind == 4) = true := beq_iff_eq.2 k4
    go_enter Try.func26, Try.ntmps26
    go_wp2_with fail
    refine (spec_l1Has _ _ _ x.names _ _ hn (HR.out.below (by go_grown))).mono ?_
    rintro e w' ⟨rfl, rfl⟩
    go_wp2
    go_ret
    exact ⟨ret_b HFin.out.symm, by go_grown⟩
  have kb4 : (x.kind == 4) = false := beq_eq_false_iff_ne.2 k4
  have HFin := Lib.hid (show covers x sel name = false from covers5 k1 k2 k3 k4)
  go_enter Try.func26, Try.ntmps26
  go_wp2
  go_ret
  exact ⟨ret_b HFin.out.symm, by go_grown⟩
set_option maxHeartbeats 1600000 in
set_option maxRecDepth 20000 in
theorem impl_Covers (x : Scope) (h : Hd) (sel name : ByteArray) (w : World) (hs : sel.size ≤ 1048576) (ht : name.size ≤ 1048576) (i : ScopeIs w x h) (f : x.Fit) (hml : ML w) :
    Calls Try.prog 9 #[.agg #[.int .i64 x.kind, .slice h.A h.n h.c, .int .i64 x.events], .string sel, .string name] w fun e w' => e = .returned (.bool (covers x sel name)) ∧ Below w.heap.size w w' := by
  obtain ⟨A, n, c⟩ := h
  have hr := i.1
  simp only [] at hr
  have hn : n ≤ 1048576 := by rw [← hr.1]; exact f.1
  have HF := Lib.hid f.2
  have HR := Lib.hid hr
  clear i hr f
  have hsz : name.size ≤ maxLen := by unfold maxLen; omega
  have HM := Lib.hid hml
  clear hml
  by_cases k1 : x.kind = 1
  · have e1 := ba_beq name sel
    have e2 := ba_empty name
    cases q1 : decide (name = sel)
    · have HFin := Lib.hid (show covers x sel name = false by rw [covers1 k1, q1]; rfl)
      rw [q1] at e1
      have kb : (x.kind == 1) = true := beq_iff_eq.2 k1
      clear q1
      go_enter Try.func9, Try.ntmps9
      go_wp2
      go_ret
      exact ⟨ret_b HFin.out.symm, by go_grown⟩
    · have hns : name = sel := of_decide_eq_true q1
      cases q2 : decide (name = ⟨#[]⟩)
      all_goals
        have HFin := Lib.hid (covers1 k1 (sel := sel) (name := name))
        have HQ1 := Lib.hid q1
        have HQ2 := Lib.hid q2
        rw [q1] at e1
        rw [q2] at e2
        have kb : (x.kind == 1) = true := beq_iff_eq.2 k1
        clear q1 q2 hns
        go_enter Try.func9, Try.ntmps9
        go_wp2
        go_ret
        exact ⟨ret_b (by rw [HFin.out, HQ1.out, HQ2.out]; rfl), by go_grown⟩
  have kb1 : (x.kind == 1) = false := beq_eq_false_iff_ne.2 k1
  by_cases k2 : x.kind = 2
  · have HFin := Lib.hid (show covers x sel name = nameOk name.data.toList from covers2 k2)
    have kb2 : (x.kind == 2) = true := beq_iff_eq.2 k2
    go_enter Try.func9, Try.ntmps9
    go_wp2_with (go_at_call 27; refine (impl_NameOk _ _ (by omega) (HM.out.below (by go_grown))).mono ?_; rintro e w' ⟨rfl, rfl⟩)
    go_ret
    exact ⟨ret_b HFin.out.symm, by go_grown⟩
  have kb2 : (x.kind == 2) = false := beq_eq_false_iff_ne.2 k2
  by_cases k3 : x.kind = 3
  · have HFin := Lib.hid (show covers x sel name = x.names.any (fun top => underIn name.data.toList top) from covers3 k3)
    have kb3 : (x.kind == 3) = true := beq_iff_eq.2 k3
    go_enter Try.func9, Try.ntmps9
    go_wp2_with fail
    refine (slices_ContainsFunc_Str _ _ _ _ _ (fun top : Str => underIn name.data.toList top) x.names _ (by omega) (HR.out.below (by go_grown)) (enters_of Try.func29 (by kernel_rfl) rfl) ?_).mono ?_
    · intro W y hy hb
      refine impl_Covers_1 y name (w.heap.size + 1) W (HF.out y hy) (by omega) ?_ (HM.out.below (Below.trans (by go_grown : Below w.heap.size w _) (hb.mono (by simp; omega))))
      exact (hb.cell (p := ⟨w.heap.size + 1, 0, none⟩) (by simp)).trans (by go_simp)
    · rintro e w1 ⟨rfl, hb1⟩
      have HW := Lib.hid (Below.trans (by go_grown : Below w.heap.size w _) (hb1.mono (by simp; omega)))
      clear hb1
      go_wp2
      go_ret
      exact ⟨ret_b HFin.out.symm, HW.out⟩
  have kb3 : (x.kind == 3) = false := beq_eq_false_iff_ne.2 k3
  by_cases k4 : x.kind = 4
  · have HFin := Lib.hid (show covers x sel name = x.names.any (fun t => decide (t = name.data.toList)) from covers4 k4)
    have kb4 : (x.kind == 4) = true := beq_iff_eq.2 k4
    go_enter Try.func9, Try.ntmps9
    go_wp2_with fail
    refine (slices_Contains_Str _ _ _ x.names _ _ hn (HR.out.below (by go_grown))).mono ?_
    rintro e w' ⟨rfl, rfl⟩
    go_wp2
    go_ret
    exact ⟨ret_b HFin.out.symm, by go_grown⟩
  have kb4 : (x.kind == 4) = false := beq_eq_false_iff_ne.2 k4
  have HFin := Lib.hid (show covers x sel name = false from covers5 k1 k2 k3 k4)
  go_enter Try.func9, Try.ntmps9
  go_wp2
  go_ret
  exact ⟨ret_b HFin.out.symm, by go_grown⟩

end Go.Proofs.Ytnphoodoheccoaa
