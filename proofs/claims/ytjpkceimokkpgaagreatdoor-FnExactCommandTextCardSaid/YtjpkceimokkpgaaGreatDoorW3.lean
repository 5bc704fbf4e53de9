/-
  Walks: what each function returns, and that it leaves what lay in memory as it was.
-/
import Derived.Test.YtjpkceimokkpgaaGreatDoorProg
import Derived.Test.YtjpkceimokkpgaaGreatDoorPlain
import Derived.Test.YtjpkceimokkpgaaGreatDoorBase2
import Derived.Test.YtjpkceimokkpgaaGreatDoorOpen2
import Derived.Test.YtjpkceimokkpgaaGreatDoorShelf
import Derived.WalkKit
import Derived.WalkSpells
import Derived.WalkLawsBesides
import Derived.Lib.Hide
import Derived.Deep.LoopGhost
import Derived.Deep.QuietTactic
import Derived.BigQuiet
import Derived.Handy
import Derived.Deep.RegionHeld3
import Derived.StillTailTactics
import Derived.OpenShut
import Derived.ChangeSame
import Derived.Laws.StructEq

import Derived.Test.YtjpkceimokkpgaaGreatDoorPlainT

import Derived.Test.YtjpkceimokkpgaaGreatDoorW1

namespace Go.Proofs.YtjpkceimokkpgaaGreatDoor
open Go.ChangeShapes Go.WideShapes Go.ChangeAt Go.RowKit Go.Deep
set_option linter.unusedVariables false
set_option linter.unusedSimpArgs false

set_option maxHeartbeats 800000 in
theorem laws_eqStringS (A1 A2 : Option Addr) (n c1 c2 : Nat) (xs : List Str) (w : World) (hn : n ≤ 4611686018427387904) (h1 : Rd encStr 1 w A1 n xs) (h2 : Rd encStr 1 w A2 n xs) :
    Calls Tryz.prog 129 #[.slice A1 n c1, .slice A2 n c2] w fun e w' => e = .returned (.bool true) ∧ Below w.heap.size w w' := by
  have H1 := Lib.hid h1
  have H2 := Lib.hid h2
  clear h1 h2
  go_enter Tryz.func129, Tryz.ntmps129
  go_wp2_with fail
  go_loopw [5] (fun i wr => ∃ k : Nat, k ≤ n ∧ i = .int .i64 k ∧ Below w.heap.size w wr) (fun i _ => n - (intOf i).toNat)
  case atStart => exact ⟨0, Nat.zero_le _, rfl, Below.refl _ _⟩
  case round =>
    obtain ⟨k, hk, rfl, hW⟩ := hrel
    by_cases hlt : k < n
    · obtain ⟨b1, o1, x, rfl, _, hx, hc1⟩ := (H1.out.below hW).elem hlt
      obtain ⟨b2, o2, x', rfl, _, hx', hc2⟩ := (H2.out.below hW).elem hlt
      have hxx : x' = x := by rw [hx] at hx'; exact (Option.some.inj hx').symm
      subst hxx
      have g1 : wr.cell? ⟨b1, o1 + k, none⟩ = some (.string ⟨x'.toArray⟩) := by simpa using hc1 0 _ rfl
      have g2 : wr.cell? ⟨b2, o2 + k, none⟩ = some (.string ⟨x'.toArray⟩) := by simpa using hc2 0 _ rfl
      have HW := Lib.hid hW
      clear hc1 hc2 hx hx' hW H1 H2
      go_wp2
      go_quiet (fail)
      go_wp2
      go_roundw
      case rel => exact ⟨k + 1, by omega, by go_num, below_drewN HW.out _⟩
      case measure => simp [intOf]; omega
    · go_wp2
      go_ret
      exact ⟨rfl, hW⟩

theorem dec_Str {H : Type} {enc0 : TypeId × Value → H} {w : World} {base : Nat} {spare : Nat → Bool} {held : Bool} (n : Nat) (cs : List Value) (x : DataW H × List MemPlace)
    (h : DataW.trod enc0 Tryz.prog w base spare held n 9 cs = some x) : ∃ y : Str, cs = encStr y ∧ strBig y := by
  obtain ⟨a, h1, _, b⟩ := DataW.trod_string Tryz.underlying9 h
  refine ⟨a.data.toList, ?_, ?_⟩
  · rw [h1]
  · unfold strBig; rw [← size_len]; exact b
set_option maxHeartbeats 800000 in
theorem laws_szStringS (A : Option Addr) (n c : Nat) (xs : List Str) (left : Int) (w : World) (h0 : 0 ≤ left) (h1 : left ≤ 1048576) (hn : n ≤ 9223372036854775807) (h : Rd encStr 1 w A n xs) (hx : ∀ y ∈ xs, strBig y) :
    Calls Tryz.prog 120 #[.slice A n c, .int .i64 left] w fun e w' => (∃ v : Int, e = .returned (.int .i64 v) ∧ -1 ≤ v ∧ v ≤ left ∧ (0 ≤ v → n ≤ 1048576 ∧ ∀ y ∈ xs, strFit y)) ∧ Below w.heap.size w w' := by
  have HL := Lib.hid h.1
  have H := Lib.hid h
  have HX := Lib.hid hx
  clear h hx
  by_cases hlt0 : left - (n : Int) < 0
  · go_enter Tryz.func120, Tryz.ntmps120
    go_wp2
    go_ret
    exact ⟨⟨-1, rfl, by omega, by omega, by omega⟩, Below.refl _ _⟩
  · go_enter Tryz.func120, Tryz.ntmps120
    go_wp2_with fail
    go_loopw [1, 5] (fun l i wr => ∃ (k : Nat) (v : Int), k ≤ n ∧ i = .int .i64 k ∧ l = .int .i64 v ∧ 0 ≤ v ∧ v ≤ left ∧ Hid (∀ (j : Nat) (y : Str), j < k → xs[j]? = some y → strFit y) ∧ Below w.heap.size w wr) (fun _ i _ => n - (intOf i).toNat)
    case atStart => exact ⟨0, left - n, Nat.zero_le _, rfl, rfl, by omega, by omega, fun j y hj => absurd hj (by omega), Below.refl _ _⟩
    case round =>
      obtain ⟨k, v, hk, rfl, rfl, hv0, hv1, ha, hW⟩ := hrel
      by_cases hlt : k < n
      · obtain ⟨b, off, x, rfl, _, hx, hc⟩ := (H.out.below hW).elem hlt
        have g0 : wr.cell? ⟨b, off + k, none⟩ = some (.string ⟨x.toArray⟩) := by simpa using hc 0 _ rfl
        have hbig : (⟨x.toArray⟩ : ByteArray).size ≤ 9223372036854775807 := by have := HX.out x (List.mem_of_getElem? hx); rw [encStr_size]; unfold strBig maxLen at this; omega
        have hfit : 0 ≤ v - ((⟨x.toArray⟩ : ByteArray).size : Int) → strFit x := by intro h; unfold strFit; rw [encStr_size] at h; omega
        have Hx := Lib.hid hx
        have HF := Lib.hid hfit
        have HW := Lib.hid hW
        clear hc hx hW H hfit HX
        generalize (⟨x.toArray⟩ : ByteArray) = z at *
        by_cases hneg : v - (z.size : Int) < 0
        · go_wp2
          go_ret
          exact ⟨⟨-1, rfl, by omega, by omega, by omega⟩, HW.out⟩
        · have hs := Lib.hid (allP_succ ha.out Hx.out (HF.out (by omega)))
          go_wp2
          go_roundw
          case rel => exact ⟨k + 1, _, by omega, by go_num, rfl, by omega, by omega, hs.out, HW.out⟩
          case measure => simp [intOf]; omega
      · have hke : k = n := by omega
        have hfin := Lib.hid (show ∀ y ∈ xs, strFit y from fun y hy => by
          obtain ⟨j, hj, e⟩ := List.getElem_of_mem hy
          exact ha.out j y (by rw [hke, ← HL.out]; exact hj) (by rw [List.getElem?_eq_getElem hj, e]))
        clear ha hke
        go_wp2
        go_ret
        exact ⟨⟨v, rfl, by omega, by omega, fun _ => ⟨by omega, hfin.out⟩⟩, hW⟩
set_option maxHeartbeats 1600000 in
set_option maxRecDepth 20000 in
theorem laws_toStringS (A : Option Addr) (n c : Nat) (xs : List Str) (w : World) (hn : n ≤ 1048576) (h : Rd encStr 1 w A n xs) :
    Calls Tryz.prog 122 #[.slice A n c] w (RetOwn encStr 1 9 w xs) := by
  have HL := Lib.hid h.1
  have H := Lib.hid h
  clear h
  go_enter Tryz.func122, Tryz.ntmps122
  go_wp2_with (at_make; refine wpList_mk (enc := encStr) zeroStr (k := 1) (by omega) rfl rfl _ _ 53 9 rfl (.string ByteArray.empty) 16 Tryz.underlying53 (by kernel_rfl) rfl n rfl rfl (by omega) (by omega) ?_; intro w1 g hown hg hb1)
  go_wp2_with fail
  go_loopw [4] (fun i wr => ∃ j : Nat, j ≤ n ∧ i = .int .i64 j ∧ wr.ownsRow w.heap.size 9 1 (.slice (some ⟨g, 0, none⟩) n n) n ((xs.take j ++ List.replicate (n - j) zeroStr).flatMap encStr) ∧ Below w.heap.size w wr) (fun i _ => n - (intOf i).toNat)
  case atStart => exact ⟨0, Nat.zero_le _, rfl, hown, hb1⟩
  case round =>
    obtain ⟨j, hj, rfl, ho, hW⟩ := hrel
    clear hown hb1
    by_cases hlt : j < n
    · obtain ⟨b, off, x, rfl, hb, hx, hc⟩ := (H.out.below hW).elem hlt
      have g0 : wr.cell? ⟨b, off + j, none⟩ = some (.string ⟨x.toArray⟩) := by simpa using hc 0 _ rfl
      have hat := take_at xs zeroStr n j HL.out hlt
      have c0 : wr.cell? ⟨g, j, none⟩ = some (.string ⟨#[]⟩) := by
        have := (ho.cellAt (j * 1) (by omega)).trans (flat_get (enc := encStr) (k := 1) (fun _ => rfl) _ j 0 _ _ hat rfl)
        simpa [zeroStr] using this
      have f0 : wr.frozen? ⟨g, j, none⟩ = false := ho.frozenAt j
      have s0 := ho.stored j (.string ⟨x.toArray⟩)
      have hfin := s0.1
      rw [flat_setS, take_set xs zeroStr x n j HL.out hlt hx] at hfin
      have Hfin := Lib.hid hfin
      have Hbel := Lib.hid (hW.trans (gb_to_below (B := w.heap.size) s0.2 (by have h1 := hW.size; simp; omega) (fun k hk => by simp at hk; omega)))
      clear s0 hfin hat ho hc hx hW H
      go_wp2
      go_roundw
      case rel => exact ⟨j + 1, by omega, by go_num, Hfin.out, Hbel.out⟩
      case measure => simp [intOf]; omega
    · have hke : j = n := by omega
      subst hke
      rw [Nat.sub_self, List.replicate_zero, List.append_nil, List.take_of_length_le (by rw [HL.out]; exact Nat.le_refl _)] at ho
      have Ho := Lib.hid ho
      clear ho hlt
      go_wp2
      go_ret
      have ho2 := Ho.out
      have hl := HL.out
      subst hl
      exact ⟨_, _, rfl, ho2, hW⟩
set_option maxRecDepth 20000 in
/-- A slice of strings that came in. -/
theorem open_Strs {H : Type} {enc0 : TypeId × Value → H} {w : World} {base b0 : Nat} {r : Reach} {spare : Nat → Bool} {held : Bool} {v : Value} {d : DataW H} {p : List MemPlace}
    (o : Value.okWide Tryz.prog w r b0 53 v) (h : DataW.Trod enc0 Tryz.prog w base spare held 53 v d p) :
    ∃ (A : Option Addr) (n c : Nat) (xs : List Str), v = .slice A n c ∧ Rd encStr 1 w A n xs ∧ n ≤ 9223372036854775807 ∧ ∀ y ∈ xs, strBig y := by
  obtain ⟨A, n, c, xs, rfl, h, hc, hm, hN⟩ := open_rd encStr strBig 1 Tryz.underlying53 o h (by kernel_rfl) (by omega) (fun _ => rfl) (fun n cs x hx => dec_Str n cs x hx)
  exact ⟨A, n, c, xs, rfl, h, by unfold maxLen at hm; omega, hN⟩


structure Scope where
  kind : Int
  names : List Str
  events : Int
instance : Inhabited Scope := ⟨⟨0, [], 0⟩⟩
abbrev encScope (p : Scope × Hd) : List Value := [.int .i64 p.1.kind, .slice p.2.A p.2.n p.2.c, .int .i64 p.1.events]
def zeroScope : Scope × Hd := (⟨0, [], 0⟩, ⟨none, 0, 0⟩)
theorem flat_set_Scope (l : List (Scope × Hd)) (j : Nat) (x : Scope × Hd) (hj : j < l.length) : ((((l.flatMap encScope).set (j * 3) (.int .i64 x.1.kind)).set (j * 3 + 1) (.slice x.2.A x.2.n x.2.c)).set (j * 3 + 2) (.int .i64 x.1.events)) = (l.set j x).flatMap encScope := setRow_flat (enc := encScope) (k := 3) (fun _ => rfl) l j x hj
def Scope.Fit (x : Scope) : Prop := x.names.length ≤ 1048576 ∧ ∀ y ∈ x.names, strFit y
/-- No two of the slices of names lie in one block. -/
def nameOwn (p : Scope × Hd) : Option Nat := (Value.slice p.2.A p.2.n p.2.c).ownBlock
def NA (rs : List (Scope × Hd)) : Prop := rs.Pairwise (fun p q => ∀ i, nameOwn p = some i → nameOwn q ≠ some i)
theorem NA.snoc {zs : List (Scope × Hd)} {y : Scope × Hd} {B : Nat} (h : NA zs) (hlt : ∀ q ∈ zs, ∀ i, nameOwn q = some i → i < B) (hy : ∀ i, nameOwn y = some i → B ≤ i) : NA (zs ++ [y]) := by
  refine List.pairwise_append.2 ⟨h, List.pairwise_singleton _ _, ?_⟩
  intro p hp q hq i hi e
  simp at hq; subst hq
  have h1 := hlt p hp i hi
  have h2 := hy i e
  omega

/-- A scope that lies in memory. -/
def ScopeIs (w : World) (x : Scope) (h : Hd) : Prop := Rd encStr 1 w h.A h.n x.names ∧ h.n ≤ maxLen ∧ ∀ y ∈ x.names, strBig y
theorem ScopeIs.below {w w' : World} {x : Scope} {h : Hd} (i : ScopeIs w x h) (hb : Below w.heap.size w w') : ScopeIs w' x h := ⟨i.1.below hb, i.2⟩
/-- A scope of the call's own. -/
def ScopeOwn (base : Nat) (w : World) (x : Scope) (h : Hd) : Prop := w.ownsRow base 9 1 (.slice h.A h.n h.c) h.n (x.names.flatMap encStr) ∧ x.names.length = h.n ∧ h.n ≤ 1048576 ∧ ∀ y ∈ x.names, strBig y
theorem ScopeOwn.below {base : Nat} {w w' : World} {x : Scope} {h : Hd} (i : ScopeOwn base w x h) (hb : Below w.heap.size w w') : ScopeOwn base w' x h := ⟨own_below i.1 hb, i.2⟩
theorem ScopeOwn.map {base : Nat} {w w' : World} {x : Scope} {h : Hd} (i : ScopeOwn base w x h) (f : w.ownsRow base 9 1 (.slice h.A h.n h.c) h.n (x.names.flatMap encStr) → w'.ownsRow base 9 1 (.slice h.A h.n h.c) h.n (x.names.flatMap encStr)) : ScopeOwn base w' x h := ⟨f i.1, i.2⟩
theorem ScopeOwn.mono {base base' : Nat} {w : World} {x : Scope} {h : Hd} (i : ScopeOwn base w x h) (hb : base' ≤ base) : ScopeOwn base' w x h := ⟨own_mono i.1 hb, i.2⟩
theorem ScopeOwn.is {base : Nat} {w : World} {x : Scope} {h : Hd} (i : ScopeOwn base w x h) : ScopeIs w x h := ⟨Rd.of_own (enc := encStr) (k := 1) (fun _ => rfl) i.1 i.2.1, by have := i.2.2.1; unfold maxLen; omega, i.2.2.2⟩
set_option maxHeartbeats 800000 in
theorem laws_szScope (x : Scope) (h : Hd) (left : Int) (w : World) (h0 : 0 ≤ left) (h1 : left ≤ 1048576) (hx : ScopeIs w x h) :
    Calls Tryz.prog 93 #[.agg #[.int .i64 x.kind, .slice h.A h.n h.c, .int .i64 x.events], .int .i64 left] w fun e w' => (∃ v : Int, e = .returned (.int .i64 v) ∧ -1 ≤ v ∧ v ≤ left ∧ (0 ≤ v → x.Fit)) ∧ Below w.heap.size w w' := by
  obtain ⟨hr, hn, hb⟩ := hx
  unfold maxLen at hn
  have HR := Lib.hid hr
  have HB := Lib.hid hb
  have HN := Lib.hid hr.1
  clear hr hb
  go_enter Tryz.func93, Tryz.ntmps93
  go_wp2_with fail
  refine (laws_szStringS _ _ _ x.names _ _ (by omega) (by omega) (by omega) (HR.out.below (by go_grown)) HB.out).mono ?_
  rintro e w1 ⟨⟨v1, rfl, hm1, hle, hfit⟩, hb1⟩
  have HF := Lib.hid hfit
  have HW := Lib.hid (Below.trans (by go_grown : Below w.heap.size w _) (hb1.mono (by simp)))
  clear hfit hb1
  by_cases hneg : v1 < 0
  · go_wp2
    go_ret
    exact ⟨⟨-1, rfl, by omega, by omega, by omega⟩, HW.out⟩
  · go_wp2
    go_ret
    exact ⟨⟨v1, rfl, by omega, by omega, fun hv => ⟨by rw [HN.out]; exact (HF.out hv).1, (HF.out hv).2⟩⟩, HW.out⟩
set_option maxHeartbeats 800000 in
theorem laws_toScope (x : Scope) (h : Hd) (w : World) (hx : ScopeIs w x h) (hf : x.Fit) :
    Calls Tryz.prog 98 #[.agg #[.int .i64 x.kind, .slice h.A h.n h.c, .int .i64 x.events]] w fun e w' => (∃ h' : Hd, e = .returned (.agg #[.int .i64 x.kind, .slice h'.A h'.n h'.c, .int .i64 x.events]) ∧ ScopeOwn w.heap.size w' x h') ∧ Below w.heap.size w w' := by
  obtain ⟨hr, hn, hb⟩ := hx
  have HR := Lib.hid hr
  have HB := Lib.hid hb
  have HN := Lib.hid hr.1
  have HF := Lib.hid hf
  have hlen : h.n ≤ 1048576 := by rw [← hr.1]; exact hf.1
  clear hr hb hf
  go_enter Tryz.func98, Tryz.ntmps98
  go_wp2_with fail
  refine (laws_toStringS _ _ _ x.names _ hlen (HR.out.below (by go_grown))).mono ?_
  rintro e w1 ⟨A1, c1, rfl, ho, hb1⟩
  have p0 : w1.cell? ⟨w.heap.size + 1 + 1, 0, none⟩ = some (.int .i64 x.kind) := (hb1.cell (p := ⟨w.heap.size + 1 + 1, 0, none⟩) (by simp)).trans (by go_simp)
  have p1 : w1.cell? ⟨w.heap.size + 1 + 1, 1, none⟩ = some (.slice none 0 0) := (hb1.cell (p := ⟨w.heap.size + 1 + 1, 1, none⟩) (by simp)).trans (by go_simp)
  have p2 : w1.cell? ⟨w.heap.size + 1 + 1, 2, none⟩ = some (.int .i64 0) := (hb1.cell (p := ⟨w.heap.size + 1 + 1, 2, none⟩) (by simp)).trans (by go_simp)
  have r2 : w1.cell? ⟨w.heap.size, 2, none⟩ = some (.int .i64 x.events) := (hb1.cell (p := ⟨w.heap.size, 2, none⟩) (by simp; omega)).trans (by go_simp)
  have q0 : w1.cell? ⟨w.heap.size + 1, 0, none⟩ = some (.int .i64 0) := (hb1.cell (p := ⟨w.heap.size + 1, 0, none⟩) (by simp)).trans (by go_simp)
  have q1 : w1.cell? ⟨w.heap.size + 1, 1, none⟩ = some (.slice none 0 0) := (hb1.cell (p := ⟨w.heap.size + 1, 1, none⟩) (by simp)).trans (by go_simp)
  have q2 : w1.cell? ⟨w.heap.size + 1, 2, none⟩ = some (.int .i64 0) := (hb1.cell (p := ⟨w.heap.size + 1, 2, none⟩) (by simp)).trans (by go_simp)
  have f0 : ∀ i, w1.frozen? ⟨w.heap.size + 1 + 1, i, none⟩ = false := fun i => (hb1.frozen (p := ⟨w.heap.size + 1 + 1, i, none⟩) (by simp)).trans (by go_simp)
  have f1 : ∀ i, w1.frozen? ⟨w.heap.size + 1, i, none⟩ = false := fun i => (hb1.frozen (p := ⟨w.heap.size + 1, i, none⟩) (by simp)).trans (by go_simp)
  have HW := Lib.hid (Below.trans (by go_grown : Below w.heap.size w _) (hb1.mono (by simp; omega)))
  have HO := Lib.hid (own_mono ho (base' := w.heap.size + 1 + 1 + 1) (by simp))
  clear hb1 ho
  go_wp2
  try simp only [Exit.inBlock, Exit.then]
  refine bodyPost_ret (by simp [results, Tryz.results98, go_sem, q0, q1, q2]; try rfl) rfl ?_
  refine ⟨⟨⟨A1, x.names.length, c1⟩, rfl, ?_, rfl, HF.out.1, HB.out⟩, ?_⟩
  · refine own_mono (base := w.heap.size + 1 + 1 + 1) ?_ (by omega)
    repeat (with_reducible refine own_setCell ?_ ?_ _)
    · exact HO.out
    all_goals (simp only []; omega)
  · repeat (with_reducible refine Below.setCell ?_ ?_ _)
    · exact HW.out
    all_goals (simp only []; omega)
set_option maxHeartbeats 800000 in
theorem laws_eqScope (x : Scope) (h1 h2 : Hd) (w : World) (i1 : ScopeIs w x h1) (i2 : ScopeIs w x h2) (hf : x.Fit) :
    Calls Tryz.prog 112 #[.agg #[.int .i64 x.kind, .slice h1.A h1.n h1.c, .int .i64 x.events], .agg #[.int .i64 x.kind, .slice h2.A h2.n h2.c, .int .i64 x.events]] w fun e w' => e = .returned (.bool true) ∧ Below w.heap.size w w' := by
  obtain ⟨A1, n1, c1⟩ := h1
  obtain ⟨A2, n2, c2⟩ := h2
  have hr1 := i1.1
  have hr2 := i2.1
  replace hf := hf.1
  simp only [] at hr1 hr2
  have e1 := hr1.1
  have e2 := hr2.1
  subst e1
  subst e2
  have H1 := Lib.hid hr1
  have H2 := Lib.hid hr2
  clear i1 i2 hr1 hr2
  go_enter Tryz.func112, Tryz.ntmps112
  go_wp2_with fail
  refine (laws_eqStringS _ _ _ _ _ x.names _ (by omega) (H1.out.below (by go_grown)) (H2.out.below (by go_grown))).mono ?_
  rintro e w1 ⟨rfl, hb1⟩
  have r1 : w1.cell? ⟨w.heap.size, 2, none⟩ = some (.int .i64 x.events) := (hb1.cell (p := ⟨w.heap.size, 2, none⟩) (by simp; omega)).trans (by go_simp)
  have r2 : w1.cell? ⟨w.heap.size + 1, 2, none⟩ = some (.int .i64 x.events) := (hb1.cell (p := ⟨w.heap.size + 1, 2, none⟩) (by simp)).trans (by go_simp)
  have HW := Lib.hid (Below.trans (by go_grown : Below w.heap.size w _) (hb1.mono (by simp; omega)))
  clear hb1
  go_wp2
  go_ret
  exact ⟨rfl, HW.out⟩
set_option maxRecDepth 20000 in
theorem dec_Scope {H : Type} {enc0 : TypeId × Value → H} {w : World} {base : Nat} {spare : Nat → Bool} {held : Bool} (n : Nat) (cs : List Value) (x : DataW H × List MemPlace)
    (h : DataW.trod enc0 Tryz.prog w base spare held n 100 cs = some x) : ∃ y : Scope × Hd, cs = encScope y ∧ ScopeIs w y.1 y.2 := by
  obtain ⟨xs, m, _, _, hl, hlen, hf⟩ := DataW.trod_struct (P := Tryz.prog) (t := 100) Tryz.underlying100 h
  have hl2 : cs.length = 3 := hl
  have hx2 : xs.length = 3 := hlen
  match cs, hl2, xs, hx2 with
  | [c0, c1, c2], _, [y0, y1, y2], _ =>
    have e0 : DataW.trod enc0 Tryz.prog w base spare held m 3 [c0] = some y0 := hf 0 _ rfl
    obtain ⟨a0, h0, _, b0⟩ := DataW.trod_int Tryz.underlying3 e0
    obtain rfl := List.singleton_inj.1 h0
    have e1 : DataW.trod enc0 Tryz.prog w base spare held m 53 [c1] = some y1 := hf 1 _ rfl
    obtain ⟨A, n, c, zs, h1, hr, hn, hc, hz⟩ := trod_rd encStr strBig 1 Tryz.underlying53 e1 (by kernel_rfl) (by omega) (fun _ => rfl) (fun n cs x hx => dec_Str n cs x hx)
    obtain rfl := List.singleton_inj.1 h1
    have e2 : DataW.trod enc0 Tryz.prog w base spare held m 3 [c2] = some y2 := hf 2 _ rfl
    obtain ⟨a2, h2, _, b2⟩ := DataW.trod_int Tryz.underlying3 e2
    obtain rfl := List.singleton_inj.1 h2
    exact ⟨(⟨a0, zs, a2⟩, ⟨A, n, c⟩), rfl, hr, Nat.le_trans hn hc, hz⟩
set_option maxRecDepth 20000 in
/-- A scope that came in. -/
theorem open_Scope {H : Type} {enc0 : TypeId × Value → H} {w : World} {base b0 : Nat} {r : Reach} {spare : Nat → Bool} {held : Bool} {v : Value} {d : DataW H} {p : List MemPlace}
    (o : Value.okWide Tryz.prog w r b0 100 v) (h : DataW.Trod enc0 Tryz.prog w base spare held 100 v d p) :
    ∃ (x : Scope) (h : Hd), v = .agg #[.int .i64 x.kind, .slice h.A h.n h.c, .int .i64 x.events] ∧ ScopeIs w x h := by
  obtain ⟨cs, rfl, _⟩ := okWide_struct Tryz.underlying100 o
  obtain ⟨n, hn⟩ := h
  obtain ⟨y, hy, hi⟩ := dec_Scope n _ _ hn
  have hcs : cs = (encScope y).toArray := by
    have : cs.toList = encScope y := by rw [← hy]; simp [Value.cells]
    rw [← this]
  exact ⟨y.1, y.2, by rw [hcs], hi⟩


end Go.Proofs.YtjpkceimokkpgaaGreatDoor
