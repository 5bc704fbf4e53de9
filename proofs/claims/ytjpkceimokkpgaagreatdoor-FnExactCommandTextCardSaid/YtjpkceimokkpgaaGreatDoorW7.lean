/-
  Walks: what each function returns, and that it leaves what lay in memory as it was.
-/
import Derived.Test.YtjpkceimokkpgaaGreatDoorProg
import Derived.Test.YtjpkceimokkpgaaGreatDoorPlain
import Derived.Test.YtjpkceimokkpgaaGreatDoorBase2
import Derived.Test.YtjpkceimokkpgaaGreatDoorOpen2
import Derived.Test.YtjpkceimokkpgaaGreatDoorShelf
import Derived.WalkKit
import Derived.WalkSpells
import Derived.WalkLawsBesides
import Derived.Lib.Hide
import Derived.Deep.LoopGhost
import Derived.Deep.QuietTactic
import Derived.BigQuiet
import Derived.Handy
import Derived.Deep.RegionHeld3
import Derived.StillTailTactics
import Derived.OpenShut
import Derived.ChangeSame
import Derived.Laws.StructEq

import Derived.Test.YtjpkceimokkpgaaGreatDoorPlainT

import Derived.Test.YtjpkceimokkpgaaGreatDoorW1

import Derived.Test.YtjpkceimokkpgaaGreatDoorW3

import Derived.Test.YtjpkceimokkpgaaGreatDoorW5

namespace Go.Proofs.YtjpkceimokkpgaaGreatDoor
open Go.ChangeShapes Go.WideShapes Go.ChangeAt Go.RowKit Go.Deep
set_option linter.unusedVariables false
set_option linter.unusedSimpArgs false

set_option maxHeartbeats 800000 in
theorem slices_Equal_Str (A1 A2 : Option Addr) (n1 n2 c1 c2 : Nat) (xs ys : List Str) (w : World) (hn1 : n1 ≤ 4611686018427387904) (hn2 : n2 ≤ 4611686018427387904) (h1 : Rd encStr 1 w A1 n1 xs) (h2 : Rd encStr 1 w A2 n2 ys) :
    Calls Tryz.prog 108 #[.slice A1 n1 c1, .slice A2 n2 c2] w fun e w' => e = .returned (.bool (decide (xs = ys))) ∧ Below w.heap.size w w' := by
  have H1 := Lib.hid h1
  have H2 := Lib.hid h2
  have L1 := Lib.hid h1.1
  have L2 := Lib.hid h2.1
  clear h1 h2
  by_cases hn : n1 = n2
  · subst hn
    go_enter Tryz.func108, Tryz.ntmps108
    go_wp2_with fail
    go_loopw [13] (fun i wr => ∃ k : Nat, k ≤ n1 ∧ i = .int .i64 k ∧ Below w.heap.size w wr ∧ Hid (∀ j, j < k → xs[j]? = ys[j]?)) (fun i _ => n1 - (intOf i).toNat)
    case atStart => exact ⟨0, Nat.zero_le _, rfl, Below.refl _ _, fun j hj => absurd hj (by omega)⟩
    case round =>
      obtain ⟨k, hk, rfl, hW, ha⟩ := hrel
      by_cases hlt : k < n1
      · obtain ⟨b1, o1, x, rfl, _, hx, hc1⟩ := (H1.out.below hW).elem hlt
        obtain ⟨b2, o2, y, rfl, _, hy, hc2⟩ := (H2.out.below hW).elem hlt
        have g1 : wr.cell? ⟨b1, o1 + k, none⟩ = some (.string ⟨x.toArray⟩) := by simpa using hc1 0 _ rfl
        have g2 : wr.cell? ⟨b2, o2 + k, none⟩ = some (.string ⟨y.toArray⟩) := by simpa using hc2 0 _ rfl
        have hbq : ((⟨x.toArray⟩ : ByteArray).toList == (⟨y.toArray⟩ : ByteArray).toList) = decide (x = y) := by rw [ba_mk_beq]
        have HX := Lib.hid hx
        have HY := Lib.hid hy
        have HW := Lib.hid hW
        clear hc1 hc2 hx hy hW H1 H2
        cases hq : decide (x = y)
        · rw [hq] at hbq
          have hxy : ¬ x = y := of_decide_eq_false hq
          have HF := Lib.hid (show decide (xs = ys) = false from decide_eq_false (fun e => hxy (by
            have h1 := HX.out
            rw [e, HY.out] at h1
            exact (Option.some.inj h1).symm)))
          clear ha hq hxy
          generalize (⟨x.toArray⟩ : ByteArray) = zx at *
          generalize (⟨y.toArray⟩ : ByteArray) = zy at *
          go_wp2
          go_quiet (fail)
          go_wp2
          go_ret
          exact ⟨ret_b HF.out.symm, below_drewN HW.out _⟩
        · rw [hq] at hbq
          have hxy : x = y := of_decide_eq_true hq
          have HS := Lib.hid (show ∀ j, j < k + 1 → xs[j]? = ys[j]? from fun j hj => by
            by_cases h : j < k
            · exact ha.out j h
            · rw [show j = k from by omega, HX.out, HY.out, hxy])
          clear ha hq hxy
          generalize (⟨x.toArray⟩ : ByteArray) = zx at *
          generalize (⟨y.toArray⟩ : ByteArray) = zy at *
          go_wp2
          go_quiet (fail)
          go_wp2
          go_roundw
          case rel => exact ⟨k + 1, by omega, by go_num, below_drewN HW.out _, HS.out⟩
          case measure => simp [intOf]; omega
      · have hke : k = n1 := by omega
        have hfin := Lib.hid (show decide (xs = ys) = true from decide_eq_true (List.ext_getElem? (fun j => by
          by_cases hj : j < n1
          · exact ha.out j (by omega)
          · rw [List.getElem?_eq_none (by rw [L1.out]; omega), List.getElem?_eq_none (by rw [L2.out]; omega)])))
        clear ha hke
        go_wp2
        go_ret
        exact ⟨ret_b hfin.out.symm, hW⟩
  · have hb : ((n1 : Int) == (n2 : Int)) = false := by rw [beq_eq_false_iff_ne]; omega
    have hfin := Lib.hid (show decide (xs = ys) = false from decide_eq_false (fun e => hn (by rw [← L1.out, ← L2.out, e])))
    go_enter Tryz.func108, Tryz.ntmps108
    go_wp2
    go_ret
    exact ⟨ret_b hfin.out.symm, Below.refl _ _⟩
set_option maxHeartbeats 800000 in
theorem spec_l1Texts (A1 A2 : Option Addr) (n1 n2 c1 c2 : Nat) (xs ys : List Str) (w : World) (hn1 : n1 ≤ 4611686018427387904) (hn2 : n2 ≤ 4611686018427387904) (h1 : Rd encStr 1 w A1 n1 xs) (h2 : Rd encStr 1 w A2 n2 ys) :
    Calls Tryz.prog 121 #[.slice A1 n1 c1, .slice A2 n2 c2] w fun e w' => e = .returned (.bool (decide (xs = ys))) ∧ Below w.heap.size w w' := by
  have H1 := Lib.hid h1
  have H2 := Lib.hid h2
  have L1 := Lib.hid h1.1
  have L2 := Lib.hid h2.1
  clear h1 h2
  by_cases hn : n1 = n2
  · subst hn
    go_enter Tryz.func121, Tryz.ntmps121
    go_wp2_with fail
    go_loopw [5] (fun i wr => ∃ k : Nat, k ≤ n1 ∧ i = .int .i64 k ∧ Below w.heap.size w wr ∧ Hid (∀ j, j < k → xs[j]? = ys[j]?)) (fun i _ => n1 - (intOf i).toNat)
    case atStart => exact ⟨0, Nat.zero_le _, rfl, Below.refl _ _, fun j hj => absurd hj (by omega)⟩
    case round =>
      obtain ⟨k, hk, rfl, hW, ha⟩ := hrel
      by_cases hlt : k < n1
      · obtain ⟨b1, o1, x, rfl, _, hx, hc1⟩ := (H1.out.below hW).elem hlt
        obtain ⟨b2, o2, y, rfl, _, hy, hc2⟩ := (H2.out.below hW).elem hlt
        have g1 : wr.cell? ⟨b1, o1 + k, none⟩ = some (.string ⟨x.toArray⟩) := by simpa using hc1 0 _ rfl
        have g2 : wr.cell? ⟨b2, o2 + k, none⟩ = some (.string ⟨y.toArray⟩) := by simpa using hc2 0 _ rfl
        have hbq : ((⟨x.toArray⟩ : ByteArray).toList == (⟨y.toArray⟩ : ByteArray).toList) = decide (x = y) := by rw [ba_mk_beq]
        have HX := Lib.hid hx
        have HY := Lib.hid hy
        have HW := Lib.hid hW
        clear hc1 hc2 hx hy hW H1 H2
        cases hq : decide (x = y)
        · rw [hq] at hbq
          have hxy : ¬ x = y := of_decide_eq_false hq
          have HF := Lib.hid (show decide (xs = ys) = false from decide_eq_false (fun e => hxy (by
            have h1 := HX.out
            rw [e, HY.out] at h1
            exact (Option.some.inj h1).symm)))
          clear ha hq hxy
          generalize (⟨x.toArray⟩ : ByteArray) = zx at *
          generalize (⟨y.toArray⟩ : ByteArray) = zy at *
          go_wp2
          go_quiet (fail)
          go_wp2
          go_ret
          exact ⟨ret_b HF.out.symm, below_drewN HW.out _⟩
        · rw [hq] at hbq
          have hxy : x = y := of_decide_eq_true hq
          have HS := Lib.hid (show ∀ j, j < k + 1 → xs[j]? = ys[j]? from fun j hj => by
            by_cases h : j < k
            · exact ha.out j h
            · rw [show j = k from by omega, HX.out, HY.out, hxy])
          clear ha hq hxy
          generalize (⟨x.toArray⟩ : ByteArray) = zx at *
          generalize (⟨y.toArray⟩ : ByteArray) = zy at *
          go_wp2
          go_quiet (fail)
          go_wp2
          go_roundw
          case rel => exact ⟨k + 1, by omega, by go_num, below_drewN HW.out _, HS.out⟩
          case measure => simp [intOf]; omega
      · have hke : k = n1 := by omega
        have hfin := Lib.hid (show decide (xs = ys) = true from decide_eq_true (List.ext_getElem? (fun j => by
          by_cases hj : j < n1
          · exact ha.out j (by omega)
          · rw [List.getElem?_eq_none (by rw [L1.out]; omega), List.getElem?_eq_none (by rw [L2.out]; omega)])))
        clear ha hke
        go_wp2
        go_ret
        exact ⟨ret_b hfin.out.symm, hW⟩
  · have hb : ((n1 : Int) == (n2 : Int)) = false := by rw [beq_eq_false_iff_ne]; omega
    have hfin := Lib.hid (show decide (xs = ys) = false from decide_eq_false (fun e => hn (by rw [← L1.out, ← L2.out, e])))
    go_enter Tryz.func121, Tryz.ntmps121
    go_wp2
    go_ret
    exact ⟨ret_b hfin.out.symm, Below.refl _ _⟩

def sameL {α : Type} (q : α → α → Bool) : List α → List α → Bool
  | [], [] => true
  | x :: l, y :: r => q x y && sameL q l r
  | _, _ => false
section
variable {α : Type} {q : α → α → Bool}
theorem sameL_len : ∀ {l r : List α}, l.length ≠ r.length → sameL q l r = false
  | [], [], h => absurd rfl h
  | [], _ :: _, _ => rfl
  | _ :: _, [], _ => rfl
  | x :: l, y :: r, h => by
    unfold sameL
    rw [sameL_len (l := l) (r := r) (fun e => h (by simp [e])), Bool.and_false]
theorem sameL_bad : ∀ {l r : List α} {k : Nat} {x y : α}, l[k]? = some x → r[k]? = some y → q x y = false → sameL q l r = false
  | [], _, _, _, _, h, _, _ => by simp at h
  | _ :: _, [], _, _, _, _, h, _ => by simp at h
  | a :: l, b :: r, 0, x, y, h1, h2, h3 => by
    simp at h1 h2; subst h1 h2
    unfold sameL; rw [h3, Bool.false_and]
  | a :: l, b :: r, k + 1, x, y, h1, h2, h3 => by
    simp at h1 h2
    unfold sameL; rw [sameL_bad h1 h2 h3, Bool.and_false]
theorem sameL_good : ∀ {l r : List α}, l.length = r.length → (∀ (k : Nat) (x y : α), l[k]? = some x → r[k]? = some y → q x y = true) → sameL q l r = true
  | [], [], _, _ => rfl
  | [], _ :: _, h, _ => by simp at h
  | _ :: _, [], h, _ => by simp at h
  | a :: l, b :: r, h, hs => by
    unfold sameL
    rw [hs 0 a b rfl rfl, sameL_good (by simpa using h) (fun k x y h1 h2 => hs (k + 1) x y (by simpa using h1) (by simpa using h2))]; rfl
end
theorem sameL_map {α β : Type} (f : α → β) (q : β → β → Bool) : ∀ (l r : List α), sameL (fun x y => q (f x) (f y)) l r = sameL q (l.map f) (r.map f)
  | [], [] => rfl
  | [], _ :: _ => rfl
  | _ :: _, [] => rfl
  | x :: l, y :: r => by
    simp only [List.map_cons, sameL]
    rw [sameL_map f q l r]
def sameScope (x y : Scope) : Bool := decide (x.kind = y.kind) && (decide (x.names = y.names) && decide (x.events = y.events))
def sameFilter (x y : Filter) : Bool := decide (x.on = y.on) && sameL sameScope x.scopes y.scopes
set_option maxHeartbeats 1600000 in
set_option maxRecDepth 20000 in
theorem slices_EqualFunc_Scope (g : Nat) (lb : Array Value) (q : Scope × Hd → Scope × Hd → Bool) (A1 A2 : Option Addr) (n1 n2 c1 c2 : Nat) (rs1 rs2 : List (Scope × Hd)) (w : World) (hn1 : n1 ≤ 4611686018427387904) (hn2 : n2 ≤ 4611686018427387904) (h1 : Rd encScope 3 w A1 n1 rs1) (h2 : Rd encScope 3 w A2 n2 rs2)
    (eg : ∀ args w, (callFunc g args).run Tryz.prog w = .ok (.enter g args) w) (hp : ∀ (W : World) (x y : Scope × Hd), x ∈ rs1 → y ∈ rs2 → Below w.heap.size w W → Calls Tryz.prog g (#[.agg #[.int .i64 x.1.kind, .slice x.2.A x.2.n x.2.c, .int .i64 x.1.events], .agg #[.int .i64 y.1.kind, .slice y.2.A y.2.n y.2.c, .int .i64 y.1.events]] ++ lb) W fun e w' => e = .returned (.bool (q x y)) ∧ Below W.heap.size W w') :
    Calls Tryz.prog 106 #[.slice A1 n1 c1, .slice A2 n2 c2, .func (.func g) #[] lb] w fun e w' => e = .returned (.bool (sameL q rs1 rs2)) ∧ Below w.heap.size w w' := by
  have H1 := Lib.hid h1
  have H2 := Lib.hid h2
  have HQ := Lib.hid hp
  clear h1 h2 hp
  by_cases hn : n1 = n2
  · subst hn
    go_enter Tryz.func106, Tryz.ntmps106
    go_wp2_with fail
    go_loopw [17] (fun i wr => ∃ k : Nat, k ≤ n1 ∧ i = .int .i64 k ∧ Below w.heap.size w wr ∧ Hid (∀ (j : Nat) (x y : Scope × Hd), j < k → rs1[j]? = some x → rs2[j]? = some y → q x y = true)) (fun i _ => n1 - (intOf i).toNat)
    case atStart => exact ⟨0, Nat.zero_le _, rfl, Below.refl _ _, fun j x y hj => absurd hj (by omega)⟩
    case round =>
      obtain ⟨k, hk, rfl, hW, ha⟩ := hrel
      by_cases hlt : k < n1
      · obtain ⟨b1, o1, x, rfl, _, hx, hc1⟩ := (H1.out.below hW).elem hlt
        obtain ⟨b2, o2, y, rfl, _, hy, hc2⟩ := (H2.out.below hW).elem hlt
        have g10 : wr.cell? ⟨b1, o1 + k * 3, none⟩ = some (.int .i64 x.1.kind) := by simpa using hc1 0 _ rfl
        have g11 : wr.cell? ⟨b1, o1 + k * 3 + 1, none⟩ = some (.slice x.2.A x.2.n x.2.c) := hc1 1 _ rfl
        have g12 : wr.cell? ⟨b1, o1 + k * 3 + 2, none⟩ = some (.int .i64 x.1.events) := hc1 2 _ rfl
        have g20 : wr.cell? ⟨b2, o2 + k * 3, none⟩ = some (.int .i64 y.1.kind) := by simpa using hc2 0 _ rfl
        have g21 : wr.cell? ⟨b2, o2 + k * 3 + 1, none⟩ = some (.slice y.2.A y.2.n y.2.c) := hc2 1 _ rfl
        have g22 : wr.cell? ⟨b2, o2 + k * 3 + 2, none⟩ = some (.int .i64 y.1.events) := hc2 2 _ rfl
        have HQ2 := Lib.hid (fun W hb => HQ.out W x y (List.mem_of_getElem? hx) (List.mem_of_getElem? hy) (hW.trans (Below.mono hb hW.size)))
        have HX := Lib.hid hx
        have HY := Lib.hid hy
        have HW := Lib.hid hW
        have HD := Lib.hid (fun h => sameL_bad (q := q) hx hy h)
        have HS := Lib.hid (show q x y = true → ∀ (j : Nat) (x y : Scope × Hd), j < k + 1 → rs1[j]? = some x → rs2[j]? = some y → q x y = true from fun h j u v hj hu hv => by
          by_cases e : j < k
          · exact ha.out j u v e hu hv
          · rw [show j = k from by omega] at hu hv
            rw [HX.out] at hu; rw [HY.out] at hv
            rw [← Option.some.inj hu, ← Option.some.inj hv]; exact h)
        clear hc1 hc2 hx hy hW ha H1 H2 HQ
        cases hq : q x y
        · have HF := Lib.hid (HD.out hq)
          have Hq := Lib.hid hq
          clear HS HD hq
          go_wp2_with (go_at_fn g; refine (HQ2.out _ (by go_grown)).mono ?_; rw [Hq.out]; rintro e w' ⟨rfl, hb'⟩)
          go_ret
          exact ⟨ret_b HF.out.symm, HW.out.trans ((Below.trans (by go_grown : Below wr.heap.size wr _) (hb'.mono (by simp; omega))).mono HW.out.size)⟩
        · have HF := Lib.hid (HS.out hq)
          have Hq := Lib.hid hq
          clear HS HD hq
          go_wp2_with (go_at_fn g; refine (HQ2.out _ (by go_grown)).mono ?_; rw [Hq.out]; rintro e w' ⟨rfl, hb'⟩)
          go_roundw
          case rel => exact ⟨k + 1, by omega, by go_num, HW.out.trans ((Below.trans (by go_grown : Below wr.heap.size wr _) (hb'.mono (by simp; omega))).mono HW.out.size), HF.out⟩
          case measure => simp [intOf]; omega
      · have hke : k = n1 := by omega
        have HF := Lib.hid (show sameL q rs1 rs2 = true from sameL_good (by rw [H1.out.1, H2.out.1]) (fun j x y hx hy => ha.out j x y (by have h1 := (List.getElem?_eq_some_iff.1 hx).1; have h2 := H1.out.1; omega) hx hy))
        clear ha hke
        go_wp2
        go_ret
        exact ⟨ret_b HF.out.symm, hW⟩
  · have hb : ((n1 : Int) == (n2 : Int)) = false := by rw [beq_eq_false_iff_ne]; omega
    have HF := Lib.hid (show sameL q rs1 rs2 = false from sameL_len (by rw [H1.out.1, H2.out.1]; exact hn))
    go_enter Tryz.func106, Tryz.ntmps106
    go_wp2
    go_ret
    exact ⟨ret_b HF.out.symm, Below.refl _ _⟩

theorem sameFilter_off {x y : Filter} (h : ¬ x.on = y.on) : sameFilter x y = false := by unfold sameFilter; rw [decide_eq_false h, Bool.false_and]
theorem sameFilter_rs {x y : Filter} {rs1 rs2 : List (Scope × Hd)} (h1 : rs1.map Prod.fst = x.scopes) (h2 : rs2.map Prod.fst = y.scopes) (h : x.on = y.on) : sameFilter x y = sameL (fun p q : Scope × Hd => sameScope p.1 q.1) rs1 rs2 := by
  unfold sameFilter; rw [decide_eq_true h, Bool.true_and, sameL_map Prod.fst sameScope, h1, h2]
theorem sameScope_kind {x y : Scope} (h : ¬ x.kind = y.kind) : sameScope x y = false := by unfold sameScope; rw [decide_eq_false h, Bool.false_and]
theorem sameScope_names {x y : Scope} (h : ¬ x.names = y.names) : sameScope x y = false := by unfold sameScope; rw [decide_eq_false h, Bool.false_and, Bool.and_false]
theorem sameScope_events {x y : Scope} (h : ¬ x.events = y.events) : sameScope x y = false := by unfold sameScope; rw [decide_eq_false h, Bool.and_false, Bool.and_false]
theorem sameScope_all {x y : Scope} (h1 : x.kind = y.kind) (h2 : x.names = y.names) (h3 : x.events = y.events) : sameScope x y = true := by unfold sameScope; rw [decide_eq_true h1, decide_eq_true h2, decide_eq_true h3]; rfl
set_option maxHeartbeats 1600000 in
set_option maxRecDepth 20000 in
theorem impl_SameFilter_1 (x y : Scope × Hd) (w : World) (ix : ScopeIs w x.1 x.2) (iy : ScopeIs w y.1 y.2) (fx : x.1.Fit) (fy : y.1.Fit) :
    Calls Tryz.prog 107 #[.agg #[.int .i64 x.1.kind, .slice x.2.A x.2.n x.2.c, .int .i64 x.1.events], .agg #[.int .i64 y.1.kind, .slice y.2.A y.2.n y.2.c, .int .i64 y.1.events]] w fun e w' => e = .returned (.bool (sameScope x.1 y.1)) ∧ Below w.heap.size w w' := by
  obtain ⟨⟨k1, ns1, e1⟩, ⟨A1, n1, c1⟩⟩ := x
  obtain ⟨⟨k2, ns2, e2⟩, ⟨A2, n2, c2⟩⟩ := y
  have hr1 := ix.1
  have hr2 := iy.1
  simp only [] at hr1 hr2 fx fy
  have hn1 : n1 ≤ 1048576 := by rw [← hr1.1]; exact fx.1
  have hn2 : n2 ≤ 1048576 := by rw [← hr2.1]; exact fy.1
  have HR1 := Lib.hid hr1
  have HR2 := Lib.hid hr2
  clear hr1 hr2 ix iy fx fy
  dsimp only
  by_cases hk : k1 = k2
  · subst hk
    go_enter Tryz.func107, Tryz.ntmps107
    have hA : Below w.heap.size w ((w.alloc (.cells #[.int .i64 k1, .slice A1 n1 c1, .int .i64 e1] 79)).alloc (.cells #[.int .i64 k1, .slice A2 n2 c2, .int .i64 e2] 79)) := by go_grown
    have hP : Holds ((w.alloc (.cells #[.int .i64 k1, .slice A1 n1 c1, .int .i64 e1] 79)).alloc (.cells #[.int .i64 k1, .slice A2 n2 c2, .int .i64 e2] 79)) w.heap.size [.int .i64 k1, .slice A1 n1 c1, .int .i64 e1] := (Holds.new w _ _).below (by go_grown)
    have hQ : Holds ((w.alloc (.cells #[.int .i64 k1, .slice A1 n1 c1, .int .i64 e1] 79)).alloc (.cells #[.int .i64 k1, .slice A2 n2 c2, .int .i64 e2] 79)) (w.heap.size + 1) [.int .i64 k1, .slice A2 n2 c2, .int .i64 e2] := by
      have h := Holds.new (w.alloc (.cells #[.int .i64 k1, .slice A1 n1 c1, .int .i64 e1] 79)) [.int .i64 k1, .slice A2 n2 c2, .int .i64 e2] 79
      rw [show (w.alloc (.cells #[.int .i64 k1, .slice A1 n1 c1, .int .i64 e1] 79)).heap.size = w.heap.size + 1 from by simp] at h
      exact h
    go_wp2_with fail
    generalize (w.alloc (.cells #[.int .i64 k1, .slice A1 n1 c1, .int .i64 e1] 79)).alloc (.cells #[.int .i64 k1, .slice A2 n2 c2, .int .i64 e2] 79) = w1 at *
    have HA := Lib.hid hA
    have HP := Lib.hid hP
    have HQ := Lib.hid hQ
    have S1 := Lib.hid (HR1.out.below hA)
    have S2 := Lib.hid (HR2.out.below hA)
    clear hA hP hQ HR1 HR2
    cases hq : decide (ns1 = ns2)
    · have HF := Lib.hid (sameScope_names (x := ⟨k1, ns1, e1⟩) (y := ⟨k1, ns2, e2⟩) (of_decide_eq_false hq))
      refine (slices_Equal_Str A1 A2 n1 n2 c1 c2 ns1 ns2 _ (by omega) (by omega) S1.out S2.out).mono ?_
      rw [hq]
      rintro e w3 ⟨rfl, hb3⟩
      have HB := Lib.hid (HA.out.trans (hb3.mono HA.out.size))
      clear hq hb3
      go_wp2
      go_ret
      exact ⟨ret_b HF.out.symm, HB.out⟩
    · have HN := Lib.hid (of_decide_eq_true hq)
      refine (slices_Equal_Str A1 A2 n1 n2 c1 c2 ns1 ns2 _ (by omega) (by omega) S1.out S2.out).mono ?_
      rw [hq]
      rintro e w3 ⟨rfl, hb3⟩
      have p2 := (HP.out.below hb3).2 2 (.int .i64 e1) rfl
      have q2 := (HQ.out.below hb3).2 2 (.int .i64 e2) rfl
      have HB := Lib.hid (HA.out.trans (hb3.mono HA.out.size))
      clear hq hb3
      by_cases he : e1 = e2
      · subst he
        have HF := Lib.hid (sameScope_all (x := ⟨k1, ns1, e1⟩) (y := ⟨k1, ns2, e1⟩) rfl HN.out rfl)
        go_wp2
        go_ret
        exact ⟨ret_b HF.out.symm, HB.out⟩
      · have hee : (e1 == e2) = false := beq_eq_false_iff_ne.2 he
        have HF := Lib.hid (sameScope_events (x := ⟨k1, ns1, e1⟩) (y := ⟨k1, ns2, e2⟩) he)
        go_wp2
        go_ret
        exact ⟨ret_b HF.out.symm, HB.out⟩
  · have HF := Lib.hid (sameScope_kind (x := ⟨k1, ns1, e1⟩) (y := ⟨k2, ns2, e2⟩) hk)
    go_enter Tryz.func107, Tryz.ntmps107
    go_wp2
    go_ret
    exact ⟨ret_b HF.out.symm, by go_grown⟩
set_option maxHeartbeats 1600000 in
set_option maxRecDepth 20000 in
theorem impl_SameFilter (x y : Filter) (h1 h2 : FHd) (w : World) (i1 : FilterIs w x h1) (i2 : FilterIs w y h2) (f1 : x.Fit) (f2 : y.Fit) :
    Calls Tryz.prog 75 #[.agg #[.bool x.on, .slice h1.A h1.n h1.c], .agg #[.bool y.on, .slice h2.A h2.n h2.c]] w fun e w' => e = .returned (.bool (sameFilter x y)) ∧ Below w.heap.size w w' := by
  have hn1 : h1.n ≤ 1048576 := by rw [i1.len]; exact f1.1
  have hn2 : h2.n ≤ 1048576 := by rw [i2.len]; exact f2.1
  have I1 := Lib.hid i1
  have I2 := Lib.hid i2
  have F1 := Lib.hid (fits_of f1 i1.2.2.2)
  have F2 := Lib.hid (fits_of f2 i2.2.2.2)
  clear f1 f2
  by_cases hon : x.on = y.on
  · have HFin := Lib.hid (sameFilter_rs i1.2.2.2 i2.2.2.2 hon)
    clear i1 i2
    obtain ⟨on1, sc1⟩ := x
    obtain ⟨on2, sc2⟩ := y
    simp only [] at hon I1 I2 HFin
    subst hon
    dsimp only
    go_enter Tryz.func75, Tryz.ntmps75
    go_wp2_with fail
    refine (slices_EqualFunc_Scope _ _ (fun p q : Scope × Hd => sameScope p.1 q.1) _ _ _ _ _ _ h1.rs h2.rs _ (by omega) (by omega) (I1.out.1.below (by go_grown)) (I2.out.1.below (by go_grown)) (enters_of Tryz.func107 (by kernel_rfl) rfl) ?_).mono ?_
    · intro W p q hp hq hb
      have hb0 : Below w.heap.size w W := Below.trans (by go_grown : Below w.heap.size w _) (hb.mono (by simp; omega))
      exact impl_SameFilter_1 p q W ((I1.out.2.2.1 p hp).below hb0) ((I2.out.2.2.1 q hq).below hb0) (F1.out p hp) (F2.out q hq)
    · rintro e w1 ⟨rfl, hb1⟩
      have HW := Lib.hid (Below.trans (by go_grown : Below w.heap.size w _) (hb1.mono (by simp; omega)))
      clear hb1
      go_wp2
      go_ret
      exact ⟨ret_b HFin.out.symm, HW.out⟩
  · have HFin := Lib.hid (sameFilter_off hon)
    clear i1 i2
    go_enter Tryz.func75, Tryz.ntmps75
    go_wp2
    go_ret
    exact ⟨ret_b HFin.out.symm, by go_grown⟩
set_option maxHeartbeats 3200000 in
set_option maxRecDepth 20000 in
theorem spec_SameFilter (x y : Filter) (h1 h2 : FHd) (w : World) (i1 : FilterIs w x h1) (i2 : FilterIs w y h2) (f1 : x.Fit) (f2 : y.Fit) :
    Calls Tryz.prog 95 #[.agg #[.bool x.on, .slice h1.A h1.n h1.c], .agg #[.bool y.on, .slice h2.A h2.n h2.c]] w fun e w' => e = .returned (.bool (sameFilter x y)) ∧ Below w.heap.size w w' := by
  have hn1 : h1.n ≤ 1048576 := by rw [i1.len]; exact f1.1
  have hn2 : h2.n ≤ 1048576 := by rw [i2.len]; exact f2.1
  have I1 := Lib.hid i1
  have I2 := Lib.hid i2
  have F1 := Lib.hid (fits_of f1 i1.2.2.2)
  have F2 := Lib.hid (fits_of f2 i2.2.2.2)
  clear f1 f2
  by_cases hon : x.on = y.on
  · have HFin := Lib.hid (sameFilter_rs i1.2.2.2 i2.2.2.2 hon)
    clear i1 i2
    obtain ⟨on1, sc1⟩ := x
    obtain ⟨on2, sc2⟩ := y
    obtain ⟨A1, n1, c1, rs1⟩ := h1
    obtain ⟨A2, n2, c2, rs2⟩ := h2
    simp only [] at hon I1 I2 HFin F1 F2 hn1 hn2
    subst hon
    dsimp only
    by_cases hn : n1 = n2
    · subst hn
      go_enter Tryz.func95, Tryz.ntmps95
      go_wp2_with fail
      have hA : Below w.heap.size w ((w.alloc (.cells #[.bool on1, .slice A1 n1 c1] 34)).alloc (.cells #[.bool on1, .slice A2 n1 c2] 34)) := by go_grown
      have p1w : ((w.alloc (.cells #[.bool on1, .slice A1 n1 c1] 34)).alloc (.cells #[.bool on1, .slice A2 n1 c2] 34)).cell? ⟨w.heap.size, 1, none⟩ = some (.slice A1 n1 c1) := by go_simp
      have q1w : ((w.alloc (.cells #[.bool on1, .slice A1 n1 c1] 34)).alloc (.cells #[.bool on1, .slice A2 n1 c2] 34)).cell? ⟨w.heap.size + 1, 1, none⟩ = some (.slice A2 n1 c2) := by go_simp
      generalize (w.alloc (.cells #[.bool on1, .slice A1 n1 c1] 34)).alloc (.cells #[.bool on1, .slice A2 n1 c2] 34) = w1 at *
      have hl1 : w.heap.size < w1.heap.size := World.block_lt_of_cell? w1 _ p1w
      have hl2 : w.heap.size + 1 < w1.heap.size := World.block_lt_of_cell? w1 _ q1w
      have HA := Lib.hid hA
      have J1 := Lib.hid (I1.out.below hA)
      have J2 := Lib.hid (I2.out.below hA)
      clear hA I1 I2
      go_loopw [5] (fun i wr => ∃ k : Nat, k ≤ n1 ∧ i = .int .i64 k ∧ Below w1.heap.size w1 wr ∧ Hid (∀ (j : Nat) (x y : Scope × Hd), j < k → rs1[j]? = some x → rs2[j]? = some y → sameScope x.1 y.1 = true)) (fun i _ => n1 - (intOf i).toNat)
      case atStart => exact ⟨0, Nat.zero_le _, rfl, Below.refl _ _, fun j x y hj => absurd hj (by omega)⟩
      case round =>
        obtain ⟨k, hk, rfl, hb, ha⟩ := hrel
        have p1 : wr.cell? ⟨w.heap.size, 1, none⟩ = some (.slice A1 n1 c1) := (hb.cell (p := ⟨w.heap.size, 1, none⟩) hl1).trans p1w
        have q1 : wr.cell? ⟨w.heap.size + 1, 1, none⟩ = some (.slice A2 n1 c2) := (hb.cell (p := ⟨w.heap.size + 1, 1, none⟩) hl2).trans q1w
        clear p1w q1w
        by_cases hlt : k < n1
        · obtain ⟨b1, o1, u, rfl, _, hu, hc1⟩ := (J1.out.below hb).1.elem hlt
          obtain ⟨b2, o2, v, rfl, _, hv, hc2⟩ := (J2.out.below hb).1.elem hlt
          have g10 : wr.cell? ⟨b1, o1 + k * 3, none⟩ = some (.int .i64 u.1.kind) := by simpa using hc1 0 _ rfl
          have g11 : wr.cell? ⟨b1, o1 + k * 3 + 1, none⟩ = some (.slice u.2.A u.2.n u.2.c) := hc1 1 _ rfl
          have g12 : wr.cell? ⟨b1, o1 + k * 3 + 2, none⟩ = some (.int .i64 u.1.events) := hc1 2 _ rfl
          have g20 : wr.cell? ⟨b2, o2 + k * 3, none⟩ = some (.int .i64 v.1.kind) := by simpa using hc2 0 _ rfl
          have g21 : wr.cell? ⟨b2, o2 + k * 3 + 1, none⟩ = some (.slice v.2.A v.2.n v.2.c) := hc2 1 _ rfl
          have g22 : wr.cell? ⟨b2, o2 + k * 3 + 2, none⟩ = some (.int .i64 v.1.events) := hc2 2 _ rfl
          have K1 := Lib.hid ((J1.out.2.2.1 u (List.mem_of_getElem? hu)).below hb)
          have K2 := Lib.hid ((J2.out.2.2.1 v (List.mem_of_getElem? hv)).below hb)
          have hm1 : u.2.n ≤ 1048576 := by rw [← K1.out.1.1]; exact (F1.out u (List.mem_of_getElem? hu)).1
          have hm2 : v.2.n ≤ 1048576 := by rw [← K2.out.1.1]; exact (F2.out v (List.mem_of_getElem? hv)).1
          have HX := Lib.hid hu
          have HY := Lib.hid hv
          have HB := Lib.hid hb
          have HD := Lib.hid (fun h => sameL_bad (q := fun p q : Scope × Hd => sameScope p.1 q.1) hu hv h)
          have HS := Lib.hid (show sameScope u.1 v.1 = true → ∀ (j : Nat) (x y : Scope × Hd), j < k + 1 → rs1[j]? = some x → rs2[j]? = some y → sameScope x.1 y.1 = true from fun h j x y hj hx hy => by
            by_cases e : j < k
            · exact ha.out j x y e hx hy
            · rw [show j = k from by omega] at hx hy
              rw [HX.out] at hx; rw [HY.out] at hy
              rw [← Option.some.inj hx, ← Option.some.inj hy]; exact h)
          have M1 := Lib.hid (fun h => sameScope_kind (x := u.1) (y := v.1) h)
          have M2 := Lib.hid (fun h => sameScope_events (x := u.1) (y := v.1) h)
          have M3 := Lib.hid (fun h => sameScope_names (x := u.1) (y := v.1) h)
          have M4 := Lib.hid (fun h1 h2 h3 => sameScope_all (x := u.1) (y := v.1) h1 h2 h3)
          clear hc1 hc2 hu hv hb ha J1 J2 F1 F2
          have hkn : (k : Int) < (n1 : Int) := by omega
          have hk0 : (0 : Int) ≤ (k : Int) := by omega
          obtain ⟨⟨uk, un, ue⟩, ⟨uA, um, uc⟩⟩ := u
          obtain ⟨⟨vk, vn, ve⟩, ⟨vA, vm, vc⟩⟩ := v
          simp only [] at g10 g11 g12 g20 g21 g22 hm1 hm2 M1 M2 M3 M4 HS HD K1 K2
          have f1 : ∀ u : Later wr, u.at_.cell? ⟨w.heap.size, 1, none⟩ = some (.slice (some ⟨b1, o1, none⟩) n1 c1) := fun u => u.cell p1
          have f2 : ∀ u : Later wr, u.at_.cell? ⟨w.heap.size + 1, 1, none⟩ = some (.slice (some ⟨b2, o2, none⟩) n1 c2) := fun u => u.cell q1
          have f10 : ∀ u : Later wr, u.at_.cell? ⟨b1, o1 + k * 3, none⟩ = some (.int .i64 uk) := fun u => u.cell g10
          have f11 : ∀ u : Later wr, u.at_.cell? ⟨b1, o1 + k * 3 + 1, none⟩ = some (.slice uA um uc) := fun u => u.cell g11
          have f12 : ∀ u : Later wr, u.at_.cell? ⟨b1, o1 + k * 3 + 2, none⟩ = some (.int .i64 ue) := fun u => u.cell g12
          have f20 : ∀ u : Later wr, u.at_.cell? ⟨b2, o2 + k * 3, none⟩ = some (.int .i64 vk) := fun u => u.cell g20
          have f21 : ∀ u : Later wr, u.at_.cell? ⟨b2, o2 + k * 3 + 1, none⟩ = some (.slice vA vm vc) := fun u => u.cell g21
          have f22 : ∀ u : Later wr, u.at_.cell? ⟨b2, o2 + k * 3 + 2, none⟩ = some (.int .i64 ve) := fun u => u.cell g22
          by_cases ek : uk = vk
          · have ekb : (uk != vk) = false := by rw [ek]; exact bne_self_eq_false _
            by_cases ee : ue = ve
            · have eeb : (ue != ve) = false := by rw [ee]; exact bne_self_eq_false _
              cases hq : decide (un = vn)
              · have HF := Lib.hid (HD.out (M3.out (of_decide_eq_false hq)))
                clear HS HD M1 M2 M3 M4
                go_wp2
                refine wp_region_calm_lit (by kernel_rfl) (by kernel_rfl) ?_
                repeat (go_big_quiet_step (first | (go_at_call 121; exact Calls.calm (Calls.known (spec_l1Texts _ _ _ _ _ _ un vn _ (by omega) (by omega) (K1.out.1.below (Later.bel _)) (K2.out.1.below (Later.bel _))) hq))))
                refine wpQuiet_nil ?_
                intro _ hw'
                obtain ⟨u, rfl⟩ := hw'
                have HBf := Lib.hid (HB.out.trans (u.bel.mono HB.out.size))
                go_wp2
                go_ret
                exact ⟨ret_b (by rw [HFin.out, HF.out]), HA.out.trans (HBf.out.mono HA.out.size)⟩
              · have HF := Lib.hid (HS.out (M4.out ek (of_decide_eq_true hq) ee))
                clear HS HD M1 M2 M3 M4
                go_wp2
                refine wp_region_calm_lit (by kernel_rfl) (by kernel_rfl) ?_
                repeat (go_big_quiet_step (first | (go_at_call 121; exact Calls.calm (Calls.known (spec_l1Texts _ _ _ _ _ _ un vn _ (by omega) (by omega) (K1.out.1.below (Later.bel _)) (K2.out.1.below (Later.bel _))) hq))))
                refine wpQuiet_nil ?_
                intro _ hw'
                obtain ⟨u, rfl⟩ := hw'
                have HBf := Lib.hid (HB.out.trans (u.bel.mono HB.out.size))
                go_wp2
                go_roundw
                case rel => exact ⟨k + 1, by omega, by go_num, HBf.out, HF.out⟩
                case measure => simp [intOf]; omega
            · have eeb : (ue != ve) = true := bne_iff_ne.2 ee
              have HF := Lib.hid (HD.out (M2.out ee))
              clear HS HD M1 M2 M3 M4
              go_wp2
              refine wp_region_calm_lit (by kernel_rfl) (by kernel_rfl) ?_
              repeat (go_big_quiet_step (fail))
              refine wpQuiet_nil ?_
              intro _ hw'
              obtain ⟨u, rfl⟩ := hw'
              have HBf := Lib.hid (HB.out.trans (u.bel.mono HB.out.size))
              go_wp2
              go_ret
              exact ⟨ret_b (by rw [HFin.out, HF.out]), HA.out.trans (HBf.out.mono HA.out.size)⟩
          · have ekb : (uk != vk) = true := bne_iff_ne.2 ek
            have HF := Lib.hid (HD.out (M1.out ek))
            clear HS HD M1 M2 M3 M4
            go_wp2
            refine wp_region_calm_lit (by kernel_rfl) (by kernel_rfl) ?_
            repeat (go_big_quiet_step (fail))
            refine wpQuiet_nil ?_
            intro _ hw'
            obtain ⟨u, rfl⟩ := hw'
            have HBf := Lib.hid (HB.out.trans (u.bel.mono HB.out.size))
            go_wp2
            go_ret
            exact ⟨ret_b (by rw [HFin.out, HF.out]), HA.out.trans (HBf.out.mono HA.out.size)⟩
        · have hke : k = n1 := by omega
          have HF := Lib.hid (sameL_good (q := fun p q : Scope × Hd => sameScope p.1 q.1) (l := rs1) (r := rs2) (by rw [J1.out.1.1, J2.out.1.1]) (fun j x y hx hy => ha.out j x y (by have h1 := (List.getElem?_eq_some_iff.1 hx).1; have h2 : rs1.length = n1 := J1.out.1.1; omega) hx hy))
          have HB := Lib.hid hb
          clear ha hke hb
          go_wp2
          go_ret
          exact ⟨ret_b (by rw [HFin.out, HF.out]), HA.out.trans (HB.out.mono HA.out.size)⟩
    · have hb : ((n1 : Int) == (n2 : Int)) = false := by rw [beq_eq_false_iff_ne]; omega
      have HF := Lib.hid (sameL_len (q := fun p q : Scope × Hd => sameScope p.1 q.1) (l := rs1) (r := rs2) (by rw [I1.out.1.1, I2.out.1.1]; exact hn))
      go_enter Tryz.func95, Tryz.ntmps95
      go_wp2
      go_ret
      exact ⟨ret_b (by rw [HFin.out, HF.out]), by go_grown⟩
  · have HFin := Lib.hid (sameFilter_off hon)
    clear i1 i2
    go_enter Tryz.func95, Tryz.ntmps95
    go_wp2
    go_ret
    exact ⟨ret_b HFin.out.symm, by go_grown⟩

end Go.Proofs.YtjpkceimokkpgaaGreatDoor
