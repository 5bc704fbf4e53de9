/-
  Walks: what each function returns, and that it leaves what lay in memory as it was.
-/
import Derived.Test.YtnphoodoheccoaaProg
import Derived.Test.YtnphoodoheccoaaPlain
import Derived.Test.YtnphoodoheccoaaBase2
import Derived.Test.YtnphoodoheccoaaOpen2
import Derived.Test.YtnphoodoheccoaaShelf
import Derived.WalkKit
import Derived.WalkSpells
import Derived.WalkLawsBesides
import Derived.Lib.Hide
import Derived.Deep.LoopGhost
import Derived.Deep.QuietTactic
import Derived.BigQuiet
import Derived.Handy
import Derived.Deep.RegionHeld3
import Derived.StillTailTactics
import Derived.OpenShut
import Derived.ChangeSame
import Derived.Laws.StructEq

import Derived.Test.YtnphoodoheccoaaPlainT

import Derived.Test.YtnphoodoheccoaaW1

import Derived.Test.YtnphoodoheccoaaW2

import Derived.Test.YtnphoodoheccoaaW3

import Derived.Test.YtnphoodoheccoaaW5

import Derived.Test.YtnphoodoheccoaaW7

namespace Go.Proofs.Ytnphoodoheccoaa
open Go.ChangeShapes Go.WideShapes Go.ChangeAt Go.RowKit Go.Deep
set_option linter.unusedVariables false
set_option linter.unusedSimpArgs false

def sameBoxes : List Box → List Box → Bool
  | [], [] => true
  | x :: l, y :: r => sameBox x y && sameBoxes l r
  | _, _ => false
theorem sameBoxes_len : ∀ {l r : List Box}, l.length ≠ r.length → sameBoxes l r = false
  | [], [], h => absurd rfl h
  | [], _ :: _, _ => rfl
  | _ :: _, [], _ => rfl
  | x :: l, y :: r, h => by
    unfold sameBoxes
    rw [sameBoxes_len (l := l) (r := r) (fun e => h (by simp [e])), Bool.and_false]
theorem sameBoxes_bad : ∀ {l r : List Box} {k : Nat} {x y : Box}, l[k]? = some x → r[k]? = some y → sameBox x y = false → sameBoxes l r = false
  | [], _, _, _, _, h, _, _ => by simp at h
  | _ :: _, [], _, _, _, _, h, _ => by simp at h
  | a :: l, b :: r, 0, x, y, h1, h2, h3 => by
    simp at h1 h2; subst h1 h2
    unfold sameBoxes; rw [h3, Bool.false_and]
  | a :: l, b :: r, k + 1, x, y, h1, h2, h3 => by
    simp at h1 h2
    unfold sameBoxes; rw [sameBoxes_bad h1 h2 h3, Bool.and_false]
theorem sameBoxes_good : ∀ {l r : List Box}, l.length = r.length → (∀ (k : Nat) (x y : Box), l[k]? = some x → r[k]? = some y → sameBox x y = true) → sameBoxes l r = true
  | [], [], _, _ => rfl
  | [], _ :: _, h, _ => by simp at h
  | _ :: _, [], h, _ => by simp at h
  | a :: l, b :: r, h, hs => by
    unfold sameBoxes
    rw [hs 0 a b rfl rfl, sameBoxes_good (by simpa using h) (fun k x y h1 h2 => hs (k + 1) x y (by simpa using h1) (by simpa using h2))]; rfl
theorem map_get {α β : Type} {rs : List (α × β)} {k : Nat} {x : α × β} (h : rs[k]? = some x) : (rs.map Prod.fst)[k]? = some x.1 := by rw [List.getElem?_map, h]; rfl
set_option maxHeartbeats 1600000 in
set_option maxRecDepth 20000 in
theorem slices_EqualFunc_Box (g : Nat) (lb : Array Value) (A1 A2 : Option Addr) (n1 n2 c1 c2 : Nat) (rs1 rs2 : List (Box × Hd)) (w : World) (hn1 : n1 ≤ 4611686018427387904) (hn2 : n2 ≤ 4611686018427387904) (h1 : Rd encBox 4 w A1 n1 rs1) (h2 : Rd encBox 4 w A2 n2 rs2)
    (eg : ∀ args w, (callFunc g args).run Try.prog w = .ok (.enter g args) w) (hp : ∀ (W : World) (x y : Box × Hd), x ∈ rs1 → y ∈ rs2 → Below w.heap.size w W → Calls Try.prog g (#[.agg #[.string x.1.name, .int .i64 x.1.validity, .int .i64 x.1.next, .slice x.2.A x.2.n x.2.c], .agg #[.string y.1.name, .int .i64 y.1.validity, .int .i64 y.1.next, .slice y.2.A y.2.n y.2.c]] ++ lb) W fun e w' => e = .returned (.bool (sameBox x.1 y.1)) ∧ Below W.heap.size W w') :
    Calls Try.prog 43 #[.slice A1 n1 c1, .slice A2 n2 c2, .func (.func g) #[] lb] w fun e w' => e = .returned (.bool (sameBoxes (rs1.map Prod.fst) (rs2.map Prod.fst))) ∧ Below w.heap.size w w' := by
  have H1 := Lib.hid h1
  have H2 := Lib.hid h2
  have HQ := Lib.hid hp
  have L1 := Lib.hid (show (rs1.map Prod.fst).length = n1 by rw [List.length_map]; exact h1.1)
  have L2 := Lib.hid (show (rs2.map Prod.fst).length = n2 by rw [List.length_map]; exact h2.1)
  clear h1 h2 hp
  by_cases hn : n1 = n2
  · subst hn
    go_enter Try.func43, Try.ntmps43
    go_wp2_with fail
    go_loopw [17] (fun i wr => ∃ k : Nat, k ≤ n1 ∧ i = .int .i64 k ∧ Below w.heap.size w wr ∧ Hid (∀ (j : Nat) (x y : Box × Hd), j < k → rs1[j]? = some x → rs2[j]? = some y → sameBox x.1 y.1 = true)) (fun i _ => n1 - (intOf i).toNat)
    case atStart => exact ⟨0, Nat.zero_le _, rfl, Below.refl _ _, fun j x y hj => absurd hj (by omega)⟩
    case round =>
      obtain ⟨k, hk, rfl, hW, ha⟩ := hrel
      by_cases hlt : k < n1
      · obtain ⟨b1, o1, x, rfl, _, hx, hc1⟩ := (H1.out.below hW).elem hlt
        obtain ⟨b2, o2, y, rfl, _, hy, hc2⟩ := (H2.out.below hW).elem hlt
        have g10 : wr.cell? ⟨b1, o1 + k * 4, none⟩ = some (.string x.1.name) := by simpa using hc1 0 _ rfl
        have g11 : wr.cell? ⟨b1, o1 + k * 4 + 1, none⟩ = some (.int .i64 x.1.validity) := hc1 1 _ rfl
        have g12 : wr.cell? ⟨b1, o1 + k * 4 + 2, none⟩ = some (.int .i64 x.1.next) := hc1 2 _ rfl
        have g13 : wr.cell? ⟨b1, o1 + k * 4 + 3, none⟩ = some (.slice x.2.A x.2.n x.2.c) := hc1 3 _ rfl
        have g20 : wr.cell? ⟨b2, o2 + k * 4, none⟩ = some (.string y.1.name) := by simpa using hc2 0 _ rfl
        have g21 : wr.cell? ⟨b2, o2 + k * 4 + 1, none⟩ = some (.int .i64 y.1.validity) := hc2 1 _ rfl
        have g22 : wr.cell? ⟨b2, o2 + k * 4 + 2, none⟩ = some (.int .i64 y.1.next) := hc2 2 _ rfl
        have g23 : wr.cell? ⟨b2, o2 + k * 4 + 3, none⟩ = some (.slice y.2.A y.2.n y.2.c) := hc2 3 _ rfl
        have HQ2 := Lib.hid (fun W hb => HQ.out W x y (List.mem_of_getElem? hx) (List.mem_of_getElem? hy) (hW.trans (Below.mono hb hW.size)))
        have HX := Lib.hid hx
        have HY := Lib.hid hy
        have HW := Lib.hid hW
        have HD := Lib.hid (fun h => sameBoxes_bad (map_get hx) (map_get hy) h)
        have HS := Lib.hid (show sameBox x.1 y.1 = true → ∀ (j : Nat) (x y : Box × Hd), j < k + 1 → rs1[j]? = some x → rs2[j]? = some y → sameBox x.1 y.1 = true from fun h j u v hj hu hv => by
          by_cases e : j < k
          · exact ha.out j u v e hu hv
          · rw [show j = k from by omega] at hu hv
            rw [HX.out] at hu; rw [HY.out] at hv
            rw [← Option.some.inj hu, ← Option.some.inj hv]; exact h)
        clear hc1 hc2 hx hy hW ha H1 H2 HQ
        cases hq : sameBox x.1 y.1
        · have HF := Lib.hid (HD.out hq)
          clear HS HD
          go_wp2_with (go_at_fn g; refine (HQ2.out _ (by go_grown)).mono ?_; rw [hq]; rintro e w' ⟨rfl, hb'⟩)
          go_ret
          exact ⟨ret_b HF.out.symm, HW.out.trans ((Below.trans (by go_grown : Below wr.heap.size wr _) (hb'.mono (by simp; omega))).mono HW.out.size)⟩
        · have HF := Lib.hid (HS.out hq)
          clear HS HD
          go_wp2_with (go_at_fn g; refine (HQ2.out _ (by go_grown)).mono ?_; rw [hq]; rintro e w' ⟨rfl, hb'⟩)
          go_roundw
          case rel => exact ⟨k + 1, by omega, by go_num, HW.out.trans ((Below.trans (by go_grown : Below wr.heap.size wr _) (hb'.mono (by simp; omega))).mono HW.out.size), HF.out⟩
          case measure => simp [intOf]; omega
      · have hke : k = n1 := by omega
        have HF := Lib.hid (show sameBoxes (rs1.map Prod.fst) (rs2.map Prod.fst) = true from sameBoxes_good (by rw [L1.out, L2.out]) (fun j x y hx hy => by
          rw [List.getElem?_map] at hx hy
          cases hx' : rs1[j]? with
          | none => rw [hx'] at hx; cases hx
          | some x' =>
            cases hy' : rs2[j]? with
            | none => rw [hy'] at hy; cases hy
            | some y' =>
              rw [hx'] at hx; rw [hy'] at hy
              rw [← Option.some.inj hx, ← Option.some.inj hy]
              exact ha.out j x' y' (by have := (List.getElem?_eq_some_iff.1 hx').1; rw [H1.out.1] at this; omega) hx' hy'))
        clear ha hke
        go_wp2
        go_ret
        exact ⟨ret_b HF.out.symm, hW⟩
  · have hb : ((n1 : Int) == (n2 : Int)) = false := by rw [beq_eq_false_iff_ne]; omega
    have HF := Lib.hid (show sameBoxes (rs1.map Prod.fst) (rs2.map Prod.fst) = false from sameBoxes_len (by rw [L1.out, L2.out]; exact hn))
    go_enter Try.func43, Try.ntmps43
    go_wp2
    go_ret
    exact ⟨ret_b HF.out.symm, Below.refl _ _⟩
set_option maxRecDepth 20000 in
theorem impl_SameBoxes (A1 A2 : Option Addr) (n1 n2 c1 c2 : Nat) (rs1 rs2 : List (Box × Hd)) (w : World) (hn1 : n1 ≤ 4611686018427387904) (hn2 : n2 ≤ 4611686018427387904) (h1 : Rd encBox 4 w A1 n1 rs1) (h2 : Rd encBox 4 w A2 n2 rs2)
    (i1 : ∀ p ∈ rs1, BoxIs w p.1 p.2) (i2 : ∀ p ∈ rs2, BoxIs w p.1 p.2) (f1 : ∀ p ∈ rs1, p.1.Fit) (f2 : ∀ p ∈ rs2, p.1.Fit) :
    Calls Try.prog 18 #[.slice A1 n1 c1, .slice A2 n2 c2] w fun e w' => e = .returned (.bool (sameBoxes (rs1.map Prod.fst) (rs2.map Prod.fst))) ∧ Below w.heap.size w w' := by
  have HC := Lib.hid (slices_EqualFunc_Box 44 #[] A1 A2 n1 n2 c1 c2 rs1 rs2 w hn1 hn2 h1 h2 (enters_of Try.func44 (by kernel_rfl) rfl) (fun W x y hx hy hb => by simpa using impl_SameBox x.1 y.1 x.2 y.2 W ((i1 x hx).below hb) ((i2 y hy).below hb) (f1 x hx).2.1 (f2 y hy).2.1))
  generalize sameBoxes (rs1.map Prod.fst) (rs2.map Prod.fst) = R at *
  clear h1 h2 i1 i2 f1 f2
  go_enter Try.func18, Try.ntmps18
  go_wp2_with fail
  refine HC.out.mono ?_
  rintro e w1 ⟨rfl, hb⟩
  go_wp2
  go_ret
  exact ⟨rfl, hb⟩

end Go.Proofs.Ytnphoodoheccoaa
