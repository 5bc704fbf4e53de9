/-
  Walks: what each function returns, and that it leaves what lay in memory as it was.
-/
import Derived.Test.YtmkhmgompajdaaaProg
import Derived.Test.YtmkhmgompajdaaaPlain
import Derived.Test.YtmkhmgompajdaaaBase2
import Derived.Test.YtmkhmgompajdaaaOpen2
import Derived.Test.YtmkhmgompajdaaaShelf
import Derived.WalkKit
import Derived.WalkSpells
import Derived.WalkLawsBesides
import Derived.Lib.Hide
import Derived.Deep.LoopGhost
import Derived.Deep.QuietTactic
import Derived.BigQuiet
import Derived.Handy
import Derived.Deep.RegionHeld3
import Derived.StillTailTactics
import Derived.OpenShut
import Derived.ChangeSame
import Derived.Laws.StructEq

import Derived.Test.YtmkhmgompajdaaaPlainT

import Derived.Test.YtmkhmgompajdaaaW1

import Derived.Test.YtmkhmgompajdaaaW2

import Derived.Test.YtmkhmgompajdaaaW3

namespace Go.Proofs.Ytmkhmgompajdaaa
open Go.ChangeShapes Go.WideShapes Go.ChangeAt Go.RowKit Go.Deep
set_option linter.unusedVariables false
set_option linter.unusedSimpArgs false

set_option maxHeartbeats 800000 in
set_option maxRecDepth 20000 in
theorem laws_szBoxS (A : Option Addr) (n c : Nat) (rs : List (Box × Hd)) (left : Int) (w : World) (h0 : 0 ≤ left) (h1 : left ≤ 1048576) (hn : n ≤ 9223372036854775807) (h : Rd encBox 4 w A n rs) (hx : ∀ p ∈ rs, BoxIs w p.1 p.2) :
    Calls Try.prog 20 #[.slice A n c, .int .i64 left] w fun e w' => (∃ v : Int, e = .returned (.int .i64 v) ∧ -1 ≤ v ∧ v ≤ left ∧ (0 ≤ v → n ≤ 1048576 ∧ ∀ p ∈ rs, p.1.Fit)) ∧ Below w.heap.size w w' := by
  have HL := Lib.hid h.1
  have H := Lib.hid h
  have HX := Lib.hid hx
  clear h hx
  by_cases hlt0 : left - (n : Int) < 0
  · go_enter Try.func20, Try.ntmps20
    go_wp2
    go_ret
    exact ⟨⟨-1, rfl, by omega, by omega, by omega⟩, Below.refl _ _⟩
  · go_enter Try.func20, Try.ntmps20
    go_wp2_with fail
    go_loopw [1, 5] (fun l i wr => ∃ (k : Nat) (v : Int), k ≤ n ∧ i = .int .i64 k ∧ l = .int .i64 v ∧ 0 ≤ v ∧ v ≤ left ∧ Hid (∀ (j : Nat) (y : Box × Hd), j < k → rs[j]? = some y → y.1.Fit) ∧ Below w.heap.size w wr) (fun _ i _ => n - (intOf i).toNat)
    case atStart => exact ⟨0, left - n, Nat.zero_le _, rfl, rfl, by omega, by omega, fun j y hj => absurd hj (by omega), Below.refl _ _⟩
    case round =>
      obtain ⟨k, v, hk, rfl, rfl, hv0, hv1, ha, hW⟩ := hrel
      by_cases hlt : k < n
      · obtain ⟨b, off, x, rfl, _, hx, hc⟩ := (H.out.below hW).elem hlt
        have g0 : wr.cell? ⟨b, off + k * 4, none⟩ = some (.string x.1.name) := by simpa using hc 0 _ rfl
        have g1 : wr.cell? ⟨b, off + k * 4 + 1, none⟩ = some (.int .i64 x.1.validity) := hc 1 _ rfl
        have g2 : wr.cell? ⟨b, off + k * 4 + 2, none⟩ = some (.int .i64 x.1.next) := hc 2 _ rfl
        have g3 : wr.cell? ⟨b, off + k * 4 + 3, none⟩ = some (.slice x.2.A x.2.n x.2.c) := hc 3 _ rfl
        have hcall := laws_szBox x.1 x.2 v wr (by omega) (by omega) ((HX.out x (List.mem_of_getElem? hx)).below hW)
        have HC := Lib.hid hcall
        have Hx := Lib.hid hx
        have HW := Lib.hid hW
        clear hc hx hcall hW H
        go_wp2_with fail
        refine HC.out.mono ?_
        rintro e w1 ⟨⟨v1, rfl, hm1, hle, hfit⟩, hb1⟩
        have HB := Lib.hid (HW.out.trans (hb1.mono HW.out.size))
        have HF := Lib.hid hfit
        clear hb1 hfit HC
        by_cases hneg : v1 < 0
        · go_wp2
          go_ret
          exact ⟨⟨-1, rfl, by omega, by omega, by omega⟩, HB.out⟩
        · have hs := Lib.hid (allP_succ (p := fun y : Box × Hd => y.1.Fit) ha.out Hx.out (HF.out (by omega)))
          go_wp2
          go_roundw
          case rel => exact ⟨k + 1, v1, by omega, by go_num, rfl, by omega, by omega, hs.out, HB.out⟩
          case measure => simp [intOf]; omega
      · have hke : k = n := by omega
        have hfin := Lib.hid (show ∀ y ∈ rs, y.1.Fit from fun y hy => by
          obtain ⟨j, hj, e⟩ := List.getElem_of_mem hy
          exact ha.out j y (by rw [hke, ← HL.out]; exact hj) (by rw [List.getElem?_eq_getElem hj, e]))
        clear ha hke
        go_wp2
        go_ret
        exact ⟨⟨v, rfl, by omega, by omega, fun _ => ⟨by omega, hfin.out⟩⟩, hW⟩
theorem BoxOwn.setCell {base : Nat} {w : World} {x : Box} {h : Hd} (i : BoxOwn base w x h) {p : Addr} (hp : p.block < base) (u : Value) : BoxOwn base (w.setCell p u) x h := i.map fun r => own_setCell r hp u
/-- The call returns a slice of its own, nested slices and all, that reads as the list. -/
def RetOwnBoxS (w : World) (xs : List Box) (en : Ending) (w' : World) : Prop :=
  ∃ (A : Option Addr) (c : Nat) (rs : List (Box × Hd)), en = .returned (.slice A xs.length c) ∧ rs.map Prod.fst = xs ∧ w'.ownsRow w.heap.size 29 4 (.slice A xs.length c) xs.length (rs.flatMap encBox) ∧ (∀ p ∈ rs, BoxOwn w.heap.size w' p.1 p.2) ∧ Below w.heap.size w w'
set_option maxHeartbeats 1600000 in
set_option maxRecDepth 20000 in
theorem laws_toBoxS (A : Option Addr) (n c : Nat) (rs : List (Box × Hd)) (w : World) (hn : n ≤ 1048576) (h : Rd encBox 4 w A n rs) (hx : ∀ p ∈ rs, BoxIs w p.1 p.2) (hf : ∀ p ∈ rs, p.1.Fit) :
    Calls Try.prog 22 #[.slice A n c] w (RetOwnBoxS w (rs.map Prod.fst)) := by
  have HL := Lib.hid h.1
  have H := Lib.hid h
  have HI := Lib.hid hx
  have HF := Lib.hid hf
  clear h hx hf
  go_enter Try.func22, Try.ntmps22
  go_wp2_with (at_make; refine wpList_mk (enc := encBox) zeroBox (k := 4) (by omega) rfl rfl _ _ 36 29 rfl (.agg #[.string ByteArray.empty, .int .i64 0, .int .i64 0, .slice none 0 0]) 56 Try.underlying36 (by kernel_rfl) rfl n rfl rfl (by omega) (by omega) ?_; intro w1 g hown hg hb1)
  go_wp2_with fail
  have hglt := hown.lt g (by simp [Value.ownBlock])
  go_loopw [4] (fun i wr => ∃ (j : Nat) (zs : List (Box × Hd)), j ≤ n ∧ i = .int .i64 j ∧ zs.map Prod.fst = (rs.take j).map Prod.fst ∧ wr.ownsRow w.heap.size 29 4 (.slice (some ⟨g, 0, none⟩) n n) n ((zs ++ List.replicate (n - j) zeroBox).flatMap encBox) ∧ (∀ q ∈ zs, BoxOwn (g + 1) wr q.1 q.2) ∧ g < wr.heap.size ∧ Below w.heap.size w wr) (fun i _ => n - (intOf i).toNat)
  case atStart => exact ⟨0, [], Nat.zero_le _, rfl, rfl, hown, by simp, hglt.2, hb1⟩
  case round =>
    obtain ⟨j, zs, hj, rfl, hzs, ho, hall, hgs, hW⟩ := hrel
    clear hown hb1 hglt
    have hzl : zs.length = j := by have h1 := congrArg List.length hzs; simpa [Nat.min_eq_left (by rw [HL.out]; exact hj : j ≤ rs.length)] using h1
    by_cases hlt : j < n
    · obtain ⟨b, off, x, rfl, hb, hx, hc⟩ := (H.out.below hW).elem hlt
      have g0 : wr.cell? ⟨b, off + j * 4, none⟩ = some (.string x.1.name) := by simpa using hc 0 _ rfl
      have g1 : wr.cell? ⟨b, off + j * 4 + 1, none⟩ = some (.int .i64 x.1.validity) := hc 1 _ rfl
      have g2 : wr.cell? ⟨b, off + j * 4 + 2, none⟩ = some (.int .i64 x.1.next) := hc 2 _ rfl
      have g3 : wr.cell? ⟨b, off + j * 4 + 3, none⟩ = some (.slice x.2.A x.2.n x.2.c) := hc 3 _ rfl
      have hcall := laws_toBox x.1 x.2 wr ((HI.out x (List.mem_of_getElem? hx)).below hW) (HF.out x (List.mem_of_getElem? hx))
      have HC := Lib.hid hcall
      have HX := Lib.hid hx
      have Ho := Lib.hid ho
      have HW := Lib.hid hW
      have HA := Lib.hid hall
      have HZ := Lib.hid hzs
      have HZL := Lib.hid hzl
      clear hc hx ho hW H hcall hall hzs hzl
      go_wp2_with fail
      refine HC.out.mono ?_
      rintro e w2 ⟨⟨h', rfl, o'⟩, hb2⟩
      have ho1 := own_below Ho.out hb2
      have hat : (zs ++ List.replicate (n - j) zeroBox)[j]? = some zeroBox := by rw [List.getElem?_append_right (by rw [HZL.out]; exact Nat.le_refl _), HZL.out, Nat.sub_self, List.getElem?_replicate, if_pos (by omega)]
      have c0 : w2.cell? ⟨g, j * 4, none⟩ = some (.string ByteArray.empty) := (ho1.cellAt (j * 4) (by omega)).trans (flat_get (enc := encBox) (k := 4) (fun _ => rfl) _ j 0 _ _ hat rfl)
      have f0 := ho1.frozenAt (j * 4)
      have c1 : w2.cell? ⟨g, j * 4 + 1, none⟩ = some (.int .i64 0) := (ho1.cellAt (j * 4 + 1) (by omega)).trans (flat_get (enc := encBox) (k := 4) (fun _ => rfl) _ j 1 _ _ hat rfl)
      have f1 := ho1.frozenAt (j * 4 + 1)
      have c2 : w2.cell? ⟨g, j * 4 + 2, none⟩ = some (.int .i64 0) := (ho1.cellAt (j * 4 + 2) (by omega)).trans (flat_get (enc := encBox) (k := 4) (fun _ => rfl) _ j 2 _ _ hat rfl)
      have f2 := ho1.frozenAt (j * 4 + 2)
      have c3 : w2.cell? ⟨g, j * 4 + 3, none⟩ = some (.slice none 0 0) := (ho1.cellAt (j * 4 + 3) (by omega)).trans (flat_get (enc := encBox) (k := 4) (fun _ => rfl) _ j 3 _ _ hat rfl)
      have f3 := ho1.frozenAt (j * 4 + 3)
      have s0 := ho1.stored (j * 4) (.string x.1.name)
      have s1 := s0.1.stored (j * 4 + 1) (.int .i64 x.1.validity)
      have s2 := s1.1.stored (j * 4 + 2) (.int .i64 x.1.next)
      have s3 := s2.1.stored (j * 4 + 3) (.slice h'.A h'.n h'.c)
      have hfin := s3.1
      rw [flat_set_Box _ _ (x.1, h') (by rw [List.length_append, List.length_replicate, HZL.out]; omega), snoc_set zs zeroBox (x.1, h') n j HZL.out hlt] at hfin
      have Hfin := Lib.hid hfin
      have hall : ∀ q ∈ zs ++ [(x.1, h')], BoxOwn (g + 1) w2 q.1 q.2 := by
        intro q hq
        rcases List.mem_append.1 hq with hq | hq
        · exact (HA.out q hq).below hb2
        · obtain rfl := List.mem_singleton.1 hq
          exact o'.mono (by omega)
      have Hall := Lib.hid (show ∀ q ∈ zs ++ [(x.1, h')], BoxOwn (g + 1) ((((w2.setCell ⟨g, j * 4, none⟩ (.string x.1.name)).setCell ⟨g, j * 4 + 1, none⟩ (.int .i64 x.1.validity)).setCell ⟨g, j * 4 + 2, none⟩ (.int .i64 x.1.next)).setCell ⟨g, j * 4 + 3, none⟩ (.slice h'.A h'.n h'.c)) q.1 q.2 from fun q hq => ((((hall q hq).setCell (by simp) _).setCell (by simp) _).setCell (by simp) _).setCell (by simp) _)
      have Hbel := Lib.hid (((((HW.out.trans (hb2.mono HW.out.size)).trans (gb_to_below (B := w.heap.size) s0.2 (by have h1 := HW.out.size; have h2 := hb2.size; simp; omega) (fun k hk => by simp at hk; omega))).trans (gb_to_below (B := w.heap.size) s1.2 (by have h1 := HW.out.size; have h2 := hb2.size; simp; omega) (fun k hk => by simp at hk; omega))).trans (gb_to_below (B := w.heap.size) s2.2 (by have h1 := HW.out.size; have h2 := hb2.size; simp; omega) (fun k hk => by simp at hk; omega))).trans (gb_to_below (B := w.heap.size) s3.2 (by have h1 := HW.out.size; have h2 := hb2.size; simp; omega) (fun k hk => by simp at hk; omega)))
      have Hgs := Lib.hid (show g < w2.heap.size from Nat.lt_of_lt_of_le hgs hb2.size)
      have HM := Lib.hid (show (zs ++ [(x.1, h')]).map Prod.fst = (rs.take (j + 1)).map Prod.fst by
        rw [List.map_append, HZ.out, take_snoc HX.out, List.map_append]; rfl)
      clear s0 s1 s2 s3 hfin hat ho1 hb2 hall o' HC
      go_wp2
      go_roundw
      case rel => exact ⟨j + 1, zs ++ [(x.1, h')], by omega, by go_num, HM.out, Hfin.out, Hall.out, by simp; exact Hgs.out, Hbel.out⟩
      case measure => simp [intOf]; omega
    · have hke : j = n := by omega
      subst hke
      rw [Nat.sub_self, List.replicate_zero, List.append_nil] at ho
      rw [List.take_of_length_le (by rw [HL.out]; exact Nat.le_refl _)] at hzs
      have Ho := Lib.hid ho
      have HA := Lib.hid hall
      have HZ := Lib.hid hzs
      clear ho hlt hall hzs hzl
      go_wp2
      go_ret
      have hl : j = (rs.map Prod.fst).length := by rw [List.length_map]; exact HL.out.symm
      have ho2 := Ho.out
      generalize rs.map Prod.fst = ys at *
      subst hl
      exact ⟨_, _, zs, rfl, HZ.out, ho2, fun q hq => (HA.out q hq).mono (by omega), hW⟩
set_option maxHeartbeats 1600000 in
set_option maxRecDepth 20000 in
theorem laws_eqBoxS (A1 A2 : Option Addr) (n c1 c2 : Nat) (rs1 rs2 : List (Box × Hd)) (w : World) (hn : n ≤ 4611686018427387904) (h1 : Rd encBox 4 w A1 n rs1) (h2 : Rd encBox 4 w A2 n rs2)
    (i1 : ∀ p ∈ rs1, BoxIs w p.1 p.2) (i2 : ∀ p ∈ rs2, BoxIs w p.1 p.2) (hf : ∀ p ∈ rs1, p.1.Fit) (hm : rs1.map Prod.fst = rs2.map Prod.fst) :
    Calls Try.prog 24 #[.slice A1 n c1, .slice A2 n c2] w fun e w' => e = .returned (.bool true) ∧ Below w.heap.size w w' := by
  have H1 := Lib.hid h1
  have H2 := Lib.hid h2
  have I1 := Lib.hid i1
  have I2 := Lib.hid i2
  have HF := Lib.hid hf
  have HM := Lib.hid hm
  clear h1 h2 i1 i2 hf hm
  go_enter Try.func24, Try.ntmps24
  go_wp2_with fail
  go_loopw [5] (fun i wr => ∃ k : Nat, k ≤ n ∧ i = .int .i64 k ∧ Below w.heap.size w wr) (fun i _ => n - (intOf i).toNat)
  case atStart => exact ⟨0, Nat.zero_le _, rfl, Below.refl _ _⟩
  case round =>
    obtain ⟨k, hk, rfl, hW⟩ := hrel
    by_cases hlt : k < n
    · obtain ⟨b1, o1, x, rfl, _, hx, hc1⟩ := (H1.out.below hW).elem hlt
      obtain ⟨b2, o2, x', rfl, _, hx', hc2⟩ := (H2.out.below hW).elem hlt
      have hxx : x'.1 = x.1 := by
        have e1 : (rs1.map Prod.fst)[k]? = some x.1 := by rw [List.getElem?_map, hx]; rfl
        have e2 : (rs2.map Prod.fst)[k]? = some x'.1 := by rw [List.getElem?_map, hx']; rfl
        rw [HM.out, e2] at e1
        exact Option.some.inj e1
      have j1 := (I1.out x (List.mem_of_getElem? hx)).below hW
      have j2 := (I2.out x' (List.mem_of_getElem? hx')).below hW
      have jf := HF.out x (List.mem_of_getElem? hx)
      have g10 : wr.cell? ⟨b1, o1 + k * 4, none⟩ = some (.string x.1.name) := by simpa using hc1 0 _ rfl
      have g11 : wr.cell? ⟨b1, o1 + k * 4 + 1, none⟩ = some (.int .i64 x.1.validity) := hc1 1 _ rfl
      have g12 : wr.cell? ⟨b1, o1 + k * 4 + 2, none⟩ = some (.int .i64 x.1.next) := hc1 2 _ rfl
      have g13 : wr.cell? ⟨b1, o1 + k * 4 + 3, none⟩ = some (.slice x.2.A x.2.n x.2.c) := hc1 3 _ rfl
      have g20 : wr.cell? ⟨b2, o2 + k * 4, none⟩ = some (.string x'.1.name) := by simpa using hc2 0 _ rfl
      have g21 : wr.cell? ⟨b2, o2 + k * 4 + 1, none⟩ = some (.int .i64 x'.1.validity) := hc2 1 _ rfl
      have g22 : wr.cell? ⟨b2, o2 + k * 4 + 2, none⟩ = some (.int .i64 x'.1.next) := hc2 2 _ rfl
      have g23 : wr.cell? ⟨b2, o2 + k * 4 + 3, none⟩ = some (.slice x'.2.A x'.2.n x'.2.c) := hc2 3 _ rfl
      simp only [hxx] at g20 g21 g22 g23 j2
      have HW := Lib.hid hW
      have J1 := Lib.hid j1
      have J2 := Lib.hid j2
      have JF := Lib.hid jf
      clear hc1 hc2 hx hx' hW H1 H2 j1 j2 jf I1 I2 HF HM hxx
      have hkn : (k : Int) < (n : Int) := by omega
      have hk0 : (0 : Int) ≤ (k : Int) := by omega
      go_wp2_with fail
      go_still_tail 8, (by kernel_rfl)
      change wpList _ _ _ _ _ wr.drew
      replace g10 : wr.drew.cell? ⟨b1, o1 + k * 4, none⟩ = some (.string x.1.name) := g10
      replace g11 : wr.drew.cell? ⟨b1, o1 + k * 4 + 1, none⟩ = some (.int .i64 x.1.validity) := g11
      replace g12 : wr.drew.cell? ⟨b1, o1 + k * 4 + 2, none⟩ = some (.int .i64 x.1.next) := g12
      replace g13 : wr.drew.cell? ⟨b1, o1 + k * 4 + 3, none⟩ = some (.slice x.2.A x.2.n x.2.c) := g13
      replace g20 : wr.drew.cell? ⟨b2, o2 + k * 4, none⟩ = some (.string x.1.name) := g20
      replace g21 : wr.drew.cell? ⟨b2, o2 + k * 4 + 1, none⟩ = some (.int .i64 x.1.validity) := g21
      replace g22 : wr.drew.cell? ⟨b2, o2 + k * 4 + 2, none⟩ = some (.int .i64 x.1.next) := g22
      replace g23 : wr.drew.cell? ⟨b2, o2 + k * 4 + 3, none⟩ = some (.slice x'.2.A x'.2.n x'.2.c) := g23
      have HW2 := Lib.hid (HW.out.drew)
      have J1' := Lib.hid (J1.out.below (Below.refl wr.heap.size wr).drew)
      have J2' := Lib.hid (J2.out.below (Below.refl wr.heap.size wr).drew)
      clear HW J1 J2
      generalize wr.drew = w2 at *
      go_wp2_with (go_at_call 19; refine (laws_eqBox x.1 x.2 x'.2 _ J1'.out J2'.out JF.out).mono ?_; rintro e w3 ⟨rfl, hb3⟩)
      go_roundw
      case rel => exact ⟨k + 1, by omega, by go_num, HW2.out.trans (hb3.mono HW2.out.size)⟩
      case measure => simp [intOf]; omega
    · go_wp2
      go_ret
      exact ⟨rfl, hW⟩
set_option maxRecDepth 20000 in
/-- A slice that came in. -/
theorem open_BoxS {H : Type} {enc0 : TypeId × Value → H} {w : World} {base b0 : Nat} {r : Reach} {spare : Nat → Bool} {held : Bool} {v : Value} {d : DataW H} {p : List MemPlace}
    (o : Value.okWide Try.prog w r b0 33 v) (h : DataW.Trod enc0 Try.prog w base spare held 33 v d p) :
    ∃ (A : Option Addr) (n c : Nat) (rs : List (Box × Hd)), v = .slice A n c ∧ Rd encBox 4 w A n rs ∧ n ≤ 9223372036854775807 ∧ ∀ p ∈ rs, BoxIs w p.1 p.2 := by
  obtain ⟨A, n, c, xs, rfl, h, hc, hm, hN⟩ := open_rd encBox (fun p => BoxIs w p.1 p.2) 4 Try.underlying33 o h (by kernel_rfl) (by omega) (fun _ => rfl) (fun n cs x hx => dec_Box n cs x hx)
  exact ⟨A, n, c, xs, rfl, h, by unfold maxLen at hm; omega, hN⟩

set_option maxHeartbeats 800000 in
set_option maxRecDepth 20000 in
theorem slices_IndexFunc_Box (A : Option Addr) (n c g : Nat) (lb : Array Value) (p : Box × Hd → Bool) (xs : List (Box × Hd)) (w : World) (hn : n ≤ 4611686018427387904) (h : Rd encBox 4 w A n xs)
    (eg : ∀ args w, (callFunc g args).run Try.prog w = .ok (.enter g args) w) (hp : PaysAt Try.prog g lb (fun x : Box × Hd => .agg #[.string x.1.name, .int .i64 x.1.validity, .int .i64 x.1.next, .slice x.2.A x.2.n x.2.c]) p w xs) :
    Calls Try.prog 67 #[.slice A n c, .func (.func g) #[] lb] w fun e w' => e = .returned (.int .i64 (ixOf p xs)) ∧ Below w.heap.size w w' := by
  have HL := Lib.hid h.1
  have H := Lib.hid h
  have HP := Lib.hid hp
  clear h hp
  go_enter Try.func67, Try.ntmps67
  go_wp2_with fail
  go_loopw [8] (fun i wr => ∃ k : Nat, k ≤ n ∧ i = .int .i64 k ∧ Below w.heap.size w wr ∧ Hid (∀ (j : Nat) (y : Box × Hd), j < k → xs[j]? = some y → p y = false)) (fun i _ => n - (intOf i).toNat)
  case atStart => exact ⟨0, Nat.zero_le _, rfl, Below.refl _ _, fun j y hj => absurd hj (by omega)⟩
  case round =>
    obtain ⟨k, hk, rfl, hW, ha⟩ := hrel
    by_cases hlt : k < n
    · obtain ⟨b, off, x, rfl, _, hx, hc⟩ := (H.out.below hW).elem hlt
      have g0 : wr.cell? ⟨b, off + k * 4, none⟩ = some (.string x.1.name) := by simpa using hc 0 _ rfl
      have g1 : wr.cell? ⟨b, off + k * 4 + 1, none⟩ = some (.int .i64 x.1.validity) := hc 1 _ rfl
      have g2 : wr.cell? ⟨b, off + k * 4 + 2, none⟩ = some (.int .i64 x.1.next) := hc 2 _ rfl
      have g3 : wr.cell? ⟨b, off + k * 4 + 3, none⟩ = some (.slice x.2.A x.2.n x.2.c) := hc 3 _ rfl
      have hcall := HP.out wr x (List.mem_of_getElem? hx) hW
      have HX := Lib.hid hx
      have HW := Lib.hid hW
      clear hc hx hW H HP
      cases hq : p x with
      | true =>
        rw [hq] at hcall
        have hfin := Lib.hid (ixOf_hit HX.out hq ha.out)
        clear hq ha
        go_wp2_with (go_at_fn g; refine hcall.mono ?_; rintro e w' ⟨rfl, hb'⟩)
        go_ret
        exact ⟨ret_i hfin.out.symm, HW.out.trans (hb'.mono HW.out.size)⟩
      | false =>
        rw [hq] at hcall
        have hs := Lib.hid (anyF_succ ha.out HX.out hq)
        clear hq ha
        go_wp2_with (go_at_fn g; refine hcall.mono ?_; rintro e w' ⟨rfl, hb'⟩)
        go_roundw
        case rel => exact ⟨k + 1, by omega, by go_num, HW.out.trans (hb'.mono HW.out.size), hs.out⟩
        case measure => simp [intOf]; omega
    · have hke : k = n := by omega
      have hfin := Lib.hid (ixOf_miss (p := p) (l := xs) (fun j y hy => ha.out j y (by rw [hke, ← HL.out]; exact (List.getElem?_eq_some_iff.1 hy).1) hy))
      clear ha hke
      go_wp2
      go_ret
      exact ⟨ret_i hfin.out.symm, hW⟩

end Go.Proofs.Ytmkhmgompajdaaa
