/-
  Walks: what each function returns, and that it leaves what lay in memory as it was.
-/
import Derived.Test.YtjpkceimokkpgaaGreatDoorProg
import Derived.Test.YtjpkceimokkpgaaGreatDoorPlain
import Derived.Test.YtjpkceimokkpgaaGreatDoorBase2
import Derived.Test.YtjpkceimokkpgaaGreatDoorOpen2
import Derived.Test.YtjpkceimokkpgaaGreatDoorShelf
import Derived.WalkKit
import Derived.WalkSpells
import Derived.WalkLawsBesides
import Derived.Lib.Hide
import Derived.Deep.LoopGhost
import Derived.Deep.QuietTactic
import Derived.BigQuiet
import Derived.Handy
import Derived.Deep.RegionHeld3
import Derived.StillTailTactics
import Derived.OpenShut
import Derived.ChangeSame
import Derived.Laws.StructEq

import Derived.Test.YtjpkceimokkpgaaGreatDoorPlainT

import Derived.Test.YtjpkceimokkpgaaGreatDoorW1

import Derived.Test.YtjpkceimokkpgaaGreatDoorW3

namespace Go.Proofs.YtjpkceimokkpgaaGreatDoor
open Go.ChangeShapes Go.WideShapes Go.ChangeAt Go.RowKit Go.Deep
set_option linter.unusedVariables false
set_option linter.unusedSimpArgs false

set_option maxHeartbeats 800000 in
set_option maxRecDepth 20000 in
theorem laws_szScopeS (A : Option Addr) (n c : Nat) (rs : List (Scope × Hd)) (left : Int) (w : World) (h0 : 0 ≤ left) (h1 : left ≤ 1048576) (hn : n ≤ 9223372036854775807) (h : Rd encScope 3 w A n rs) (hx : ∀ p ∈ rs, ScopeIs w p.1 p.2) :
    Calls Tryz.prog 48 #[.slice A n c, .int .i64 left] w fun e w' => (∃ v : Int, e = .returned (.int .i64 v) ∧ -1 ≤ v ∧ v ≤ left ∧ (0 ≤ v → n ≤ 1048576 ∧ ∀ p ∈ rs, p.1.Fit)) ∧ Below w.heap.size w w' := by
  have HL := Lib.hid h.1
  have H := Lib.hid h
  have HX := Lib.hid hx
  clear h hx
  by_cases hlt0 : left - (n : Int) < 0
  · go_enter Tryz.func48, Tryz.ntmps48
    go_wp2
    go_ret
    exact ⟨⟨-1, rfl, by omega, by omega, by omega⟩, Below.refl _ _⟩
  · go_enter Tryz.func48, Tryz.ntmps48
    go_wp2_with fail
    go_loopw [1, 5] (fun l i wr => ∃ (k : Nat) (v : Int), k ≤ n ∧ i = .int .i64 k ∧ l = .int .i64 v ∧ 0 ≤ v ∧ v ≤ left ∧ Hid (∀ (j : Nat) (y : Scope × Hd), j < k → rs[j]? = some y → y.1.Fit) ∧ Below w.heap.size w wr) (fun _ i _ => n - (intOf i).toNat)
    case atStart => exact ⟨0, left - n, Nat.zero_le _, rfl, rfl, by omega, by omega, fun j y hj => absurd hj (by omega), Below.refl _ _⟩
    case round =>
      obtain ⟨k, v, hk, rfl, rfl, hv0, hv1, ha, hW⟩ := hrel
      by_cases hlt : k < n
      · obtain ⟨b, off, x, rfl, _, hx, hc⟩ := (H.out.below hW).elem hlt
        have g0 : wr.cell? ⟨b, off + k * 3, none⟩ = some (.int .i64 x.1.kind) := by simpa using hc 0 _ rfl
        have g1 : wr.cell? ⟨b, off + k * 3 + 1, none⟩ = some (.slice x.2.A x.2.n x.2.c) := hc 1 _ rfl
        have g2 : wr.cell? ⟨b, off + k * 3 + 2, none⟩ = some (.int .i64 x.1.events) := hc 2 _ rfl
        have hcall := laws_szScope x.1 x.2 v wr (by omega) (by omega) ((HX.out x (List.mem_of_getElem? hx)).below hW)
        have HC := Lib.hid hcall
        have Hx := Lib.hid hx
        have HW := Lib.hid hW
        clear hc hx hcall hW H
        go_wp2_with fail
        refine HC.out.mono ?_
        rintro e w1 ⟨⟨v1, rfl, hm1, hle, hfit⟩, hb1⟩
        have HB := Lib.hid (HW.out.trans (hb1.mono HW.out.size))
        have HF := Lib.hid hfit
        clear hb1 hfit HC
        by_cases hneg : v1 < 0
        · go_wp2
          go_ret
          exact ⟨⟨-1, rfl, by omega, by omega, by omega⟩, HB.out⟩
        · have hs := Lib.hid (allP_succ (p := fun y : Scope × Hd => y.1.Fit) ha.out Hx.out (HF.out (by omega)))
          go_wp2
          go_roundw
          case rel => exact ⟨k + 1, v1, by omega, by go_num, rfl, by omega, by omega, hs.out, HB.out⟩
          case measure => simp [intOf]; omega
      · have hke : k = n := by omega
        have hfin := Lib.hid (show ∀ y ∈ rs, y.1.Fit from fun y hy => by
          obtain ⟨j, hj, e⟩ := List.getElem_of_mem hy
          exact ha.out j y (by rw [hke, ← HL.out]; exact hj) (by rw [List.getElem?_eq_getElem hj, e]))
        clear ha hke
        go_wp2
        go_ret
        exact ⟨⟨v, rfl, by omega, by omega, fun _ => ⟨by omega, hfin.out⟩⟩, hW⟩
theorem ScopeOwn.setCell {base : Nat} {w : World} {x : Scope} {h : Hd} (i : ScopeOwn base w x h) {p : Addr} (hp : p.block < base) (u : Value) : ScopeOwn base (w.setCell p u) x h := i.map fun r => own_setCell r hp u
/-- The call returns a slice of its own, nested slices and all, that reads as the list. -/
def RetOwnScopeS (w : World) (xs : List Scope) (en : Ending) (w' : World) : Prop :=
  ∃ (A : Option Addr) (c : Nat) (rs : List (Scope × Hd)), en = .returned (.slice A xs.length c) ∧ rs.map Prod.fst = xs ∧ w'.ownsRow w.heap.size 79 3 (.slice A xs.length c) xs.length (rs.flatMap encScope) ∧ (∀ p ∈ rs, ScopeOwn w.heap.size w' p.1 p.2) ∧ NA rs ∧ Below w.heap.size w w'
set_option maxHeartbeats 1600000 in
set_option maxRecDepth 20000 in
theorem laws_toScopeS (A : Option Addr) (n c : Nat) (rs : List (Scope × Hd)) (w : World) (hn : n ≤ 1048576) (h : Rd encScope 3 w A n rs) (hx : ∀ p ∈ rs, ScopeIs w p.1 p.2) (hf : ∀ p ∈ rs, p.1.Fit) :
    Calls Tryz.prog 65 #[.slice A n c] w (RetOwnScopeS w (rs.map Prod.fst)) := by
  have HL := Lib.hid h.1
  have H := Lib.hid h
  have HI := Lib.hid hx
  have HF := Lib.hid hf
  clear h hx hf
  go_enter Tryz.func65, Tryz.ntmps65
  go_wp2_with (at_make; refine wpList_mk (enc := encScope) zeroScope (k := 3) (by omega) rfl rfl _ _ 32 79 rfl (.agg #[.int .i64 0, .slice none 0 0, .int .i64 0]) 40 Tryz.underlying32 (by kernel_rfl) rfl n rfl rfl (by omega) (by omega) ?_; intro w1 g hown hg hb1)
  go_wp2_with fail
  have hglt := hown.lt g (by simp [Value.ownBlock])
  go_loopw [4] (fun i wr => ∃ (j : Nat) (zs : List (Scope × Hd)), j ≤ n ∧ i = .int .i64 j ∧ zs.map Prod.fst = (rs.take j).map Prod.fst ∧ wr.ownsRow w.heap.size 79 3 (.slice (some ⟨g, 0, none⟩) n n) n ((zs ++ List.replicate (n - j) zeroScope).flatMap encScope) ∧ (∀ q ∈ zs, ScopeOwn (g + 1) wr q.1 q.2) ∧ NA zs ∧ g < wr.heap.size ∧ Below w.heap.size w wr) (fun i _ => n - (intOf i).toNat)
  case atStart => exact ⟨0, [], Nat.zero_le _, rfl, rfl, hown, by simp, List.Pairwise.nil, hglt.2, hb1⟩
  case round =>
    obtain ⟨j, zs, hj, rfl, hzs, ho, hall, hna, hgs, hW⟩ := hrel
    have HNA := Lib.hid hna
    clear hown hb1 hglt hna
    have hzl : zs.length = j := by have h1 := congrArg List.length hzs; simpa [Nat.min_eq_left (by rw [HL.out]; exact hj : j ≤ rs.length)] using h1
    by_cases hlt : j < n
    · obtain ⟨b, off, x, rfl, hb, hx, hc⟩ := (H.out.below hW).elem hlt
      have g0 : wr.cell? ⟨b, off + j * 3, none⟩ = some (.int .i64 x.1.kind) := by simpa using hc 0 _ rfl
      have g1 : wr.cell? ⟨b, off + j * 3 + 1, none⟩ = some (.slice x.2.A x.2.n x.2.c) := hc 1 _ rfl
      have g2 : wr.cell? ⟨b, off + j * 3 + 2, none⟩ = some (.int .i64 x.1.events) := hc 2 _ rfl
      have hcall := laws_toScope x.1 x.2 wr ((HI.out x (List.mem_of_getElem? hx)).below hW) (HF.out x (List.mem_of_getElem? hx))
      have HC := Lib.hid hcall
      have HX := Lib.hid hx
      have Ho := Lib.hid ho
      have HW := Lib.hid hW
      have HA := Lib.hid hall
      have HZ := Lib.hid hzs
      have HZL := Lib.hid hzl
      clear hc hx ho hW H hcall hall hzs hzl
      go_wp2_with fail
      refine HC.out.mono ?_
      rintro e w2 ⟨⟨h', rfl, o'⟩, hb2⟩
      have ho1 := own_below Ho.out hb2
      have hat : (zs ++ List.replicate (n - j) zeroScope)[j]? = some zeroScope := by rw [List.getElem?_append_right (by rw [HZL.out]; exact Nat.le_refl _), HZL.out, Nat.sub_self, List.getElem?_replicate, if_pos (by omega)]
      have c0 : w2.cell? ⟨g, j * 3, none⟩ = some (.int .i64 0) := (ho1.cellAt (j * 3) (by omega)).trans (flat_get (enc := encScope) (k := 3) (fun _ => rfl) _ j 0 _ _ hat rfl)
      have f0 := ho1.frozenAt (j * 3)
      have c1 : w2.cell? ⟨g, j * 3 + 1, none⟩ = some (.slice none 0 0) := (ho1.cellAt (j * 3 + 1) (by omega)).trans (flat_get (enc := encScope) (k := 3) (fun _ => rfl) _ j 1 _ _ hat rfl)
      have f1 := ho1.frozenAt (j * 3 + 1)
      have c2 : w2.cell? ⟨g, j * 3 + 2, none⟩ = some (.int .i64 0) := (ho1.cellAt (j * 3 + 2) (by omega)).trans (flat_get (enc := encScope) (k := 3) (fun _ => rfl) _ j 2 _ _ hat rfl)
      have f2 := ho1.frozenAt (j * 3 + 2)
      have s0 := ho1.stored (j * 3) (.int .i64 x.1.kind)
      have s1 := s0.1.stored (j * 3 + 1) (.slice h'.A h'.n h'.c)
      have s2 := s1.1.stored (j * 3 + 2) (.int .i64 x.1.events)
      have hfin := s2.1
      rw [flat_set_Scope _ _ (x.1, h') (by rw [List.length_append, List.length_replicate, HZL.out]; omega), snoc_set zs zeroScope (x.1, h') n j HZL.out hlt] at hfin
      have Hfin := Lib.hid hfin
      have hall : ∀ q ∈ zs ++ [(x.1, h')], ScopeOwn (g + 1) w2 q.1 q.2 := by
        intro q hq
        rcases List.mem_append.1 hq with hq | hq
        · exact (HA.out q hq).below hb2
        · obtain rfl := List.mem_singleton.1 hq
          exact o'.mono (by omega)
      have HNA2 := Lib.hid (HNA.out.snoc (y := (x.1, h')) (B := wr.heap.size) (fun q hq i hi => ((HA.out q hq).1.lt i hi).2) (fun i hi => (o'.1.lt i hi).1))
      have Hall := Lib.hid (show ∀ q ∈ zs ++ [(x.1, h')], ScopeOwn (g + 1) (((w2.setCell ⟨g, j * 3, none⟩ (.int .i64 x.1.kind)).setCell ⟨g, j * 3 + 1, none⟩ (.slice h'.A h'.n h'.c)).setCell ⟨g, j * 3 + 2, none⟩ (.int .i64 x.1.events)) q.1 q.2 from fun q hq => (((hall q hq).setCell (by simp) _).setCell (by simp) _).setCell (by simp) _)
      have Hbel := Lib.hid ((((HW.out.trans (hb2.mono HW.out.size)).trans (gb_to_below (B := w.heap.size) s0.2 (by have h1 := HW.out.size; have h2 := hb2.size; simp; omega) (fun k hk => by simp at hk; omega))).trans (gb_to_below (B := w.heap.size) s1.2 (by have h1 := HW.out.size; have h2 := hb2.size; simp; omega) (fun k hk => by simp at hk; omega))).trans (gb_to_below (B := w.heap.size) s2.2 (by have h1 := HW.out.size; have h2 := hb2.size; simp; omega) (fun k hk => by simp at hk; omega)))
      have Hgs := Lib.hid (show g < w2.heap.size from Nat.lt_of_lt_of_le hgs hb2.size)
      have HM := Lib.hid (show (zs ++ [(x.1, h')]).map Prod.fst = (rs.take (j + 1)).map Prod.fst by
        rw [List.map_append, HZ.out, take_snoc HX.out, List.map_append]; rfl)
      clear s0 s1 s2 hfin hat ho1 hb2 hall o' HC
      go_wp2
      go_roundw
      case rel => exact ⟨j + 1, zs ++ [(x.1, h')], by omega, by go_num, HM.out, Hfin.out, Hall.out, HNA2.out, by simp; exact Hgs.out, Hbel.out⟩
      case measure => simp [intOf]; omega
    · have hke : j = n := by omega
      subst hke
      rw [Nat.sub_self, List.replicate_zero, List.append_nil] at ho
      rw [List.take_of_length_le (by rw [HL.out]; exact Nat.le_refl _)] at hzs
      have Ho := Lib.hid ho
      have HA := Lib.hid hall
      have HZ := Lib.hid hzs
      clear ho hlt hall hzs hzl
      go_wp2
      go_ret
      have hl : j = (rs.map Prod.fst).length := by rw [List.length_map]; exact HL.out.symm
      have ho2 := Ho.out
      generalize rs.map Prod.fst = ys at *
      subst hl
      exact ⟨_, _, zs, rfl, HZ.out, ho2, fun q hq => (HA.out q hq).mono (by omega), HNA.out, hW⟩
set_option maxHeartbeats 1600000 in
set_option maxRecDepth 20000 in
theorem laws_eqScopeS (A1 A2 : Option Addr) (n c1 c2 : Nat) (rs1 rs2 : List (Scope × Hd)) (w : World) (hn : n ≤ 4611686018427387904) (h1 : Rd encScope 3 w A1 n rs1) (h2 : Rd encScope 3 w A2 n rs2)
    (i1 : ∀ p ∈ rs1, ScopeIs w p.1 p.2) (i2 : ∀ p ∈ rs2, ScopeIs w p.1 p.2) (hf : ∀ p ∈ rs1, p.1.Fit) (hm : rs1.map Prod.fst = rs2.map Prod.fst) :
    Calls Tryz.prog 85 #[.slice A1 n c1, .slice A2 n c2] w fun e w' => e = .returned (.bool true) ∧ Below w.heap.size w w' := by
  have H1 := Lib.hid h1
  have H2 := Lib.hid h2
  have I1 := Lib.hid i1
  have I2 := Lib.hid i2
  have HF := Lib.hid hf
  have HM := Lib.hid hm
  clear h1 h2 i1 i2 hf hm
  go_enter Tryz.func85, Tryz.ntmps85
  go_wp2_with fail
  go_loopw [5] (fun i wr => ∃ k : Nat, k ≤ n ∧ i = .int .i64 k ∧ Below w.heap.size w wr) (fun i _ => n - (intOf i).toNat)
  case atStart => exact ⟨0, Nat.zero_le _, rfl, Below.refl _ _⟩
  case round =>
    obtain ⟨k, hk, rfl, hW⟩ := hrel
    by_cases hlt : k < n
    · obtain ⟨b1, o1, x, rfl, _, hx, hc1⟩ := (H1.out.below hW).elem hlt
      obtain ⟨b2, o2, x', rfl, _, hx', hc2⟩ := (H2.out.below hW).elem hlt
      have hxx : x'.1 = x.1 := by
        have e1 : (rs1.map Prod.fst)[k]? = some x.1 := by rw [List.getElem?_map, hx]; rfl
        have e2 : (rs2.map Prod.fst)[k]? = some x'.1 := by rw [List.getElem?_map, hx']; rfl
        rw [HM.out, e2] at e1
        exact Option.some.inj e1
      have j1 := (I1.out x (List.mem_of_getElem? hx)).below hW
      have j2 := (I2.out x' (List.mem_of_getElem? hx')).below hW
      have jf := HF.out x (List.mem_of_getElem? hx)
      have g10 : wr.cell? ⟨b1, o1 + k * 3, none⟩ = some (.int .i64 x.1.kind) := by simpa using hc1 0 _ rfl
      have g11 : wr.cell? ⟨b1, o1 + k * 3 + 1, none⟩ = some (.slice x.2.A x.2.n x.2.c) := hc1 1 _ rfl
      have g12 : wr.cell? ⟨b1, o1 + k * 3 + 2, none⟩ = some (.int .i64 x.1.events) := hc1 2 _ rfl
      have g20 : wr.cell? ⟨b2, o2 + k * 3, none⟩ = some (.int .i64 x'.1.kind) := by simpa using hc2 0 _ rfl
      have g21 : wr.cell? ⟨b2, o2 + k * 3 + 1, none⟩ = some (.slice x'.2.A x'.2.n x'.2.c) := hc2 1 _ rfl
      have g22 : wr.cell? ⟨b2, o2 + k * 3 + 2, none⟩ = some (.int .i64 x'.1.events) := hc2 2 _ rfl
      simp only [hxx] at g20 g21 g22 j2
      have HW := Lib.hid hW
      have J1 := Lib.hid j1
      have J2 := Lib.hid j2
      have JF := Lib.hid jf
      clear hc1 hc2 hx hx' hW H1 H2 j1 j2 jf I1 I2 HF HM hxx
      have hkn : (k : Int) < (n : Int) := by omega
      have hk0 : (0 : Int) ≤ (k : Int) := by omega
      go_wp2_with fail
      go_still_tail 8, (by kernel_rfl)
      change wpList _ _ _ _ _ wr.drew
      replace g10 : wr.drew.cell? ⟨b1, o1 + k * 3, none⟩ = some (.int .i64 x.1.kind) := g10
      replace g11 : wr.drew.cell? ⟨b1, o1 + k * 3 + 1, none⟩ = some (.slice x.2.A x.2.n x.2.c) := g11
      replace g12 : wr.drew.cell? ⟨b1, o1 + k * 3 + 2, none⟩ = some (.int .i64 x.1.events) := g12
      replace g20 : wr.drew.cell? ⟨b2, o2 + k * 3, none⟩ = some (.int .i64 x.1.kind) := g20
      replace g21 : wr.drew.cell? ⟨b2, o2 + k * 3 + 1, none⟩ = some (.slice x'.2.A x'.2.n x'.2.c) := g21
      replace g22 : wr.drew.cell? ⟨b2, o2 + k * 3 + 2, none⟩ = some (.int .i64 x.1.events) := g22
      have HW2 := Lib.hid (HW.out.drew)
      have J1' := Lib.hid (J1.out.below (Below.refl wr.heap.size wr).drew)
      have J2' := Lib.hid (J2.out.below (Below.refl wr.heap.size wr).drew)
      clear HW J1 J2
      generalize wr.drew = w2 at *
      go_wp2_with (go_at_call 112; refine (laws_eqScope x.1 x.2 x'.2 _ J1'.out J2'.out JF.out).mono ?_; rintro e w3 ⟨rfl, hb3⟩)
      go_roundw
      case rel => exact ⟨k + 1, by omega, by go_num, HW2.out.trans (hb3.mono HW2.out.size)⟩
      case measure => simp [intOf]; omega
    · go_wp2
      go_ret
      exact ⟨rfl, hW⟩
set_option maxRecDepth 20000 in
/-- A slice that came in. -/
theorem open_ScopeS {H : Type} {enc0 : TypeId × Value → H} {w : World} {base b0 : Nat} {r : Reach} {spare : Nat → Bool} {held : Bool} {v : Value} {d : DataW H} {p : List MemPlace}
    (o : Value.okWide Tryz.prog w r b0 23 v) (h : DataW.Trod enc0 Tryz.prog w base spare held 23 v d p) :
    ∃ (A : Option Addr) (n c : Nat) (rs : List (Scope × Hd)), v = .slice A n c ∧ Rd encScope 3 w A n rs ∧ n ≤ 9223372036854775807 ∧ ∀ p ∈ rs, ScopeIs w p.1 p.2 := by
  obtain ⟨A, n, c, xs, rfl, h, hc, hm, hN⟩ := open_rd encScope (fun p => ScopeIs w p.1 p.2) 3 Tryz.underlying23 o h (by kernel_rfl) (by omega) (fun _ => rfl) (fun n cs x hx => dec_Scope n cs x hx)
  exact ⟨A, n, c, xs, rfl, h, by unfold maxLen at hm; omega, hN⟩

structure Filter where
  on : Bool
  scopes : List Scope
instance : Inhabited Filter := ⟨⟨false, []⟩⟩
/-- A filter's handle: its slice, and what its elements lead to. -/
structure FHd where
  A : Option Addr
  n : Nat
  c : Nat
  rs : List (Scope × Hd)
instance : Inhabited FHd := ⟨⟨none, 0, 0, []⟩⟩
abbrev encFilter (p : Filter × FHd) : List Value := [.bool p.1.on, .slice p.2.A p.2.n p.2.c]
def Filter.Fit (x : Filter) : Prop := x.scopes.length ≤ 1048576 ∧ ∀ y ∈ x.scopes, y.Fit
theorem fits_of {x : Filter} {rs : List (Scope × Hd)} (hf : x.Fit) (hm : rs.map Prod.fst = x.scopes) : ∀ p ∈ rs, p.1.Fit := fun p hp => hf.2 p.1 (by rw [← hm]; exact List.mem_map_of_mem hp)

def FilterIs (w : World) (x : Filter) (h : FHd) : Prop := Rd encScope 3 w h.A h.n h.rs ∧ h.n ≤ maxLen ∧ (∀ p ∈ h.rs, ScopeIs w p.1 p.2) ∧ h.rs.map Prod.fst = x.scopes
theorem FilterIs.below {w w' : World} {x : Filter} {h : FHd} (i : FilterIs w x h) (hb : Below w.heap.size w w') : FilterIs w' x h := ⟨i.1.below hb, i.2.1, fun p hp => (i.2.2.1 p hp).below hb, i.2.2.2⟩
def FilterOwn (base : Nat) (w : World) (x : Filter) (h : FHd) : Prop := w.ownsRow base 79 3 (.slice h.A h.n h.c) h.n (h.rs.flatMap encScope) ∧ h.rs.length = h.n ∧ h.n ≤ 1048576 ∧ (∀ p ∈ h.rs, ScopeOwn base w p.1 p.2) ∧ h.rs.map Prod.fst = x.scopes ∧ NA h.rs
theorem FilterOwn.below {base : Nat} {w w' : World} {x : Filter} {h : FHd} (i : FilterOwn base w x h) (hb : Below w.heap.size w w') : FilterOwn base w' x h := ⟨own_below i.1 hb, i.2.1, i.2.2.1, fun p hp => (i.2.2.2.1 p hp).below hb, i.2.2.2.2⟩
theorem FilterOwn.mono {base base' : Nat} {w : World} {x : Filter} {h : FHd} (i : FilterOwn base w x h) (hb : base' ≤ base) : FilterOwn base' w x h := ⟨own_mono i.1 hb, i.2.1, i.2.2.1, fun p hp => (i.2.2.2.1 p hp).mono hb, i.2.2.2.2⟩
theorem FilterOwn.is {base : Nat} {w : World} {x : Filter} {h : FHd} (i : FilterOwn base w x h) : FilterIs w x h := ⟨Rd.of_own (enc := encScope) (k := 3) (fun _ => rfl) i.1 i.2.1, by have := i.2.2.1; unfold maxLen; omega, fun p hp => (i.2.2.2.1 p hp).is, i.2.2.2.2.1⟩
theorem FilterIs.len {w : World} {x : Filter} {h : FHd} (i : FilterIs w x h) : h.n = x.scopes.length := by rw [← i.2.2.2, List.length_map, i.1.1]
theorem laws_toScopeS' (A : Option Addr) (n c : Nat) (rs : List (Scope × Hd)) (ys : List Scope) (w : World) (hn : n ≤ 1048576) (h : Rd encScope 3 w A n rs) (hx : ∀ p ∈ rs, ScopeIs w p.1 p.2) (hf : ∀ p ∈ rs, p.1.Fit) (hy : rs.map Prod.fst = ys) :
    Calls Tryz.prog 65 #[.slice A n c] w (RetOwnScopeS w ys) := hy ▸ laws_toScopeS A n c rs w hn h hx hf
set_option maxHeartbeats 800000 in
theorem laws_szFilter (x : Filter) (h : FHd) (left : Int) (w : World) (h0 : 0 ≤ left) (h1 : left ≤ 1048576) (hx : FilterIs w x h) :
    Calls Tryz.prog 17 #[.agg #[.bool x.on, .slice h.A h.n h.c], .int .i64 left] w fun e w' => (∃ v : Int, e = .returned (.int .i64 v) ∧ -1 ≤ v ∧ v ≤ left ∧ (0 ≤ v → x.Fit)) ∧ Below w.heap.size w w' := by
  obtain ⟨hr, hn, hb, hm⟩ := hx
  unfold maxLen at hn
  have HR := Lib.hid hr
  have HB := Lib.hid hb
  have HN := Lib.hid (show x.scopes.length = h.n by rw [← hm, List.length_map, hr.1])
  have HM := Lib.hid hm
  clear hr hb hm
  go_enter Tryz.func17, Tryz.ntmps17
  go_wp2_with fail
  refine (laws_szScopeS _ _ _ h.rs _ _ (by omega) (by omega) (by omega) (HR.out.below (by go_grown)) (fun p hp => (HB.out p hp).below (by go_grown))).mono ?_
  rintro e w1 ⟨⟨v1, rfl, hm1, hle, hfit⟩, hb1⟩
  have HF := Lib.hid hfit
  have HW := Lib.hid (Below.trans (by go_grown : Below w.heap.size w _) (hb1.mono (by simp)))
  clear hfit hb1
  by_cases hneg : v1 < 0
  · go_wp2
    go_ret
    exact ⟨⟨-1, rfl, by omega, by omega, by omega⟩, HW.out⟩
  · go_wp2
    go_ret
    exact ⟨⟨v1, rfl, by omega, by omega, fun hv => ⟨by rw [HN.out]; exact (HF.out hv).1, fun y hy => by
      rw [← HM.out] at hy
      obtain ⟨p, hp, e⟩ := List.mem_map.1 hy
      rw [← e]; exact (HF.out hv).2 p hp⟩⟩, HW.out⟩
set_option maxHeartbeats 800000 in
theorem laws_toFilter (x : Filter) (h : FHd) (w : World) (hx : FilterIs w x h) (hf : x.Fit) :
    Calls Tryz.prog 29 #[.agg #[.bool x.on, .slice h.A h.n h.c]] w fun e w' => (∃ h' : FHd, e = .returned (.agg #[.bool x.on, .slice h'.A h'.n h'.c]) ∧ FilterOwn w.heap.size w' x h') ∧ Below w.heap.size w w' := by
  obtain ⟨hr, hn, hb, hm⟩ := hx
  have HR := Lib.hid hr
  have HB := Lib.hid hb
  have HM := Lib.hid hm
  have HF := Lib.hid hf
  have hlen : h.n ≤ 1048576 := by rw [← hr.1, ← List.length_map (f := Prod.fst), hm]; exact hf.1
  have HL := Lib.hid (show x.scopes.length ≤ 1048576 from hf.1)
  clear hr hb hf hm
  go_enter Tryz.func29, Tryz.ntmps29
  go_wp2_with fail
  refine (laws_toScopeS' _ _ _ h.rs x.scopes _ hlen (HR.out.below (by go_grown)) (fun p hp => (HB.out p hp).below (by go_grown)) (fits_of HF.out HM.out) HM.out).mono ?_
  rintro e w1 ⟨A1, c1, rs1, rfl, hm1, ho, hi, hna, hb1⟩
  have HNA := Lib.hid hna
  clear hna
  have p0 : w1.cell? ⟨w.heap.size + 1 + 1, 0, none⟩ = some (.bool x.on) := (hb1.cell (p := ⟨w.heap.size + 1 + 1, 0, none⟩) (by simp)).trans (by go_simp)
  have p1 : w1.cell? ⟨w.heap.size + 1 + 1, 1, none⟩ = some (.slice none 0 0) := (hb1.cell (p := ⟨w.heap.size + 1 + 1, 1, none⟩) (by simp)).trans (by go_simp)
  have q0 : w1.cell? ⟨w.heap.size + 1, 0, none⟩ = some (.bool false) := (hb1.cell (p := ⟨w.heap.size + 1, 0, none⟩) (by simp)).trans (by go_simp)
  have q1 : w1.cell? ⟨w.heap.size + 1, 1, none⟩ = some (.slice none 0 0) := (hb1.cell (p := ⟨w.heap.size + 1, 1, none⟩) (by simp)).trans (by go_simp)
  have f0 : ∀ i, w1.frozen? ⟨w.heap.size + 1 + 1, i, none⟩ = false := fun i => (hb1.frozen (p := ⟨w.heap.size + 1 + 1, i, none⟩) (by simp)).trans (by go_simp)
  have f1 : ∀ i, w1.frozen? ⟨w.heap.size + 1, i, none⟩ = false := fun i => (hb1.frozen (p := ⟨w.heap.size + 1, i, none⟩) (by simp)).trans (by go_simp)
  have HW := Lib.hid (Below.trans (by go_grown : Below w.heap.size w _) (hb1.mono (by simp; omega)))
  have HO := Lib.hid (own_mono ho (base' := w.heap.size + 1 + 1 + 1) (by simp))
  have HI := Lib.hid (show ∀ p ∈ rs1, ScopeOwn (w.heap.size + 1 + 1 + 1) w1 p.1 p.2 from fun p hp => (hi p hp).mono (by simp))
  have HM1 := Lib.hid hm1
  clear hb1 ho hi hm1
  go_wp2
  try simp only [Exit.inBlock, Exit.then]
  refine bodyPost_ret (by simp [results, Tryz.results29, go_sem, q0, q1]; try rfl) rfl ?_
  refine ⟨⟨⟨A1, x.scopes.length, c1, rs1⟩, rfl, ?_, ?_, HL.out, ?_, HM1.out, HNA.out⟩, ?_⟩
  · refine own_mono (base := w.heap.size + 1 + 1 + 1) ?_ (by omega)
    repeat (with_reducible refine own_setCell ?_ ?_ _)
    · exact HO.out
    all_goals (simp only []; omega)
  · rw [← HM1.out, List.length_map]
  · intro p hp
    refine ScopeOwn.mono (base := w.heap.size + 1 + 1 + 1) ?_ (by omega)
    repeat (with_reducible refine ScopeOwn.setCell ?_ ?_ _)
    · exact HI.out p hp
    all_goals (simp only []; omega)
  · repeat (with_reducible refine Below.setCell ?_ ?_ _)
    · exact HW.out
    all_goals (simp only []; omega)
set_option maxHeartbeats 800000 in
theorem laws_eqFilter (x : Filter) (h1 h2 : FHd) (w : World) (i1 : FilterIs w x h1) (i2 : FilterIs w x h2) (hf : x.Fit) :
    Calls Tryz.prog 42 #[.agg #[.bool x.on, .slice h1.A h1.n h1.c], .agg #[.bool x.on, .slice h2.A h2.n h2.c]] w fun e w' => e = .returned (.bool true) ∧ Below w.heap.size w w' := by
  have hl1 := i1.len
  have hl2 := i2.len
  obtain ⟨A1, n1, c1, rs1⟩ := h1
  obtain ⟨A2, n2, c2, rs2⟩ := h2
  simp only [] at hl1 hl2
  have hln : n1 ≤ 1048576 := by rw [hl1]; exact hf.1
  subst hl1
  subst hl2
  have H1 := Lib.hid i1
  have H2 := Lib.hid i2
  have HF := Lib.hid (fits_of hf i1.2.2.2)
  have HM := Lib.hid (show rs1.map Prod.fst = rs2.map Prod.fst from i1.2.2.2.trans i2.2.2.2.symm)
  clear i1 i2 hf
  go_enter Tryz.func42, Tryz.ntmps42
  go_wp2_with fail
  refine (laws_eqScopeS _ _ _ _ _ rs1 rs2 _ (by show x.scopes.length ≤ _; omega) (H1.out.1.below (by go_grown)) (H2.out.1.below (by go_grown)) (fun p hp => (H1.out.2.2.1 p hp).below (by go_grown)) (fun p hp => (H2.out.2.2.1 p hp).below (by go_grown)) HF.out HM.out).mono ?_
  rintro e w1 ⟨rfl, hb1⟩
  have HW := Lib.hid (Below.trans (by go_grown : Below w.heap.size w _) (hb1.mono (by simp; omega)))
  clear hb1
  go_wp2
  go_ret
  exact ⟨rfl, HW.out⟩
set_option maxRecDepth 20000 in
theorem dec_Filter {H : Type} {enc0 : TypeId × Value → H} {w : World} {base : Nat} {spare : Nat → Bool} {held : Bool} (n : Nat) (cs : List Value) (x : DataW H × List MemPlace)
    (h : DataW.trod enc0 Tryz.prog w base spare held n 25 cs = some x) : ∃ y : Filter × FHd, cs = encFilter y ∧ FilterIs w y.1 y.2 := by
  obtain ⟨xs, m, _, _, hl, hlen, hf⟩ := DataW.trod_struct (P := Tryz.prog) (t := 25) Tryz.underlying25 h
  have hl2 : cs.length = 2 := hl
  have hx2 : xs.length = 2 := hlen
  match cs, hl2, xs, hx2 with
  | [c0, c1], _, [y0, y1], _ =>
    have e0 : DataW.trod enc0 Tryz.prog w base spare held m 4 [c0] = some y0 := hf 0 _ rfl
    obtain ⟨a0, h0, _⟩ := DataW.trod_bool Tryz.underlying4 e0
    obtain rfl := List.singleton_inj.1 h0
    have e1 : DataW.trod enc0 Tryz.prog w base spare held m 23 [c1] = some y1 := hf 1 _ rfl
    obtain ⟨A, n, c, zs, h1, hr, hn, hc, hz⟩ := trod_rd encScope (fun p => ScopeIs w p.1 p.2) 3 Tryz.underlying23 e1 (by kernel_rfl) (by omega) (fun _ => rfl) (fun n cs x hx => dec_Scope n cs x hx)
    obtain rfl := List.singleton_inj.1 h1
    exact ⟨(⟨a0, zs.map Prod.fst⟩, ⟨A, n, c, zs⟩), rfl, hr, Nat.le_trans hn hc, hz, rfl⟩
set_option maxRecDepth 20000 in
/-- A filter that came in. -/
theorem open_Filter {H : Type} {enc0 : TypeId × Value → H} {w : World} {base b0 : Nat} {r : Reach} {spare : Nat → Bool} {held : Bool} {v : Value} {d : DataW H} {p : List MemPlace}
    (o : Value.okWide Tryz.prog w r b0 25 v) (h : DataW.Trod enc0 Tryz.prog w base spare held 25 v d p) :
    ∃ (x : Filter) (h : FHd), v = .agg #[.bool x.on, .slice h.A h.n h.c] ∧ FilterIs w x h := by
  obtain ⟨cs, rfl, _⟩ := okWide_struct Tryz.underlying25 o
  obtain ⟨n, hn⟩ := h
  obtain ⟨y, hy, hi⟩ := dec_Filter n _ _ hn
  have hcs : cs = (encFilter y).toArray := by
    have : cs.toList = encFilter y := by rw [← hy]; simp [Value.cells]
    rw [← this]
  exact ⟨y.1, y.2, by rw [hcs], hi⟩

set_option maxHeartbeats 800000 in
set_option maxRecDepth 20000 in
theorem slices_IndexFunc_Scope (A : Option Addr) (n c g : Nat) (lb : Array Value) (p : Scope × Hd → Bool) (xs : List (Scope × Hd)) (w : World) (hn : n ≤ 4611686018427387904) (h : Rd encScope 3 w A n xs)
    (eg : ∀ args w, (callFunc g args).run Tryz.prog w = .ok (.enter g args) w) (hp : PaysAt Tryz.prog g lb (fun x : Scope × Hd => .agg #[.int .i64 x.1.kind, .slice x.2.A x.2.n x.2.c, .int .i64 x.1.events]) p w xs) :
    Calls Tryz.prog 125 #[.slice A n c, .func (.func g) #[] lb] w fun e w' => e = .returned (.int .i64 (ixOf p xs)) ∧ Below w.heap.size w w' := by
  have HL := Lib.hid h.1
  have H := Lib.hid h
  have HP := Lib.hid hp
  clear h hp
  go_enter Tryz.func125, Tryz.ntmps125
  go_wp2_with fail
  go_loopw [8] (fun i wr => ∃ k : Nat, k ≤ n ∧ i = .int .i64 k ∧ Below w.heap.size w wr ∧ Hid (∀ (j : Nat) (y : Scope × Hd), j < k → xs[j]? = some y → p y = false)) (fun i _ => n - (intOf i).toNat)
  case atStart => exact ⟨0, Nat.zero_le _, rfl, Below.refl _ _, fun j y hj => absurd hj (by omega)⟩
  case round =>
    obtain ⟨k, hk, rfl, hW, ha⟩ := hrel
    by_cases hlt : k < n
    · obtain ⟨b, off, x, rfl, _, hx, hc⟩ := (H.out.below hW).elem hlt
      have g0 : wr.cell? ⟨b, off + k * 3, none⟩ = some (.int .i64 x.1.kind) := by simpa using hc 0 _ rfl
      have g1 : wr.cell? ⟨b, off + k * 3 + 1, none⟩ = some (.slice x.2.A x.2.n x.2.c) := hc 1 _ rfl
      have g2 : wr.cell? ⟨b, off + k * 3 + 2, none⟩ = some (.int .i64 x.1.events) := hc 2 _ rfl
      have hcall := HP.out wr x (List.mem_of_getElem? hx) hW
      have HX := Lib.hid hx
      have HW := Lib.hid hW
      clear hc hx hW H HP
      cases hq : p x with
      | true =>
        rw [hq] at hcall
        have hfin := Lib.hid (ixOf_hit HX.out hq ha.out)
        clear hq ha
        go_wp2_with (go_at_fn g; refine hcall.mono ?_; rintro e w' ⟨rfl, hb'⟩)
        go_ret
        exact ⟨ret_i hfin.out.symm, HW.out.trans (hb'.mono HW.out.size)⟩
      | false =>
        rw [hq] at hcall
        have hs := Lib.hid (anyF_succ ha.out HX.out hq)
        clear hq ha
        go_wp2_with (go_at_fn g; refine hcall.mono ?_; rintro e w' ⟨rfl, hb'⟩)
        go_roundw
        case rel => exact ⟨k + 1, by omega, by go_num, HW.out.trans (hb'.mono HW.out.size), hs.out⟩
        case measure => simp [intOf]; omega
    · have hke : k = n := by omega
      have hfin := Lib.hid (ixOf_miss (p := p) (l := xs) (fun j y hy => ha.out j y (by rw [hke, ← HL.out]; exact (List.getElem?_eq_some_iff.1 hy).1) hy))
      clear ha hke
      go_wp2
      go_ret
      exact ⟨ret_i hfin.out.symm, hW⟩
set_option maxRecDepth 20000 in
theorem slices_ContainsFunc_Scope (A : Option Addr) (n c g : Nat) (lb : Array Value) (p : Scope × Hd → Bool) (xs : List (Scope × Hd)) (w : World) (hn : n ≤ 4611686018427387904) (h : Rd encScope 3 w A n xs)
    (eg : ∀ args w, (callFunc g args).run Tryz.prog w = .ok (.enter g args) w) (hp : PaysAt Tryz.prog g lb (fun x : Scope × Hd => .agg #[.int .i64 x.1.kind, .slice x.2.A x.2.n x.2.c, .int .i64 x.1.events]) p w xs) :
    Calls Tryz.prog 103 #[.slice A n c, .func (.func g) #[] lb] w fun e w' => e = .returned (.bool (xs.any p)) ∧ Below w.heap.size w w' := by
  have hc := slices_IndexFunc_Scope A n c g lb p xs w hn h eg hp
  have hr := Lib.hid (ixOf_any p xs)
  generalize ixOf p xs = r at *
  clear h hp
  go_enter Tryz.func103, Tryz.ntmps103
  go_wp2_with (go_at_call 125; refine hc.mono ?_; rintro e w' ⟨rfl, hb'⟩)
  go_ret
  exact ⟨ret_b hr.out, hb'⟩

end Go.Proofs.YtjpkceimokkpgaaGreatDoor
