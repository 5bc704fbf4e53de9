/-
  Walks: what each function returns, and that it leaves what lay in memory as it was.
-/
import Derived.Test.YtjpkceimokkpgaaGreatDoorProg
import Derived.Test.YtjpkceimokkpgaaGreatDoorPlain
import Derived.Test.YtjpkceimokkpgaaGreatDoorBase2
import Derived.Test.YtjpkceimokkpgaaGreatDoorOpen2
import Derived.Test.YtjpkceimokkpgaaGreatDoorShelf
import Derived.WalkKit
import Derived.WalkSpells
import Derived.WalkLawsBesides
import Derived.Lib.Hide
import Derived.Deep.LoopGhost
import Derived.Deep.QuietTactic
import Derived.BigQuiet
import Derived.Handy
import Derived.Deep.RegionHeld3
import Derived.StillTailTactics
import Derived.OpenShut
import Derived.ChangeSame
import Derived.Laws.StructEq

import Derived.Test.YtjpkceimokkpgaaGreatDoorPlainT

import Derived.Test.YtjpkceimokkpgaaGreatDoorBase3

import Derived.Test.YtjpkceimokkpgaaGreatDoorW1

import Derived.Test.YtjpkceimokkpgaaGreatDoorW3

import Derived.Test.YtjpkceimokkpgaaGreatDoorW5

import Derived.Test.YtjpkceimokkpgaaGreatDoorW14

import Derived.Test.YtjpkceimokkpgaaGreatDoorW19

import Derived.Test.YtjpkceimokkpgaaGreatDoorW30

import Derived.Test.YtjpkceimokkpgaaGreatDoorW31

import Derived.Test.YtjpkceimokkpgaaGreatDoorW33

namespace Go.Proofs.YtjpkceimokkpgaaGreatDoor
open Go.ChangeShapes Go.WideShapes Go.ChangeAt Go.RowKit Go.Deep
set_option linter.unusedVariables false
set_option linter.unusedSimpArgs false

set_option maxRecDepth 20000

set_option maxHeartbeats 800000 in
theorem laws_markSpanS (A : Option Addr) (n c base : Nat) (k0 : Int) (xs : List Span) (w : World) (hk0 : 0 ≤ k0) (hk1 : k0 + 2 * n ≤ 1152921504606846976) (hl : xs.length = n)
    (hown : w.ownsRow base 75 2 (.slice A n c) n (xs.flatMap encSpan)) :
    Calls Tryz.prog 43 #[.slice A n c, .int .i64 k0] w fun e w' => e = .returned (.int .i64 (k0 + 2 * n)) ∧ w.grownBy w' (Value.slice A n c).ownBlock := by
  have hn0 : k0 + 2 * (n : Int) ≤ 1152921504606846976 := hk1
  go_enter Tryz.func43, Tryz.ntmps43
  go_wp2_with fail
  go_loopw [1, 5] (fun m i wr => ∃ (j : Nat) (zs : List Span), j ≤ n ∧ i = .int .i64 j ∧ m = .int .i64 (k0 + 2 * j) ∧ zs.length = n ∧ wr.ownsRow base 75 2 (.slice A n c) n (zs.flatMap encSpan) ∧ w.grownBy wr (Value.slice A n c).ownBlock) (fun _ i _ => n - (intOf i).toNat)
  case atStart => exact ⟨0, xs, Nat.zero_le _, rfl, by simp, hl, hown, World.grownBy.refl _ _⟩
  case round =>
    obtain ⟨j, zs, hj, rfl, rfl, hz, ho, hg⟩ := hrel
    clear hown hl
    by_cases hlt : j < n
    · have hA : ∃ g, A = some ⟨g, 0, none⟩ := by
        rcases ho.2 with ⟨hv, h0⟩ | ⟨g, cap, cur, hv, _⟩
        · omega
        · injection hv with hA; exact ⟨g, hA⟩
      obtain ⟨g, rfl⟩ := hA
      have hat : zs[j]? = some (zs[j]'(by omega)) := List.getElem?_eq_getElem (by omega)
      generalize zs[j]'(by omega) = z at hat
      have c0 : wr.cell? ⟨g, j * 2, none⟩ = some (.int .i64 z.1) := (ho.cellAt (j * 2) (by omega)).trans (flat_get (enc := encSpan) (k := 2) (fun _ => rfl) _ j 0 _ _ hat rfl)
      have c1 : wr.cell? ⟨g, j * 2 + 1, none⟩ = some (.int .i64 z.2) := (ho.cellAt (j * 2 + 1) (by omega)).trans (flat_get (enc := encSpan) (k := 2) (fun _ => rfl) _ j 1 _ _ hat rfl)
      have f0 := ho.frozenAt (j * 2)
      have f1 := ho.frozenAt (j * 2 + 1)
      have s0 := ho.stored (j * 2) (.int .i64 (k0 + 2 * j))
      have s1 := s0.1.stored (j * 2 + 1) (.int .i64 (k0 + 2 * j + 1))
      have hfin := s1.1
      rw [flat_set2 zs j (k0 + 2 * j, k0 + 2 * j + 1)] at hfin
      have Hs1 := Lib.hid hfin
      have Hg := Lib.hid (gb_trans hg (gb_trans s0.2 s1.2))
      have Hz := Lib.hid hz
      clear ho hg s0 s1 hat hz hfin
      go_wp2
      go_roundw
      case rel => exact ⟨j + 1, _, by omega, by go_num, by go_num, by rw [List.length_set]; exact Hz.out, Hs1.out, Hg.out⟩
      case measure => simp [intOf]; omega
    · have hke : j = n := by omega
      subst hke
      have Hg := Lib.hid hg
      clear ho hg hlt
      go_wp2
      go_ret
      exact ⟨rfl, Hg.out⟩

/-- The blocks of a command of the call's own. -/
def CHd.Blk (h : CHd) (k : Nat) : Prop := (Value.slice h.s.A h.s.n h.s.c).ownBlock = some k ∨ h.f.Blk k
theorem CommandOwn.blk {base : Nat} {w : World} {x : Command} {h : CHd} (i : CommandOwn base w x h) : ∀ k, h.Blk k → base ≤ k ∧ k < w.heap.size := by
  intro k hk
  rcases hk with hk | hk
  · exact i.2.1.lt k hk
  · exact i.2.2.2.2.blk k hk
theorem FilterOwn.kinds {base b2 k2 n2 : Nat} {w w' : World} {x : Filter} {h : FHd} {v2 : Value} {xs2 : List Value} (i : FilterOwn base w x h) (h2 : w.ownsRow b2 75 k2 v2 n2 xs2) (hg : w.grownBy w' v2.ownBlock) : FilterOwn base w' x h :=
  ⟨own_kind_kept i.1 h2 (by decide) hg, i.2.1, i.2.2.1, fun p hp => (i.2.2.2.1 p hp).map fun r => own_kind_kept r h2 (by decide) hg, i.2.2.2.2⟩
set_option maxHeartbeats 3200000 in
set_option maxRecDepth 20000 in
theorem laws_markCommand (x : Command) (h : CHd) (base : Nat) (k0 : Int) (w : World) (hk0 : 0 ≤ k0) (hk1 : k0 ≤ 1000000) (hx : CommandOwn base w x h) :
    Calls Tryz.prog 11 #[.agg #[.string x.tag, .int .i64 x.kind, .string x.box, .string x.dest, .bool x.uid, .slice h.s.A h.s.n h.s.c, .int .i64 x.op, .int .i64 x.flags, .string x.text, .bool x.filter.on, .slice h.f.A h.f.n h.f.c], .int .i64 k0] w fun e w' => (∃ K : Int, e = .returned (.int .i64 K) ∧ 0 ≤ K) ∧ Wrote h.Blk w w' := by
  have hA : Below w.heap.size w (w.alloc (.cells #[.string x.tag, .int .i64 x.kind, .string x.box, .string x.dest, .bool x.uid, .slice h.s.A h.s.n h.s.c, .int .i64 x.op, .int .i64 x.flags, .string x.text, .bool x.filter.on, .slice h.f.A h.f.n h.f.c] 36)) := by go_grown
  have hP : Holds (w.alloc (.cells #[.string x.tag, .int .i64 x.kind, .string x.box, .string x.dest, .bool x.uid, .slice h.s.A h.s.n h.s.c, .int .i64 x.op, .int .i64 x.flags, .string x.text, .bool x.filter.on, .slice h.f.A h.f.n h.f.c] 36)) w.heap.size [.string x.tag, .int .i64 x.kind, .string x.box, .string x.dest, .bool x.uid, .slice h.s.A h.s.n h.s.c, .int .i64 x.op, .int .i64 x.flags, .string x.text, .bool x.filter.on, .slice h.f.A h.f.n h.f.c] := Holds.new w _ _
  have hlt : ∀ k, (Value.slice h.s.A h.s.n h.s.c).ownBlock = some k → k < w.heap.size := fun k hk => (hx.2.1.lt k hk).2
  have HLT := Lib.hid hlt
  have hX := hx.below hA
  have hn : h.s.n ≤ 1048576 := hx.2.2.2.1
  clear hx hlt
  go_enter Tryz.func11, Tryz.ntmps11
  go_wp2_with fail
  generalize (w.alloc (.cells #[.string x.tag, .int .i64 x.kind, .string x.box, .string x.dest, .bool x.uid, .slice h.s.A h.s.n h.s.c, .int .i64 x.op, .int .i64 x.flags, .string x.text, .bool x.filter.on, .slice h.f.A h.f.n h.f.c] 36)) = O at *
  have HX := Lib.hid hX
  have HA := Lib.hid hA
  have HP := Lib.hid hP
  clear hX hA hP
  refine (laws_markSpanS _ _ _ base k0 x.set O hk0 (by omega) HX.out.2.2.1 HX.out.2.1).mono ?_
  rintro e w1 ⟨rfl, hg⟩
  have hF := HX.out.2.2.2.2.kinds HX.out.2.1 hg
  have hbl : w1.heap[w.heap.size]? = O.heap[w.heap.size]? := hg.block _ HP.out.1 (fun e => by have := HLT.out _ e.symm; omega)
  have hcell : ∀ i, w1.cell? ⟨w.heap.size, i, none⟩ = O.cell? ⟨w.heap.size, i, none⟩ := fun i => by unfold World.cell?; simp only [hbl]
  have p9 := (hcell 9).trans (HP.out.2 9 (.bool x.filter.on) rfl)
  have p10 := (hcell 10).trans (HP.out.2 10 (.slice h.f.A h.f.n h.f.c) rfl)
  have HF := Lib.hid hF
  have HW := Lib.hid ((Wrote.of_below (S := h.Blk) HA.out).trans (Wrote.of_grown hg (fun k hk => .inl hk)))
  clear hF hbl hcell hg
  go_wp2_with fail
  refine (laws_markFilter x.filter h.f base _ w1 (by omega) (by omega) HF.out).mono ?_
  rintro e w2 ⟨⟨K, rfl, hK⟩, hW⟩
  have HW2 := Lib.hid (HW.out.trans (hW.mono (fun k hk => .inr hk)))
  clear hW
  go_wp2
  go_ret
  exact ⟨⟨_, rfl, hK⟩, HW2.out⟩

end Go.Proofs.YtjpkceimokkpgaaGreatDoor
