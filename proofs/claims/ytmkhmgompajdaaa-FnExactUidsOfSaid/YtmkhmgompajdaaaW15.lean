/-
  Walks: what each function returns, and that it leaves what lay in memory as it was.
-/
import Derived.Test.YtmkhmgompajdaaaProg
import Derived.Test.YtmkhmgompajdaaaPlain
import Derived.Test.YtmkhmgompajdaaaBase2
import Derived.Test.YtmkhmgompajdaaaOpen2
import Derived.Test.YtmkhmgompajdaaaShelf
import Derived.WalkKit
import Derived.WalkSpells
import Derived.WalkLawsBesides
import Derived.Lib.Hide
import Derived.Deep.LoopGhost
import Derived.Deep.QuietTactic
import Derived.BigQuiet
import Derived.Handy
import Derived.Deep.RegionHeld3
import Derived.StillTailTactics
import Derived.OpenShut
import Derived.ChangeSame
import Derived.Laws.StructEq

import Derived.Test.YtmkhmgompajdaaaPlainT

import Derived.Test.YtmkhmgompajdaaaW1

import Derived.Test.YtmkhmgompajdaaaW2

import Derived.Test.YtmkhmgompajdaaaW3

import Derived.Test.YtmkhmgompajdaaaW5

import Derived.Test.YtmkhmgompajdaaaW13

namespace Go.Proofs.Ytmkhmgompajdaaa
open Go.ChangeShapes Go.WideShapes Go.ChangeAt Go.RowKit Go.Deep
set_option linter.unusedVariables false
set_option linter.unusedSimpArgs false

set_option maxHeartbeats 800000 in
theorem laws_markText (n : Int) (w : World) (hn : n ≤ 1152921504606846976) :
    Calls Try.prog 103 #[.int .i64 n] w fun e w' => e = .returned (.string ⟨(mt n).toArray⟩) ∧ Below w.heap.size w w' := by
  by_cases h0 : n ≤ 0
  · have hm : mt n = [109, 48] := by unfold mt; rw [if_pos h0]
    have HM := Lib.hid hm
    clear hm
    go_enter Try.func103, Try.ntmps103
    go_wp2
    go_ret
    exact ⟨by rw [HM.out]; rfl, Below.refl _ _⟩
  · obtain ⟨K, rfl⟩ := Int.eq_ofNat_of_zero_le (show 0 ≤ n by omega)
    have hK : 0 < K := by omega
    have hm : mt (K : Int) = 109 :: mtGo K K [] := by unfold mt; rw [if_neg h0, Int.toNat_natCast]
    have HM := Lib.hid hm
    clear hm h0
    go_enter Try.func103, Try.ntmps103
    go_wp2_with fail
    go_loopw [0, 3] (fun i o wr => ∃ (k : Nat) (l : Str), i = .int .i64 k ∧ o = .string ⟨l.toArray⟩ ∧ l.length + k ≤ K ∧ Hid (mtGo k k l = mtGo K K []) ∧ Below w.heap.size w wr) (fun i _ _ => (intOf i).toNat)
    case atStart => exact ⟨K, [], rfl, rfl, by simp, rfl, Below.refl _ _⟩
    case round =>
      obtain ⟨k, l, rfl, rfl, hl, hg, hW⟩ := hrel
      by_cases hk : 0 < k
      · have hcv := run_ofBytes (P := Try.prog) 40 9 5 Try.underlying40 Try.underlying5 Try.underlying9
          (Rd.new (enc := encB) (k := 1) (fun _ => rfl) wr #[.int .u8 (48 + (k : Int) % 10)] 5 (n := 1) [UInt8.ofNat (48 + k % 10)] (by simp [encB]; omega) rfl) 1
        have hstep : mtGo (k / 10) (k / 10) (UInt8.ofNat (48 + k % 10) :: l) = mtGo K K [] := by rw [← hg.out]; exact (mtGo_step k l hk).symm
        have Hstep := Lib.hid hstep
        clear hstep hg
        have hd : k / 10 + 1 ≤ k := by omega
        generalize UInt8.ofNat (48 + k % 10) = c at hcv Hstep
        go_wp2
        go_roundw
        case rel => exact ⟨k / 10, c :: l, by go_num, congrArg Value.string (ByteArray.mk_append_mk [c] l), by simp; omega, Hstep.out, hW.alloc hW.size _⟩
        case measure => simp [intOf]; omega
      · obtain rfl : k = 0 := by omega
        have hfin : l = mtGo K K [] := by rw [← hg.out]; rfl
        have Hfin := Lib.hid hfin
        clear hfin hg hk
        go_wp2
        go_ret
        exact ⟨ret_s (by rw [HM.out, ← Hfin.out]; exact ByteArray.mk_append_mk [109] l), hW⟩
set_option maxHeartbeats 800000 in
theorem laws_eqStringS (A1 A2 : Option Addr) (n c1 c2 : Nat) (xs : List Str) (w : World) (hn : n ≤ 4611686018427387904) (h1 : Rd encStr 1 w A1 n xs) (h2 : Rd encStr 1 w A2 n xs) :
    Calls Try.prog 83 #[.slice A1 n c1, .slice A2 n c2] w fun e w' => e = .returned (.bool true) ∧ Below w.heap.size w w' := by
  have H1 := Lib.hid h1
  have H2 := Lib.hid h2
  clear h1 h2
  go_enter Try.func83, Try.ntmps83
  go_wp2_with fail
  go_loopw [5] (fun i wr => ∃ k : Nat, k ≤ n ∧ i = .int .i64 k ∧ Below w.heap.size w wr) (fun i _ => n - (intOf i).toNat)
  case atStart => exact ⟨0, Nat.zero_le _, rfl, Below.refl _ _⟩
  case round =>
    obtain ⟨k, hk, rfl, hW⟩ := hrel
    by_cases hlt : k < n
    · obtain ⟨b1, o1, x, rfl, _, hx, hc1⟩ := (H1.out.below hW).elem hlt
      obtain ⟨b2, o2, x', rfl, _, hx', hc2⟩ := (H2.out.below hW).elem hlt
      have hxx : x' = x := by rw [hx] at hx'; exact (Option.some.inj hx').symm
      subst hxx
      have g1 : wr.cell? ⟨b1, o1 + k, none⟩ = some (.string ⟨x'.toArray⟩) := by simpa using hc1 0 _ rfl
      have g2 : wr.cell? ⟨b2, o2 + k, none⟩ = some (.string ⟨x'.toArray⟩) := by simpa using hc2 0 _ rfl
      have HW := Lib.hid hW
      clear hc1 hc2 hx hx' hW H1 H2
      go_wp2
      go_quiet (fail)
      go_wp2
      go_roundw
      case rel => exact ⟨k + 1, by omega, by go_num, below_drewN HW.out _⟩
      case measure => simp [intOf]; omega
    · go_wp2
      go_ret
      exact ⟨rfl, hW⟩

/-- A step that writes the blocks of S alone (and makes new ones). -/
structure Wrote (S : Nat → Prop) (w w' : World) : Prop where
  os : w'.os = w.os
  tape : w'.tape = w.tape
  output : w'.output = w.output
  size : w.heap.size ≤ w'.heap.size
  block : ∀ k, k < w.heap.size → ¬ S k → w'.heap[k]? = w.heap[k]?
theorem Wrote.of_below {S : Nat → Prop} {w w' : World} (h : Below w.heap.size w w') : Wrote S w w' := ⟨h.os, h.tape, h.output, h.size, fun k hk _ => h.block k hk⟩
theorem Wrote.of_grown {S : Nat → Prop} {w w' : World} {r : Option Nat} (h : w.grownBy w' r) (hr : ∀ k, r = some k → S k) : Wrote S w w' := ⟨h.os, h.tape, h.output, h.size, fun k hk hn => h.block k hk (fun e => hn (hr k e.symm))⟩
theorem Wrote.trans {S : Nat → Prop} {a b c : World} (h : Wrote S a b) (k : Wrote S b c) : Wrote S a c :=
  ⟨k.os.trans h.os, k.tape.trans h.tape, k.output.trans h.output, Nat.le_trans h.size k.size, fun i hi hn => (k.block i (Nat.lt_of_lt_of_le hi h.size) hn).trans (h.block i hi hn)⟩
theorem Wrote.mono {S T : Nat → Prop} {a b : World} (h : Wrote S a b) (hs : ∀ k, S k → T k) : Wrote T a b := ⟨h.os, h.tape, h.output, h.size, fun i hi hn => h.block i hi (fun e => hn (hs i e))⟩
theorem Wrote.bel {S : Nat → Prop} {w w' : World} {lo : Nat} (h : Wrote S w w') (hs : ∀ k, S k → lo ≤ k) (hl : lo ≤ w.heap.size) : Below lo w w' :=
  ⟨h.os, h.tape, h.output, h.size, fun k hk => h.block k (by omega) (fun e => by have := hs k e; omega)⟩
theorem Wrote.own {S : Nat → Prop} {w w' : World} {base : Nat} {e : TypeId} {k n : Nat} {v : Value} {xs : List Value} (h : Wrote S w w') (ho : w.ownsRow base e k v n xs) (hs : ∀ k, S k → k < base) : w'.ownsRow base e k v n xs := by
  refine ⟨ho.1, ?_⟩
  rcases ho.2 with hn | ⟨g, cap, cur, hv, hg, hh, r⟩
  · exact .inl hn
  · exact .inr ⟨g, cap, cur, hv, hg, (h.block g (Array.getElem?_eq_some_iff.1 hh).1 (fun e => by have := hs g e; omega)).trans hh, r⟩
/-- The blocks of a slice of the call's own. -/
def Hd.Blk (h : Hd) (k : Nat) : Prop := h.v.ownBlock = some k
set_option maxHeartbeats 1600000 in
set_option maxRecDepth 20000 in
theorem laws_markMsgS (A : Option Addr) (n c base : Nat) (k0 : Int) (xs : List Msg) (w : World) (hk0 : 0 ≤ k0) (hk1 : k0 + 3 * n ≤ 1152921504606846976) (hl : xs.length = n)
    (hown : w.ownsRow base 81 3 (.slice A n c) n (xs.flatMap encMsg)) :
    Calls Try.prog 73 #[.slice A n c, .int .i64 k0] w fun e w' => e = .returned (.int .i64 (k0 + 3 * n)) ∧ w.grownBy w' (Value.slice A n c).ownBlock := by
  have hn0 : k0 + 3 * (n : Int) ≤ 1152921504606846976 := hk1
  go_enter Try.func73, Try.ntmps73
  go_wp2_with fail
  go_loopw [1, 5] (fun m i wr => ∃ (j : Nat) (zs : List Msg), j ≤ n ∧ i = .int .i64 j ∧ m = .int .i64 (k0 + 3 * j) ∧ zs.length = n ∧ wr.ownsRow base 81 3 (.slice A n c) n (zs.flatMap encMsg) ∧ w.grownBy wr (Value.slice A n c).ownBlock) (fun _ i _ => n - (intOf i).toNat)
  case atStart => exact ⟨0, xs, Nat.zero_le _, rfl, by simp, hl, hown, World.grownBy.refl _ _⟩
  case round =>
    obtain ⟨j, zs, hj, rfl, rfl, hz, ho, hg⟩ := hrel
    clear hown hl
    by_cases hlt : j < n
    · have hA : ∃ g, A = some ⟨g, 0, none⟩ := by
        rcases ho.2 with ⟨hv, h0⟩ | ⟨g, cap, cur, hv, _⟩
        · omega
        · injection hv with hA; exact ⟨g, hA⟩
      obtain ⟨g, rfl⟩ := hA
      have hat : zs[j]? = some (zs[j]'(by omega)) := List.getElem?_eq_getElem (by omega)
      generalize zs[j]'(by omega) = z at hat
      have c0 : wr.cell? ⟨g, j * 3, none⟩ = some (.int .i64 z.uid) := (ho.cellAt (j * 3) (by omega)).trans (flat_get (enc := encMsg) (k := 3) (fun _ => rfl) _ j 0 _ _ hat rfl)
      have c1 : wr.cell? ⟨g, j * 3 + 1, none⟩ = some (.int .i64 z.flags) := (ho.cellAt (j * 3 + 1) (by omega)).trans (flat_get (enc := encMsg) (k := 3) (fun _ => rfl) _ j 1 _ _ hat rfl)
      have f0 := ho.frozenAt (j * 3)
      have f1 := ho.frozenAt (j * 3 + 1)
      have s0 := ho.stored (j * 3) (.int .i64 (k0 + 3 * j))
      have s1 := s0.1.stored (j * 3 + 1) (.int .i64 (k0 + 3 * j + 1))
      have Hs1 := Lib.hid s1.1
      have Hg := Lib.hid (gb_trans hg (gb_trans s0.2 s1.2))
      have Hat := Lib.hid hat
      have Hz := Lib.hid hz
      clear ho hg s0 s1 hat hz
      go_wp2_with fail
      refine (laws_markText _ _ (by omega)).mono ?_
      rintro e w1 ⟨rfl, hb1⟩
      have ho1 := own_below Hs1.out hb1
      have hat2 : ((zs.flatMap encMsg).set (j * 3) (.int .i64 (k0 + 3 * j))).set (j * 3 + 1) (.int .i64 (k0 + 3 * j + 1)) = ((zs.flatMap encMsg).set (j * 3) (.int .i64 (k0 + 3 * j))).set (j * 3 + 1) (.int .i64 (k0 + 3 * j + 1)) := rfl
      have c2 : w1.cell? ⟨g, j * 3 + 2, none⟩ = some (.string z.text) := by
        refine (ho1.cellAt (j * 3 + 2) (by omega)).trans ?_
        rw [List.getElem?_set_ne (by omega), List.getElem?_set_ne (by omega)]
        exact flat_get (enc := encMsg) (k := 3) (fun _ => rfl) _ j 2 _ _ Hat.out rfl
      have f2 := ho1.frozenAt (j * 3 + 2)
      obtain ⟨T, hT⟩ : ∃ T, mt (k0 + 3 * j + 1 + 1) = T := ⟨_, rfl⟩
      rw [hT]
      have s2 := ho1.stored (j * 3 + 2) (.string ⟨T.toArray⟩)
      have hfin := s2.1
      rw [flat_set_Msg zs j ⟨k0 + 3 * j, k0 + 3 * j + 1, ⟨T.toArray⟩⟩ (by rw [Hz.out]; exact hlt)] at hfin
      have Hfin := Lib.hid hfin
      have Hg2 := Lib.hid (gb_trans Hg.out (gb_trans (gb_below _ hb1) s2.2))
      clear s2 hfin hat2 ho1 hb1 hT
      go_wp2
      go_roundw
      case rel => exact ⟨j + 1, _, by omega, by go_num, by go_num, by rw [List.length_set]; exact Hz.out, Hfin.out, Hg2.out⟩
      case measure => simp [intOf]; omega
    · have hke : j = n := by omega
      subst hke
      have Hg := Lib.hid hg
      clear ho hg hlt
      go_wp2
      go_ret
      exact ⟨rfl, Hg.out⟩
theorem BoxOwn.blk {base : Nat} {w : World} {x : Box} {h : Hd} (i : BoxOwn base w x h) : ∀ k, h.Blk k → base ≤ k ∧ k < w.heap.size := fun k hk => i.2.1.lt k hk
theorem laws_markBox (x : Box) (h : Hd) (base : Nat) (w : World) (hx : BoxOwn base w x h) :
    Calls Try.prog 35 #[.agg #[.string x.name, .int .i64 x.validity, .int .i64 x.next, .slice h.A h.n h.c], .int .i64 1] w fun e w' => (∃ K : Int, e = .returned (.int .i64 K) ∧ 0 ≤ K) ∧ Wrote h.Blk w w' := by
  have hn := hx.2.2.2.1
  have HX := Lib.hid hx
  clear hx
  go_enter Try.func35, Try.ntmps35
  go_wp2_with fail
  have hA : Below w.heap.size w (w.alloc (.cells #[.string x.name, .int .i64 x.validity, .int .i64 x.next, .slice h.A h.n h.c] 29)) := by go_grown
  refine (laws_markMsgS _ _ _ base _ x.msgs _ (by omega) (by omega) HX.out.2.2.1 (HX.out.below hA).2.1).mono ?_
  rintro e w1 ⟨rfl, hg⟩
  have HW := Lib.hid ((Wrote.of_below hA).trans (Wrote.of_grown hg (S := h.Blk) (fun k hk => hk)))
  clear hg hA
  go_wp2
  go_ret
  exact ⟨⟨_, rfl, by omega⟩, HW.out⟩

set_option maxHeartbeats 3200000 in
set_option maxRecDepth 20000 in
theorem walk_FnExactUidsOf {H : Type} {enc0 : TypeId × Value → H} {base : Nat} {d0 : DataW H} {p0 : List MemPlace} (v0 : Value) (w : World) (o0 : Value.okWide Try.prog w .any base 24 v0) (k0 : DataW.Trod enc0 Try.prog w 0 (fun _ => true) true 24 v0 d0 p0) :
    Calls Try.prog 7 #[v0] w fun e w' => e = .returned (.bool true) ∧ Below w.heap.size w w' := by
  obtain ⟨x0, h0, rfl, hi0⟩ := open_Box o0 k0
  clear o0 k0
  go_enter Try.func7, Try.ntmps7
  go_wp2_with fail
  have nB : Below w.heap.size w (w.alloc (.cells #[.string x0.name, .int .i64 x0.validity, .int .i64 x0.next, .slice h0.A h0.n h0.c] 24)) := by go_grown
  have nP : Holds (w.alloc (.cells #[.string x0.name, .int .i64 x0.validity, .int .i64 x0.next, .slice h0.A h0.n h0.c] 24)) w.heap.size [.string x0.name, .int .i64 x0.validity, .int .i64 x0.next, .slice h0.A h0.n h0.c] := Holds.new w _ _
  have nI := hi0.below nB
  clear hi0
  generalize w.alloc (.cells #[.string x0.name, .int .i64 x0.validity, .int .i64 x0.next, .slice h0.A h0.n h0.c] 24) = W0 at *
  refine (laws_szBox x0 h0 1048576 W0 (by omega) (by omega) nI).mono ?_
  rintro e u0 ⟨⟨v0, rfl, hv1, hv2, hfit⟩, hb⟩
  have HI := Lib.hid (nI.below hb)
  have HP := Lib.hid (nP.below hb)
  have HB := Lib.hid (nB.trans (hb.mono nB.size))
  clear nI nP nB hb
  by_cases hneg : v0 < 0
  · clear hfit
    go_wp2
    go_ret
    exact ⟨rfl, HB.out⟩
  have HF := Lib.hid (hfit (by omega))
  clear hfit
  have hbnd : (x0.msgs.map Msg.uid).length ≤ 1048576 := by rw [List.length_map]; exact HF.out.2.1
  obtain ⟨R, hR⟩ : ∃ R, x0.msgs.map Msg.uid = R := ⟨_, rfl⟩
  rw [hR] at hbnd
  have HR := Lib.hid hR
  clear hR
  have p0 := HP.out.2 0 (.string x0.name) rfl
  have p1 := HP.out.2 1 (.int .i64 x0.validity) rfl
  have p2 := HP.out.2 2 (.int .i64 x0.next) rfl
  have p3 := HP.out.2 3 (.slice h0.A h0.n h0.c) rfl
  go_wp2_with fail
  refine (laws_toBox x0 h0 u0 HI.out HF.out).mono ?_
  rintro e s1 ⟨⟨hs, rfl, os⟩, hb⟩
  clear p0 p1 p2 p3
  have hsp := spec_UidsOf x0 hs s1 os.is HF.out
  rw [HR.out] at hsp
  have HS := Lib.hid hsp
  have HB1 := Lib.hid (HB.out.trans (hb.mono HB.out.size))
  have HI1 := Lib.hid (HI.out.below hb)
  have HP1 := Lib.hid (HP.out.below hb)
  clear hsp hb os HB HI HP
  go_wp2_with fail
  refine HS.out.mono ?_
  rintro e a ⟨A1, c1, rfl, o1, b1⟩
  have HB := Lib.hid (HB1.out.trans (b1.mono HB1.out.size))
  have HI := Lib.hid (HI1.out.below b1)
  have HP := Lib.hid (HP1.out.below b1)
  have HO := Lib.hid (Rd.of_own (enc := encI) (k := 1) (fun _ => rfl) o1 rfl)
  clear HS HB1 HI1 HP1 o1 b1
  have p0 := (HP.out.below (Below.refl a.heap.size a)).2 0 (.string x0.name) rfl
  have p1 := (HP.out.below (Below.refl a.heap.size a)).2 1 (.int .i64 x0.validity) rfl
  have p2 := (HP.out.below (Below.refl a.heap.size a)).2 2 (.int .i64 x0.next) rfl
  have p3 := (HP.out.below (Below.refl a.heap.size a)).2 3 (.slice h0.A h0.n h0.c) rfl
  go_wp2_with fail
  refine (laws_toBox x0 h0 a HI.out HF.out).mono ?_
  rintro e a0 ⟨⟨hx, rfl, ox⟩, hb⟩
  clear p0 p1 p2 p3
  have hA : Below a0.heap.size a0 (a0.alloc (.cells #[.string x0.name, .int .i64 x0.validity, .int .i64 x0.next, .slice hx.A hx.n hx.c] 29)) := by go_grown
  have nQ : Holds (a0.alloc (.cells #[.string x0.name, .int .i64 x0.validity, .int .i64 x0.next, .slice hx.A hx.n hx.c] 29)) a0.heap.size [.string x0.name, .int .i64 x0.validity, .int .i64 x0.next, .slice hx.A hx.n hx.c] := Holds.new a0 _ _
  have nX := ox.below hA
  have nA := hb.trans (hA.mono hb.size)
  have hG0 := hb.size
  have hG1 : a0.heap.size < (a0.alloc (.cells #[.string x0.name, .int .i64 x0.validity, .int .i64 x0.next, .slice hx.A hx.n hx.c] 29)).heap.size := by simp
  clear ox hA hb
  go_wp2_with fail
  generalize a0.alloc (.cells #[.string x0.name, .int .i64 x0.validity, .int .i64 x0.next, .slice hx.A hx.n hx.c] 29) = b0 at *
  generalize a0.heap.size = G0 at *
  have HQ := Lib.hid nQ
  have HX := Lib.hid nX
  have HA := Lib.hid nA
  have HA0 := Lib.hid nA.size
  have HBk := Lib.hid nX.blk
  have him := impl_UidsOf x0 hx b0 nX.is HF.out
  rw [HR.out] at him
  refine him.mono ?_
  clear him nQ nX nA
  rintro e c1w ⟨A2, c2, rfl, o2, b2⟩
  have nQ := HQ.out.below b2
  have nX := HX.out.below b2
  have nA := HA.out.trans (b2.mono HA.out.size)
  have hGb := HQ.out.1
  clear HQ HX HA
  have R2 := Rd.of_own (enc := encI) (k := 1) (fun _ => rfl) o2 rfl
  have HQ := Lib.hid nQ
  have HX := Lib.hid nX
  have HA := Lib.hid nA
  have HO2 := Lib.hid o2
  have hSz := HO2.out
  clear nQ nX nA hSz
  go_wp2_with fail
  refine (laws_eqIntS A2 A1 R.length c2 c1 R c1w (by omega) R2 (HO.out.below HA.out)).mono ?_
  clear R2 o2 b2
  rintro e c2w ⟨rfl, hb⟩
  have n1 := HQ.out.below hb
  clear HQ
  have HQ := Lib.hid n1
  clear n1
  have n1 := HX.out.below hb
  clear HX
  have HX := Lib.hid n1
  clear n1
  have n1 := own_below HO2.out hb
  clear HO2
  have HO2 := Lib.hid n1
  clear n1
  have n1 := HA.out.trans (hb.mono HA.out.size)
  clear HA
  have HA := Lib.hid n1
  clear n1
  clear hb
  have HPc := Lib.hid (HP.out.below HA.out)
  have HIc := Lib.hid (HI.out.below HA.out)
  have p0 := HPc.out.2 0 (.string x0.name) rfl
  have p1 := HPc.out.2 1 (.int .i64 x0.validity) rfl
  have p2 := HPc.out.2 2 (.int .i64 x0.next) rfl
  have p3 := HPc.out.2 3 (.slice h0.A h0.n h0.c) rfl
  have q0 := HQ.out.2 0 (.string x0.name) rfl
  have q1 := HQ.out.2 1 (.int .i64 x0.validity) rfl
  have q2 := HQ.out.2 2 (.int .i64 x0.next) rfl
  have q3 := HQ.out.2 3 (.slice hx.A hx.n hx.c) rfl
  have hS : c2w.cell? ⟨w.heap.size, 0, none⟩ = some (.string x0.name) ∧ c2w.cell? ⟨w.heap.size, 1, none⟩ = some (.int .i64 x0.validity) ∧ c2w.cell? ⟨w.heap.size, 2, none⟩ = some (.int .i64 x0.next) ∧ c2w.cell? ⟨w.heap.size, 3, none⟩ = some (.slice h0.A h0.n h0.c) ∧ c2w.cell? ⟨G0, 0, none⟩ = some (.string x0.name) ∧ c2w.cell? ⟨G0, 1, none⟩ = some (.int .i64 x0.validity) ∧ c2w.cell? ⟨G0, 2, none⟩ = some (.int .i64 x0.next) ∧ c2w.cell? ⟨G0, 3, none⟩ = some (.slice hx.A hx.n hx.c) := ⟨p0, p1, p2, p3, q0, q1, q2, q3⟩
  go_wp2
  go_region_held3 (fun w' => w'.cell? ⟨w.heap.size, 0, none⟩ = some (.string x0.name) ∧ w'.cell? ⟨w.heap.size, 1, none⟩ = some (.int .i64 x0.validity) ∧ w'.cell? ⟨w.heap.size, 2, none⟩ = some (.int .i64 x0.next) ∧ w'.cell? ⟨w.heap.size, 3, none⟩ = some (.slice h0.A h0.n h0.c) ∧ w'.cell? ⟨G0, 0, none⟩ = some (.string x0.name) ∧ w'.cell? ⟨G0, 1, none⟩ = some (.int .i64 x0.validity) ∧ w'.cell? ⟨G0, 2, none⟩ = some (.int .i64 x0.next) ∧ w'.cell? ⟨G0, 3, none⟩ = some (.slice hx.A hx.n hx.c)) (first | exact hS | assumption)
    ((first
      | (go_at_call 17; refine (laws_toBox x0 h0 _ (HIc.out.below (by go_grown)) HF.out).mono ?_; rintro e w7 ⟨⟨h7, rfl, o7⟩, hb7⟩
         have hb7' : Below c2w.heap.size c2w w7 := (Below.refl _ c2w).drew.trans hb7
         have hS7 : w7.cell? ⟨w.heap.size, 0, none⟩ = some (.string x0.name) ∧ w7.cell? ⟨w.heap.size, 1, none⟩ = some (.int .i64 x0.validity) ∧ w7.cell? ⟨w.heap.size, 2, none⟩ = some (.int .i64 x0.next) ∧ w7.cell? ⟨w.heap.size, 3, none⟩ = some (.slice h0.A h0.n h0.c) ∧ w7.cell? ⟨G0, 0, none⟩ = some (.string x0.name) ∧ w7.cell? ⟨G0, 1, none⟩ = some (.int .i64 x0.validity) ∧ w7.cell? ⟨G0, 2, none⟩ = some (.int .i64 x0.next) ∧ w7.cell? ⟨G0, 3, none⟩ = some (.slice hx.A hx.n hx.c) := ⟨(HPc.out.below hb7').2 0 _ rfl, (HPc.out.below hb7').2 1 _ rfl, (HPc.out.below hb7').2 2 _ rfl, (HPc.out.below hb7').2 3 _ rfl, (HQ.out.below hb7').2 0 _ rfl, (HQ.out.below hb7').2 1 _ rfl, (HQ.out.below hb7').2 2 _ rfl, (HQ.out.below hb7').2 3 _ rfl⟩)
      | (go_at_call 19; refine (laws_eqBox x0 hx h7 _ (HX.out.is.below hb7') o7.is HF.out).mono ?_; rintro e w8 ⟨rfl, hb8⟩
         have hb8' := hb7'.trans (hb8.mono hb7'.size)
         have hS8 : w8.cell? ⟨w.heap.size, 0, none⟩ = some (.string x0.name) ∧ w8.cell? ⟨w.heap.size, 1, none⟩ = some (.int .i64 x0.validity) ∧ w8.cell? ⟨w.heap.size, 2, none⟩ = some (.int .i64 x0.next) ∧ w8.cell? ⟨w.heap.size, 3, none⟩ = some (.slice h0.A h0.n h0.c) ∧ w8.cell? ⟨G0, 0, none⟩ = some (.string x0.name) ∧ w8.cell? ⟨G0, 1, none⟩ = some (.int .i64 x0.validity) ∧ w8.cell? ⟨G0, 2, none⟩ = some (.int .i64 x0.next) ∧ w8.cell? ⟨G0, 3, none⟩ = some (.slice hx.A hx.n hx.c) := ⟨(HPc.out.below hb8').2 0 _ rfl, (HPc.out.below hb8').2 1 _ rfl, (HPc.out.below hb8').2 2 _ rfl, (HPc.out.below hb8').2 3 _ rfl, (HQ.out.below hb8').2 0 _ rfl, (HQ.out.below hb8').2 1 _ rfl, (HQ.out.below hb8').2 2 _ rfl, (HQ.out.below hb8').2 3 _ rfl⟩)))
  clear hb7 hb8 hb7' hS hS7 hS8 o7 HPc HIc
  clear p0 q0 p1 q1 p2 q2 p3 q3
  have n1 := HQ.out.below hb8'
  clear HQ
  have HQ := Lib.hid n1
  clear n1
  have n1 := HX.out.below hb8'
  clear HX
  have HX := Lib.hid n1
  clear n1
  have n1 := own_below HO2.out hb8'
  clear HO2
  have HO2 := Lib.hid n1
  clear n1
  have n1 := HA.out.trans (hb8'.mono HA.out.size)
  clear HA
  have HA := Lib.hid n1
  clear n1
  clear hb8'
  have q0 := HQ.out.2 0 (.string x0.name) rfl
  have q1 := HQ.out.2 1 (.int .i64 x0.validity) rfl
  have q2 := HQ.out.2 2 (.int .i64 x0.next) rfl
  have q3 := HQ.out.2 3 (.slice hx.A hx.n hx.c) rfl
  go_wp2_with fail
  refine (laws_markBox x0 hx a.heap.size w8 HX.out).mono ?_
  rintro e w9 ⟨⟨K, rfl, hK0⟩, hgX⟩
  clear q0 q1 q2 q3
  have n1 := hgX.own HO2.out (fun i hi => (HBk.out i hi).2)
  have n2 := HA.out.trans (hgX.bel (fun i hi => (HBk.out i hi).1) HA.out.size)
  clear HO2 HA HX HQ hgX
  have HO2 := Lib.hid n1
  have HA := Lib.hid n2
  clear n1 n2
  have hKn : decide (K < 0) = false := decide_eq_false (by omega)
  have hKm : ¬ K < 0 := by omega
  go_wp2_with fail
  refine (laws_eqIntS A2 A1 R.length c2 c1 R _ (by omega) (Rd.of_own (enc := encI) (k := 1) (fun _ => rfl) HO2.out rfl) (HO.out.below HA.out)).mono ?_
  rintro e w10 ⟨rfl, hb⟩
  have n1 := own_below HO2.out hb
  clear HO2
  have HO2 := Lib.hid n1
  clear n1
  have n1 := HA.out.trans (hb.mono HA.out.size)
  clear HA
  have HA := Lib.hid n1
  clear n1
  clear hb
  go_wp2_with fail
  refine (laws_markIntS A2 _ c2 _ 1 R w10 (by omega) (by omega) rfl HO2.out).mono ?_
  rintro e w11 ⟨rfl, o3, g3⟩
  have n2 := HA.out.trans (gb_to_below g3 HA.out.size (fun k hk => Nat.le_trans HA0.out (HO2.out.lt k hk).1))
  clear HA HO2 g3
  have HA := Lib.hid n2
  have HO3 := Lib.hid o3
  clear n2 o3
  go_wp2_with fail
  refine (laws_heldIntS A2 _ c2 1 w11 (by omega) (by omega) (Rd.of_own (enc := encI) (k := 1) (fun _ => rfl) HO3.out (imarks_len _ _))).mono ?_
  rintro e w12 ⟨rfl, hb⟩
  have n1 := own_below HO3.out hb
  have n2 := HA.out.trans (hb.mono HA.out.size)
  clear HO3 HA hb
  have HO3 := Lib.hid n1
  have HA := Lib.hid n2
  clear n1 n2
  have p0 := (HP.out.below HA.out).2 0 (.string x0.name) rfl
  have p1 := (HP.out.below HA.out).2 1 (.int .i64 x0.validity) rfl
  have p2 := (HP.out.below HA.out).2 2 (.int .i64 x0.next) rfl
  have p3 := (HP.out.below HA.out).2 3 (.slice h0.A h0.n h0.c) rfl
  go_wp2_with fail
  refine (laws_toBox x0 h0 _ (HI.out.below HA.out) HF.out).mono ?_
  rintro e w13 ⟨⟨hy, rfl, oy⟩, hb⟩
  clear p0 p1 p2 p3
  have n1 := own_below HO3.out hb
  have n2 := HA.out.trans (hb.mono HA.out.size)
  clear HO3 HA hb
  have HO3 := Lib.hid n1
  have HA := Lib.hid n2
  clear n1 n2
  have him := impl_UidsOf x0 hy w13 oy.is HF.out
  rw [HR.out] at him
  have HS := Lib.hid him
  clear him oy
  go_wp2_with fail
  refine HS.out.mono ?_
  rintro e w14 ⟨A6, c6, rfl, o6, hb⟩
  have n1 := own_below HO3.out hb
  have n2 := HA.out.trans (hb.mono HA.out.size)
  clear HO3 HA hb HS
  have HO3 := Lib.hid n1
  have HA := Lib.hid n2
  clear n1 n2
  go_wp2_with fail
  refine (laws_eqIntS A6 A1 _ c6 c1 R w14 (by omega) (Rd.of_own (enc := encI) (k := 1) (fun _ => rfl) o6 rfl) (HO.out.below HA.out)).mono ?_
  clear o6
  rintro e w15 ⟨rfl, hb⟩
  have n1 := own_below HO3.out hb
  have n2 := HA.out.trans (hb.mono HA.out.size)
  clear HO3 HA hb
  have HO3 := Lib.hid n1
  have HA := Lib.hid n2
  clear n1 n2
  go_wp2_with fail
  refine (laws_heldIntS A2 _ c2 1 w15 (by omega) (by omega) (Rd.of_own (enc := encI) (k := 1) (fun _ => rfl) HO3.out (imarks_len _ _))).mono ?_
  rintro e w16 ⟨rfl, hb⟩
  have n1 := own_below HO3.out hb
  have n2 := HA.out.trans (hb.mono HA.out.size)
  clear HO3 HA hb
  have HO3 := Lib.hid n1
  have HA := Lib.hid n2
  clear n1 n2
  have hfin := HB.out.trans (HA.out.mono HB.out.size)
  clear HA HB HO3 HO HI HP HF HR
  go_wp2
  go_ret
  exact ⟨rfl, hfin⟩

end Go.Proofs.Ytmkhmgompajdaaa
