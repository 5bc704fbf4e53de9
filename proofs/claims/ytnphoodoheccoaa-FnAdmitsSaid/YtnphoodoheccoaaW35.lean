/-
  Walks: what each function returns, and that it leaves what lay in memory as it was.
-/
import Derived.Test.YtnphoodoheccoaaProg
import Derived.Test.YtnphoodoheccoaaPlain
import Derived.Test.YtnphoodoheccoaaBase2
import Derived.Test.YtnphoodoheccoaaOpen2
import Derived.Test.YtnphoodoheccoaaShelf
import Derived.WalkKit
import Derived.WalkSpells
import Derived.WalkLawsBesides
import Derived.Lib.Hide
import Derived.Deep.LoopGhost
import Derived.Deep.QuietTactic
import Derived.BigQuiet
import Derived.Handy
import Derived.Deep.RegionHeld3
import Derived.StillTailTactics
import Derived.OpenShut
import Derived.ChangeSame
import Derived.Laws.StructEq

import Derived.Test.YtnphoodoheccoaaPlainT

import Derived.Test.YtnphoodoheccoaaW1

import Derived.Test.YtnphoodoheccoaaW9

import Derived.Test.YtnphoodoheccoaaW21

import Derived.Test.YtnphoodoheccoaaW22

import Derived.Test.YtnphoodoheccoaaW24

import Derived.Test.YtnphoodoheccoaaW25

import Derived.Test.YtnphoodoheccoaaW30

import Derived.Test.YtnphoodoheccoaaW31

import Derived.Test.YtnphoodoheccoaaW32

import Derived.Test.YtnphoodoheccoaaW33

import Derived.Test.YtnphoodoheccoaaW34

namespace Go.Proofs.Ytnphoodoheccoaa
open Go.ChangeShapes Go.WideShapes Go.ChangeAt Go.RowKit Go.Deep
set_option linter.unusedVariables false
set_option linter.unusedSimpArgs false

set_option maxRecDepth 20000

theorem dec_Byte {H : Type} {enc0 : TypeId × Value → H} {w : World} {base : Nat} {spare : Nat → Bool} {held : Bool} (n : Nat) (cs : List Value) (x : DataW H × List MemPlace)
    (h : DataW.trod enc0 Try.prog w base spare held n 5 cs = some x) : ∃ y : UInt8, cs = encB y ∧ True := by
  obtain ⟨a, h1, _, hw⟩ := DataW.trod_int Try.underlying5 h
  have h : 0 ≤ a ∧ a < 256 := by simp [Lit.wf, IntKind.min, IntKind.max, IntKind.signed, IntKind.bits] at hw; omega
  refine ⟨UInt8.ofNat a.toNat, ?_, trivial⟩
  rw [h1]
  have h2 : (UInt8.ofNat a.toNat).toNat = a.toNat := UInt8.toNat_ofNat_of_lt' (by show a.toNat < 256; omega)
  show [Value.int .u8 a] = [Value.int .u8 ((UInt8.ofNat a.toNat).toNat : Int)]
  rw [h2, Int.toNat_of_nonneg h.1]
set_option maxRecDepth 20000 in
/-- Bytes that came in. -/
theorem open_Bytes {H : Type} {enc0 : TypeId × Value → H} {w : World} {base b0 : Nat} {r : Reach} {spare : Nat → Bool} {held : Bool} {v : Value} {d : DataW H} {p : List MemPlace}
    (o : Value.okWide Try.prog w r b0 22 v) (h : DataW.Trod enc0 Try.prog w base spare held 22 v d p) :
    ∃ (A : Option Addr) (n c : Nat) (xs : List UInt8), v = .slice A n c ∧ Rd encB 1 w A n xs ∧ n ≤ 9223372036854775807 := by
  obtain ⟨A, n, c, xs, rfl, h, hc, hm, hN⟩ := open_rd encB (fun _ => True) 1 Try.underlying22 o h (by kernel_rfl) (by omega) (fun _ => rfl) (fun n cs x hx => dec_Byte n cs x hx)
  exact ⟨A, n, c, xs, rfl, h, by unfold maxLen at hm; omega⟩
theorem laws_big (A : Option Addr) (n c : Nat) (w : World) (hn : n ≤ 9223372036854775807) :
    Calls Try.prog 5 #[.slice A n c] w fun e w' => e = .returned (.bool (decide (1048576 < n))) ∧ w = w' := by
  by_cases h : 1048576 < n
  · go_enter Try.func5, Try.ntmps5
    go_wp2
    go_ret
    exact ⟨by simp [h]; try omega, rfl⟩
  · go_enter Try.func5, Try.ntmps5
    go_wp2
    go_ret
    exact ⟨by simp [h]; try omega, rfl⟩

def metTo (x : Filter) (rs : List (Scope × Hd)) (sel name : ByteArray) (ev : Int) (k : Nat) : Bool := x.on && (rs.take k).any (fun q => admit1 sel name ev q.1)
theorem metTo_succ {x : Filter} {rs : List (Scope × Hd)} {sel name : ByteArray} {ev : Int} {k : Nat} {q : Scope × Hd} (h : rs[k]? = some q) : metTo x rs sel name ev (k + 1) = (metTo x rs sel name ev k || (x.on && admit1 sel name ev q.1)) := by
  unfold metTo
  rw [take_snoc h, List.any_append]
  cases x.on <;> simp
theorem metTo_all {x : Filter} {rs : List (Scope × Hd)} {sel name : ByteArray} {ev : Int} (hm : rs.map Prod.fst = x.scopes) : metTo x rs sel name ev rs.length = admits x sel name ev := by
  unfold metTo
  rw [List.take_of_length_le (Nat.le_refl _)]
  cases h : x.on
  · rw [admits_off h]; rfl
  · rw [admits_on h hm]; rfl
set_option maxHeartbeats 3200000 in
set_option maxRecDepth 20000 in
theorem walk_FnAdmits {H : Type} {enc0 : TypeId × Value → H} {base : Nat} {d0 : DataW H} {p0 : List MemPlace} (v0 : Value) (w : World) (o0 : Value.okWide Try.prog w .any base 22 v0) (k0 : DataW.Trod enc0 Try.prog w 0 (fun _ => true) true 22 v0 d0 p0) (hS : w.ShapedOpen Try.prog) :
    Calls Try.prog 3 #[v0] w fun e w' => e = .returned (.bool true) ∧ Below w.heap.size w w' := by
  obtain ⟨A0, n0, c0, ys0, rfl, h0, hn0⟩ := open_Bytes o0 k0
  have HM := Lib.hid (ML.of_shaped hS)
  clear o0 k0 hS
  by_cases hbig : 1048576 < n0
  · have hd : decide (1048576 < n0) = true := by simpa using hbig
    have C := Lib.hid (laws_big A0 n0 c0 w hn0)
    rw [hd] at C
    clear h0
    go_enter Try.func3, Try.ntmps3
    go_wp2_with fail
    refine C.out.mono ?_
    rintro e z ⟨rfl, rfl⟩
    go_wp2
    go_ret
    exact ⟨rfl, Below.refl _ _⟩
  have hd : decide (1048576 < n0) = false := by simpa using hbig
  have C := Lib.hid (laws_big A0 n0 c0 w hn0)
  rw [hd] at C
  have D := Lib.hid (spec_DrawAdmits A0 n0 c0 ys0 w (by omega) h0)
  clear h0
  go_enter Try.func3, Try.ntmps3
  go_wp2_with fail
  refine C.out.mono ?_
  rintro e z ⟨rfl, rfl⟩
  go_wp2_with fail
  refine D.out.mono ?_
  rintro e w1 ⟨⟨x, h, sel, name, ev, rfl, ho, hf, hs1, hs2⟩, hb1⟩
  obtain ⟨A, n, c, rs⟩ := h
  obtain rfl : n = rs.length := ho.2.1.symm
  have hal : Below w1.heap.size w1 (w1.alloc (.cells #[.bool x.on, .slice A rs.length c] 26)) := (Below.refl _ _).alloc (Nat.le_refl _) _
  have nP : Holds (w1.alloc (.cells #[.bool x.on, .slice A rs.length c] 26)) w1.heap.size [.bool x.on, .slice A rs.length c] := Holds.new w1 _ _
  have nI := ho.is.below hal
  have nB := hb1.trans (hal.mono hb1.size)
  have HF := Lib.hid hf
  obtain ⟨R, hR⟩ : ∃ R, admits x sel name ev = R := ⟨_, rfl⟩
  have HR := Lib.hid hR
  have hrl : rs.length ≤ 1048576 := ho.2.2.1
  clear ho hal hb1 hf D C hR
  simp only []
  go_wp2_with fail
  generalize w1.alloc (.cells #[.bool x.on, .slice A rs.length c] 26) = W1 at *
  generalize w1.heap.size = X at *
  have HM1 := Lib.hid (HM.out.below nB)
  have HB1 := Lib.hid nB
  have HP := Lib.hid nP
  have HI := Lib.hid nI
  clear nB nP nI
  refine (impl_Admits x ⟨A, rs.length, c, rs⟩ sel name ev W1 (by omega) (by omega) HI.out HF.out HM1.out).mono ?_
  rintro e w2 ⟨rfl, hb2⟩
  rw [HR.out]
  have HB2 := Lib.hid hb2
  have p0 := (HP.out.below hb2).2 0 (.bool x.on) rfl
  have p1 := (HP.out.below hb2).2 1 (.slice A rs.length c) rfl
  clear hb2
  go_wp2_with fail
  refine (spec_Admits x ⟨A, rs.length, c, rs⟩ sel name ev w2 (by omega) (by omega) (HI.out.below HB2.out) HF.out).mono ?_
  rintro e w3 ⟨rfl, hb3⟩
  rw [HR.out]
  have HB3 := Lib.hid (HB2.out.trans (hb3.mono HB2.out.size))
  clear hb3 p0 p1 HB2
  cases R
  all_goals
    go_wp2_with fail
    go_loopw [8, 9] (fun m i wr => ∃ (k : Nat) (M : Bool), k ≤ rs.length ∧ i = .int .i64 k ∧ m = .bool M ∧ Hid (metTo x rs sel name ev k = M) ∧ Below W1.heap.size W1 wr) (fun _ i _ => rs.length - (intOf i).toNat)
    case atStart => exact ⟨0, false, Nat.zero_le _, rfl, rfl, Lib.hid (by unfold metTo; simp), HB3.out⟩
    case round =>
      obtain ⟨k, M, hk, rfl, rfl, hM, hW⟩ := hrel
      have p0 := (HP.out.below hW).2 0 (.bool x.on) rfl
      have p1 := (HP.out.below hW).2 1 (.slice A rs.length c) rfl
      have HW := Lib.hid hW
      by_cases hlt : k < rs.length
      · have hki : (k : Int) < (rs.length : Int) := by omega
        have hk0 : (0 : Int) ≤ (k : Int) := by omega
        obtain ⟨b, off, q, rfl, _, hx, hc⟩ := (HI.out.1.below hW).elem hlt
        have g0 : wr.cell? ⟨b, off + k * 3, none⟩ = some (.int .i64 q.1.kind) := by simpa using hc 0 _ rfl
        have g1 : wr.cell? ⟨b, off + k * 3 + 1, none⟩ = some (.slice q.2.A q.2.n q.2.c) := hc 1 _ rfl
        have g2 : wr.cell? ⟨b, off + k * 3 + 2, none⟩ = some (.int .i64 q.1.events) := hc 2 _ rfl
        have hqm : q ∈ rs := List.mem_of_getElem? hx
        have hN := metTo_succ (x := x) (sel := sel) (name := name) (ev := ev) hx
        rw [hM.out] at hN
        have HN := Lib.hid hN
        have HQ := Lib.hid (fits_of HF.out HI.out.2.2.2 q hqm)
        have HQI := Lib.hid ((HI.out.2.2.1 q hqm).below hW)
        have HMW := Lib.hid (HM1.out.below hW)
        clear hc hx hW hqm hN hM
        cases M with
        | true =>
          go_wp2
          go_roundw
          case rel => exact ⟨k + 1, true, by omega, by go_num, rfl, Lib.hid (by rw [HN.out]; rfl), HW.out⟩
          case measure => simp [intOf]; omega
        | false =>
          cases hon : x.on with
          | false =>
            rw [hon] at p0
            have HON := Lib.hid hon
            clear hon
            go_wp2
            go_roundw
            case rel => exact ⟨k + 1, false, by omega, by go_num, rfl, Lib.hid (by rw [HN.out, HON.out]; rfl), HW.out⟩
            case measure => simp [intOf]; omega
          | true =>
            rw [hon] at p0
            have HON := Lib.hid hon
            clear hon
            by_cases hz : bits .and .i64 q.1.events ev = 0
            · have HZ := Lib.hid (show admit1 sel name ev q.1 = false by unfold admit1; rw [decide_eq_true hz]; simp)
              have hzb : (bits .and .i64 q.1.events ev == 0) = true := beq_iff_eq.2 hz
              go_wp2
              go_roundw
              case rel => exact ⟨k + 1, false, by omega, by go_num, rfl, Lib.hid (by rw [HN.out, HON.out, HZ.out]; rfl), HW.out⟩
              case measure => simp [intOf]; omega
            · have HZ := Lib.hid (show admit1 sel name ev q.1 = covers q.1 sel name by unfold admit1; rw [decide_eq_false hz]; simp)
              have hzb : (bits .and .i64 q.1.events ev == 0) = false := beq_eq_false_iff_ne.2 hz
              go_wp2_with fail
              refine (impl_Covers q.1 q.2 sel name _ (by omega) (by omega) HQI.out HQ.out HMW.out).mono ?_
              obtain ⟨C, hC⟩ : ∃ C, covers q.1 sel name = C := ⟨_, rfl⟩
              rw [hC]
              have HC := Lib.hid hC
              clear hC
              rintro e w5 ⟨rfl, hb5⟩
              have HW5 := Lib.hid (HW.out.trans (hb5.mono HW.out.size))
              clear hb5
              cases C
              all_goals
                go_wp2
                go_roundw
                case rel => exact ⟨k + 1, _, by omega, by go_num, rfl, Lib.hid (by rw [HN.out, HON.out, HZ.out, HC.out]; first | rfl | exact (bne_iff_ne.2 hz).symm), HW5.out⟩
                case measure => simp [intOf]; omega
      · have hki : ¬ (k : Int) < (rs.length : Int) := by omega
        have hke : k = rs.length := by omega
        have hMe := metTo_all (sel := sel) (name := name) (ev := ev) HI.out.2.2.2
        simp only [] at hMe
        rw [← hke, hM.out, HR.out] at hMe
        subst hMe
        clear hM hW
        go_wp2
        go_ret
        exact ⟨rfl, HB1.out.trans (HW.out.mono HB1.out.size)⟩

end Go.Proofs.Ytnphoodoheccoaa
