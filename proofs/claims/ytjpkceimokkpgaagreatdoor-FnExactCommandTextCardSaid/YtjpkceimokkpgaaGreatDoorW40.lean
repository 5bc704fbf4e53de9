/-
  Walks: what each function returns, and that it leaves what lay in memory as it was.
-/
import Derived.Test.YtjpkceimokkpgaaGreatDoorProg
import Derived.Test.YtjpkceimokkpgaaGreatDoorPlain
import Derived.Test.YtjpkceimokkpgaaGreatDoorBase2
import Derived.Test.YtjpkceimokkpgaaGreatDoorOpen2
import Derived.Test.YtjpkceimokkpgaaGreatDoorShelf
import Derived.WalkKit
import Derived.WalkSpells
import Derived.WalkLawsBesides
import Derived.Lib.Hide
import Derived.Deep.LoopGhost
import Derived.Deep.QuietTactic
import Derived.BigQuiet
import Derived.Handy
import Derived.Deep.RegionHeld3
import Derived.StillTailTactics
import Derived.OpenShut
import Derived.ChangeSame
import Derived.Laws.StructEq

import Derived.Test.YtjpkceimokkpgaaGreatDoorPlainT

import Derived.Test.YtjpkceimokkpgaaGreatDoorBase3

import Derived.Lib.ItoaMem
import Derived.Lib.ItoaLen
import Derived.Lib.LaidTab

import Derived.Test.YtjpkceimokkpgaaGreatDoorW1

namespace Go.Proofs.YtjpkceimokkpgaaGreatDoor
open Go.ChangeShapes Go.WideShapes Go.ChangeAt Go.RowKit Go.Deep
set_option linter.unusedVariables false
set_option linter.unusedSimpArgs false

theorem below_grow (w : World) (q : Nat) (os : Array Obj) : Below w.heap.size w (Go.Sort.grow (w.drewN q) os) :=
  ⟨rfl, rfl, rfl, by simp [Go.Sort.grow], fun i hi => by
    show ((w.drewN q).heap ++ os)[i]? = _
    rw [Array.getElem?_append_left (by show i < w.heap.size; omega)]
    rfl⟩

def dig0 (u : Nat) : Str := if u = 0 then [] else Lib.decDigits u
theorem dig0_step {u : Nat} (h : 0 < u) : dig0 u = dig0 (u / 10) ++ [UInt8.ofNat (48 + u % 10)] := by
  unfold dig0
  rw [if_neg (by omega)]
  by_cases h10 : u < 10
  · rw [if_pos (by omega), Lib.decDigits_one h10, Nat.mod_eq_of_lt h10]; rfl
  · rw [if_neg (by omega), Lib.decDigits, dif_neg h10]
theorem dig0_len (u : Nat) (h : u ≤ 9223372036854775808) : (dig0 u).length ≤ 20 := by
  unfold dig0
  split
  · simp
  · rw [Lib.decDigits_length]; exact Lib.nDigits_le20 u (by omega)
theorem itoa_zero : Lib.itoa 0 = [48] := by
  unfold Lib.itoa; rw [if_neg (by omega)]; exact Lib.decDigits_one (by decide)
theorem itoa_pos {u : Nat} (h : 0 < u) : Lib.itoa (u : Int) = dig0 u := by
  rw [Lib.itoa_nonneg]; unfold dig0; rw [if_neg (by omega)]
theorem itoa_min {u : Nat} (h : 0 < u) : Lib.itoa (-(u : Int)) = 45 :: dig0 u := by
  rw [Lib.itoa_neg u h]; unfold dig0; rw [if_neg (by omega)]
theorem dig_byte (u : Nat) : ((UInt8.ofNat (48 + u % 10)).toNat : Int) = 48 + ((u % 10 : Nat) : Int) := by
  have : 48 + u % 10 < 256 := by omega
  rw [UInt8.toNat_ofNat_of_lt' this]; omega
theorem bytes_cat (b : UInt8) (l : Str) : ({ data := #[b] } : ByteArray) ++ ⟨l.toArray⟩ = ⟨(b :: l).toArray⟩ := by
  rw [str_eq (s := ({ data := #[b] } : ByteArray) ++ ⟨l.toArray⟩) (l := b :: l) (by simp)]
theorem wrap_dig (u : Nat) : IntKind.u8.wrap (48 + ((u % 10 : Nat) : Int)) = ((UInt8.ofNat (48 + u % 10)).toNat : Int) := by
  rw [dig_byte]
  simp only [IntKind.wrap, IntKind.min, IntKind.max, IntKind.bits, IntKind.signed]
  simp
  omega
theorem impl_Digits (n : Int) (w : World) (h0 : -9223372036854775808 ≤ n) (h1 : n ≤ 9223372036854775807) (htab : Lib.TabIs Tryz.prog w "internal/strconv.uint64pow10" .u64 Lib.pow10Tab) :
    Calls Tryz.prog 109 #[.int .i64 n] w fun e w' => e = .returned (.string ⟨(Lib.itoa n).toArray⟩) ∧ Below w.heap.size w w' := by
  have HC := Lib.hid (Tryz.strconv_Itoa n h0 h1 w htab)
  clear htab
  go_enter Tryz.func109, Tryz.ntmps109
  go_wp2_with fail
  refine HC.out.mono ?_
  rintro e w1 ⟨rfl, k, os, rfl⟩
  have HB := Lib.hid (below_grow w k os)
  clear HC
  generalize Go.Sort.grow (w.drewN k) os = w1 at *
  go_wp2
  go_ret
  exact ⟨rfl, HB.out⟩
set_option maxHeartbeats 1600000 in
theorem spec_Digits (n : Int) (w : World) (h0 : -9223372036854775808 ≤ n) (h1 : n ≤ 9223372036854775807) :
    Calls Tryz.prog 97 #[.int .i64 n] w fun e w' => e = .returned (.string ⟨(Lib.itoa n).toArray⟩) ∧ Below w.heap.size w w' := by
  by_cases hz : n = 0
  · subst hz
    have HZ := Lib.hid itoa_zero
    go_enter Tryz.func97, Tryz.ntmps97
    go_wp2
    go_ret
    exact ⟨ret_s (by rw [HZ.out]), by go_grown⟩
  · have hzb : (n == 0) = false := beq_eq_false_iff_ne.2 hz
    by_cases hneg : n < 0
    · obtain ⟨U, hUn, hU⟩ : ∃ U : Nat, n = -(U : Int) ∧ 0 < U := ⟨n.natAbs, by omega, by omega⟩
      have hU9 : U ≤ 9223372036854775808 := by omega
      have HI := Lib.hid (show Lib.itoa n = 45 :: dig0 U by rw [hUn]; exact itoa_min hU)
      have hnd : decide (n < 0) = true := decide_eq_true (by omega)
      have HUn := Lib.hid hUn
      clear hUn
      go_enter Tryz.func97, Tryz.ntmps97
      go_wp2_with fail
      go_loopw [0, 4] (fun a o wr => ∃ (u : Nat) (m : Int) (l : Str), u ≤ U ∧ a = .int .i64 m ∧ Hid (m = -(u : Int)) ∧ o = .string ⟨l.toArray⟩ ∧ Hid (dig0 U = dig0 u ++ l) ∧ l.length ≤ 20 ∧ Below w.heap.size w wr) (fun a _ _ => (intOf a).natAbs)
      case atStart => exact ⟨U, n, [], Nat.le_refl _, rfl, HUn.out, rfl, Lib.hid (by simp), by simp, Below.refl _ _⟩
      case round =>
        obtain ⟨u, m, l, hu, rfl, hm, rfl, hd, hll, hW⟩ := hrel
        obtain ⟨zl, hzl⟩ : ∃ z : ByteArray, (⟨l.toArray⟩ : ByteArray) = z := ⟨_, rfl⟩
        have HZ := Lib.hid hzl
        have hle : zl.size ≤ 20 := by rw [← hzl]; show l.toArray.size ≤ _; simpa using hll
        rw [hzl]
        have HW := Lib.hid hW
        have hsz := hW.size
        clear hW
        by_cases hu0 : u = 0
        · have hm0 : m = 0 := by have := hm.out; omega
          subst hm0
          have HF := Lib.hid (show ({ data := #[45] } : ByteArray) ++ zl = ⟨(Lib.itoa n).toArray⟩ by rw [HI.out, hd.out, hu0, ← hzl, bytes_cat]; rfl)
          clear hzl hd hm hu0
          go_wp2
          go_ret
          exact ⟨ret_s HF.out, HW.out⟩
        · have hm0 : (m != 0) = true := bne_iff_ne.2 (by have := hm.out; omega)
          obtain ⟨d, hdm⟩ : ∃ d, m.tmod 10 = d := ⟨_, rfl⟩
          obtain ⟨q, hq⟩ : ∃ q, m.tdiv 10 = q := ⟨_, rfl⟩
          have HD := Lib.hid (show d = -((u % 10 : Nat) : Int) by rw [← hdm, hm.out]; rw [Int.neg_tmod]; rfl)
          have HQ := Lib.hid (show q = -((u / 10 : Nat) : Int) by rw [← hq, hm.out]; rw [Int.neg_tdiv]; rfl)
          have HS := Lib.hid (show dig0 U = dig0 (u / 10) ++ (UInt8.ofNat (48 + u % 10) :: l) by rw [hd.out, dig0_step (by omega), List.append_assoc]; rfl)
          have hl2 : (UInt8.ofNat (48 + u % 10) :: l).length ≤ 20 := by
            have h1 := congrArg List.length HS.out
            have h2 := dig0_len U hU9
            rw [List.length_append] at h1
            omega
          have HW8 := Lib.hid (wrap_dig u)
          have HCat := Lib.hid (bytes_cat (UInt8.ofNat (48 + u % 10)) l)
          generalize hb : UInt8.ofNat (48 + u % 10) = b at *
          have hmm := hm.out
          have hqb : -9223372036854775808 ≤ q ∧ q ≤ 9223372036854775807 := by rw [HQ.out]; omega
          by_cases hd0 : d < 0
          · have hwf : IntKind.u8.wrap (48 + -d) = (b.toNat : Int) := by rw [← HW8.out, HD.out]; congr 1; omega
            have hwf2 : IntKind.u8.wrap (48 + (0 - d)) = (b.toNat : Int) := by rw [← HW8.out, HD.out]; congr 1; omega
            have hdr : -10 < d := by rw [HD.out]; omega
            skip
            have hcv := run_ofBytes (P := Tryz.prog) 88 9 5 Tryz.underlying88 Tryz.underlying5 Tryz.underlying9 (Rd.new (enc := encB) (k := 1) (fun _ => rfl) wr #[.int .u8 (b.toNat : Int)] 5 (n := 1) [b] rfl rfl) 1
            have HB := Lib.hid (HW.out.alloc hsz (.cells #[.int .u8 (b.toNat : Int)] 5))
            clear hzl hd hmm hb
            go_wp2
            go_roundw
            case rel => exact ⟨u / 10, q, b :: l, by omega, rfl, HQ.out, by rw [← HCat.out, ← HZ.out], HS.out, hl2, HB.out⟩
            case measure => simp only [intOf]; have h1 := HQ.out; have h2 := hm.out; omega
          · have hwf : IntKind.u8.wrap (48 + d) = (b.toNat : Int) := by rw [← HW8.out]; congr 1; have := HD.out; omega
            have hdr : d < 10 := by rw [HD.out]; omega
            skip
            have hcv := run_ofBytes (P := Tryz.prog) 88 9 5 Tryz.underlying88 Tryz.underlying5 Tryz.underlying9 (Rd.new (enc := encB) (k := 1) (fun _ => rfl) wr #[.int .u8 (b.toNat : Int)] 5 (n := 1) [b] rfl rfl) 1
            have HB := Lib.hid (HW.out.alloc hsz (.cells #[.int .u8 (b.toNat : Int)] 5))
            clear hzl hd hmm hb
            go_wp2
            go_roundw
            case rel => exact ⟨u / 10, q, b :: l, by omega, rfl, HQ.out, by rw [← HCat.out, ← HZ.out], HS.out, hl2, HB.out⟩
            case measure => simp only [intOf]; have h1 := HQ.out; have h2 := hm.out; omega
    · obtain ⟨U, hUn, hU⟩ : ∃ U : Nat, n = (U : Int) ∧ 0 < U := ⟨n.natAbs, by omega, by omega⟩
      have hU9 : U ≤ 9223372036854775808 := by omega
      have HI := Lib.hid (show Lib.itoa n = dig0 U by rw [hUn]; exact itoa_pos hU)
      have hnd : decide (n < 0) = false := decide_eq_false (by omega)
      have HUn := Lib.hid hUn
      clear hUn
      go_enter Tryz.func97, Tryz.ntmps97
      go_wp2_with fail
      go_loopw [0, 4] (fun a o wr => ∃ (u : Nat) (m : Int) (l : Str), u ≤ U ∧ a = .int .i64 m ∧ Hid (m = (u : Int)) ∧ o = .string ⟨l.toArray⟩ ∧ Hid (dig0 U = dig0 u ++ l) ∧ l.length ≤ 20 ∧ Below w.heap.size w wr) (fun a _ _ => (intOf a).natAbs)
      case atStart => exact ⟨U, n, [], Nat.le_refl _, rfl, HUn.out, rfl, Lib.hid (by simp), by simp, Below.refl _ _⟩
      case round =>
        obtain ⟨u, m, l, hu, rfl, hm, rfl, hd, hll, hW⟩ := hrel
        obtain ⟨zl, hzl⟩ : ∃ z : ByteArray, (⟨l.toArray⟩ : ByteArray) = z := ⟨_, rfl⟩
        have HZ := Lib.hid hzl
        have hle : zl.size ≤ 20 := by rw [← hzl]; show l.toArray.size ≤ _; simpa using hll
        rw [hzl]
        have HW := Lib.hid hW
        have hsz := hW.size
        clear hW
        by_cases hu0 : u = 0
        · have hm0 : m = 0 := by have := hm.out; omega
          subst hm0
          have HF := Lib.hid (show zl = ⟨(Lib.itoa n).toArray⟩ by rw [HI.out, hd.out, hu0, ← hzl]; rfl)
          clear hzl hd hm hu0
          go_wp2
          go_ret
          exact ⟨ret_s HF.out, HW.out⟩
        · have hm0 : (m != 0) = true := bne_iff_ne.2 (by have := hm.out; omega)
          obtain ⟨d, hdm⟩ : ∃ d, m.tmod 10 = d := ⟨_, rfl⟩
          obtain ⟨q, hq⟩ : ∃ q, m.tdiv 10 = q := ⟨_, rfl⟩
          have HD := Lib.hid (show d = ((u % 10 : Nat) : Int) by rw [← hdm, hm.out]; rfl)
          have HQ := Lib.hid (show q = ((u / 10 : Nat) : Int) by rw [← hq, hm.out]; rfl)
          have HS := Lib.hid (show dig0 U = dig0 (u / 10) ++ (UInt8.ofNat (48 + u % 10) :: l) by rw [hd.out, dig0_step (by omega), List.append_assoc]; rfl)
          have hl2 : (UInt8.ofNat (48 + u % 10) :: l).length ≤ 20 := by
            have h1 := congrArg List.length HS.out
            have h2 := dig0_len U hU9
            rw [List.length_append] at h1
            omega
          have HW8 := Lib.hid (wrap_dig u)
          have HCat := Lib.hid (bytes_cat (UInt8.ofNat (48 + u % 10)) l)
          generalize hb : UInt8.ofNat (48 + u % 10) = b at *
          have hmm := hm.out
          have hqb : -9223372036854775808 ≤ q ∧ q ≤ 9223372036854775807 := by rw [HQ.out]; omega
          have hd0 : ¬ d < 0 := by rw [HD.out]; omega
          have hwf : IntKind.u8.wrap (48 + d) = (b.toNat : Int) := by rw [← HW8.out]; congr 1; have := HD.out; omega
          have hdr : d < 10 := by rw [HD.out]; omega
          skip
          have hcv := run_ofBytes (P := Tryz.prog) 88 9 5 Tryz.underlying88 Tryz.underlying5 Tryz.underlying9 (Rd.new (enc := encB) (k := 1) (fun _ => rfl) wr #[.int .u8 (b.toNat : Int)] 5 (n := 1) [b] rfl rfl) 1
          have HB := Lib.hid (HW.out.alloc hsz (.cells #[.int .u8 (b.toNat : Int)] 5))
          clear hzl hd hmm hb
          go_wp2
          go_roundw
          case rel => exact ⟨u / 10, q, b :: l, by omega, rfl, HQ.out, by rw [← HCat.out, ← HZ.out], HS.out, hl2, HB.out⟩
          case measure => simp only [intOf]; have h1 := HQ.out; have h2 := hm.out; omega

end Go.Proofs.YtjpkceimokkpgaaGreatDoor
