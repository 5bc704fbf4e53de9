/-
  Walks: what each function returns, and that it leaves what lay in memory as it was.
-/
import Derived.Test.YtgdebejmcfcpgaaDoorProg
import Derived.Test.YtgdebejmcfcpgaaDoorPlain
import Derived.Test.YtgdebejmcfcpgaaDoorBase2
import Derived.Test.YtgdebejmcfcpgaaDoorOpen2
import Derived.Test.YtgdebejmcfcpgaaDoorShelf
import Derived.WalkKit
import Derived.WalkSpells
import Derived.WalkLawsBesides
import Derived.Lib.Hide
import Derived.Deep.LoopGhost
import Derived.Deep.QuietTactic
import Derived.BigQuiet
import Derived.Handy
import Derived.Deep.RegionHeld3
import Derived.StillTailTactics
import Derived.OpenShut
import Derived.ChangeSame
import Derived.Laws.StructEq

import Derived.Test.YtgdebejmcfcpgaaDoorPlainT

import Derived.Test.YtgdebejmcfcpgaaDoorW1

import Derived.Test.YtgdebejmcfcpgaaDoorW2

import Derived.Test.YtgdebejmcfcpgaaDoorW3

namespace Go.Proofs.YtgdebejmcfcpgaaDoor
open Go.ChangeShapes Go.WideShapes Go.ChangeAt Go.RowKit Go.Deep
set_option linter.unusedVariables false
set_option linter.unusedSimpArgs false

set_option maxRecDepth 20000

theorem spec_l1Hex (d : Nat) (w : World) (hd : d < 16) :
    Calls Tryd.prog 59 #[.int .u8 (d : Int)] w fun e w' => e = .returned (.int .u8 ((Lib.Hx.digit d).toNat : Int)) ∧ w = w' := by
  by_cases h : d < 10
  · have e := Lib.hid (hexDigit_low d h)
    have h' : (d : Int) < 10 := by omega
    go_enter Tryd.func59, Tryd.ntmps59
    go_wp2
    go_ret
    exact ⟨ret_i e.out.symm, rfl⟩
  · have e := Lib.hid (hexDigit_high d hd h)
    have h' : ¬ (d : Int) < 10 := by omega
    go_enter Tryd.func59, Tryd.ntmps59
    go_wp2
    go_ret
    exact ⟨ret_i e.out.symm, rfl⟩
theorem wrap_u8_div (b : UInt8) : IntKind.u8.wrap ((b.toNat : Int) / 16) = (b.toNat : Int) / 16 := by
  have := u8_lt b
  simp only [IntKind.wrap, IntKind.min, IntKind.max, IntKind.bits, IntKind.signed]
  simp
  omega
theorem tmod_u8 (b : UInt8) : ((b.toNat : Int)).tmod 16 = (b.toNat : Int) % 16 := by
  rw [Int.tmod_eq_emod_of_nonneg (by omega)]
set_option maxHeartbeats 1600000 in
theorem spec_Hex (s : ByteArray) (w : World) (hs : s.size ≤ 1099511627776) :
    Calls Tryd.prog 37 #[.string s] w fun e w' => e = .returned (.string ⟨(Lib.Hx.encode s.data.toList).toArray⟩) ∧ Below w.heap.size w w' := by
  have HL := Lib.hid (size_len s)
  have hnew := World.ownsRow_made (base := w.heap.size) (e := 5) (size := 1) w #[] 0 (Nat.le_refl _) (by unfold maxLen; omega) rfl
  go_enter Tryd.func37, Tryd.ntmps37
  go_wp2_with fail
  go_loopw [3, 4] (fun o i wr => ∃ (k : Nat) (l : List UInt8), k ≤ s.size ∧ i = .int .i64 k ∧ l = Lib.Hx.encode (s.data.toList.take k) ∧ l.length = 2 * k ∧ wr.ownsRow w.heap.size 5 1 o l.length (l.flatMap encB) ∧ Below w.heap.size w wr) (fun _ i _ => s.size - (intOf i).toNat)
  case atStart => exact ⟨0, [], by omega, rfl, rfl, rfl, hnew, (Below.refl _ _).alloc (Nat.le_refl _) _⟩
  case round =>
    obtain ⟨k, l, hk, rfl, hl, hll, hown, hW⟩ := hrel
    clear hnew
    by_cases hlt : k < s.size
    · have hlt' : k < s.data.toList.length := by rw [← HL.out]; exact hlt
      have hnext := hexEnc_take hlt'
      rw [← hl] at hnext
      have Hnext := Lib.hid hnext
      have hc : (s[k].toNat : Int) = ((s.data.toList[k]).toNat : Int) := rfl
      clear hnext
      have hown2 : ∀ b1 b2 : UInt8, (wr.drew.alloc (.cells #[.int .u8 (b1.toNat : Int), .int .u8 (b2.toNat : Int)] 5)).ownsRow w.heap.size 5 1 u3 l.length (l.flatMap encB) := fun b1 b2 => hown.alloc (.cells #[.int .u8 (b1.toNat : Int), .int .u8 (b2.toNat : Int)] 5)
      have hrd : ∀ b1 b2 : UInt8, Rd encB 1 (wr.drew.alloc (.cells #[.int .u8 (b1.toNat : Int), .int .u8 (b2.toNat : Int)] 5)) (some ⟨wr.heap.size, 0, none⟩) 2 [b1, b2] := fun b1 b2 => Rd.new (enc := encB) (k := 1) (fun _ => rfl) wr.drew _ 5 (n := 2) [b1, b2] rfl rfl
      have Hown2 := Lib.hid hown2
      have Hrd := Lib.hid hrd
      clear hown2 hrd hown
      have hsz := hW.size
      have hq1 : s[k].toNat / 16 < 16 := by have := u8_lt s[k]; omega
      have hq2 : s[k].toNat % 16 < 16 := by omega
      have hc1 := fun W => spec_l1Hex (s[k].toNat / 16) W hq1
      have hc2 := fun W => spec_l1Hex (s[k].toNat % 16) W hq2
      have hat : s.data.toList[k] = s[k] := rfl
      rw [hat] at Hnext
      generalize Lib.Hx.digit (s[k].toNat / 16) = d1 at *
      generalize Lib.Hx.digit (s[k].toNat % 16) = d2 at *
      have Ho := Lib.hid (Hown2.out d1 d2)
      have Hr := Lib.hid (Hrd.out d1 d2)
      clear Hown2 Hrd
      go_wp2_with fail
      go_region_law (first | (refine step_app (enc := encB) (k := 1) (fun _ => rfl) (fun _ u hu => by simp at hu; subst hu; rfl) (by omega) rfl (.tmp 12) (.tmp 23) 22 5 rfl (.int .u8 0) 1 Tryd.underlying22 (by kernel_rfl) rfl w.heap.size u3 l (by simp [Act.eval, Act.put]) Ho.out (some ⟨wr.heap.size, 0, none⟩) 2 2 [d1, d2] (by simp [Act.eval, Act.put]) Hr.out (by omega) (by omega) (by simp; omega) ?_; intro v' w' hown' hbel') | (refine step_call rfl 59 #[.tmp 16] _ rfl (enters_of Tryd.func59 (by kernel_rfl) rfl) #[.int .u8 ((s[k].toNat / 16 : Nat) : Int)] (by simp [Act.eval, Act.put]; exact wrap_u8_div _) (hc1 _) ?_; rintro e w' ⟨rfl, rfl⟩; refine ⟨_, rfl, ?_⟩) | (refine step_call rfl 59 #[.tmp 21] _ rfl (enters_of Tryd.func59 (by kernel_rfl) rfl) #[.int .u8 ((s[k].toNat % 16 : Nat) : Int)] (by simp [Act.eval, Act.put]; exact tmod_u8 _) (hc2 _) ?_; rintro e w' ⟨rfl, rfl⟩; refine ⟨_, rfl, ?_⟩))
      all_goals
        have HB := Lib.hid ((hW.drew.alloc (by simpa using hsz) _).trans hbel')
        have Hw := Lib.hid hown'
        clear hbel' hown' Ho Hr
        go_wp2
        go_roundw
        case rel => exact ⟨k + 1, l ++ [d1, d2], by omega, by go_num, Hnext.out.symm, by simp; omega, Hw.out, HB.out⟩
        case measure => simp [intOf]; omega
    · have hke : k = s.size := by omega
      subst hke
      rw [List.take_of_length_le (by rw [HL.out]; exact Nat.le_refl _)] at hl
      have Hl := Lib.hid hl
      obtain ⟨A, c, rfl⟩ := own_form hown
      have hcv := run_ofBytes (P := Tryd.prog) 22 9 5 Tryd.underlying22 Tryd.underlying5 Tryd.underlying9 (Rd.of_own (enc := encB) (k := 1) (fun _ => rfl) hown rfl) c
      clear hl hown hll
      go_wp2
      go_ret
      exact ⟨ret_s (by rw [Hl.out]), hW⟩
set_option maxHeartbeats 800000 in
theorem impl_Hex (s : ByteArray) (w : World) (hs : s.size ≤ 1099511627776) :
    Calls Tryd.prog 9 #[.string s] w fun e w' => e = .returned (.string ⟨(Lib.Hx.encode s.data.toList).toArray⟩) ∧ Below w.heap.size w w' := by
  have HL := Lib.hid (size_len s)
  go_enter Tryd.func9, Tryd.ntmps9
  go_wp2_with (refine wpList_toBytes rfl 9 22 5 _ rfl Tryd.underlying9 Tryd.underlying22 Tryd.underlying5 s rfl ?_; intro w1 g cap hbuf hbel hg hcap)
  go_wp2_with fail
  have hc := Tryd.hex_EncodeToString_bytes g 0 cap s.data.toList w1 (fun i h => by
    rw [Nat.zero_add]
    have := flat_get (enc := encB) (k := 1) (fun _ => rfl) s.data.toList i 0 _ _ (List.getElem?_eq_getElem h) rfl
    exact hbuf.cell (by simpa using this)) hbuf.lt (by rw [← HL.out]; omega)
  rw [← HL.out] at hc
  refine hc.mono ?_
  rintro e w2 ⟨rfl, hb2⟩
  have HB := Lib.hid (hbel.trans (hb2.mono hbel.size))
  clear hb2 hc hbuf hbel
  go_wp2
  go_ret
  exact ⟨rfl, HB.out⟩

def half (c : UInt8) : Option Nat := if 48 ≤ c.toNat ∧ c.toNat ≤ 57 then some (c.toNat - 48) else if 97 ≤ c.toNat ∧ c.toNat ≤ 102 then some (c.toNat - 87) else none
def unhex : Str → Option Str
  | [] => some []
  | [_] => none
  | p :: q :: t =>
    match half p, half q with
    | some a, some b => (unhex t).map (UInt8.ofNat (a * 16 + b) :: ·)
    | _, _ => none
theorem half_v (c : UInt8) : (half c = some (Lib.Hx.v c) ∧ Lib.Hx.v c ≤ 15 ∧ Lib.Hx.digit (Lib.Hx.v c) = c) ∨ (half c = none ∧ (15 < Lib.Hx.v c ∨ ¬ Lib.Hx.digit (Lib.Hx.v c) = c)) := by
  have h := u8_all (fun c => decide ((half c = some (Lib.Hx.v c) ∧ Lib.Hx.v c ≤ 15 ∧ Lib.Hx.digit (Lib.Hx.v c) = c) ∨ (half c = none ∧ (15 < Lib.Hx.v c ∨ ¬ Lib.Hx.digit (Lib.Hx.v c) = c)))) (by decide +kernel) c
  exact of_decide_eq_true h
theorem enc_two (a b : Nat) (ha : a ≤ 15) (hb : b ≤ 15) (l : Str) : Lib.Hx.encode (UInt8.ofNat (a * 16 + b) :: l) = Lib.Hx.digit a :: Lib.Hx.digit b :: Lib.Hx.encode l := by
  have hlt : a * 16 + b < 256 := by omega
  have e : (UInt8.ofNat (a * 16 + b)).toNat = a * 16 + b := UInt8.toNat_ofNat_of_lt' hlt
  show Lib.Hx.digit ((UInt8.ofNat (a * 16 + b)).toNat / 16) :: Lib.Hx.digit ((UInt8.ofNat (a * 16 + b)).toNat % 16) :: Lib.Hx.encode l = _
  rw [e, show (a * 16 + b) / 16 = a by omega, show (a * 16 + b) % 16 = b by omega]
/-- The program's way: decoded well, and encoded again it is the text. -/
theorem unhex_dec : ∀ l : Str, ((Lib.Hx.decode l).2 = .ok ∧ Lib.Hx.encode (Lib.Hx.decode l).1 = l ∧ unhex l = some (Lib.Hx.decode l).1) ∨ (unhex l = none ∧ ((Lib.Hx.decode l).2 ≠ .ok ∨ Lib.Hx.encode (Lib.Hx.decode l).1 ≠ l))
  | [] => by left; exact ⟨by rw [Lib.Hx.decode_nil], by rw [Lib.Hx.decode_nil]; rfl, by rw [Lib.Hx.decode_nil]; rfl⟩
  | [c] => by
    right
    refine ⟨rfl, Or.inl ?_⟩
    rw [Lib.Hx.decode_one]
    split <;> simp
  | p :: q :: t => by
    rcases half_v p with ⟨hp, hp1, hp2⟩ | ⟨hp, hp2⟩
    · rcases half_v q with ⟨hq, hq1, hq2⟩ | ⟨hq, hq2⟩
      · rw [Lib.Hx.decode_two, if_neg (by omega), if_neg (by omega)]
        have hu : unhex (p :: q :: t) = (unhex t).map (UInt8.ofNat (Lib.Hx.v p * 16 + Lib.Hx.v q) :: ·) := by rw [unhex, hp, hq]
        rcases unhex_dec t with ⟨h1, h2, h3⟩ | ⟨h1, h2⟩
        · left
          refine ⟨h1, ?_, ?_⟩
          · rw [enc_two _ _ hp1 hq1, hp2, hq2, h2]
          · rw [hu, h3]; rfl
        · right
          refine ⟨by rw [hu, h1]; rfl, ?_⟩
          rcases h2 with h2 | h2
          · exact Or.inl h2
          · right
            rw [enc_two _ _ hp1 hq1]
            intro e
            injection e with _ e; injection e with _ e
            exact h2 e
      · right
        refine ⟨by rw [unhex, hp, hq], ?_⟩
        rw [Lib.Hx.decode_two, if_neg (by omega)]
        rcases hq2 with hq2 | hq2
        · left; rw [if_pos hq2]; simp
        · by_cases h15 : 15 < Lib.Hx.v q
          · left; rw [if_pos h15]; simp
          · right
            rw [if_neg h15, enc_two _ _ hp1 (by omega)]
            intro e
            injection e with _ e; injection e with e _
            exact hq2 e
    · right
      refine ⟨by rw [unhex, hp], ?_⟩
      rw [Lib.Hx.decode_two]
      rcases hp2 with hp2 | hp2
      · left; rw [if_pos hp2]; simp
      · by_cases h15 : 15 < Lib.Hx.v p
        · left; rw [if_pos h15]; simp
        · rw [if_neg h15]
          by_cases h16 : 15 < Lib.Hx.v q
          · left; rw [if_pos h16]; simp
          · right
            rw [if_neg h16, enc_two _ _ (by omega) (by omega)]
            intro e
            injection e with e _
            exact hp2 e
def unhexOf (l : Str) : Str × Bool := match unhex l with | some r => (r, true) | none => ([], false)
theorem unhex_odd : ∀ l : Str, l.length % 2 = 1 → unhex l = none
  | [], h => by simp at h
  | [_], _ => rfl
  | p :: q :: t, h => by
    have ih := unhex_odd t (by simp at h; omega)
    rw [unhex]
    split
    · rw [ih]; rfl
    · rfl
/-- After k pairs: what is decoded, and what is to be read. -/
theorem unhex_step {l pre : Str} {k : Nat} {p q : UInt8} {a b : Nat} (h : unhex l = (unhex (l.drop (2 * k))).map (pre ++ ·)) (hp : l[2 * k]? = some p) (hq : l[2 * k + 1]? = some q) (ha : half p = some a) (hb : half q = some b) :
    unhex l = (unhex (l.drop (2 * (k + 1)))).map ((pre ++ [UInt8.ofNat (a * 16 + b)]) ++ ·) := by
  rw [h, Lib.Hx.drop2 l k p q hp hq, unhex, ha, hb]
  simp only [Option.map_map]
  congr 1
  funext x
  simp
theorem unhex_stop {l pre : Str} {k : Nat} {p q : UInt8} (h : unhex l = (unhex (l.drop (2 * k))).map (pre ++ ·)) (hp : l[2 * k]? = some p) (hq : l[2 * k + 1]? = some q) (hn : half p = none ∨ half q = none) : unhex l = none := by
  rw [h, Lib.Hx.drop2 l k p q hp hq, unhex]
  rcases hn with hn | hn
  · rw [hn]; rfl
  · rw [hn]; cases half p <;> rfl

def halfI (c : UInt8) : Int := match half c with | some a => (a : Int) | none => -1
theorem halfI_some {c : UInt8} {a : Nat} (h : half c = some a) : halfI c = (a : Int) := by unfold halfI; rw [h]
theorem halfI_none {c : UInt8} (h : half c = none) : halfI c = -1 := by unfold halfI; rw [h]
theorem half_le {c : UInt8} {a : Nat} (h : half c = some a) : a ≤ 15 := by
  unfold half at h
  split at h
  · injection h with h; omega
  · split at h
    · injection h with h; omega
    · cases h
theorem half_dig {c : UInt8} (h1 : 48 ≤ (c.toNat : Int)) (h2 : (c.toNat : Int) ≤ 57) : halfI c = (c.toNat : Int) - 48 := by
  rw [halfI_some (show half c = some (c.toNat - 48) by unfold half; rw [if_pos (by omega)])]; omega
theorem half_let {c : UInt8} (h1 : 97 ≤ (c.toNat : Int)) (h2 : (c.toNat : Int) ≤ 102) : halfI c = (c.toNat : Int) - 97 + 10 := by
  rw [halfI_some (show half c = some (c.toNat - 87) by unfold half; rw [if_neg (by omega), if_pos (by omega)])]; omega
theorem half_no {c : UInt8} (h1 : ¬ (48 ≤ (c.toNat : Int) ∧ (c.toNat : Int) ≤ 57)) (h2 : ¬ (97 ≤ (c.toNat : Int) ∧ (c.toNat : Int) ≤ 102)) : halfI c = -1 :=
  halfI_none (by unfold half; rw [if_neg (by omega), if_neg (by omega)])
theorem wrap_pair {a b : Nat} (ha : a ≤ 15) (hb : b ≤ 15) : IntKind.u8.wrap (16 * (a : Int) + (b : Int)) = ((UInt8.ofNat (a * 16 + b)).toNat : Int) := by
  rw [UInt8.toNat_ofNat_of_lt' (show a * 16 + b < 256 by omega)]
  simp only [IntKind.wrap, IntKind.min, IntKind.max, IntKind.bits, IntKind.signed]
  simp
  omega
theorem bne_of {a b : ByteArray} (h : ¬ a = b) : (a.toList != b.toList) = true := by
  have h1 : (a.toList == b.toList) = false := by rw [ba_beq, decide_eq_false h]
  unfold bne; rw [h1]; rfl
theorem spec_l1Half (c : UInt8) (w : World) :
    Calls Tryd.prog 39 #[.int .u8 (c.toNat : Int)] w fun e w' => e = .returned (.int .i64 (halfI c)) ∧ w = w' := by
  have hc := u8_lt c
  by_cases h1 : 48 ≤ (c.toNat : Int)
  · by_cases h2 : (c.toNat : Int) ≤ 57
    · have HF := Lib.hid (half_dig h1 h2)
      go_enter Tryd.func39, Tryd.ntmps39
      go_wp2
      go_ret
      exact ⟨ret_i HF.out.symm, rfl⟩
    · by_cases h3 : 97 ≤ (c.toNat : Int)
      · by_cases h4 : (c.toNat : Int) ≤ 102
        · have HF := Lib.hid (half_let h3 h4)
          have h2d : decide ((c.toNat : Int) ≤ 57) = false := decide_eq_false h2
          go_enter Tryd.func39, Tryd.ntmps39
          go_wp2
          go_ret
          exact ⟨ret_i HF.out.symm, rfl⟩
        · have HF := Lib.hid (half_no (c := c) (by omega) (by omega))
          have h2d : decide ((c.toNat : Int) ≤ 57) = false := decide_eq_false h2
          have h4d : decide ((c.toNat : Int) ≤ 102) = false := decide_eq_false h4
          go_enter Tryd.func39, Tryd.ntmps39
          go_wp2
          go_ret
          exact ⟨ret_i HF.out.symm, rfl⟩
      · have HF := Lib.hid (half_no (c := c) (by omega) (by omega))
        have h2d : decide ((c.toNat : Int) ≤ 57) = false := decide_eq_false h2
        have h3d : decide (97 ≤ (c.toNat : Int)) = false := decide_eq_false h3
        go_enter Tryd.func39, Tryd.ntmps39
        go_wp2
        go_ret
        exact ⟨ret_i HF.out.symm, rfl⟩
  · have HF := Lib.hid (half_no (c := c) (by omega) (by omega))
    have h1d : decide (48 ≤ (c.toNat : Int)) = false := decide_eq_false h1
    have h3d : decide (97 ≤ (c.toNat : Int)) = false := decide_eq_false (by omega)
    go_enter Tryd.func39, Tryd.ntmps39
    go_wp2
    go_ret
    exact ⟨ret_i HF.out.symm, rfl⟩
set_option maxHeartbeats 1600000 in
set_option maxRecDepth 20000 in
theorem spec_Unhex (s : ByteArray) (w : World) (hs : s.size ≤ 1048576) :
    Calls Tryd.prog 12 #[.string s] w fun e w' => e = .returned (.tuple #[.string ⟨(unhexOf s.data.toList).1.toArray⟩, .bool (unhexOf s.data.toList).2]) ∧ Below w.heap.size w w' := by
  have HL := Lib.hid (size_len s)
  have HDef := Lib.hid (show unhexOf s.data.toList = match unhex s.data.toList with | some r => (r, true) | none => ([], false) from rfl)
  obtain ⟨r, hr⟩ : ∃ r, ((s.size : Int)).tmod 2 = r := ⟨_, rfl⟩
  have HRm := Lib.hid (show r = ((s.size % 2 : Nat) : Int) by rw [← hr]; rfl)
  by_cases hodd : s.size % 2 = 1
  · have hr1 : r = 1 := by rw [HRm.out]; omega
    have HF := Lib.hid (show unhexOf s.data.toList = ([], false) by rw [HDef.out, unhex_odd _ (by rw [← HL.out]; exact hodd)])
    subst hr1
    go_enter Tryd.func12, Tryd.ntmps12
    go_wp2
    go_ret2
    exact ⟨ret_sb (by rw [HF.out]) (by rw [HF.out]), by go_grown⟩
  · have hr1 : r = 0 := by rw [HRm.out]; omega
    subst hr1
    have hnew := World.ownsRow_made (base := w.heap.size) (e := 5) (size := 1) w #[] 0 (Nat.le_refl _) (by unfold maxLen; omega) rfl
    go_enter Tryd.func12, Tryd.ntmps12
    go_wp2_with fail
    go_loopw [4, 5] (fun o i wr => ∃ (k j : Nat) (l : Str), j ≤ s.size ∧ i = .int .i64 (j : Int) ∧ Hid (j = 2 * k) ∧ l.length = k ∧ Hid (unhex s.data.toList = (unhex (s.data.toList.drop (2 * k))).map (l ++ ·)) ∧ wr.ownsRow w.heap.size 5 1 o l.length (l.flatMap encB) ∧ Below w.heap.size w wr) (fun _ i _ => s.size - (intOf i).toNat)
    case atStart => exact ⟨0, 0, [], by omega, rfl, rfl, rfl, Lib.hid (by simp), hnew, (Below.refl _ _).alloc (Nat.le_refl _) _⟩
    case round =>
      obtain ⟨k, j, l, hj, rfl, hjk, hlk, hu, hown, hW⟩ := hrel
      clear hnew
      by_cases hlt : j < s.size
      · have hlt2 : j + 1 < s.size := by have := hjk.out; omega
        have hkb : l.length ≤ 1048576 := by have := hjk.out; omega
        have hjn : (j : Int) < (s.size : Int) := by omega
        have hq1 : s.data.toList[2 * k]? = some s[j] := by
          have h1 : j < s.data.toList.length := by rw [← HL.out]; exact hlt
          rw [← hjk.out, List.getElem?_eq_getElem h1]; rfl
        have hq2 : s.data.toList[2 * k + 1]? = some s[j + 1] := by
          have h1 : j + 1 < s.data.toList.length := by rw [← HL.out]; exact hlt2
          rw [← hjk.out, List.getElem?_eq_getElem h1]; rfl
        have HQ1 := Lib.hid hq1
        have HQ2 := Lib.hid hq2
        have HW := Lib.hid hW
        have hsz := hW.size
        have Hown := Lib.hid hown
        clear hq1 hq2 hW hown
        generalize hp : s[j] = p at *
        generalize hq : s[j + 1] = q at *
        have hp8 := u8_lt p
        have hq8 := u8_lt q
        cases hhp : half p with
        | none =>
          have hI := halfI_none hhp
          have HF := Lib.hid (show unhexOf s.data.toList = ([], false) by rw [HDef.out, unhex_stop hu.out HQ1.out HQ2.out (Or.inl hhp)])
          clear hhp
          go_wp2_with (go_at_call 39; refine (spec_l1Half _ _).mono ?_; (first | rw [hI] | skip); rintro e w' ⟨rfl, rfl⟩)
          go_ret2
          exact ⟨ret_sb (by rw [HF.out]) (by rw [HF.out]), HW.out⟩
        | some a =>
          have hI := halfI_some hhp
          have ha := half_le hhp
          have hann : ¬ (a : Int) < 0 := by omega
          cases hhq : half q with
          | none =>
            have hI2 := halfI_none hhq
            have HF := Lib.hid (show unhexOf s.data.toList = ([], false) by rw [HDef.out, unhex_stop hu.out HQ1.out HQ2.out (Or.inr hhq)])
            clear hhp hhq
            go_wp2_with (go_at_call 39; refine (spec_l1Half _ _).mono ?_; (first | rw [hI] | rw [hI2] | skip); rintro e w' ⟨rfl, rfl⟩)
            go_ret2
            exact ⟨ret_sb (by rw [HF.out]) (by rw [HF.out]), HW.out⟩
          | some b =>
            have hI2 := halfI_some hhq
            have hb := half_le hhq
            have hbnn : ¬ (b : Int) < 0 := by omega
            have HU := Lib.hid (unhex_step hu.out HQ1.out HQ2.out hhp hhq)
            have hwr := wrap_pair ha hb
            generalize UInt8.ofNat (a * 16 + b) = d at *
            have Hown2 := Lib.hid (Hown.out.alloc (.cells #[.int .u8 (d.toNat : Int)] 5))
            have Hrd := Lib.hid (Rd.new (enc := encB) (k := 1) (fun _ => rfl) wr #[.int .u8 (d.toNat : Int)] 5 (n := 1) [d] rfl rfl)
            have HB := Lib.hid (HW.out.alloc hsz (.cells #[.int .u8 (d.toNat : Int)] 5))
            clear hhp hhq
            go_wp2_with (first
              | (go_at_call 39; refine (spec_l1Half _ _).mono ?_; (first | rw [hI] | rw [hI2] | skip); rintro e w' ⟨rfl, rfl⟩)
              | (at_builtin; refine wpList_app (enc := encB) (k := 1) (fun _ => rfl) (fun _ u hu => by simp at hu; subst hu; rfl) (by omega) rfl _ _ 22 5 rfl (.int .u8 0) 1 Tryd.underlying22 (by kernel_rfl) rfl w.heap.size _ l rfl Hown2.out _ _ _ _ rfl Hrd.out (by first | omega | (simp; omega)) (by omega) (by first | omega | (simp; omega)) ?_; intro v2 w2 hown2 hbel2))
            go_roundw
            case rel => exact ⟨k + 1, j + 2, l ++ [d], by omega, by go_num, Lib.hid (by have := hjk.out; omega), by simp; omega, HU.out, hown2, HB.out.trans hbel2⟩
            case measure => simp [intOf]; omega
      · have hF : unhexOf s.data.toList = (l, true) := by
          have h1 := hu.out
          rw [List.drop_eq_nil_of_le (by rw [← HL.out]; have := hjk.out; omega)] at h1
          rw [HDef.out, h1]; simp [unhex]
        have HF := Lib.hid hF
        obtain ⟨A', c', rfl⟩ := own_form hown
        have hcv := run_ofBytes (P := Tryd.prog) 22 9 5 Tryd.underlying22 Tryd.underlying5 Tryd.underlying9 (Rd.of_own (enc := encB) (k := 1) (fun _ => rfl) hown rfl) c'
        have HW := Lib.hid hW
        clear hu hown hF hW hlk
        go_wp2
        go_ret2
        exact ⟨ret_sb (by rw [HF.out]) (by rw [HF.out]), HW.out⟩
set_option maxHeartbeats 1600000 in
set_option maxRecDepth 20000 in
theorem impl_Unhex (s : ByteArray) (w : World) (hs : s.size ≤ 1048576) (hE : ∃ pp, w.var? Tryd.prog "encoding/hex.ErrLength" = some #[.iface 111 pp]) :
    Calls Tryd.prog 10 #[.string s] w fun e w' => e = .returned (.tuple #[.string ⟨(unhexOf s.data.toList).1.toArray⟩, .bool (unhexOf s.data.toList).2]) ∧ Below w.heap.size w w' := by
  obtain ⟨pp, hv⟩ := hE
  have hc := World.var?_cell (show Tryd.prog.globalNamed "encoding/hex.ErrLength" = some 0 by kernel_rfl) hv 0
  have HC := Lib.hid (Tryd.hex_DecodeString_owns s w (.iface 111 pp) (by simpa using hc) (by omega))
  have HDef := Lib.hid (show unhexOf s.data.toList = match unhex s.data.toList with | some r => (r, true) | none => ([], false) from rfl)
  have HU := Lib.hid (unhex_dec s.data.toList)
  have HDl := Lib.hid (Lib.Hx.decode_len s.data.toList)
  clear hc hv
  go_enter Tryd.func10, Tryd.ntmps10
  go_wp2_with fail
  refine HC.out.mono ?_
  rintro e w1 ⟨v, rfl, hown, hb⟩
  have HB := Lib.hid hb
  obtain ⟨A', c', rfl⟩ := own_form hown
  clear hb
  have he0 : ∀ T ev, Lib.Hx.errVal T ev .ok = .nilIface := fun _ _ => rfl
  have he1 : ∀ T ev ch, Lib.Hx.errVal T ev (.bad ch) = .iface T (.int .u8 (ch.toNat : Int)) := fun _ _ _ => rfl
  have he2 : ∀ T ev, Lib.Hx.errVal T ev .odd = ev := fun _ _ => rfl
  rcases HU.out with ⟨h1, h2, h3⟩ | ⟨hu, h2⟩
  · clear HU
    rw [h1, he0]
    obtain ⟨L, hL⟩ : ∃ L, (Lib.Hx.decode s.data.toList).1 = L := ⟨_, rfl⟩
    have hLs : L.length ≤ 524288 := by have h5 := HDl.out; rw [hL, ← size_len] at h5; omega
    rw [hL] at hown h2 h3
    rw [hL]
    rw [List.map_eq_flatMap] at hown
    have HRd := Lib.hid (Rd.of_own (enc := encB) (k := 1) (fun _ => rfl) hown rfl)
    have hcv := run_ofBytes (P := Tryd.prog) 22 9 5 Tryd.underlying22 Tryd.underlying5 Tryd.underlying9 HRd.out c'
    have hzs : (⟨L.toArray⟩ : ByteArray).size ≤ 1099511627776 := by show L.toArray.size ≤ _; simp only [List.size_toArray]; omega
    have hX : (⟨(Lib.Hx.encode (⟨L.toArray⟩ : ByteArray).data.toList).toArray⟩ : ByteArray) = s := by
      show (⟨(Lib.Hx.encode L).toArray⟩ : ByteArray) = s
      rw [h2]
    have HF := Lib.hid (show unhexOf s.data.toList = (L, true) by rw [HDef.out, h3])
    clear hown h1 h2 hL HC h3
    go_wp2_with (go_at_call 9; refine (impl_Hex _ _ hzs).mono ?_; rw [hX]; rintro e w2 ⟨rfl, hb2⟩; have hcv2 := run_ofBytes (P := Tryd.prog) 22 9 5 Tryd.underlying22 Tryd.underlying5 Tryd.underlying9 (HRd.out.below hb2) c'; have HB2 := Lib.hid (HB.out.trans (hb2.mono HB.out.size)); clear hb2)
    go_ret2
    exact ⟨ret_sb (by rw [HF.out]) (by rw [HF.out]), HB2.out⟩
  · clear HU
    cases h1 : (Lib.Hx.decode s.data.toList).2 with
    | ok =>
      have h2 : Lib.Hx.encode (Lib.Hx.decode s.data.toList).1 ≠ s.data.toList := by
        rcases h2 with h2 | h2
        · exact absurd h1 h2
        · exact h2
      rw [he0]
      obtain ⟨L, hL⟩ : ∃ L, (Lib.Hx.decode s.data.toList).1 = L := ⟨_, rfl⟩
      have hLs : L.length ≤ 524288 := by have h5 := HDl.out; rw [hL, ← size_len] at h5; omega
      rw [hL] at hown h2
      rw [hL]
      rw [List.map_eq_flatMap] at hown
      have HRd := Lib.hid (Rd.of_own (enc := encB) (k := 1) (fun _ => rfl) hown rfl)
      have hcv := run_ofBytes (P := Tryd.prog) 22 9 5 Tryd.underlying22 Tryd.underlying5 Tryd.underlying9 HRd.out c'
      have hzs : (⟨L.toArray⟩ : ByteArray).size ≤ 1099511627776 := by show L.toArray.size ≤ _; simp only [List.size_toArray]; omega
      obtain ⟨Y, hX⟩ : ∃ Y, (⟨(Lib.Hx.encode (⟨L.toArray⟩ : ByteArray).data.toList).toArray⟩ : ByteArray) = Y := ⟨_, rfl⟩
      have hYs : ¬ Y = s := by
        intro e
        apply h2
        have h6 := congrArg (fun z : ByteArray => z.data.toList) (hX.trans e)
        simpa using h6
      have hYb := bne_of hYs
      have hYb2 : (Y.toList == s.toList) = false := by rw [ba_beq, decide_eq_false hYs]
      have HF := Lib.hid (show unhexOf s.data.toList = ([], false) by rw [HDef.out, hu])
      clear hown h1 h2 hL HC hu
      go_wp2_with (go_at_call 9; refine (impl_Hex _ _ hzs).mono ?_; rw [hX]; rintro e w2 ⟨rfl, hb2⟩; have hcv2 := run_ofBytes (P := Tryd.prog) 22 9 5 Tryd.underlying22 Tryd.underlying5 Tryd.underlying9 (HRd.out.below hb2) c'; have HB2 := Lib.hid (HB.out.trans (hb2.mono HB.out.size)); clear hb2)
      go_ret2
      exact ⟨ret_sb (by rw [HF.out]) (by rw [HF.out]), HB2.out⟩
    | bad ch =>
      have HF := Lib.hid (show unhexOf s.data.toList = ([], false) by rw [HDef.out, hu])
      rw [he1]
      clear hown h2 hu HC
      go_wp2
      go_ret2
      exact ⟨ret_sb (by rw [HF.out]) (by rw [HF.out]), HB.out⟩
    | odd =>
      have HF := Lib.hid (show unhexOf s.data.toList = ([], false) by rw [HDef.out, hu])
      rw [he2]
      clear hown h2 hu HC
      go_wp2
      go_ret2
      exact ⟨ret_sb (by rw [HF.out]) (by rw [HF.out]), HB.out⟩

set_option maxHeartbeats 1600000 in
set_option maxRecDepth 20000 in
theorem spec_DrawHex (A : Option Addr) (n c : Nat) (xs : List UInt8) (w : World) (hn : n ≤ 1048576) (hx : Rd encB 1 w A n xs) :
    Calls Tryd.prog 8 #[.slice A n c] w fun e w' => (∃ s : ByteArray, s.size ≤ 100 ∧ e = .returned (.string s)) ∧ Below w.heap.size w w' := by
  have C1 := Lib.hid (spec_l1New A n c xs w hn hx)
  clear hx
  go_enter Tryd.func8, Tryd.ntmps8
  go_wp2_with fail
  refine C1.out.mono ?_
  rintro e w1 ⟨rfl, hc1, _⟩
  have hc1 := Lib.hid hc1
  obtain ⟨g, hg⟩ : ∃ g, w.heap.size = g := ⟨_, rfl⟩
  rw [hg] at hc1 ⊢
  go_wp2_with fail
  refine (spec_l1Below 12 w g _ hc1.out (by omega) (by omega)).mono ?_
  rintro e w3 ⟨⟨m, hm, _, rfl⟩, hc3, hg3⟩
  have hc3 := Lib.hid hc3
  clear hg3
  go_wp2_with fail
  refine (spec_l1Bytes m w g _ hc3.out (by omega)).mono ?_
  rintro e w4 ⟨⟨A4, c4, l, hl, rfl, ho⟩, hc4, _⟩
  have hb4 := Lib.hid hc4.bel
  have hrd := Rd.of_own (enc := encB) (k := 1) (fun _ => rfl) ho rfl
  have HR := Lib.hid (fun (c : Nat) => run_ofBytes (P := Tryd.prog) 22 9 5 Tryd.underlying22 Tryd.underlying5 Tryd.underlying9 hrd c)
  have HLL := Lib.hid hl
  clear hc4 hrd ho hl
  obtain ⟨Z, hZ⟩ : ∃ Z : ByteArray, (⟨l.toArray⟩ : ByteArray) = Z := ⟨_, rfl⟩
  rw [hZ] at HR
  have HZ := Lib.hid hZ
  clear hZ
  have hr := HR.out c4
  go_wp2_with fail
  go_ret
  refine ⟨⟨Z, ?_, rfl⟩, hg ▸ hb4.out⟩
  rw [← HZ.out, size_len]
  simp only [List.toList_toArray]
  have := HLL.out
  omega
theorem enc_len : ∀ l : Str, (Lib.Hx.encode l).length = 2 * l.length
  | [] => rfl
  | c :: l => by
    show (Lib.Hx.digit (c.toNat / 16) :: Lib.Hx.digit (c.toNat % 16) :: Lib.Hx.encode l).length = _
    simp only [List.length_cons, enc_len l]; omega
set_option maxHeartbeats 1600000 in
set_option maxRecDepth 20000 in
theorem spec_DrawUnhex (A : Option Addr) (n c : Nat) (xs : List UInt8) (w : World) (hn : n ≤ 1048576) (hx : Rd encB 1 w A n xs) :
    Calls Tryd.prog 11 #[.slice A n c] w fun e w' => (∃ s : ByteArray, s.size ≤ 1000 ∧ e = .returned (.string s)) ∧ Below w.heap.size w w' := by
  have C1 := Lib.hid (spec_l1New A n c xs w hn hx)
  clear hx
  go_enter Tryd.func11, Tryd.ntmps11
  go_wp2_with fail
  refine C1.out.mono ?_
  rintro e w1 ⟨rfl, hc1, _⟩
  have hc1 := Lib.hid hc1
  obtain ⟨g, hg⟩ : ∃ g, w.heap.size = g := ⟨_, rfl⟩
  rw [hg] at hc1 ⊢
  go_wp2_with fail
  refine (spec_l1Below 8 w g _ hc1.out (by omega) (by omega)).mono ?_
  rintro e w3 ⟨⟨m, hm, _, rfl⟩, hc3, hg3⟩
  have hc3 := Lib.hid hc3
  clear hg3
  go_wp2_with fail
  refine (spec_l1Bytes m w g _ hc3.out (by omega)).mono ?_
  rintro e w4 ⟨⟨A4, c4, l, hl, rfl, ho⟩, hc4, _⟩
  have hc4 := Lib.hid hc4
  have hrd := Rd.of_own (enc := encB) (k := 1) (fun _ => rfl) ho rfl
  have HR := Lib.hid (fun (c : Nat) => run_ofBytes (P := Tryd.prog) 22 9 5 Tryd.underlying22 Tryd.underlying5 Tryd.underlying9 hrd c)
  have HLL := Lib.hid hl
  clear hrd ho hl
  obtain ⟨Z, hZ⟩ : ∃ Z : ByteArray, (⟨l.toArray⟩ : ByteArray) = Z := ⟨_, rfl⟩
  rw [hZ] at HR
  have HZS := Lib.hid (show Z.size = m by rw [← hZ, size_len]; simpa using HLL.out)
  clear hZ
  have hr := HR.out c4
  go_wp2_with fail
  have hZ2 := HZS.out
  refine (spec_Hex Z _ (by omega)).mono ?_
  rintro e w5 ⟨rfl, hb5⟩
  obtain ⟨Y, hY⟩ : ∃ Y : ByteArray, (⟨(Lib.Hx.encode Z.data.toList).toArray⟩ : ByteArray) = Y := ⟨_, rfl⟩
  have HYS := Lib.hid (show Y.size ≤ 100 by rw [← hY, size_len]; simp only [List.toList_toArray, enc_len, ← size_len]; omega)
  rw [hY]
  have hc5 := Lib.hid (hc4.out.below hb5)
  clear hY hb5 hr hZ2
  go_wp2_with fail
  have hY2 := HYS.out
  refine (spec_l1Turned Y _ 5 5 w g _ (by omega) (hc5.out.below (by go_grown)) (by omega) (by omega) (by have := hc5.out.lt; omega) _ (Holds.new _ _ _) rfl ?_).mono ?_
  · intro v hv
    simp at hv
    rcases hv with rfl | rfl | rfl | rfl | rfl <;> exact ⟨_, by decide, rfl⟩
  rintro e w6 ⟨⟨x, hx, rfl⟩, hc6, _⟩
  have hb6 := Lib.hid hc6.bel
  have hx2 : x.size ≤ 1000 := by omega
  clear hc6 hx hY2
  go_wp2_with fail
  go_ret
  exact ⟨⟨x, hx2, rfl⟩, hg ▸ hb6.out⟩

theorem dec_Byte {H : Type} {enc0 : TypeId × Value → H} {w : World} {base : Nat} {spare : Nat → Bool} {held : Bool} (n : Nat) (cs : List Value) (x : DataW H × List MemPlace)
    (h : DataW.trod enc0 Tryd.prog w base spare held n 5 cs = some x) : ∃ y : UInt8, cs = encB y ∧ True := by
  obtain ⟨a, h1, _, hw⟩ := DataW.trod_int Tryd.underlying5 h
  have h : 0 ≤ a ∧ a < 256 := by simp [Lit.wf, IntKind.min, IntKind.max, IntKind.signed, IntKind.bits] at hw; omega
  refine ⟨UInt8.ofNat a.toNat, ?_, trivial⟩
  rw [h1]
  have h2 : (UInt8.ofNat a.toNat).toNat = a.toNat := UInt8.toNat_ofNat_of_lt' (by show a.toNat < 256; omega)
  show [Value.int .u8 a] = [Value.int .u8 ((UInt8.ofNat a.toNat).toNat : Int)]
  rw [h2, Int.toNat_of_nonneg h.1]
set_option maxRecDepth 20000 in
/-- Bytes that came in. -/
theorem open_Bytes {H : Type} {enc0 : TypeId × Value → H} {w : World} {base b0 : Nat} {r : Reach} {spare : Nat → Bool} {held : Bool} {v : Value} {d : DataW H} {p : List MemPlace}
    (o : Value.okWide Tryd.prog w r b0 22 v) (h : DataW.Trod enc0 Tryd.prog w base spare held 22 v d p) :
    ∃ (A : Option Addr) (n c : Nat) (xs : List UInt8), v = .slice A n c ∧ Rd encB 1 w A n xs ∧ n ≤ 9223372036854775807 := by
  obtain ⟨A, n, c, xs, rfl, h, hc, hm, hN⟩ := open_rd encB (fun _ => True) 1 Tryd.underlying22 o h (by kernel_rfl) (by omega) (fun _ => rfl) (fun n cs x hx => dec_Byte n cs x hx)
  exact ⟨A, n, c, xs, rfl, h, by unfold maxLen at hm; omega⟩
theorem laws_big (A : Option Addr) (n c : Nat) (w : World) (hn : n ≤ 9223372036854775807) :
    Calls Tryd.prog 7 #[.slice A n c] w fun e w' => e = .returned (.bool (decide (1048576 < n))) ∧ w = w' := by
  by_cases h : 1048576 < n
  · go_enter Tryd.func7, Tryd.ntmps7
    go_wp2
    go_ret
    exact ⟨by simp [h]; try omega, rfl⟩
  · go_enter Tryd.func7, Tryd.ntmps7
    go_wp2
    go_ret
    exact ⟨by simp [h]; try omega, rfl⟩

theorem half_digit (a : Nat) (h : a ≤ 15) : half (Lib.Hx.digit a) = some a := by
  have hh : ∀ n : Fin 16, half (Lib.Hx.digit n.val) = some n.val := by decide +kernel
  exact hh ⟨a, by omega⟩
theorem unhex_enc : ∀ l : Str, unhex (Lib.Hx.encode l) = some l
  | [] => rfl
  | c :: l => by
    show unhex (Lib.Hx.digit (c.toNat / 16) :: Lib.Hx.digit (c.toNat % 16) :: Lib.Hx.encode l) = _
    have := c.toNat_lt
    rw [unhex, half_digit _ (by omega), half_digit _ (by omega), unhex_enc l]
    have e : c.toNat / 16 * 16 + c.toNat % 16 = c.toNat := by omega
    simp [e]
theorem unhexOf_enc (l : Str) : unhexOf (Lib.Hx.encode l) = (l, true) := by unfold unhexOf; rw [unhex_enc]
theorem unhexOf_back {t : Str} (h : (unhexOf t).2 = true) : Lib.Hx.encode (unhexOf t).1 = t := by
  rcases unhex_dec t with ⟨_, h2, h3⟩ | ⟨h1, _⟩
  · unfold unhexOf; rw [h3]; exact h2
  · unfold unhexOf at h; rw [h1] at h; cases h
theorem unhexOf_len (t : Str) : (unhexOf t).1.length ≤ t.length := by
  rcases unhex_dec t with ⟨_, h2, h3⟩ | ⟨h1, _⟩
  · have h4 : (unhexOf t).1 = (Lib.Hx.decode t).1 := by unfold unhexOf; rw [h3]
    have h5 := enc_len (Lib.Hx.decode t).1
    rw [h2] at h5
    rw [h4]; omega
  · unfold unhexOf; rw [h1]; simp
set_option maxHeartbeats 3200000 in
set_option maxRecDepth 20000 in
theorem walk_FnHex {H : Type} {enc0 : TypeId × Value → H} {base : Nat} {d0 : DataW H} {p0 : List MemPlace} (v0 : Value) (w : World) (o0 : Value.okWide Tryd.prog w .any base 22 v0) (k0 : DataW.Trod enc0 Tryd.prog w 0 (fun _ => true) true 22 v0 d0 p0) (hE : ∃ pp, w.var? Tryd.prog "encoding/hex.ErrLength" = some #[.iface 111 pp]) :
    Calls Tryd.prog 3 #[v0] w fun e w' => e = .returned (.bool true) ∧ Below w.heap.size w w' := by
  obtain ⟨A0, n0, c0, ys0, rfl, h0, hn0⟩ := open_Bytes o0 k0
  clear o0 k0
  by_cases hbig : 1048576 < n0
  · have hd : decide (1048576 < n0) = true := by simpa using hbig
    have C := Lib.hid (laws_big A0 n0 c0 w hn0)
    rw [hd] at C
    clear h0 hE
    go_enter Tryd.func3, Tryd.ntmps3
    go_wp2_with fail
    refine C.out.mono ?_
    rintro e z ⟨rfl, rfl⟩
    go_wp2
    go_ret
    exact ⟨rfl, Below.refl _ _⟩
  have hd : decide (1048576 < n0) = false := by simpa using hbig
  have C := Lib.hid (laws_big A0 n0 c0 w hn0)
  rw [hd] at C
  have D := Lib.hid (spec_DrawHex A0 n0 c0 ys0 w (by omega) h0)
  have H0 := Lib.hid h0
  have HE := Lib.hid hE
  clear h0 hE
  go_enter Tryd.func3, Tryd.ntmps3
  go_wp2_with fail
  refine C.out.mono ?_
  rintro e z ⟨rfl, rfl⟩
  go_wp2_with fail
  refine D.out.mono ?_
  rintro e w1 ⟨⟨s, hs, rfl⟩, hb1⟩
  have HB1 := Lib.hid hb1
  clear hb1 C D
  have HSL := Lib.hid (size_len s)
  have hELs := enc_len s.data.toList
  obtain ⟨h, hh⟩ : ∃ h : ByteArray, (⟨(Lib.Hx.encode s.data.toList).toArray⟩ : ByteArray) = h := ⟨_, rfl⟩
  have hhs : h.size = 2 * s.size := by rw [← hh, size_len, HSL.out]; simpa using hELs
  have HU := Lib.hid (show unhexOf h.data.toList = (s.data.toList, true) by rw [← hh]; exact unhexOf_enc _)
  clear hELs
  go_wp2_with fail
  refine (impl_Hex s w1 (by omega)).mono ?_
  rintro e w2 ⟨rfl, hb2⟩
  rw [hh]
  clear hh
  have HB2 := Lib.hid (HB1.out.trans (hb2.mono HB1.out.size))
  clear hb2
  go_wp2_with fail
  have HE2 := Lib.hid (by obtain ⟨pp, hp⟩ := HE.out; exact ⟨pp, var_below hp HB2.out⟩ : ∃ pp, w2.var? Tryd.prog "encoding/hex.ErrLength" = some #[.iface 111 pp])
  refine (impl_Unhex h w2 (by omega) HE2.out).mono ?_
  rintro e w3 ⟨rfl, hb3⟩
  have HB3 := Lib.hid (HB2.out.trans (hb3.mono HB2.out.size))
  clear hb3
  have hs2 : (⟨(s.data.toList).toArray⟩ : ByteArray) = s := mk_toList s
  rw [HU.out]
  simp only [hs2]
  clear hs2
  go_wp2_with fail
  refine (spec_DrawUnhex A0 n0 c0 ys0 w3 (by omega) (H0.out.below HB3.out)).mono ?_
  rintro e w4 ⟨⟨t, ht, rfl⟩, hb4⟩
  have HB4 := Lib.hid (HB3.out.trans (hb4.mono HB3.out.size))
  clear hb4 hbig
  have HE4 := Lib.hid (by obtain ⟨pp, hp⟩ := HE.out; exact ⟨pp, var_below hp HB4.out⟩ : ∃ pp, w4.var? Tryd.prog "encoding/hex.ErrLength" = some #[.iface 111 pp])
  obtain ⟨X, hX⟩ : ∃ X : ByteArray, (⟨(unhexOf t.data.toList).1.toArray⟩ : ByteArray) = X := ⟨_, rfl⟩
  obtain ⟨r, hr⟩ : ∃ r : Bool, (unhexOf t.data.toList).2 = r := ⟨_, rfl⟩
  have hXs : X.size ≤ 1099511627776 := by
    have h1 := unhexOf_len t.data.toList
    rw [← size_len] at h1
    rw [← hX, size_len]
    simp only [List.toList_toArray]
    omega
  have HXB := Lib.hid (fun (h : r = true) => (show (⟨(Lib.Hx.encode X.data.toList).toArray⟩ : ByteArray) = t by
    rw [← hX]
    show (⟨(Lib.Hx.encode (unhexOf t.data.toList).1).toArray⟩ : ByteArray) = t
    rw [unhexOf_back (by rw [hr, h])]))
  go_wp2_with fail
  refine (impl_Unhex t w4 (by omega) HE4.out).mono ?_
  rw [hX, hr]
  rintro e w5 ⟨rfl, hb5⟩
  have HB5 := Lib.hid (HB4.out.trans (hb5.mono HB4.out.size))
  clear hb5
  have HX := Lib.hid hX
  have HR := Lib.hid hr
  clear hX hr
  go_wp2_with fail
  refine (spec_Unhex t w5 (by omega)).mono ?_
  rw [HX.out, HR.out]
  rintro e w6 ⟨rfl, hb6⟩
  have HB6 := Lib.hid (HB5.out.trans (hb6.mono HB5.out.size))
  clear hb6
  cases r with
  | false =>
    go_wp2_with fail
    go_ret
    exact ⟨rfl, HB6.out⟩
  | true =>
    go_wp2_with fail
    refine (impl_Hex X _ hXs).mono ?_
    rw [HXB.out trivial]
    rintro e w7 ⟨rfl, hb7⟩
    have HB7 := Lib.hid (HB6.out.trans (hb7.mono HB6.out.size))
    clear hb7
    go_wp2_with fail
    go_ret
    exact ⟨rfl, HB7.out⟩

end Go.Proofs.YtgdebejmcfcpgaaDoor
