/-
  Walks: what each function returns, and that it leaves what lay in memory as it was.
-/
import Derived.Test.YtjpkceimokkpgaaGreatDoorProg
import Derived.Test.YtjpkceimokkpgaaGreatDoorPlain
import Derived.Test.YtjpkceimokkpgaaGreatDoorBase2
import Derived.Test.YtjpkceimokkpgaaGreatDoorOpen2
import Derived.Test.YtjpkceimokkpgaaGreatDoorShelf
import Derived.WalkKit
import Derived.WalkSpells
import Derived.WalkLawsBesides
import Derived.Lib.Hide
import Derived.Deep.LoopGhost
import Derived.Deep.QuietTactic
import Derived.BigQuiet
import Derived.Handy
import Derived.Deep.RegionHeld3
import Derived.StillTailTactics
import Derived.OpenShut
import Derived.ChangeSame
import Derived.Laws.StructEq

import Derived.Test.YtjpkceimokkpgaaGreatDoorPlainT

import Derived.Test.YtjpkceimokkpgaaGreatDoorBase3

import Derived.Test.YtjpkceimokkpgaaGreatDoorW1

import Derived.Test.YtjpkceimokkpgaaGreatDoorW2

import Derived.Test.YtjpkceimokkpgaaGreatDoorW40

namespace Go.Proofs.YtjpkceimokkpgaaGreatDoor
open Go.ChangeShapes Go.WideShapes Go.ChangeAt Go.RowKit Go.Deep
set_option linter.unusedVariables false
set_option linter.unusedSimpArgs false

theorem own_lit (w : World) (e : TypeId) (l : Str) (hl : l.length ≤ 1048576) : (w.alloc (.cells (l.flatMap encB).toArray e)).ownsRow w.heap.size e 1 (.slice (some ⟨w.heap.size, 0, none⟩) l.length l.length) l.length (l.flatMap encB) := by
  have hf : (l.flatMap encB).length = l.length * 1 := flat_len (enc := encB) (k := 1) (fun _ => rfl) l
  refine ⟨hf, .inr ⟨w.heap.size, l.length, (l.flatMap encB).toArray, rfl, Nat.le_refl _, heap_alloc_new w _, Nat.le_refl _, by unfold maxLen; omega, by simpa using hf, ?_⟩⟩
  rw [Nat.mul_one] at hf ⊢
  exact List.take_of_length_le (by show (l.flatMap encB).length ≤ _; omega)

def quotB (c : UInt8) : Bool := decide (32 ≤ c.toNat) && decide (c.toNat ≤ 126)
def escB (c : UInt8) : Str := if c = 34 ∨ c = 92 then [92, c] else [c]
def esc (s : Str) : Str := s.flatMap escB
def quotable (s : Str) : Bool := s.all quotB && decide (s.length ≤ 40)
def quote (s : Str) : Str := if quotable s = true then 34 :: (esc s ++ [34]) else []
theorem esc_snoc {s : Str} {k : Nat} (h : k < s.length) : esc (s.take (k + 1)) = esc (s.take k) ++ escB s[k] := by
  unfold esc
  rw [List.take_succ_eq_append_getElem h, List.flatMap_append]; simp
theorem esc_len (s : Str) : (esc s).length ≤ 2 * s.length := by
  unfold esc
  induction s with
  | nil => simp
  | cons c r ih =>
    rw [List.flatMap_cons, List.length_append, List.length_cons]
    have : (escB c).length ≤ 2 := by unfold escB; split <;> simp
    omega
theorem flat_two {f : UInt8 → Str} (h : ∀ c, (f c).length ≤ 2) : ∀ l : Str, (l.flatMap f).length ≤ 2 * l.length
  | [] => by simp
  | c :: r => by
    have ih := flat_two h r
    have := h c
    rw [List.flatMap_cons, List.length_append, List.length_cons]
    omega
theorem replaceK_one (c : UInt8) (new : Str) : ∀ s : Str, Lib.replaceK [c] new (Lib.count s [c]) s = s.flatMap (fun x => if x = c then new else [x])
  | [] => by rw [Lib.count_one]; rfl
  | b :: l => by
    have ih := replaceK_one c new l
    by_cases hb : b = c
    · subst hb
      rw [Lib.count_cons_eq, Nat.add_comm, Lib.replaceK_hit [b] new _ (b :: l) 0 (by simp [Lib.index]), List.flatMap_cons, if_pos rfl]
      simp [ih]
    · rw [Lib.count_cons_ne b c l hb, List.flatMap_cons, if_neg hb, ← ih]
      cases hk : Lib.count l [c] with
      | zero => rfl
      | succ k =>
        obtain ⟨i, hi⟩ := Lib.index_of_count (s := l) (old := [c]) (by omega)
        have hi2 : Lib.index (b :: l) [c] = ((i + 1 : Nat) : Int) := by
          have hp : [c].isPrefixOf (b :: l) = false := by simp [List.isPrefixOf]; exact fun h => hb h.symm
          rw [Lib.index, hp, hi]
          have : ((i : Int) == -1) = false := by rw [beq_eq_false_iff_ne]; omega
          simp [this]
        rw [Lib.replaceK_hit [c] new k (b :: l) (i + 1) hi2, Lib.replaceK_hit [c] new k l i hi]
        simp
theorem replaceAll_one {c : UInt8} {new : Str} (h : [c] ≠ new) (s : Str) : Lib.replaceAll s [c] new = s.flatMap (fun x => if x = c then new else [x]) := by
  have hb : ([c] == new) = false := by rw [beq_eq_false_iff_ne]; exact h
  unfold Lib.replaceAll Lib.replace
  rw [hb]
  simp only [Bool.false_eq_true, if_false]
  unfold Lib.replaceNum
  rw [if_pos (Or.inl (by omega))]
  exact replaceK_one c new s
theorem esc_two (s : Str) : Lib.replaceAll (Lib.replaceAll s [92] [92, 92]) [34] [92, 34] = esc s := by
  rw [replaceAll_one (by simp), replaceAll_one (by simp), List.flatMap_assoc]
  unfold esc
  congr 1
  funext x
  unfold escB
  by_cases h1 : x = 92
  · subst h1; simp
  · by_cases h2 : x = 34
    · subst h2; simp
    · simp [h1, h2]
theorem countB_le (s : ByteArray) (c : UInt8) : Lib.countB s ⟨#[c]⟩ ≤ s.size := by
  have h : Lib.countB s ⟨#[c]⟩ = s.data.toList.count c := by
    unfold Lib.countB; exact Lib.count_one c s.data.toList
  rw [h, size_len]; exact List.count_le_length
theorem quotB_iff (c : UInt8) : quotB c = true ↔ 32 ≤ (c.toNat : Int) ∧ (c.toNat : Int) ≤ 126 := by
  unfold quotB; simp; omega
theorem esc_yes {c : UInt8} (h : (c.toNat : Int) = 34 ∨ (c.toNat : Int) = 92) : escB c = [92, c] := by
  have h2 := u8_all (fun c => decide ((c.toNat : Int) = 34 ∨ (c.toNat : Int) = 92 → escB c = [92, c])) (by decide +kernel) c
  exact of_decide_eq_true h2 h
theorem esc_no {c : UInt8} (h1 : ¬ (c.toNat : Int) = 34) (h2 : ¬ (c.toNat : Int) = 92) : escB c = [c] := by
  have h3 := u8_all (fun c => decide (¬ (c.toNat : Int) = 34 → ¬ (c.toNat : Int) = 92 → escB c = [c])) (by decide +kernel) c
  exact of_decide_eq_true h3 h1 h2
theorem quote_long {s : Str} (h : ¬ s.length ≤ 40) : quote s = [] := by
  unfold quote quotable; rw [decide_eq_false h, Bool.and_false]; rfl
theorem quote_bad {s : Str} {k : Nat} (h : k < s.length) (hc : quotB s[k] = false) : quote s = [] := by
  unfold quote quotable; rw [all_false h hc]; rfl
theorem quote_good {s : Str} (h : s.length ≤ 40) (hc : s.all quotB = true) : quote s = 34 :: (esc s ++ [34]) := by
  unfold quote quotable; rw [hc, decide_eq_true h]; rfl
set_option maxHeartbeats 800000 in
theorem impl_isQuotable (s : ByteArray) (w : World) (hs : s.size ≤ maxLen) :
    Calls Tryz.prog 131 #[.string s] w fun e w' => e = .returned (.bool (quotable s.data.toList)) ∧ w = w' := by
  unfold maxLen at hs
  have HL := Lib.hid (size_len s)
  go_enter Tryz.func131, Tryz.ntmps131
  go_wp2_with fail
  go_loop [6] (fun i => ∃ k : Nat, k ≤ s.size ∧ i = .int .i64 k ∧ Hid ((s.data.toList.take k).all quotB = true)) (fun i => s.size - (intOf i).toNat)
  case atStart => exact ⟨0, Nat.zero_le _, rfl, rfl⟩
  case round =>
    obtain ⟨k, hk, rfl, ha⟩ := hrel
    by_cases hlt : k < s.size
    · have hlt' : k < s.data.toList.length := by rw [← HL.out]; exact hlt
      by_cases h1 : (s[k].toNat : Int) < 32
      · have HF := Lib.hid (show quotable s.data.toList = false by
          unfold quotable; rw [all_false hlt' (show quotB s.data.toList[k] = false by rw [Bool.eq_false_iff]; intro h; have h2 := (quotB_iff s[k]).1 h; omega)]; rfl)
        go_wp2
        go_ret
        exact ⟨ret_b HF.out.symm, rfl⟩
      · by_cases h2 : (126 : Int) < (s[k].toNat : Int)
        · have HF := Lib.hid (show quotable s.data.toList = false by
            unfold quotable; rw [all_false hlt' (show quotB s.data.toList[k] = false by rw [Bool.eq_false_iff]; intro h; have h3 := (quotB_iff s[k]).1 h; omega)]; rfl)
          go_wp2
          go_ret
          exact ⟨ret_b HF.out.symm, rfl⟩
        · have HN := Lib.hid (all_take_succ hlt' ha.out ((quotB_iff s[k]).2 ⟨by omega, by omega⟩))
          go_wp2
          go_round
          case rel => exact ⟨k + 1, by omega, by go_num, HN.out⟩
          case measure => simp [intOf]; omega
    · have hke : k = s.size := by omega
      have ha2 : s.data.toList.all quotB = true := by
        have h := ha.out
        rw [List.take_of_length_le (by rw [← HL.out]; omega)] at h
        exact h
      have Hfin := Lib.hid (show quotable s.data.toList = decide (s.size ≤ 40) by unfold quotable; rw [ha2, Bool.true_and, HL.out])
      clear ha2 ha hke
      by_cases h40 : (s.size : Int) ≤ 40
      · have HQ := Lib.hid (decide_eq_true (show s.size ≤ 40 by omega))
        go_wp2
        go_ret
        exact ⟨ret_b (by rw [Hfin.out, HQ.out]), rfl⟩
      · have HQ := Lib.hid (decide_eq_false (show ¬ s.size ≤ 40 by omega))
        have hd : decide ((s.size : Int) ≤ 40) = false := decide_eq_false h40
        go_wp2
        go_ret
        exact ⟨ret_b (by rw [Hfin.out, HQ.out]), rfl⟩
set_option maxHeartbeats 800000 in
theorem impl_Quote (s : ByteArray) (w : World) (hs : s.size ≤ 1048576) (hml : ML w) :
    Calls Tryz.prog 118 #[.string s] w fun e w' => e = .returned (.string ⟨(quote s.data.toList).toArray⟩) ∧ Below w.heap.size w w' := by
  obtain ⟨m, hm⟩ := hml
  have HM := Lib.hid hm
  clear hm
  have hsm : s.size ≤ maxLen := by unfold maxLen; omega
  cases hq : quotable s.data.toList
  · have HF := Lib.hid (show quote s.data.toList = [] by unfold quote; rw [hq]; rfl)
    go_enter Tryz.func118, Tryz.ntmps118
    go_wp2_with (go_at_call 131; refine (impl_isQuotable _ _ hsm).mono ?_; rw [hq]; rintro e w' ⟨rfl, rfl⟩)
    go_ret
    exact ⟨ret_s (by rw [HF.out]), Below.refl _ _⟩
  · have h40 : s.data.toList.length ≤ 40 := by unfold quotable at hq; simp at hq; rw [Array.length_toList]; exact hq.2
    have h40' : s.size ≤ 40 := by rw [size_len]; exact h40
    have HF := Lib.hid (show quote s.data.toList = 34 :: (esc s.data.toList ++ [34]) by unfold quote; rw [hq]; rfl)
    have HE := Lib.hid (esc_two s.data.toList)
    have HEl := Lib.hid (esc_len s.data.toList)
    have hc1 := countB_le s 92
    go_enter Tryz.func118, Tryz.ntmps118
    go_wp2_with (go_at_call 131; refine (impl_isQuotable _ _ hsm).mono ?_; rw [hq]; rintro e w' ⟨rfl, rfl⟩)
    have hr1 : (Lib.replaceAll s.data.toList [92] [92, 92]).length ≤ 80 := by
      rw [replaceAll_one (by simp)]
      have := flat_two (f := fun x => if x = 92 then [92, 92] else [x]) (fun c => by split <;> simp) s.data.toList
      omega
    refine (Tryz.strings_ReplaceAll s ⟨#[92]⟩ ⟨#[92, 92]⟩ m w (by omega) HM.out (by decide) (by
      have : (⟨#[92, 92]⟩ : ByteArray).size = 2 := rfl
      rw [this]; omega)).mono ?_
    rintro e w1 ⟨rfl, hb1⟩
    have HB1 := Lib.hid hb1
    have HM1 := Lib.hid ((hb1.cell (p := ⟨0, 0, none⟩) (World.block_lt_of_cell? w _ HM.out)).trans HM.out)
    clear hb1
    obtain ⟨z1, hz1⟩ : ∃ z : ByteArray, (⟨(Lib.replaceAll s.data.toList [92] [92, 92]).toArray⟩ : ByteArray) = z := ⟨_, rfl⟩
    have HZ1 := Lib.hid (show z1.data.toList = Lib.replaceAll s.data.toList [92] [92, 92] by rw [← hz1])
    have hl1 : z1.size ≤ 80 := by rw [size_len, HZ1.out]; exact hr1
    have hz1' : (⟨(Lib.replaceAll s.data.toList (⟨#[92]⟩ : ByteArray).data.toList (⟨#[92, 92]⟩ : ByteArray).data.toList).toArray⟩ : ByteArray) = z1 := hz1
    rw [hz1']
    clear hr1 hz1 hz1'
    have hc2 := countB_le z1 34
    go_wp2_with fail
    refine (Tryz.strings_ReplaceAll z1 ⟨#[34]⟩ ⟨#[92, 34]⟩ m w1 (by omega) HM1.out (by decide) (by
      have : (⟨#[92, 34]⟩ : ByteArray).size = 2 := rfl
      rw [this]; omega)).mono ?_
    rintro e w2 ⟨rfl, hb2⟩
    have HB2 := Lib.hid (HB1.out.trans (hb2.mono HB1.out.size))
    clear hb2
    have hz2' : (⟨(Lib.replaceAll z1.data.toList (⟨#[34]⟩ : ByteArray).data.toList (⟨#[92, 34]⟩ : ByteArray).data.toList).toArray⟩ : ByteArray) = ⟨(esc s.data.toList).toArray⟩ := by
      rw [HZ1.out, ← HE.out]
    rw [hz2']
    obtain ⟨z2, hz2⟩ : ∃ z : ByteArray, (⟨(esc s.data.toList).toArray⟩ : ByteArray) = z := ⟨_, rfl⟩
    have hl2 : z2.size ≤ 80 := by rw [← hz2]; show (esc s.data.toList).toArray.size ≤ _; have := HEl.out; simp only [List.size_toArray]; omega
    have HC := Lib.hid (show ({ data := #[34] } : ByteArray) ++ z2 ++ { data := #[34] } = ⟨(quote s.data.toList).toArray⟩ by
      rw [HF.out, ← hz2]
      exact str_eq (by simp))
    rw [hz2]
    clear hz2 hz2'
    go_wp2
    go_ret
    exact ⟨ret_s HC.out, HB2.out⟩
set_option maxHeartbeats 1600000 in
set_option maxRecDepth 20000 in
theorem spec_Quote (s : ByteArray) (w : World) (hs : s.size ≤ maxLen) :
    Calls Tryz.prog 115 #[.string s] w fun e w' => e = .returned (.string ⟨(quote s.data.toList).toArray⟩) ∧ Below w.heap.size w w' := by
  unfold maxLen at hs
  have HL := Lib.hid (size_len s)
  by_cases h40 : (40 : Int) < (s.size : Int)
  · have HF := Lib.hid (quote_long (s := s.data.toList) (by rw [← HL.out]; omega))
    go_enter Tryz.func115, Tryz.ntmps115
    go_wp2
    go_ret
    exact ⟨ret_s (by rw [HF.out]), Below.refl _ _⟩
  · have hnew : (w.alloc (.cells #[.int .u8 34] 5)).ownsRow w.heap.size 5 1 (.slice (some ⟨w.heap.size, 0, none⟩) 1 1) 1 (([34] : Str).flatMap encB) := own_lit w 5 [34] (by decide)
    go_enter Tryz.func115, Tryz.ntmps115
    go_wp2_with fail
    go_loopw [3, 4] (fun o i wr => ∃ (k : Nat) (l : Str), k ≤ s.size ∧ i = .int .i64 k ∧ l = 34 :: esc (s.data.toList.take k) ∧ l.length ≤ 2 * k + 1 ∧ Hid ((s.data.toList.take k).all quotB = true) ∧ wr.ownsRow w.heap.size 5 1 o l.length (l.flatMap encB) ∧ Below w.heap.size w wr) (fun _ i _ => s.size - (intOf i).toNat)
    case atStart => exact ⟨0, [34], by omega, rfl, rfl, by simp, rfl, hnew, (Below.refl _ _).alloc (Nat.le_refl _) _⟩
    case round =>
      obtain ⟨k, l, hk, rfl, hl, hll, ha, hown, hW⟩ := hrel
      clear hnew
      by_cases hlt : k < s.size
      · have hlt' : k < s.data.toList.length := by rw [← HL.out]; exact hlt
        by_cases hq : 32 ≤ (s[k].toNat : Int) ∧ (s[k].toNat : Int) ≤ 126
        · obtain ⟨hq1, hq2⟩ := hq
          have h1d : decide ((s[k].toNat : Int) < 32) = false := decide_eq_false (by omega)
          have h2d : decide ((126 : Int) < (s[k].toNat : Int)) = false := decide_eq_false (by omega)
          have HA := Lib.hid (all_take_succ hlt' ha.out ((quotB_iff s[k]).2 ⟨hq1, hq2⟩))
          have HE := Lib.hid (show 34 :: esc (s.data.toList.take (k + 1)) = l ++ escB s[k] by rw [esc_snoc hlt', hl]; rfl)
          have hsz := hW.size
          have HW := Lib.hid hW
          have Hown := Lib.hid hown
          generalize hch : s[k] = ch at *
          have hch8 := u8_lt ch
          clear hl hW hown ha
          by_cases he : (ch.toNat : Int) = 34 ∨ (ch.toNat : Int) = 92
          · have HY := Lib.hid (esc_yes he)
            rcases he with he | he
            · have Hown1 := Lib.hid (Hown.out.alloc (.cells #[.int .u8 92] 5))
              have Hrd1 := Lib.hid (Rd.new (enc := encB) (k := 1) (fun _ => rfl) wr #[.int .u8 92] 5 (n := 1) [92] rfl rfl)
              have HB1 := Lib.hid (HW.out.alloc hsz (.cells #[.int .u8 92] 5))
              have hv : ch = 34 := by exact UInt8.toNat_inj.1 (by show ch.toNat = 34; omega)
              have HN := Lib.hid (show (l ++ [92]) ++ [34] = 34 :: esc (s.data.toList.take (k + 1)) by rw [HE.out, HY.out, List.append_assoc, hv]; rfl)
              clear HE HY hv
              go_wp2_with (first
                | (at_builtin; refine wpList_app (enc := encB) (k := 1) (fun _ => rfl) (fun _ u hu => by simp at hu; subst hu; rfl) (by omega) rfl _ _ 88 5 rfl (.int .u8 0) 1 Tryz.underlying88 (by kernel_rfl) rfl w.heap.size _ l rfl Hown1.out _ _ _ _ rfl Hrd1.out (by first | omega | (simp; omega)) (by omega) (by first | omega | (simp; omega)) ?_; intro v1 w1 hown1 hbel1; have HB2 := Lib.hid (HB1.out.trans hbel1); have hsz1 := HB2.out.size; have Hown2 := Lib.hid (hown1.alloc (.cells #[.int .u8 34] 5)); have Hrd2 := Lib.hid (Rd.new (enc := encB) (k := 1) (fun _ => rfl) w1 #[.int .u8 34] 5 (n := 1) [34] rfl rfl); have HB3 := Lib.hid (HB2.out.alloc hsz1 (.cells #[.int .u8 34] 5)); clear hown1 hbel1)
                | (at_builtin; refine wpList_app (enc := encB) (k := 1) (fun _ => rfl) (fun _ u hu => by simp at hu; subst hu; rfl) (by omega) rfl _ _ 88 5 rfl (.int .u8 0) 1 Tryz.underlying88 (by kernel_rfl) rfl w.heap.size _ (l ++ [92]) rfl Hown2.out _ _ _ _ rfl Hrd2.out (by first | omega | (simp; omega)) (by omega) (by first | omega | (simp; omega)) ?_; intro v2 w2 hown2 hbel2))
              have HB := Lib.hid (HB3.out.trans hbel2)
              clear hbel2
              go_roundw
              case rel => exact ⟨k + 1, (l ++ [92]) ++ [34], by omega, by go_num, HN.out, by simp; omega, HA.out, hown2, HB.out⟩
              case measure => simp [intOf]; omega
            · have Hown1 := Lib.hid (Hown.out.alloc (.cells #[.int .u8 92] 5))
              have Hrd1 := Lib.hid (Rd.new (enc := encB) (k := 1) (fun _ => rfl) wr #[.int .u8 92] 5 (n := 1) [92] rfl rfl)
              have HB1 := Lib.hid (HW.out.alloc hsz (.cells #[.int .u8 92] 5))
              have hv : ch = 92 := by exact UInt8.toNat_inj.1 (by show ch.toNat = 92; omega)
              have HN := Lib.hid (show (l ++ [92]) ++ [92] = 34 :: esc (s.data.toList.take (k + 1)) by rw [HE.out, HY.out, List.append_assoc, hv]; rfl)
              clear HE HY hv
              go_wp2_with (first
                | (at_builtin; refine wpList_app (enc := encB) (k := 1) (fun _ => rfl) (fun _ u hu => by simp at hu; subst hu; rfl) (by omega) rfl _ _ 88 5 rfl (.int .u8 0) 1 Tryz.underlying88 (by kernel_rfl) rfl w.heap.size _ l rfl Hown1.out _ _ _ _ rfl Hrd1.out (by first | omega | (simp; omega)) (by omega) (by first | omega | (simp; omega)) ?_; intro v1 w1 hown1 hbel1; have HB2 := Lib.hid (HB1.out.trans hbel1); have hsz1 := HB2.out.size; have Hown2 := Lib.hid (hown1.alloc (.cells #[.int .u8 92] 5)); have Hrd2 := Lib.hid (Rd.new (enc := encB) (k := 1) (fun _ => rfl) w1 #[.int .u8 92] 5 (n := 1) [92] rfl rfl); have HB3 := Lib.hid (HB2.out.alloc hsz1 (.cells #[.int .u8 92] 5)); clear hown1 hbel1)
                | (at_builtin; refine wpList_app (enc := encB) (k := 1) (fun _ => rfl) (fun _ u hu => by simp at hu; subst hu; rfl) (by omega) rfl _ _ 88 5 rfl (.int .u8 0) 1 Tryz.underlying88 (by kernel_rfl) rfl w.heap.size _ (l ++ [92]) rfl Hown2.out _ _ _ _ rfl Hrd2.out (by first | omega | (simp; omega)) (by omega) (by first | omega | (simp; omega)) ?_; intro v2 w2 hown2 hbel2))
              have HB := Lib.hid (HB3.out.trans hbel2)
              clear hbel2
              go_roundw
              case rel => exact ⟨k + 1, (l ++ [92]) ++ [92], by omega, by go_num, HN.out, by simp; omega, HA.out, hown2, HB.out⟩
              case measure => simp [intOf]; omega
          · have he1 : ¬ (ch.toNat : Int) = 34 := fun h => he (Or.inl h)
            have he2 : ¬ (ch.toNat : Int) = 92 := fun h => he (Or.inr h)
            have HN := Lib.hid (show l ++ [ch] = 34 :: esc (s.data.toList.take (k + 1)) by rw [HE.out, esc_no he1 he2])
            have hd : (((ch.toNat : Int) == 34) || ((ch.toNat : Int) == 92)) = false := by simp [he1, he2]
            have he1b : ((ch.toNat : Int) == 34) = false := beq_eq_false_iff_ne.2 he1
            have he2b : ((ch.toNat : Int) == 92) = false := beq_eq_false_iff_ne.2 he2
            have Hown2 := Lib.hid (Hown.out.alloc (.cells #[.int .u8 (ch.toNat : Int)] 5))
            have Hrd2 := Lib.hid (Rd.new (enc := encB) (k := 1) (fun _ => rfl) wr #[.int .u8 (ch.toNat : Int)] 5 (n := 1) [ch] rfl rfl)
            have HB3 := Lib.hid (HW.out.alloc hsz (.cells #[.int .u8 (ch.toNat : Int)] 5))
            clear HE he
            go_wp2_with (at_builtin; refine wpList_app (enc := encB) (k := 1) (fun _ => rfl) (fun _ u hu => by simp at hu; subst hu; rfl) (by omega) rfl _ _ 88 5 rfl (.int .u8 0) 1 Tryz.underlying88 (by kernel_rfl) rfl w.heap.size _ l rfl Hown2.out _ _ _ _ rfl Hrd2.out (by first | omega | (simp; omega)) (by omega) (by first | omega | (simp; omega)) ?_; intro v2 w2 hown2 hbel2)
            have HB := Lib.hid (HB3.out.trans hbel2)
            clear hbel2
            go_roundw
            case rel => exact ⟨k + 1, l ++ [ch], by omega, by go_num, HN.out, by simp; omega, HA.out, hown2, HB.out⟩
            case measure => simp [intOf]; omega
        · have HF := Lib.hid (quote_bad hlt' (show quotB s.data.toList[k] = false by rw [Bool.eq_false_iff]; intro h; exact hq ((quotB_iff s[k]).1 h)))
          have HW := Lib.hid hW
          by_cases h1 : (s[k].toNat : Int) < 32
          · go_wp2
            go_ret
            exact ⟨ret_s (by rw [HF.out]), HW.out⟩
          · have h2 : (126 : Int) < (s[k].toNat : Int) := by omega
            go_wp2
            go_ret
            exact ⟨ret_s (by rw [HF.out]), HW.out⟩
      · have hke : k = s.size := by omega
        have ha2 : s.data.toList.all quotB = true := by
          have h := ha.out
          rw [List.take_of_length_le (by rw [← HL.out]; omega)] at h
          exact h
        have HF := Lib.hid (show l ++ [34] = quote s.data.toList by
          rw [quote_good (by rw [← HL.out]; omega) ha2, hl, List.take_of_length_le (by rw [← HL.out]; omega)]; rfl)
        have hsz := hW.size
        have Hown2 := Lib.hid (hown.alloc (.cells #[.int .u8 34] 5))
        have Hrd2 := Lib.hid (Rd.new (enc := encB) (k := 1) (fun _ => rfl) wr #[.int .u8 34] 5 (n := 1) [34] rfl rfl)
        have HB3 := Lib.hid (hW.alloc hsz (.cells #[.int .u8 34] 5))
        clear ha ha2 hl hown hW
        go_wp2_with (at_builtin; refine wpList_app (enc := encB) (k := 1) (fun _ => rfl) (fun _ u hu => by simp at hu; subst hu; rfl) (by omega) rfl _ _ 88 5 rfl (.int .u8 0) 1 Tryz.underlying88 (by kernel_rfl) rfl w.heap.size _ l rfl Hown2.out _ _ _ _ rfl Hrd2.out (by first | omega | (simp; omega)) (by omega) (by first | omega | (simp; omega)) ?_; intro v2 w2 hown2 hbel2; obtain ⟨Q, hQ⟩ : ∃ Q, quote s.data.toList = Q := ⟨_, rfl⟩; rw [HF.out, hQ] at hown2; have HQ := Lib.hid hQ; clear hQ; obtain ⟨A', c', rfl⟩ := own_form hown2; have hcv := run_ofBytes (P := Tryz.prog) 88 9 5 Tryz.underlying88 Tryz.underlying5 Tryz.underlying9 (Rd.of_own (enc := encB) (k := 1) (fun _ => rfl) hown2 rfl) c'; clear hown2)
        go_ret
        exact ⟨ret_s (by rw [HQ.out]), HB3.out.trans hbel2⟩

end Go.Proofs.YtjpkceimokkpgaaGreatDoor
