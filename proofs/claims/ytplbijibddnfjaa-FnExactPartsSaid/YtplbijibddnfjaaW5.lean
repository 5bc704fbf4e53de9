/-
  Walks: what each function returns, and that it leaves what lay in memory as it was.
-/
import Derived.Test.YtplbijibddnfjaaProg
import Derived.Test.YtplbijibddnfjaaPlain
import Derived.Test.YtplbijibddnfjaaBase
import Derived.Test.YtplbijibddnfjaaShelf
import Derived.Test.YtplbijibddnfjaaW1
import Derived.WalkKit
import Derived.WalkSpells
import Derived.WalkLawsBesides
import Derived.Lib.Hide
import Derived.Deep.LoopGhost
import Derived.Deep.QuietTactic
import Derived.BigQuiet
import Derived.Handy
import Derived.Deep.RegionHeld3
import Derived.StillTailTactics
namespace Go.Proofs.Ytplbijibddnfjaa
open Go.RowKit
set_option linter.unusedVariables false
set_option linter.unusedSimpArgs false

set_option maxHeartbeats 800000 in
theorem laws_markText (n : Int) (w : World) (hn : n ≤ 1152921504606846976) :
    Calls Try.prog 50 #[.int .i64 n] w fun e w' => e = .returned (.string ⟨(mt n).toArray⟩) ∧ Below w.heap.size w w' := by
  by_cases h0 : n ≤ 0
  · have hm : mt n = [109, 48] := by unfold mt; rw [if_pos h0]
    have HM := Lib.hid hm
    clear hm
    go_enter Try.func50, Try.ntmps50
    go_wp2
    go_ret
    exact ⟨by rw [HM.out]; rfl, Below.refl _ _⟩
  · obtain ⟨K, rfl⟩ := Int.eq_ofNat_of_zero_le (show 0 ≤ n by omega)
    have hK : 0 < K := by omega
    have hm : mt (K : Int) = 109 :: mtGo K K [] := by unfold mt; rw [if_neg h0, Int.toNat_natCast]
    have HM := Lib.hid hm
    clear hm h0
    go_enter Try.func50, Try.ntmps50
    go_wp2_with fail
    go_loopw [0, 3] (fun i o wr => ∃ (k : Nat) (l : Str), i = .int .i64 k ∧ o = .string ⟨l.toArray⟩ ∧ l.length + k ≤ K ∧ Hid (mtGo k k l = mtGo K K []) ∧ Below w.heap.size w wr) (fun i _ _ => (intOf i).toNat)
    case atStart => exact ⟨K, [], rfl, rfl, by simp, rfl, Below.refl _ _⟩
    case round =>
      obtain ⟨k, l, rfl, rfl, hl, hg, hW⟩ := hrel
      by_cases hk : 0 < k
      · have hcv := run_ofBytes (P := Try.prog) 44 9 5 Try.underlying44 Try.underlying5 Try.underlying9
          (Rd.new (enc := encB) (k := 1) (fun _ => rfl) wr #[.int .u8 (48 + (k : Int) % 10)] 5 (n := 1) [UInt8.ofNat (48 + k % 10)] (by simp [encB]; omega) rfl) 1
        have hstep : mtGo (k / 10) (k / 10) (UInt8.ofNat (48 + k % 10) :: l) = mtGo K K [] := by rw [← hg.out]; exact (mtGo_step k l hk).symm
        have Hstep := Lib.hid hstep
        clear hstep hg
        have hd : k / 10 + 1 ≤ k := by omega
        generalize UInt8.ofNat (48 + k % 10) = c at hcv Hstep
        go_wp2
        go_roundw
        case rel => exact ⟨k / 10, c :: l, by go_num, congrArg Value.string (ByteArray.mk_append_mk [c] l), by simp; omega, Hstep.out, hW.alloc hW.size _⟩
        case measure => simp [intOf]; omega
      · obtain rfl : k = 0 := by omega
        have hfin : l = mtGo K K [] := by rw [← hg.out]; rfl
        have Hfin := Lib.hid hfin
        clear hfin hg hk
        go_wp2
        go_ret
        exact ⟨ret_s (by rw [HM.out, ← Hfin.out]; exact ByteArray.mk_append_mk [109] l), hW⟩
set_option maxHeartbeats 1600000 in
theorem laws_markStringS (A : Option Addr) (n c base : Nat) (k0 : Int) (xs : List Str) (w : World) (hk0 : 0 ≤ k0) (hk1 : k0 + n ≤ 1152921504606846976) (hl : xs.length = n)
    (hown : w.ownsRow base 9 1 (.slice A n c) n (xs.flatMap encStr)) :
    Calls Try.prog 36 #[.slice A n c, .int .i64 k0] w fun e w' => e = .returned (.int .i64 (k0 + n)) ∧
      w'.ownsRow base 9 1 (.slice A n c) n ((marks k0 n).flatMap encStr) ∧ w.grownBy w' (Value.slice A n c).ownBlock := by
  have HL := Lib.hid hl
  clear hl
  go_enter Try.func36, Try.ntmps36
  go_wp2_with fail
  go_loopw [1, 5] (fun m i wr => ∃ j : Nat, j ≤ n ∧ i = .int .i64 j ∧ m = .int .i64 (k0 + j) ∧ wr.ownsRow base 9 1 (.slice A n c) n ((marks k0 j ++ xs.drop j).flatMap encStr) ∧ w.grownBy wr (Value.slice A n c).ownBlock) (fun _ i _ => n - (intOf i).toNat)
  case atStart => exact ⟨0, Nat.zero_le _, rfl, by simp, hown, World.grownBy.refl _ _⟩
  case round =>
    obtain ⟨j, hj, rfl, rfl, ho, hg⟩ := hrel
    clear hown
    by_cases hlt : j < n
    · have hlx : j < xs.length := by rw [HL.out]; exact hlt
      have hA : ∃ g, A = some ⟨g, 0, none⟩ := by
        rcases ho.2 with ⟨hv, h0⟩ | ⟨g, cap, cur, hv, _⟩
        · omega
        · injection hv with hA; exact ⟨g, hA⟩
      obtain ⟨g, rfl⟩ := hA
      have Ho := Lib.hid ho
      have Hg := Lib.hid hg
      clear ho hg
      go_wp2_with fail
      refine (laws_markText _ _ (by omega)).mono ?_
      rintro e w1 ⟨rfl, hb1⟩
      have ho1 := own_below Ho.out hb1
      have hc := ho1.cellAt j (by omega)
      have hc2 : ((marks k0 j ++ xs.drop j).flatMap encStr)[j]? = some (.string ⟨xs[j].toArray⟩) := by
        have := flat_get (enc := encStr) (k := 1) (fun _ => rfl) (marks k0 j ++ xs.drop j) j 0 xs[j] _ (by rw [List.getElem?_append_right (by simp [marks]), marks_len, Nat.sub_self, List.getElem?_drop]; simp [hlx]) rfl
        simpa using this
      rw [hc2] at hc
      have hf := ho1.frozenAt j
      have hst := ho1.stored j (.string ⟨(mt (k0 + j)).toArray⟩)
      have hset : ((marks k0 j ++ xs.drop j).flatMap encStr).set j (.string ⟨(mt (k0 + j)).toArray⟩) = (marks k0 (j + 1) ++ xs.drop (j + 1)).flatMap encStr := by
        rw [flat_setS, marks_set k0 j xs hlx]
      rw [hset] at hst
      have Hst := Lib.hid hst
      have Hb1 := Lib.hid hb1
      clear hst hset hc2 ho1 hb1
      go_wp2
      go_roundw
      case rel => exact ⟨j + 1, by omega, by go_num, by go_num, Hst.out.1, gb_trans Hg.out (gb_trans (gb_below _ Hb1.out) Hst.out.2)⟩
      case measure => simp [intOf]; omega
    · have hke : j = n := by omega
      subst hke
      have hfin : marks k0 j ++ xs.drop j = marks k0 j := by rw [List.drop_eq_nil_of_le (by rw [HL.out]; exact Nat.le_refl _), List.append_nil]
      rw [hfin] at ho
      have Ho := Lib.hid ho
      have Hg := Lib.hid hg
      clear ho hg hfin hlt
      go_wp2
      go_ret
      exact ⟨rfl, Ho.out, Hg.out⟩
set_option maxHeartbeats 800000 in
theorem laws_eqStringS (A1 A2 : Option Addr) (n c1 c2 : Nat) (xs : List Str) (w : World) (hn : n ≤ 4611686018427387904) (h1 : Rd encStr 1 w A1 n xs) (h2 : Rd encStr 1 w A2 n xs) :
    Calls Try.prog 35 #[.slice A1 n c1, .slice A2 n c2] w fun e w' => e = .returned (.bool true) ∧ Below w.heap.size w w' := by
  have H1 := Lib.hid h1
  have H2 := Lib.hid h2
  clear h1 h2
  go_enter Try.func35, Try.ntmps35
  go_wp2_with fail
  go_loopw [5] (fun i wr => ∃ k : Nat, k ≤ n ∧ i = .int .i64 k ∧ Below w.heap.size w wr) (fun i _ => n - (intOf i).toNat)
  case atStart => exact ⟨0, Nat.zero_le _, rfl, Below.refl _ _⟩
  case round =>
    obtain ⟨k, hk, rfl, hW⟩ := hrel
    by_cases hlt : k < n
    · obtain ⟨b1, o1, x, rfl, _, hx, hc1⟩ := (H1.out.below hW).elem hlt
      obtain ⟨b2, o2, x', rfl, _, hx', hc2⟩ := (H2.out.below hW).elem hlt
      have hxx : x' = x := by rw [hx] at hx'; exact (Option.some.inj hx').symm
      subst hxx
      have g1 : wr.cell? ⟨b1, o1 + k, none⟩ = some (.string ⟨x'.toArray⟩) := by simpa using hc1 0 _ rfl
      have g2 : wr.cell? ⟨b2, o2 + k, none⟩ = some (.string ⟨x'.toArray⟩) := by simpa using hc2 0 _ rfl
      have HW := Lib.hid hW
      clear hc1 hc2 hx hx' hW H1 H2
      go_wp2
      go_quiet (fail)
      go_wp2
      go_roundw
      case rel => exact ⟨k + 1, by omega, by go_num, below_drewN HW.out _⟩
      case measure => simp [intOf]; omega
    · go_wp2
      go_ret
      exact ⟨rfl, hW⟩
set_option maxHeartbeats 800000 in
theorem laws_heldStringS (A : Option Addr) (n c : Nat) (k0 : Int) (w : World) (hk0 : 0 ≤ k0) (hk1 : k0 + n ≤ 1152921504606846976) (h : Rd encStr 1 w A n (marks k0 n)) :
    Calls Try.prog 37 #[.slice A n c, .int .i64 k0] w fun e w' => e = .returned (.int .i64 (k0 + n)) ∧ Below w.heap.size w w' := by
  have H := Lib.hid h
  clear h
  go_enter Try.func37, Try.ntmps37
  go_wp2_with fail
  go_loopw [1, 5] (fun m i wr => ∃ j : Nat, j ≤ n ∧ i = .int .i64 j ∧ m = .int .i64 (k0 + j) ∧ Below w.heap.size w wr) (fun _ i _ => n - (intOf i).toNat)
  case atStart => exact ⟨0, Nat.zero_le _, rfl, by simp, Below.refl _ _⟩
  case round =>
    obtain ⟨j, hj, rfl, rfl, hW⟩ := hrel
    by_cases hlt : j < n
    · obtain ⟨b, off, x, rfl, hb, hx, hc⟩ := (H.out.below hW).elem hlt
      have hxm : x = mt (k0 + j) := by rw [marks_at k0 hlt] at hx; exact (Option.some.inj hx).symm
      subst hxm
      have g1 : wr.cell? ⟨b, off + j, none⟩ = some (.string ⟨(mt (k0 + j)).toArray⟩) := by simpa using hc 0 _ rfl
      have HW := Lib.hid hW
      clear hc hx hW H
      generalize hX : mt (k0 + j) = X at *
      have HX := Lib.hid hX
      clear hX
      go_wp2
      go_region_held3 (fun w' => w'.cell? ⟨b, off + j, none⟩ = some (.string ⟨X.toArray⟩)) (first | exact g1 | assumption)
        ((first | (go_at_call 50; refine (laws_markText _ _ (by omega)).mono ?_; rintro e w1 ⟨rfl, hb1⟩; rw [HX.out]; have hq : w1.cell? ⟨b, off + j, none⟩ = some (.string ⟨X.toArray⟩) := (hb1.cell (p := ⟨b, off + j, none⟩) (by simpa using hb)).trans (by simpa using g1))))
      go_wp2
      go_roundw
      case rel => exact ⟨j + 1, by omega, by go_num, by go_num, (HW.out.drew).trans (hb1.mono (by have := HW.out.size; simpa using this))⟩
      case measure => simp [intOf]; omega
    · have hke : j = n := by omega
      subst hke
      go_wp2
      go_ret
      exact ⟨rfl, hW⟩

set_option maxHeartbeats 1600000 in
theorem impl_Parts (s : ByteArray) (b : UInt8) (w : World) (hs : s.size ≤ 1099511627776) :
    Calls Try.prog 34 #[.string s, .int .u8 (b.toNat : Int)] w (RetOwn encStr 1 9 w (parts b s.data.toList)) := by
  have HL := Lib.hid (size_len s)
  generalize hP : parts b s.data.toList = R
  have HP := Lib.hid hP
  clear hP
  have hnew := World.ownsRow_made (base := w.heap.size) (e := 9) (size := 1) w #[] 0 (Nat.le_refl _) (by unfold maxLen; omega) rfl
  go_enter Try.func34, Try.ntmps34
  go_wp2_with fail
  go_loopw [5, 6, 11] (fun o f c wr => ∃ (k j : Nat) (ps : List Str), k ≤ s.size ∧ j ≤ k ∧ ps.length ≤ k ∧ f = .int .i64 j ∧ c = .int .i64 k ∧ wr.ownsRow w.heap.size 9 1 o ps.length (ps.flatMap encStr) ∧
      Hid (ps ++ partsGo b ((s.data.toList.take k).drop j) (s.data.toList.drop k) = R) ∧ Below w.heap.size w wr) (fun _ _ c _ => s.size - (intOf c).toNat)
  case atStart => exact ⟨0, 0, [], by omega, by omega, by simp, rfl, rfl, hnew, HP.out, (Below.refl _ _).alloc (Nat.le_refl _) _⟩
  case round =>
    obtain ⟨k, j, ps, hk, hj, hpl, rfl, rfl, hown, hg, hW⟩ := hrel
    clear hnew
    by_cases hlt : k < s.size
    · have hlt' : k < s.data.toList.length := by rw [← HL.out]; exact hlt
      by_cases hc : s[k] = b
      · have hcb : ((s[k].toNat : Int) == (b.toNat : Int)) = true := by rw [hc]; simp
        have hg2 : (ps ++ [(s.data.toList.take k).drop j]) ++ partsGo b ((s.data.toList.take (k + 1)).drop (k + 1)) (s.data.toList.drop (k + 1)) = R := by
          rw [← hg.out, partsGo_hit hlt' hj hc, List.append_assoc]; rfl
        have Hg2 := Lib.hid hg2
        have hown2 := hown.alloc (.cells #[.string (s.extract j k)] 9)
        have hrd := Rd.new (enc := encStr) (k := 1) (fun _ => rfl) wr #[.string (s.extract j k)] 9 (n := 1) [(s.data.toList.take k).drop j] (by rw [extract_str]; rfl) rfl
        have Hown2 := Lib.hid hown2
        have Hrd := Lib.hid hrd
        clear hg hg2 hc hown2 hrd
        go_wp2_with (at_builtin; refine wpList_app (enc := encStr) (k := 1) (fun _ => rfl) (fun _ u hu => by simp at hu; subst hu; rfl) (by omega) rfl _ _ 31 9 rfl (.string ByteArray.empty) 16 Try.underlying31 (by kernel_rfl) rfl w.heap.size _ ps rfl Hown2.out _ _ _ _ rfl Hrd.out (by omega) (by omega) (by have := hW.size; simp; omega) ?_; intro v' w' hown' hbel')
        go_roundw
        case rel => exact ⟨k + 1, k + 1, ps ++ [(s.data.toList.take k).drop j], by omega, by omega, by simp; omega, by go_num, by go_num, hown', Hg2.out, (hW.alloc hW.size _).trans hbel'⟩
        case measure => simp [intOf]; omega
      · have hcb : ((s[k].toNat : Int) == (b.toNat : Int)) = false := by
          rw [beq_eq_false_iff_ne]; intro h; exact hc (UInt8.toNat_inj.1 (by omega))
        have hg2 : ps ++ partsGo b ((s.data.toList.take (k + 1)).drop j) (s.data.toList.drop (k + 1)) = R := by
          rw [← hg.out, partsGo_miss hlt' hj hc]
        have Hg2 := Lib.hid hg2
        clear hg hg2 hc
        have Hown := Lib.hid hown
        clear hown
        go_wp2
        go_roundw
        case rel => exact ⟨k + 1, j, ps, by omega, by omega, by omega, rfl, by go_num, Hown.out, Hg2.out, hW⟩
        case measure => simp [intOf]; omega
    · have hke : k = s.size := by omega
      subst hke
      have hg2 : ps ++ [(s.data.toList.take s.size).drop j] = R := by
        rw [← hg.out]; congr 1
        have := partsGo_end b s.data.toList j
        rw [← HL.out] at this
        rw [this, List.take_of_length_le (by rw [HL.out]; exact Nat.le_refl _)]
      have Hg2 := Lib.hid hg2
      have hown2 := hown.alloc (.cells #[.string (s.extract j s.size)] 9)
      have hrd := Rd.new (enc := encStr) (k := 1) (fun _ => rfl) wr #[.string (s.extract j s.size)] 9 (n := 1) [(s.data.toList.take s.size).drop j] (by rw [extract_str]; rfl) rfl
      have Hown2 := Lib.hid hown2
      have Hrd := Lib.hid hrd
      clear hg hg2 hown2 hrd hlt hown
      go_wp2_with (at_builtin; refine wpList_app (enc := encStr) (k := 1) (fun _ => rfl) (fun _ u hu => by simp at hu; subst hu; rfl) (by omega) rfl _ _ 31 9 rfl (.string ByteArray.empty) 16 Try.underlying31 (by kernel_rfl) rfl w.heap.size _ ps rfl Hown2.out _ _ _ _ rfl Hrd.out (by omega) (by omega) (by have := hW.size; simp; omega) ?_; intro v' w' hown' hbel')
      go_ret
      rw [Hg2.out] at hown'
      exact retOwn_mk hown' ((hW.alloc hW.size _).trans hbel')
set_option maxHeartbeats 1600000 in
theorem spec_Parts (s : ByteArray) (b : UInt8) (w : World) (hs : s.size ≤ 1099511627776) :
    Calls Try.prog 33 #[.string s, .int .u8 (b.toNat : Int)] w (RetOwn encStr 1 9 w (parts b s.data.toList)) := by
  have HL := Lib.hid (size_len s)
  generalize hP : parts b s.data.toList = R
  have HP := Lib.hid hP
  clear hP
  have hnew := World.ownsRow_made (base := w.heap.size) (e := 9) (size := 1) w #[] 0 (Nat.le_refl _) (by unfold maxLen; omega) rfl
  go_enter Try.func33, Try.ntmps33
  go_wp2_with fail
  go_loopw [5, 6, 7] (fun o f c wr => ∃ (k j : Nat) (ps : List Str), k ≤ s.size + 1 ∧ j ≤ k ∧ ps.length ≤ k ∧ f = .int .i64 j ∧ c = .int .i64 k ∧ wr.ownsRow w.heap.size 9 1 o ps.length (ps.flatMap encStr) ∧
      Hid ((k ≤ s.size → ps ++ partsGo b ((s.data.toList.take k).drop j) (s.data.toList.drop k) = R) ∧ (k = s.size + 1 → ps = R)) ∧ Below w.heap.size w wr) (fun _ _ c _ => s.size + 1 - (intOf c).toNat)
  case atStart => exact ⟨0, 0, [], by omega, by omega, by simp, rfl, rfl, hnew, ⟨fun _ => HP.out, fun h => absurd h (by omega)⟩, (Below.refl _ _).alloc (Nat.le_refl _) _⟩
  case round =>
    obtain ⟨k, j, ps, hk, hj, hpl, rfl, rfl, hown, hg, hW⟩ := hrel
    clear hnew
    by_cases hle : k ≤ s.size
    · by_cases hlt : k < s.size
      · have hlt' : k < s.data.toList.length := by rw [← HL.out]; exact hlt
        have hne : ((k : Int) == (s.size : Int)) = false := by rw [beq_eq_false_iff_ne]; omega
        by_cases hc : s[k] = b
        · have hcb : ((s[k].toNat : Int) == (b.toNat : Int)) = true := by rw [hc]; simp
          have hg2 : (ps ++ [(s.data.toList.take k).drop j]) ++ partsGo b ((s.data.toList.take (k + 1)).drop (k + 1)) (s.data.toList.drop (k + 1)) = R := by
            rw [← hg.out.1 hle, partsGo_hit hlt' hj hc, List.append_assoc]; rfl
          have Hg2 := Lib.hid hg2
          have hown2 := hown.alloc (.cells #[.string (s.extract j k)] 9)
          have hrd := Rd.new (enc := encStr) (k := 1) (fun _ => rfl) wr #[.string (s.extract j k)] 9 (n := 1) [(s.data.toList.take k).drop j] (by rw [extract_str]; rfl) rfl
          have Hown2 := Lib.hid hown2
          have Hrd := Lib.hid hrd
          clear hg hg2 hc hown2 hrd
          go_wp2_with (at_builtin; refine wpList_app (enc := encStr) (k := 1) (fun _ => rfl) (fun _ u hu => by simp at hu; subst hu; rfl) (by omega) rfl _ _ 31 9 rfl (.string ByteArray.empty) 16 Try.underlying31 (by kernel_rfl) rfl w.heap.size _ ps rfl Hown2.out _ _ _ _ rfl Hrd.out (by omega) (by omega) (by have := hW.size; simp; omega) ?_; intro v' w' hown' hbel')
          go_roundw
          case rel => exact ⟨k + 1, k + 1, ps ++ [(s.data.toList.take k).drop j], by omega, by omega, by simp; omega, by go_num, by go_num, hown', ⟨fun _ => Hg2.out, fun h => absurd h (by omega)⟩, (hW.alloc hW.size _).trans hbel'⟩
          case measure => simp [intOf]; omega
        · have hcb : ((s[k].toNat : Int) == (b.toNat : Int)) = false := by
            rw [beq_eq_false_iff_ne]; intro h; exact hc (UInt8.toNat_inj.1 (by omega))
          have hg2 : ps ++ partsGo b ((s.data.toList.take (k + 1)).drop j) (s.data.toList.drop (k + 1)) = R := by
            rw [← hg.out.1 hle, partsGo_miss hlt' hj hc]
          have Hg2 := Lib.hid hg2
          clear hg hg2 hc
          have Hown := Lib.hid hown
          clear hown
          go_wp2
          go_roundw
          case rel => exact ⟨k + 1, j, ps, by omega, by omega, by omega, rfl, by go_num, Hown.out, ⟨fun _ => Hg2.out, fun h => absurd h (by omega)⟩, hW⟩
          case measure => simp [intOf]; omega
      · have hke : k = s.size := by omega
        subst hke
        have hg2 : ps ++ [(s.data.toList.take s.size).drop j] = R := by
          rw [← hg.out.1 hle]; congr 1
          have := partsGo_end b s.data.toList j
          rw [← HL.out] at this
          rw [this, List.take_of_length_le (by rw [HL.out]; exact Nat.le_refl _)]
        have Hg2 := Lib.hid hg2
        have hown2 := hown.alloc (.cells #[.string (s.extract j s.size)] 9)
        have hrd := Rd.new (enc := encStr) (k := 1) (fun _ => rfl) wr #[.string (s.extract j s.size)] 9 (n := 1) [(s.data.toList.take s.size).drop j] (by rw [extract_str]; rfl) rfl
        have Hown2 := Lib.hid hown2
        have Hrd := Lib.hid hrd
        clear hg hg2 hown2 hrd hlt hown
        go_wp2_with (at_builtin; refine wpList_app (enc := encStr) (k := 1) (fun _ => rfl) (fun _ u hu => by simp at hu; subst hu; rfl) (by omega) rfl _ _ 31 9 rfl (.string ByteArray.empty) 16 Try.underlying31 (by kernel_rfl) rfl w.heap.size _ ps rfl Hown2.out _ _ _ _ rfl Hrd.out (by omega) (by omega) (by have := hW.size; simp; omega) ?_; intro v' w' hown' hbel')
        go_roundw
        case rel => exact ⟨s.size + 1, s.size + 1, ps ++ [(s.data.toList.take s.size).drop j], by omega, by omega, by simp; omega, by go_num, by go_num, hown', ⟨fun h => absurd h (by omega), fun _ => Hg2.out⟩, (hW.alloc hW.size _).trans hbel'⟩
        case measure => simp [intOf]
    · have hke : k = s.size + 1 := by omega
      have hfin := hg.out.2 hke
      have Hfin := Lib.hid hfin
      have Hown := Lib.hid hown
      clear hfin hg hown hke
      go_wp2
      go_ret
      have ho := Hown.out
      rw [Hfin.out] at ho
      exact retOwn_mk ho hW
theorem parts_len (b : UInt8) : ∀ (s cur : Str), (partsGo b cur s).length ≤ s.length + 1
  | [], cur => by simp [partsGo]
  | c :: r, cur => by
    rw [partsGo]
    split
    · have := parts_len b r []
      simp; omega
    · have := parts_len b r (cur ++ [c])
      simp only [List.length_cons]; omega
set_option maxHeartbeats 1600000 in
theorem walk_FnExactParts (a0 : ByteArray) (a1 : Int) (w : World) (w0 : a0.size ≤ maxLen) (w1 : (Lit.int .u8 a1).wf = true) :
    Calls Try.prog 13 #[.string a0, .int .u8 a1] w fun e w' => e = .returned (.bool true) ∧ Below w.heap.size w w' := by
  have hm := w0
  unfold maxLen at hm
  by_cases hbig : (1048576 : Int) < (a0.size : Int)
  · go_enter Try.func13, Try.ntmps13
    go_wp2
    go_ret
    exact ⟨rfl, Below.refl _ _⟩
  · obtain ⟨b, rfl⟩ : ∃ b : UInt8, a1 = (b.toNat : Int) := by
      have h : 0 ≤ a1 ∧ a1 < 256 := by simp [Lit.wf, IntKind.min, IntKind.max, IntKind.signed, IntKind.bits] at w1; omega
      exact ⟨UInt8.ofNat a1.toNat, by simp; omega⟩
    have hsz : a0.size ≤ 1099511627776 := by omega
    have hlen := parts_len b a0.data.toList []
    rw [← size_len] at hlen
    have hlen2 : (parts b a0.data.toList).length ≤ 1048577 := by unfold parts; omega
    generalize hR : parts b a0.data.toList = R at *
    clear hlen w1
    go_enter Try.func13, Try.ntmps13
    go_wp2_with fail
    refine (spec_Parts a0 b w hsz).mono ?_
    rw [hR]
    rintro e x1 ⟨A1, c1, rfl, o1, b1⟩
    have o1' := o1
    go_wp2_with fail
    refine (impl_Parts a0 b x1 hsz).mono ?_
    rw [hR]
    rintro e x2 ⟨A2, c2, rfl, o2, b2⟩
    have o1 := own_below o1 b2
    have l1 : ∀ j, (Value.slice A1 R.length c1).ownBlock = some j → j < x1.heap.size := own_lt o1' (Nat.le_refl _)
    have hb2 : Below w.heap.size w x2 := b1.trans (b2.mono b1.size)
    go_wp2_with fail
    refine (laws_eqStringS A2 A1 _ c2 c1 R x2 (by omega) (rdS o2 rfl) (rdS o1 rfl)).mono ?_
    rintro e x3 ⟨rfl, b3⟩
    have o1 := own_below o1 b3
    have o2 := own_below o2 b3
    have hb3 := hb2.trans (b3.mono hb2.size)
    clear b3
    go_wp2_with fail
    refine (laws_markStringS A2 _ c2 _ 1 R x3 (by omega) (by omega) rfl o2).mono ?_
    rintro e x4 ⟨rfl, o3, g4⟩
    have o1 := own_apart o1 l1 o2 g4
    have hb4 := hb3.trans (gb_to_below g4 hb3.size (fun k hk => Nat.le_trans b1.size (o2.lt k hk).1))
    clear o2 g4
    go_wp2_with fail
    refine (laws_heldStringS A2 _ c2 1 x4 (by omega) (by omega) (rdS o3 (marks_len _ _))).mono ?_
    rintro e x5 ⟨rfl, b5⟩
    have o1 := own_below o1 b5
    have o3 := own_below o3 b5
    have hb5 := hb4.trans (b5.mono hb4.size)
    clear b5
    go_wp2_with fail
    refine (impl_Parts a0 b x5 hsz).mono ?_
    rw [hR]
    rintro e x6 ⟨A6, c6, rfl, o6, b6⟩
    have o1 := own_below o1 b6
    have o3 := own_below o3 b6
    have hb6 := hb5.trans (b6.mono hb5.size)
    clear b6
    go_wp2_with fail
    refine (laws_eqStringS A6 A1 _ c6 c1 R x6 (by omega) (rdS o6 rfl) (rdS o1 rfl)).mono ?_
    rintro e x7 ⟨rfl, b7⟩
    have o3 := own_below o3 b7
    have hb7 := hb6.trans (b7.mono hb6.size)
    clear b7
    go_wp2_with fail
    refine (laws_heldStringS A2 _ c2 1 x7 (by omega) (by omega) (rdS o3 (marks_len _ _))).mono ?_
    rintro e x8 ⟨rfl, b8⟩
    have hb8 := hb7.trans (b8.mono hb7.size)
    clear b8
    go_wp2
    go_ret
    exact ⟨rfl, hb8⟩

end Go.Proofs.Ytplbijibddnfjaa
