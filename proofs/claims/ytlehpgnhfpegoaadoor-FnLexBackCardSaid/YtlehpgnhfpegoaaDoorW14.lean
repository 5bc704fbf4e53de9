/-
  Walks: what each function returns, and that it leaves what lay in memory as it was.
-/
import Derived.Test.YtlehpgnhfpegoaaDoorProg
import Derived.Test.YtlehpgnhfpegoaaDoorPlain
import Derived.Test.YtlehpgnhfpegoaaDoorBase2
import Derived.Test.YtlehpgnhfpegoaaDoorOpen2
import Derived.Test.YtlehpgnhfpegoaaDoorShelf
import Derived.WalkKit
import Derived.WalkSpells
import Derived.WalkLawsBesides
import Derived.Lib.Hide
import Derived.Deep.LoopGhost
import Derived.Deep.QuietTactic
import Derived.BigQuiet
import Derived.Handy
import Derived.Deep.RegionHeld3
import Derived.StillTailTactics
import Derived.OpenShut
import Derived.ChangeSame
import Derived.Laws.StructEq

import Derived.Test.YtlehpgnhfpegoaaDoorPlainT

import Derived.Test.YtlehpgnhfpegoaaDoorW1

import Derived.Test.YtlehpgnhfpegoaaDoorW2

import Derived.Test.YtlehpgnhfpegoaaDoorW3

import Derived.Test.YtlehpgnhfpegoaaDoorW4

import Derived.Test.YtlehpgnhfpegoaaDoorW5

import Derived.Test.YtlehpgnhfpegoaaDoorW6

import Derived.Test.YtlehpgnhfpegoaaDoorBase3

import Derived.Lib.ItoaMem
import Derived.Lib.ItoaLen
import Derived.Lib.LaidTab

import Derived.Lib.AtoiTie
import Derived.Lib.AtoiBound
import Derived.Lib.ConvBytes

import Derived.Test.YtlehpgnhfpegoaaDoorW7

import Derived.Test.YtlehpgnhfpegoaaDoorW8

import Derived.Test.YtlehpgnhfpegoaaDoorW10

import Derived.Test.YtlehpgnhfpegoaaDoorW13

namespace Go.Proofs.YtlehpgnhfpegoaaDoor
open Go.ChangeShapes Go.WideShapes Go.ChangeAt Go.RowKit Go.Deep
set_option linter.unusedVariables false
set_option linter.unusedSimpArgs false

set_option maxRecDepth 20000

set_option maxHeartbeats 6400000 in
set_option maxRecDepth 20000 in
theorem impl_Lex (s : ByteArray) (w : World) (hs : s.size ≤ 1048576) (hml : ML w) (htab : Lib.TabIs Tryd.prog w "internal/strconv.uint64pow10" .u64 Lib.pow10Tab)
    (hE1 : ∃ pp, w.var? Tryd.prog "strconv.ErrSyntax" = some #[.iface 118 pp]) (hE2 : ∃ pp, w.var? Tryd.prog "strconv.ErrRange" = some #[.iface 118 pp]) :
    Calls Tryd.prog 7 #[.string s] w fun e w' => (∃ (A : Option Addr) (c : Nat), e = .returned (.tuple #[.slice A (lex s.data.toList).1.length c, .bool (lex s.data.toList).2]) ∧ w'.ownsRow w.heap.size 34 2 (.slice A (lex s.data.toList).1.length c) (lex s.data.toList).1.length ((lex s.data.toList).1.flatMap encToken)) ∧ Below w.heap.size w w' := by
  obtain ⟨R, hR⟩ : ∃ R, (lex s.data.toList).1 = R := ⟨_, rfl⟩
  obtain ⟨ok, hok⟩ : ∃ ok, (lex s.data.toList).2 = ok := ⟨_, rfl⟩
  have HSL := Lib.hid (size_len s)
  have HD := Lib.hid (show lexGo2 s.data.toList (s.size + 1) 0 [] = (R, ok) by rw [← hR, ← hok, HSL.out]; rfl)
  rw [hR, hok]
  clear hR hok
  have HM := Lib.hid hml
  have HT := Lib.hid htab
  have HE1 := Lib.hid hE1
  have HE2 := Lib.hid hE2
  clear hml htab hE1 hE2
  have hnew := Lib.hid (World.ownsRow_made (base := w.heap.size) (e := 34) (size := 2) w #[] 0 (Nat.le_refl _) (by unfold maxLen; omega) rfl)
  have hB0 := Lib.hid (show Below w.heap.size w (w.alloc (.cells #[] 34)) from (Below.refl _ _).alloc (Nat.le_refl _) _)
  go_enter Tryd.func7, Tryd.ntmps7
  go_wp2_with fail
  go_loopw [4, 5] (fun o i wr => ∃ (k f ln : Nat) (l : List Token), k ≤ s.size ∧ i = .int .i64 k ∧ ln ≤ k ∧ s.size < f + k ∧ Hid (l.length = ln) ∧ Hid (lexGo2 s.data.toList f k l = (R, ok)) ∧ wr.ownsRow w.heap.size 34 2 o ln (l.flatMap encToken) ∧ Below w.heap.size w wr) (fun _ i _ => s.size - (intOf i).toNat)
  case atStart => exact ⟨0, s.size + 1, 0, [], by omega, rfl, by omega, by omega, Lib.hid rfl, HD, hnew.out, hB0.out⟩
  case round =>
    clear hnew hB0 HD
    obtain ⟨k, f, ln, l, hk, rfl, hll, hfk, HLn, hg, ho, hW⟩ := hrel
    have HO := Lib.hid ho
    have HW := Lib.hid hW
    have hsz := hW.size
    clear ho hW
    obtain ⟨A', c', rfl⟩ := own_form HO.out
    by_cases hlt : k < s.size
    · have hgk := getb s hlt
      obtain ⟨ck, hck⟩ : ∃ c, s[k] = c := ⟨_, rfl⟩
      rw [hck] at hgk
      have hck8 := u8_lt ck
      have hki : (k : Int) < (s.size : Int) := by omega
      have HKl := Lib.hid (show k < s.data.toList.length by rw [← HSL.out]; exact hlt)
      have HFk := Lib.hid (show s.data.toList.length < f + k by rw [← HSL.out]; exact hfk)
      have HNo := Lib.hid (fun (h : lexStep s.data.toList k l = none) => show R = [] ∧ ok = false by
        have h2 := hg.out.symm.trans (lexGo2_no HKl.out HFk.out h)
        injection h2 with h3 h4
        exact ⟨h3, h4⟩)
      have HYes := Lib.hid (fun (t : Token) (m : Nat) (h : lexStep s.data.toList k l = some (t, m)) => (lexGo2_yes HKl.out HFk.out h).symm.trans hg.out)
      clear hg
      by_cases c32 : (ck.toNat : Int) = 32
      · have e32 : ck = 32 := UInt8.toNat_inj.1 (by show ck.toNat = 32; omega)
        have HSp := Lib.hid (show decide (s.data.toList[k]? = some 32) = true from decide_eq_true (by rw [hgk, e32]))
        have HAt := Lib.hid (show lexAt s.data.toList k = k + 1 by unfold lexAt; rw [if_pos (by rw [hgk, e32])])
        clear hgk c32
        subst e32
        by_cases hq : k + 1 < s.size
        · have hqi : ¬ (k : Int) + 1 = (s.size : Int) := by omega
          have hqb : (((k : Int) + 1) == (s.size : Int)) = false := beq_eq_false_iff_ne.2 hqi
          have hqg : ¬ (s.size : Int) ≤ (k : Int) + 1 := by omega
          obtain ⟨TT, hTT⟩ : ∃ TT, takeTok s.data.toList (k + 1) = TT := ⟨_, rfl⟩
          have HTT := Lib.hid hTT
          have HBd := Lib.hid (takeTok_bound s.data.toList (k + 1) (by rw [← HSL.out]; exact hq))
          have HC := Lib.hid (impl_readToken s (k + 1) wr hs (by omega) (HM.out.below HW.out) (tab_below HT.out HW.out) (by obtain ⟨p, hp⟩ := HE1.out; exact ⟨p, var_below hp HW.out⟩) (by obtain ⟨p, hp⟩ := HE2.out; exact ⟨p, var_below hp HW.out⟩))
          rw [hTT] at HBd HC
          clear hTT
          obtain ⟨tt, n⟩ := TT
          go_wp2_with fail
          refine HC.out.mono ?_
          rintro e w2 ⟨⟨t, ht, rfl⟩, hb2⟩
          have Ht := Lib.hid ht
          have hal : Below w2.heap.size w2 (w2.alloc (.cells #[.int .i64 t.kind, .string t.text] 34)) := (Below.refl _ _).alloc (Nat.le_refl _) _
          have hb3 := hb2.trans (hal.mono hb2.size)
          have HO3 := Lib.hid (own_below HO.out hb3)
          have HW3 := Lib.hid (HW.out.trans (hb3.mono hsz))
          have HP := Lib.hid (Holds.new w2 [.int .i64 t.kind, .string t.text] 34)
          have hsz3 := HW3.out.size
          clear ht hb2 hb3 hal HC HO HW
          have f50 : ∀ u : Later (w2.alloc (.cells #[.int .i64 t.kind, .string t.text] 34)), u.at_.cell? ⟨w2.heap.size, 0, none⟩ = some (.int .i64 t.kind) := fun u => u.cell (HP.out.2 0 _ rfl)
          have f51 : ∀ u : Later (w2.alloc (.cells #[.int .i64 t.kind, .string t.text] 34)), u.at_.cell? ⟨w2.heap.size, 1, none⟩ = some (.string t.text) := fun u => u.cell (HP.out.2 1 _ rfl)
          by_cases hl0 : ln = 0
          · have HL0 := Lib.hid hl0
            have hj0 : decide ((0 : Int) < (ln : Int)) = false := decide_eq_false (by omega)
            have hj0n : decide (0 < ln) = false := decide_eq_false (by omega)
            have hz : ((ln : Int) == 0) = true := beq_iff_eq.2 (by omega)
            have HGa := Lib.hid (show apartL l tt = false from apartL_nil (by rw [HLn.out]; exact HL0.out))
            clear hl0
            go_wp2_with fail
            refine wp_region_calm_lit (by kernel_rfl) (by kernel_rfl) ?_
            repeat (go_big_quiet_step (fail))
            refine wpQuiet_nil ?_
            intro _ hw'
            obtain ⟨u, rfl⟩ := hw'
            have HO4 := Lib.hid (own_below HO3.out u.bel)
            have HW4 := Lib.hid (HW3.out.trans (u.bel.mono hsz3))
            have q0 := f50 u
            have q1 := f51 u
            have hsz4 := HW4.out.size
            clear f50 f51
            by_cases hn : n < 0
            · obtain ⟨rfl, rfl⟩ := HNo.out (lexStep_neg HAt.out HTT.out hn)
              go_wp2
              go_ret2
              exact ⟨⟨none, 0, rfl, World.ownsRow_nil _ _ _ _⟩, HW4.out⟩
            · have htt := Ht.out (show 0 ≤ n by omega)
              subst htt
              obtain ⟨rfl, rfl⟩ := HNo.out (lexStep_gap HAt.out HTT.out HSp.out HGa.out (by decide))
              go_wp2
              go_ret2
              exact ⟨⟨none, 0, rfl, World.ownsRow_nil _ _ _ _⟩, HW4.out⟩
          · have hj0 : decide ((0 : Int) < (ln : Int)) = true := decide_eq_true (by omega)
            have hj0n : decide (0 < ln) = true := decide_eq_true (by omega)
            have hz : ((ln : Int) == 0) = false := beq_eq_false_iff_ne.2 (by omega)
            have hj1 : (ln : Int) - 1 = ((ln - 1 : Nat) : Int) := by omega
            have hj1n : ln - 1 < ln := by omega
            obtain ⟨b', off', y, rfl, _, hy, hcp⟩ := (Rd.of_own (enc := encToken) (k := 2) (fun _ => rfl) HO3.out HLn.out).elem hj1n
            have r0 : (w2.alloc (.cells #[.int .i64 t.kind, .string t.text] 34)).cell? ⟨b', off' + (ln - 1) * 2, none⟩ = some (.int .i64 y.kind) := by simpa using hcp 0 _ rfl
            have r1 : (w2.alloc (.cells #[.int .i64 t.kind, .string t.text] 34)).cell? ⟨b', off' + (ln - 1) * 2 + 1, none⟩ = some (.string y.text) := hcp 1 _ rfl
            obtain ⟨G, hG⟩ : ∃ G, (!(y.kind == 3) && !(t.kind == 4)) = G := ⟨_, rfl⟩
            have HG := Lib.hid (show gapT y t = G from hG)
            have HGy := Lib.hid (show apartL l t = G by rw [apartL_at (by rw [HLn.out]; exact hy)]; exact hG)
            have f60 : ∀ u : Later (w2.alloc (.cells #[.int .i64 t.kind, .string t.text] 34)), u.at_.cell? ⟨b', off' + (ln - 1) * 2, none⟩ = some (.int .i64 y.kind) := fun u => u.cell r0
            have f61 : ∀ u : Later (w2.alloc (.cells #[.int .i64 t.kind, .string t.text] 34)), u.at_.cell? ⟨b', off' + (ln - 1) * 2 + 1, none⟩ = some (.string y.text) := fun u => u.cell r1
            clear hcp hy hG r0 r1 hl0
            go_wp2_with fail
            refine wp_region_calm_lit (by kernel_rfl) (by kernel_rfl) ?_
            repeat (go_big_quiet_step (first | (go_at_call 20; exact Calls.calm_same (Calls.flip (Calls.known (impl_isApart _ _ _) HG.out)))))
            refine wpQuiet_nil ?_
            intro _ hw'
            obtain ⟨u, rfl⟩ := hw'
            have HO4 := Lib.hid (own_below HO3.out u.bel)
            have HW4 := Lib.hid (HW3.out.trans (u.bel.mono hsz3))
            have q0 := f50 u
            have q1 := f51 u
            have hsz4 := HW4.out.size
            clear f50 f51
            clear f60 f61
            by_cases hn : n < 0
            · cases G
              all_goals
                obtain ⟨rfl, rfl⟩ := HNo.out (lexStep_neg HAt.out HTT.out hn)
                go_wp2
                go_ret2
                exact ⟨⟨none, 0, rfl, World.ownsRow_nil _ _ _ _⟩, HW4.out⟩
            · cases G with
              | false =>
                have htt := Ht.out (show 0 ≤ n by omega)
                subst htt
                have HGa := HGy
                obtain ⟨rfl, rfl⟩ := HNo.out (lexStep_gap HAt.out HTT.out HSp.out HGa.out (by decide))
                go_wp2
                go_ret2
                exact ⟨⟨none, 0, rfl, World.ownsRow_nil _ _ _ _⟩, HW4.out⟩
              | true =>
                have htt := Ht.out (show 0 ≤ n by omega)
                subst htt
                have HGa := HGy
                obtain ⟨m, rfl⟩ := Int.eq_ofNat_of_zero_le (show 0 ≤ n by omega)
                have hm : k < m ∧ m ≤ s.size := by
                  rcases HBd.out with h | ⟨h1, h2⟩
                  · (try simp only [] at h); omega
                  · rw [← HSL.out] at h2; (try simp only [] at h1 h2); omega
                have HG2 := Lib.hid (HYes.out t m (lexStep_yes HAt.out (by rw [← HSL.out]; exact hq) HTT.out HSp.out HGa.out rfl))
                have Hown2 := Lib.hid (show (u.at_.alloc (.cells #[.int .i64 t.kind, .string t.text] 34)).ownsRow w.heap.size 34 2 (.slice (some ⟨b', off', none⟩) ln c') l.length (l.flatMap encToken) by rw [HLn.out]; exact HO4.out.alloc _)
                have Hrd2 := Lib.hid (Rd.new (enc := encToken) (k := 2) (fun _ => rfl) u.at_ #[.int .i64 t.kind, .string t.text] 34 (n := 1) [t] rfl rfl)
                have HB5 := Lib.hid (HW4.out.alloc hsz4 (.cells #[.int .i64 t.kind, .string t.text] 34))
                have hll2 : l.length ≤ 1048576 := by rw [HLn.out]; omega
                go_wp2_with (at_builtin; refine wpList_app (enc := encToken) (k := 2) (fun _ => rfl) (fun _ u hu => by simp at hu; rcases hu with rfl | rfl <;> rfl) (by omega) rfl _ _ 22 34 rfl (.agg #[.int .i64 0, .string ByteArray.empty]) 24 Tryd.underlying22 (by kernel_rfl) rfl w.heap.size _ l rfl Hown2.out _ _ _ _ rfl Hrd2.out (by first | omega | (simp; omega)) (by omega) (by first | omega | (simp; omega)) ?_; intro v2 w7 hown2 hbel2)
                have HO7 := Lib.hid (show w7.ownsRow w.heap.size 34 2 v2 (ln + 1) ((l ++ [t]).flatMap encToken) by have h := hown2; rw [List.length_append, HLn.out] at h; exact h)
                have HLn2 := Lib.hid (show (l ++ [t]).length = ln + 1 by rw [List.length_append, HLn.out]; rfl)
                go_roundw
                case rel => exact ⟨m, f - 1, ln + 1, l ++ [t], by omega, by go_num, by omega, by omega, HLn2, HG2, HO7.out, HB5.out.trans hbel2⟩
                case measure => simp [intOf]; omega
        · have hqi : (k : Int) + 1 = (s.size : Int) := by omega
          have hqb : (((k : Int) + 1) == (s.size : Int)) = true := beq_iff_eq.2 hqi
          have hqg : (s.size : Int) ≤ (k : Int) + 1 := by omega
          obtain ⟨rfl, rfl⟩ := HNo.out (lexStep_out HAt.out (by rw [← HSL.out]; exact hq))
          go_wp2
          go_ret2
          exact ⟨⟨none, 0, rfl, World.ownsRow_nil _ _ _ _⟩, HW.out⟩
      · have e32 : ¬ ck = 32 := fun e => c32 (by rw [e]; rfl)
        have HSp := Lib.hid (show decide (s.data.toList[k]? = some 32) = false from decide_eq_false (by rw [hgk]; exact fun e => e32 (Option.some.inj e)))
        have HAt := Lib.hid (show lexAt s.data.toList k = k by unfold lexAt; rw [if_neg (by rw [hgk]; exact fun e => e32 (Option.some.inj e))])
        have c32b : ((ck.toNat : Int) == 32) = false := beq_eq_false_iff_ne.2 c32
        clear hgk e32
        have hq : k < s.size := hlt
        have hqi : ¬ (k : Int) = (s.size : Int) := by omega
        have hqb : ((k : Int) == (s.size : Int)) = false := beq_eq_false_iff_ne.2 hqi
        have hqg : ¬ (s.size : Int) ≤ (k : Int) := by omega
        obtain ⟨TT, hTT⟩ : ∃ TT, takeTok s.data.toList (k) = TT := ⟨_, rfl⟩
        have HTT := Lib.hid hTT
        have HBd := Lib.hid (takeTok_bound s.data.toList (k) (by rw [← HSL.out]; exact hq))
        have HC := Lib.hid (impl_readToken s (k) wr hs (by omega) (HM.out.below HW.out) (tab_below HT.out HW.out) (by obtain ⟨p, hp⟩ := HE1.out; exact ⟨p, var_below hp HW.out⟩) (by obtain ⟨p, hp⟩ := HE2.out; exact ⟨p, var_below hp HW.out⟩))
        rw [hTT] at HBd HC
        clear hTT
        obtain ⟨tt, n⟩ := TT
        go_wp2_with fail
        refine HC.out.mono ?_
        rintro e w2 ⟨⟨t, ht, rfl⟩, hb2⟩
        have Ht := Lib.hid ht
        have hal : Below w2.heap.size w2 (w2.alloc (.cells #[.int .i64 t.kind, .string t.text] 34)) := (Below.refl _ _).alloc (Nat.le_refl _) _
        have hb3 := hb2.trans (hal.mono hb2.size)
        have HO3 := Lib.hid (own_below HO.out hb3)
        have HW3 := Lib.hid (HW.out.trans (hb3.mono hsz))
        have HP := Lib.hid (Holds.new w2 [.int .i64 t.kind, .string t.text] 34)
        have hsz3 := HW3.out.size
        clear ht hb2 hb3 hal HC HO HW
        have f50 : ∀ u : Later (w2.alloc (.cells #[.int .i64 t.kind, .string t.text] 34)), u.at_.cell? ⟨w2.heap.size, 0, none⟩ = some (.int .i64 t.kind) := fun u => u.cell (HP.out.2 0 _ rfl)
        have f51 : ∀ u : Later (w2.alloc (.cells #[.int .i64 t.kind, .string t.text] 34)), u.at_.cell? ⟨w2.heap.size, 1, none⟩ = some (.string t.text) := fun u => u.cell (HP.out.2 1 _ rfl)
        by_cases hl0 : ln = 0
        · have HL0 := Lib.hid hl0
          have hj0 : decide ((0 : Int) < (ln : Int)) = false := decide_eq_false (by omega)
          have hj0n : decide (0 < ln) = false := decide_eq_false (by omega)
          have hz : ((ln : Int) == 0) = true := beq_iff_eq.2 (by omega)
          have HGa := Lib.hid (show apartL l tt = false from apartL_nil (by rw [HLn.out]; exact HL0.out))
          clear hl0
          go_wp2_with fail
          refine wp_region_calm_lit (by kernel_rfl) (by kernel_rfl) ?_
          repeat (go_big_quiet_step (fail))
          refine wpQuiet_nil ?_
          intro _ hw'
          obtain ⟨u, rfl⟩ := hw'
          have HO4 := Lib.hid (own_below HO3.out u.bel)
          have HW4 := Lib.hid (HW3.out.trans (u.bel.mono hsz3))
          have q0 := f50 u
          have q1 := f51 u
          have hsz4 := HW4.out.size
          clear f50 f51
          by_cases hn : n < 0
          · obtain ⟨rfl, rfl⟩ := HNo.out (lexStep_neg HAt.out HTT.out hn)
            go_wp2
            go_ret2
            exact ⟨⟨none, 0, rfl, World.ownsRow_nil _ _ _ _⟩, HW4.out⟩
          · have htt := Ht.out (show 0 ≤ n by omega)
            subst htt
            obtain ⟨m, rfl⟩ := Int.eq_ofNat_of_zero_le (show 0 ≤ n by omega)
            have hm : k < m ∧ m ≤ s.size := by
              rcases HBd.out with h | ⟨h1, h2⟩
              · (try simp only [] at h); omega
              · rw [← HSL.out] at h2; (try simp only [] at h1 h2); omega
            have HG2 := Lib.hid (HYes.out t m (lexStep_yes HAt.out (by rw [← HSL.out]; exact hq) HTT.out HSp.out HGa.out rfl))
            have Hown2 := Lib.hid (show (u.at_.alloc (.cells #[.int .i64 t.kind, .string t.text] 34)).ownsRow w.heap.size 34 2 (.slice A' ln c') l.length (l.flatMap encToken) by rw [HLn.out]; exact HO4.out.alloc _)
            have Hrd2 := Lib.hid (Rd.new (enc := encToken) (k := 2) (fun _ => rfl) u.at_ #[.int .i64 t.kind, .string t.text] 34 (n := 1) [t] rfl rfl)
            have HB5 := Lib.hid (HW4.out.alloc hsz4 (.cells #[.int .i64 t.kind, .string t.text] 34))
            have hll2 : l.length ≤ 1048576 := by rw [HLn.out]; omega
            go_wp2_with (at_builtin; refine wpList_app (enc := encToken) (k := 2) (fun _ => rfl) (fun _ u hu => by simp at hu; rcases hu with rfl | rfl <;> rfl) (by omega) rfl _ _ 22 34 rfl (.agg #[.int .i64 0, .string ByteArray.empty]) 24 Tryd.underlying22 (by kernel_rfl) rfl w.heap.size _ l rfl Hown2.out _ _ _ _ rfl Hrd2.out (by first | omega | (simp; omega)) (by omega) (by first | omega | (simp; omega)) ?_; intro v2 w7 hown2 hbel2)
            have HO7 := Lib.hid (show w7.ownsRow w.heap.size 34 2 v2 (ln + 1) ((l ++ [t]).flatMap encToken) by have h := hown2; rw [List.length_append, HLn.out] at h; exact h)
            have HLn2 := Lib.hid (show (l ++ [t]).length = ln + 1 by rw [List.length_append, HLn.out]; rfl)
            go_roundw
            case rel => exact ⟨m, f - 1, ln + 1, l ++ [t], by omega, by go_num, by omega, by omega, HLn2, HG2, HO7.out, HB5.out.trans hbel2⟩
            case measure => simp [intOf]; omega
        · have hj0 : decide ((0 : Int) < (ln : Int)) = true := decide_eq_true (by omega)
          have hj0n : decide (0 < ln) = true := decide_eq_true (by omega)
          have hz : ((ln : Int) == 0) = false := beq_eq_false_iff_ne.2 (by omega)
          have hj1 : (ln : Int) - 1 = ((ln - 1 : Nat) : Int) := by omega
          have hj1n : ln - 1 < ln := by omega
          obtain ⟨b', off', y, rfl, _, hy, hcp⟩ := (Rd.of_own (enc := encToken) (k := 2) (fun _ => rfl) HO3.out HLn.out).elem hj1n
          have r0 : (w2.alloc (.cells #[.int .i64 t.kind, .string t.text] 34)).cell? ⟨b', off' + (ln - 1) * 2, none⟩ = some (.int .i64 y.kind) := by simpa using hcp 0 _ rfl
          have r1 : (w2.alloc (.cells #[.int .i64 t.kind, .string t.text] 34)).cell? ⟨b', off' + (ln - 1) * 2 + 1, none⟩ = some (.string y.text) := hcp 1 _ rfl
          obtain ⟨G, hG⟩ : ∃ G, (!(y.kind == 3) && !(t.kind == 4)) = G := ⟨_, rfl⟩
          have HG := Lib.hid (show gapT y t = G from hG)
          have HGy := Lib.hid (show apartL l t = G by rw [apartL_at (by rw [HLn.out]; exact hy)]; exact hG)
          have f60 : ∀ u : Later (w2.alloc (.cells #[.int .i64 t.kind, .string t.text] 34)), u.at_.cell? ⟨b', off' + (ln - 1) * 2, none⟩ = some (.int .i64 y.kind) := fun u => u.cell r0
          have f61 : ∀ u : Later (w2.alloc (.cells #[.int .i64 t.kind, .string t.text] 34)), u.at_.cell? ⟨b', off' + (ln - 1) * 2 + 1, none⟩ = some (.string y.text) := fun u => u.cell r1
          clear hcp hy hG r0 r1 hl0
          go_wp2_with fail
          refine wp_region_calm_lit (by kernel_rfl) (by kernel_rfl) ?_
          repeat (go_big_quiet_step (first | (go_at_call 20; exact Calls.calm_same (Calls.flip (Calls.known (impl_isApart _ _ _) HG.out)))))
          refine wpQuiet_nil ?_
          intro _ hw'
          obtain ⟨u, rfl⟩ := hw'
          have HO4 := Lib.hid (own_below HO3.out u.bel)
          have HW4 := Lib.hid (HW3.out.trans (u.bel.mono hsz3))
          have q0 := f50 u
          have q1 := f51 u
          have hsz4 := HW4.out.size
          clear f50 f51
          clear f60 f61
          by_cases hn : n < 0
          · cases G
            all_goals
              obtain ⟨rfl, rfl⟩ := HNo.out (lexStep_neg HAt.out HTT.out hn)
              go_wp2
              go_ret2
              exact ⟨⟨none, 0, rfl, World.ownsRow_nil _ _ _ _⟩, HW4.out⟩
          · cases G with
            | false =>
              have htt := Ht.out (show 0 ≤ n by omega)
              subst htt
              have HGa := HGy
              obtain ⟨m, rfl⟩ := Int.eq_ofNat_of_zero_le (show 0 ≤ n by omega)
              have hm : k < m ∧ m ≤ s.size := by
                rcases HBd.out with h | ⟨h1, h2⟩
                · (try simp only [] at h); omega
                · rw [← HSL.out] at h2; (try simp only [] at h1 h2); omega
              have HG2 := Lib.hid (HYes.out t m (lexStep_yes HAt.out (by rw [← HSL.out]; exact hq) HTT.out HSp.out HGa.out rfl))
              have Hown2 := Lib.hid (show (u.at_.alloc (.cells #[.int .i64 t.kind, .string t.text] 34)).ownsRow w.heap.size 34 2 (.slice (some ⟨b', off', none⟩) ln c') l.length (l.flatMap encToken) by rw [HLn.out]; exact HO4.out.alloc _)
              have Hrd2 := Lib.hid (Rd.new (enc := encToken) (k := 2) (fun _ => rfl) u.at_ #[.int .i64 t.kind, .string t.text] 34 (n := 1) [t] rfl rfl)
              have HB5 := Lib.hid (HW4.out.alloc hsz4 (.cells #[.int .i64 t.kind, .string t.text] 34))
              have hll2 : l.length ≤ 1048576 := by rw [HLn.out]; omega
              go_wp2_with (at_builtin; refine wpList_app (enc := encToken) (k := 2) (fun _ => rfl) (fun _ u hu => by simp at hu; rcases hu with rfl | rfl <;> rfl) (by omega) rfl _ _ 22 34 rfl (.agg #[.int .i64 0, .string ByteArray.empty]) 24 Tryd.underlying22 (by kernel_rfl) rfl w.heap.size _ l rfl Hown2.out _ _ _ _ rfl Hrd2.out (by first | omega | (simp; omega)) (by omega) (by first | omega | (simp; omega)) ?_; intro v2 w7 hown2 hbel2)
              have HO7 := Lib.hid (show w7.ownsRow w.heap.size 34 2 v2 (ln + 1) ((l ++ [t]).flatMap encToken) by have h := hown2; rw [List.length_append, HLn.out] at h; exact h)
              have HLn2 := Lib.hid (show (l ++ [t]).length = ln + 1 by rw [List.length_append, HLn.out]; rfl)
              go_roundw
              case rel => exact ⟨m, f - 1, ln + 1, l ++ [t], by omega, by go_num, by omega, by omega, HLn2, HG2, HO7.out, HB5.out.trans hbel2⟩
              case measure => simp [intOf]; omega
            | true =>
              have htt := Ht.out (show 0 ≤ n by omega)
              subst htt
              have HGa := HGy
              obtain ⟨rfl, rfl⟩ := HNo.out (lexStep_gap HAt.out HTT.out HSp.out HGa.out (by decide))
              go_wp2
              go_ret2
              exact ⟨⟨none, 0, rfl, World.ownsRow_nil _ _ _ _⟩, HW4.out⟩
    · have hki : ¬ (k : Int) < (s.size : Int) := by omega
      obtain ⟨rfl, rfl⟩ : R = l ∧ ok = true := by
        have h2 := hg.out.symm.trans (lexGo2_end (by rw [← HSL.out]; exact hlt))
        injection h2 with h3 h4
        exact ⟨h3, h4⟩
      have hln := HLn.out
      subst hln
      clear hg
      go_wp2
      go_ret2
      exact ⟨⟨A', c', rfl, HO.out⟩, HW.out⟩

end Go.Proofs.YtlehpgnhfpegoaaDoor
