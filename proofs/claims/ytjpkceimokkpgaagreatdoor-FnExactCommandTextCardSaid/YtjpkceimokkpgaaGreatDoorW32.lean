/-
  Walks: what each function returns, and that it leaves what lay in memory as it was.
-/
import Derived.Test.YtjpkceimokkpgaaGreatDoorProg
import Derived.Test.YtjpkceimokkpgaaGreatDoorPlain
import Derived.Test.YtjpkceimokkpgaaGreatDoorBase2
import Derived.Test.YtjpkceimokkpgaaGreatDoorOpen2
import Derived.Test.YtjpkceimokkpgaaGreatDoorShelf
import Derived.WalkKit
import Derived.WalkSpells
import Derived.WalkLawsBesides
import Derived.Lib.Hide
import Derived.Deep.LoopGhost
import Derived.Deep.QuietTactic
import Derived.BigQuiet
import Derived.Handy
import Derived.Deep.RegionHeld3
import Derived.StillTailTactics
import Derived.OpenShut
import Derived.ChangeSame
import Derived.Laws.StructEq

import Derived.Test.YtjpkceimokkpgaaGreatDoorPlainT

import Derived.Test.YtjpkceimokkpgaaGreatDoorBase3

import Derived.Test.YtjpkceimokkpgaaGreatDoorW1

import Derived.Test.YtjpkceimokkpgaaGreatDoorW2

import Derived.Test.YtjpkceimokkpgaaGreatDoorW3

import Derived.Test.YtjpkceimokkpgaaGreatDoorW4

import Derived.Test.YtjpkceimokkpgaaGreatDoorW5

import Derived.Test.YtjpkceimokkpgaaGreatDoorW9

import Derived.Test.YtjpkceimokkpgaaGreatDoorW30

import Derived.Test.YtjpkceimokkpgaaGreatDoorW31

namespace Go.Proofs.YtjpkceimokkpgaaGreatDoor
open Go.ChangeShapes Go.WideShapes Go.ChangeAt Go.RowKit Go.Deep
set_option linter.unusedVariables false
set_option linter.unusedSimpArgs false

set_option maxRecDepth 20000

set_option maxHeartbeats 12800000 in
set_option maxRecDepth 20000 in
theorem spec_FilterTokens (x : Filter) (h : FHd) (w : World) (i : FilterIs w x h) (f : x.Fit) :
    Calls Tryz.prog 27 #[.agg #[.bool x.on, .slice h.A h.n h.c]] w (RetOwn encToken 2 48 w (filterT x)) := by
  obtain ⟨A, n, c, rs⟩ := h
  obtain ⟨R, hR⟩ : ∃ R, filterT x = R := ⟨_, rfl⟩
  have HR := Lib.hid hR
  have HX := Lib.hid i.2.2.2
  obtain rfl : n = rs.length := i.1.1.symm
  rw [hR]
  clear hR
  simp only []
  have nB : Below w.heap.size w (w.alloc (.cells #[.bool x.on, .slice A rs.length c] 34)) := by go_grown
  have nP : Holds (w.alloc (.cells #[.bool x.on, .slice A rs.length c] 34)) w.heap.size [.bool x.on, .slice A rs.length c] := Holds.new w _ _
  have nI := i.below nB
  have hz1 : w.heap.size < (w.alloc (.cells #[.bool x.on, .slice A rs.length c] 34)).heap.size := by simp
  clear i
  go_enter Tryz.func27, Tryz.ntmps27
  generalize hw1 : w.alloc (.cells #[.bool x.on, .slice A rs.length c] 34) = w1 at *
  have nE := World.ownsRow_made (base := w1.heap.size) (e := 48) (size := 2) w1 #[] 0 (Nat.le_refl _) (by unfold maxLen; omega) rfl
  have nB1 : Below w1.heap.size w1 (w1.alloc (.cells #[] 48)) := (Below.refl _ _).alloc (Nat.le_refl _) _
  have p0 := (nP.below nB1).2 0 (.bool x.on) rfl
  have p1 := (nP.below nB1).2 1 (.slice A rs.length c) rfl
  have HW1 := Lib.hid hw1
  go_wp2_with fail
  generalize hw1e : w1.alloc (.cells #[] 48) = w1e at *
  clear hw1e
  have nI1 := nI.below nB1
  refine (spec_FilterOk x ⟨A, rs.length, c, rs⟩ w1e nI1 f).mono ?_
  rintro e w2 ⟨rfl, hb⟩
  have nE2 := own_below nE hb
  have nB2 := nB1.trans (hb.mono nB1.size)
  have HE2 := Lib.hid nE2
  have HB2 := Lib.hid nB2
  have HB := Lib.hid nB
  have HP := Lib.hid nP
  have HI := Lib.hid nI
  have HBW := Lib.hid (nB.trans (nB2.mono nB.size))
  clear nE nE2 nB nB1 nB2 nP nI nI1 hb p0 p1 hw1
  cases hok : filterOk x
  · have HN := Lib.hid (filterT_no hok)
    clear hok
    go_wp2
    go_ret
    have e : R = [] := by rw [← HR.out, HN.out]
    subst e
    exact ⟨_, 0, rfl, own_mono HE2.out (by omega), HBW.out⟩
  have p0 := (HP.out.below HB2.out).2 0 (.bool x.on) rfl
  have p1 := (HP.out.below HB2.out).2 1 (.slice A rs.length c) rfl
  have HOK := Lib.hid hok
  clear hok
  have hz2 : w1.heap.size ≤ w2.heap.size := HB2.out.size
  cases hon : x.on
  · have HN := Lib.hid (filterT_off HOK.out hon)
    rw [hon] at p0
    go_wp2_with fail
    refine (spec_l6Atom ⟨#[110, 111, 110, 101]⟩ _).mono ?_
    rintro e w3 ⟨rfl, hb3⟩
    have HE3 := Lib.hid ((own_below HE2.out hb3).alloc (.cells #[.int .i64 1, .string ⟨#[110, 111, 110, 101]⟩] 48))
    have hrd := Lib.hid (Rd.new (enc := encToken) (k := 2) (fun _ => rfl) w3 #[.int .i64 1, .string ⟨#[110, 111, 110, 101]⟩] 48 (n := 1) [tkA [110, 111, 110, 101]] rfl rfl)
    have HB3 := Lib.hid ((HBW.out.trans (hb3.mono HBW.out.size)).alloc (by have h1 := HBW.out.size; have h2 := hb3.size; omega) (.cells #[.int .i64 1, .string ⟨#[110, 111, 110, 101]⟩] 48))
    have hz3 : w1.heap.size ≤ w3.heap.size := by have := hb3.size; omega
    clear hb3
    go_wp2_with (at_builtin; refine wpList_app (enc := encToken) (k := 2) (fun _ => rfl) (fun _ u hu => by simp at hu; rcases hu with rfl | rfl <;> rfl) (by omega) rfl _ _ 29 48 rfl (.agg #[.int .i64 0, .string ByteArray.empty]) 24 Tryz.underlying29 (by kernel_rfl) rfl w1.heap.size _ [] rfl HE3.out _ _ _ _ rfl hrd.out (by simp) (by omega) (by simp; omega) ?_; intro v4 w4 hown4 hbel4)
    go_ret
    have e : R = [] ++ [tkA [110, 111, 110, 101]] := by rw [← HR.out, HN.out]; rfl
    subst e
    exact retOwn_mk (own_mono hown4 (by omega)) (HB3.out.trans (hbel4.mono (by omega)))
  have HON := Lib.hid hon
  rw [hon] at p0
  clear hon
  have hn3 : rs.length ≤ 3 := filterOk_few HOK.out HX.out
  have HS := Lib.hid (filterOk_each HOK.out HX.out)
  go_wp2_with fail
  refine (spec_l6Atom ⟨#[115, 101, 116]⟩ _).mono ?_
  rintro e w3 ⟨rfl, hb3⟩
  have HE3 := Lib.hid ((own_below HE2.out hb3).alloc (.cells #[.int .i64 1, .string ⟨#[115, 101, 116]⟩] 48))
  have hrd := Lib.hid (Rd.new (enc := encToken) (k := 2) (fun _ => rfl) w3 #[.int .i64 1, .string ⟨#[115, 101, 116]⟩] 48 (n := 1) [tkA [115, 101, 116]] rfl rfl)
  have hz3 : w1.heap.size ≤ w3.heap.size := by have := hb3.size; omega
  have HB3 := Lib.hid ((HB2.out.trans (hb3.mono hz2)).alloc hz3 (.cells #[.int .i64 1, .string ⟨#[115, 101, 116]⟩] 48))
  clear hb3 p0 p1
  go_wp2_with (at_builtin; refine wpList_app (enc := encToken) (k := 2) (fun _ => rfl) (fun _ u hu => by simp at hu; rcases hu with rfl | rfl <;> rfl) (by omega) rfl _ _ 29 48 rfl (.agg #[.int .i64 0, .string ByteArray.empty]) 24 Tryz.underlying29 (by kernel_rfl) rfl w1.heap.size _ [] rfl HE3.out _ _ _ _ rfl hrd.out (by simp) (by omega) (by simp; omega) ?_; intro v4 w4 hown4 hbel4)
  have hb4 : Below w1.heap.size w1 w4 := HB3.out.trans hbel4
  have hown4' : w4.ownsRow w1.heap.size 48 2 v4 (toksTo rs 0).length ((toksTo rs 0).flatMap encToken) := hown4
  clear hown4 hbel4 HB3 hrd HE3
  go_loopw [3, 4] (fun o i wr => ∃ (k : Nat) (l : List Token), k ≤ rs.length ∧ i = .int .i64 k ∧ Hid (l = toksTo rs k) ∧ l.length ≤ 1 + 20 * k ∧ wr.ownsRow w1.heap.size 48 2 o l.length (l.flatMap encToken) ∧ Below w1.heap.size w1 wr) (fun _ i _ => rs.length - (intOf i).toNat)
  case atStart => exact ⟨0, toksTo rs 0, Nat.zero_le _, rfl, rfl, by simp [toksTo], hown4', hb4⟩
  case round =>
    obtain ⟨k, l, hk, rfl, hl, hll, hown, hW⟩ := hrel
    clear hown4' hb4
    have p1 := (HP.out.below hW).2 1 (.slice A rs.length c) rfl
    by_cases hlt : k < rs.length
    · have hlti : (k : Int) < (rs.length : Int) := by omega
      obtain ⟨b, off, q, rfl, _, hx, hc⟩ := (HI.out.1.below hW).elem hlt
      have g0 : wr.cell? ⟨b, off + k * 3, none⟩ = some (.int .i64 q.1.kind) := by simpa using hc 0 _ rfl
      have g1 : wr.cell? ⟨b, off + k * 3 + 1, none⟩ = some (.slice q.2.A q.2.n q.2.c) := hc 1 _ rfl
      have g2 : wr.cell? ⟨b, off + k * 3 + 2, none⟩ = some (.int .i64 q.1.events) := hc 2 _ rfl
      have hqm : q ∈ rs := List.mem_of_getElem? hx
      have hq := HS.out q hqm
      have hNI := HI.out.2.2.1 q hqm
      have HT := Lib.hid (toksTo_succ hx)
      obtain ⟨⟨kd, nms, evs⟩, ⟨A1, n1, c1⟩⟩ := q
      obtain ⟨hkd1, hkd2⟩ := scopeOk_kind hq
      have hnm3 : nms.length ≤ 3 := scopeOk_names hq
      simp only [] at hkd1 hkd2 g0 g1 g2
      obtain ⟨K, rfl⟩ : ∃ K : Nat, kd = (K : Int) := ⟨kd.toNat, by omega⟩
      obtain rfl : n1 = nms.length := hNI.1.1.symm
      have HNI := Lib.hid hNI
      have HFt0 := Lib.hid (show Ft w1.heap.size w1 wr.heap.size (⟨(K : Int), nms, evs⟩, ⟨A1, nms.length, c1⟩) u3 l (wr.alloc (.cells #[.int .i64 (K : Int), .slice A1 nms.length c1, .int .i64 evs] 79)) from
        ⟨hown.alloc _, own_lit_at (size := 3) wr #[.int .i64 (K : Int), .slice A1 nms.length c1, .int .i64 evs] 1 rfl hW.size (by unfold maxLen; omega) rfl, hW.alloc hW.size _, by have := hW.size; simp; omega⟩)
      have HL := Lib.hid hl.out
      clear hc hx hl hown hW hNI hq hqm
      go_wp2_with fail
      generalize wr.alloc (.cells #[.int .i64 (K : Int), .slice A1 nms.length c1, .int .i64 evs] 79) = W0 at *
      generalize wr.heap.size = X at *
      have hK5 : (K : Int) < 5 := by omega
      have hK0 : (0 : Int) ≤ (K : Int) := by omega
      have hKn : K < scopeList.length := by show K < 5; omega
      obtain ⟨Z, hZ⟩ : ∃ Z : ByteArray, (⟨(scopeList.getD K []).toArray⟩ : ByteArray) = Z := ⟨_, rfl⟩
      have HZ := Lib.hid hZ
      have hf := HFt0.out.below (Below.refl _ W0).drew
      have s0d : W0.drew.cell? ⟨X, 0, none⟩ = some (.int .i64 (K : Int)) := HFt0.out.c0
      have HKN := Lib.hid hKn
      clear hZ HFt0 g0 g1 g2 hkd1 hkd2 hKn p1
      go_region_law (first
        | (refine step_appG (enc := encToken) (k := 2) (fun _ => rfl) (fun _ u hu => by simp at hu; rcases hu with rfl | rfl <;> rfl) (by omega) rfl (.tmp 36) (.tmp 44) 29 48 rfl (.agg #[.int .i64 0, .string ByteArray.empty]) 24 Tryz.underlying29 (by kernel_rfl) rfl w1.heap.size u3 l (by simp [Act.eval, Act.put]) (hf.below ((Below.refl wq.heap.size wq).alloc (Nat.le_refl _) _)).o (some ⟨wq.heap.size, 0, none⟩) 2 2 [tkO, tkA (scopeList.getD K [])] (by simp [Act.eval, Act.put]) (Rd.new (enc := encToken) (k := 2) (fun _ => rfl) wq #[.int .i64 3, .string ⟨#[]⟩, .int .i64 1, .string Z] 48 (n := 2) [tkO, tkA (scopeList.getD K [])] (by rw [← HZ.out]; rfl) rfl) (by omega) (by omega) (by have := hf.z; simp; omega) ?_; intro v6 w6 hown6 hg6 _
           have HF6 := Lib.hid ((hf.below ((Below.refl wq.heap.size wq).alloc (Nat.le_refl _) _)).app hown6 hg6); clear hown6 hg6 hf)
        | (refine step_call rfl 19 #[.tmp 42] _ rfl (enters_of Tryz.func19 (by kernel_rfl) rfl) #[.string Z] (by simp [Act.eval, Act.put]) (spec_l6Atom Z _) ?_; rintro e wq ⟨rfl, hbq⟩; refine ⟨_, rfl, ?_⟩; replace hf := hf.below hbq; clear hbq)
        | (refine step_call rfl 23 #[] _ rfl (enters_of Tryz.func23 (by kernel_rfl) rfl) #[] (by simp [Act.eval, Act.put]) (spec_l6Open _) ?_; rintro e wq ⟨rfl, hbq⟩; refine ⟨_, rfl, ?_⟩; replace hf := hf.below hbq; have s4 := hf.c0; (try (replace hh4 := hh4.below hbq; have z4 : wq.cell? ⟨g4, K, none⟩ = some (.string Z) := by (rw [← HZ.out]; exact words_holds hh4 HKN.out))); clear hbq)
        | (refine step_call rfl 62 #[] _ rfl (enters_of Tryz.func62 (by kernel_rfl) rfl) #[] (by simp [Act.eval, Act.put]) (spec_l6Words _) ?_; rintro e wq ⟨⟨g4, rfl, hh4⟩, hbq⟩; refine ⟨_, rfl, ?_⟩; replace hf := hf.below hbq; have s4 := hf.c0; have z4 : wq.cell? ⟨g4, K, none⟩ = some (.string Z) := by (rw [← HZ.out]; exact words_holds hh4 HKN.out)
           clear hbq))
      all_goals
        clear hh4 z4 s4 s0d
        obtain ⟨l6, hl6⟩ : ∃ l6, l ++ scopeHead ⟨(K : Int), nms, evs⟩ = l6 := ⟨_, rfl⟩
        have hf6 : Ft w1.heap.size w1 X (⟨(K : Int), nms, evs⟩, ⟨A1, nms.length, c1⟩) v6 l6 w6 := hl6 ▸ HF6.out
        have hl6n : l6.length = l.length + 2 := by rw [← hl6, List.length_append]; rfl
        have HL6 := Lib.hid hl6
        clear HF6 hl6
        have c0 := hf6.c0
        have HF6 := Lib.hid hf6
        clear hf6
        simp only [] at c0
        by_cases k3 : (K : Int) < 3
        · have hN : scopeNames ⟨(K : Int), nms, evs⟩ = [] := by unfold scopeNames; exact if_pos k3
          obtain ⟨l8, hl8⟩ : ∃ l8, l6 ++ scopeNames ⟨(K : Int), nms, evs⟩ = l8 := ⟨_, rfl⟩
          have e8 : l8 = l6 := by rw [← hl8, hN, List.append_nil]
          have hl8n : l8.length ≤ l6.length + 5 := by rw [e8]; omega
          have HF8 := Lib.hid (show Ft w1.heap.size w1 X (⟨(K : Int), nms, evs⟩, ⟨A1, nms.length, c1⟩) v6 l8 w6 from e8 ▸ HF6.out)
          have HL8 := Lib.hid hl8
          clear hl8 e8 hN HF6
          go_wp2_with fail
          refine (spec_l6Open _).mono ?_
          rintro e w9a ⟨rfl, hbc⟩
          have hrc := Lib.hid (Rd.new (enc := encToken) (k := 2) (fun _ => rfl) w9a #[.int .i64 3, .string ⟨#[]⟩] 48 (n := 1) [tkO] (by rfl) rfl)
          have HFa := Lib.hid ((HF8.out.below hbc).below ((Below.refl w9a.heap.size w9a).alloc (Nat.le_refl _) (.cells #[.int .i64 3, .string ⟨#[]⟩] 48)))
          clear hbc
          go_wp2_with (at_builtin; refine wpList_appN (enc := encToken) (k := 2) (fun _ => rfl) (fun _ u hu => by simp at hu; rcases hu with rfl | rfl <;> rfl) (by omega) rfl _ _ 29 48 rfl (.agg #[.int .i64 0, .string ByteArray.empty]) 24 Tryz.underlying29 (by kernel_rfl) rfl w1.heap.size _ l8 rfl HFa.out.o _ _ _ _ rfl hrc.out (by omega) (by omega) HFa.out.z ?_; intro v9 w9 hownd hgd)
          have HF9 := Lib.hid (HFa.out.app hownd hgd)
          clear hownd hgd HFa hrc
          go_loopw [3, 7] (fun o i ws => ∃ (j : Nat) (lj : List Token), j ≤ 4 ∧ i = .int .i64 j ∧ Hid (lj = (l8 ++ [tkO]) ++ (selTo evs eventList j).map tkA) ∧ lj.length ≤ l8.length + 1 + j ∧ Ft w1.heap.size w1 X (⟨(K : Int), nms, evs⟩, ⟨A1, nms.length, c1⟩) o lj ws) (fun _ i _ => 4 - (intOf i).toNat)
          case atStart => exact ⟨0, l8 ++ [tkO], by omega, rfl, by show l8 ++ [tkO] = (l8 ++ [tkO]) ++ []; rw [List.append_nil], by rw [List.length_append]; simp, HF9.out⟩
          case round =>
            obtain ⟨j, lj, hj, rfl, hlj, hljn, hfj⟩ := hrel
            clear HF9
            have HFj := Lib.hid hfj
            have HLj := Lib.hid hlj.out
            have ce := hfj.c2
            simp only [] at ce
            clear hfj hlj
            by_cases hj4 : j < 4
            · have hji : (j : Int) < 4 := by omega
              have hj64 : (j : Int) ≤ 64 := by omega
              have hj0 : (0 : Int) ≤ (j : Int) := by omega
              have hjl : j < eventList.length := hj4
              cases hb : hasBit evs j
              · have hbe : (bits .and .i64 (evs / 2 ^ j) 1 == 1) = false := hb
                have HNj := Lib.hid (show lj = (l8 ++ [tkO]) ++ (selTo evs eventList (j + 1)).map tkA by rw [selTo_no hb]; exact HLj.out)
                clear hb
                go_wp2
                go_roundw
                case rel => exact ⟨j + 1, lj, by omega, by go_num, HNj.out, by omega, HFj.out⟩
                case measure => simp [intOf]; omega
              · have hbe : (bits .and .i64 (evs / 2 ^ j) 1 == 1) = true := hb
                obtain ⟨y, hy⟩ : ∃ y, eventList[j]? = some y := ⟨_, List.getElem?_eq_getElem hjl⟩
                have HNj := Lib.hid (show lj ++ [tkA y] = (l8 ++ [tkO]) ++ (selTo evs eventList (j + 1)).map tkA by rw [selTo_yes hy hb, List.map_append, ← List.append_assoc, ← HLj.out]; rfl)
                have hyd : eventList.getD j [] = y := by rw [List.getD_eq_getElem?_getD, hy]; rfl
                have HYD := Lib.hid hyd
                obtain ⟨Y, hY⟩ : ∃ Y : ByteArray, (⟨y.toArray⟩ : ByteArray) = Y := ⟨_, rfl⟩
                have HY := Lib.hid hY
                have HJL := Lib.hid hjl
                clear hb hy hyd hY hjl
                go_wp2_with fail
                refine (spec_l6Events _).mono ?_
                rintro e we ⟨⟨ge, rfl, hhe⟩, hbe2⟩
                have ze : we.cell? ⟨ge, j, none⟩ = some (.string Y) := by
                  have h0 := words_holds hhe HJL.out
                  rw [HYD.out, HY.out] at h0
                  exact h0
                have HFe := Lib.hid (HFj.out.below hbe2)
                clear hhe hbe2
                go_wp2_with fail
                refine (spec_l6Atom Y _).mono ?_
                rintro e wk1 ⟨rfl, hbc⟩
                have hrc := Lib.hid (Rd.new (enc := encToken) (k := 2) (fun _ => rfl) wk1 #[.int .i64 1, .string Y] 48 (n := 1) [tkA y] (by rw [← HY.out]; rfl) rfl)
                have HFa := Lib.hid ((HFe.out.below hbc).below ((Below.refl wk1.heap.size wk1).alloc (Nat.le_refl _) (.cells #[.int .i64 1, .string Y] 48)))
                clear hbc
                go_wp2_with (at_builtin; refine wpList_appN (enc := encToken) (k := 2) (fun _ => rfl) (fun _ u hu => by simp at hu; rcases hu with rfl | rfl <;> rfl) (by omega) rfl _ _ 29 48 rfl (.agg #[.int .i64 0, .string ByteArray.empty]) 24 Tryz.underlying29 (by kernel_rfl) rfl w1.heap.size _ lj rfl HFa.out.o _ _ _ _ rfl hrc.out (by omega) (by omega) HFa.out.z ?_; intro vk wk2 hownd hgd)
                have HFk := Lib.hid (HFa.out.app hownd hgd)
                clear hownd hgd HFa hrc
                go_roundw
                case rel => exact ⟨j + 1, lj ++ [tkA y], by omega, by go_num, HNj.out, by rw [List.length_append]; simp only [List.length_singleton]; omega, HFk.out⟩
                case measure => simp [intOf]; omega
            · have hje : j = 4 := by omega
              subst hje
              have hj4i : ¬ ((4 : Nat) : Int) < 4 := by omega
              have HEND := Lib.hid (show lj ++ [tkC, tkC] = toksTo rs (k + 1) by
                rw [HT.out, HLj.out, ← HL8.out, ← HL6.out, HL.out]
                simp only [scopeT, groupT, List.append_assoc, List.cons_append, List.nil_append])
              go_wp2_with fail
              refine (spec_l6Close _).mono ?_
              rintro e wx ⟨rfl, hbx⟩
              have HFx := Lib.hid (HFj.out.below hbx)
              clear hbx
              go_wp2_with fail
              refine (spec_l6Close _).mono ?_
              rintro e wy ⟨rfl, hby⟩
              have hry := Lib.hid (Rd.new (enc := encToken) (k := 2) (fun _ => rfl) wy #[.int .i64 4, .string ⟨#[]⟩, .int .i64 4, .string ⟨#[]⟩] 48 (n := 2) [tkC, tkC] rfl rfl)
              have HFa := Lib.hid ((HFx.out.below hby).below ((Below.refl wy.heap.size wy).alloc (Nat.le_refl _) (.cells #[.int .i64 4, .string ⟨#[]⟩, .int .i64 4, .string ⟨#[]⟩] 48)))
              clear hby
              go_wp2_with (at_builtin; refine wpList_appN (enc := encToken) (k := 2) (fun _ => rfl) (fun _ u hu => by simp at hu; rcases hu with rfl | rfl <;> rfl) (by omega) rfl _ _ 29 48 rfl (.agg #[.int .i64 0, .string ByteArray.empty]) 24 Tryz.underlying29 (by kernel_rfl) rfl w1.heap.size _ lj rfl HFa.out.o _ _ _ _ rfl hry.out (by omega) (by omega) HFa.out.z ?_; intro vz wz hownz hgz)
              have HFz := Lib.hid (HFa.out.app hownz hgz)
              clear hownz hgz HFa hry
              go_roundw
              case rel => exact ⟨k + 1, lj ++ [tkC, tkC], by omega, by go_num, HEND.out, by rw [List.length_append]; simp only [List.length_cons, List.length_nil]; omega, HFz.out.o, HFz.out.b⟩
              case measure => simp [intOf]; omega
        · have HN := Lib.hid (show scopeNames ⟨(K : Int), nms, evs⟩ = groupT nms by unfold scopeNames; exact if_neg k3)
          go_wp2_with fail
          refine (spec_l6Open _).mono ?_
          rintro e w7a ⟨rfl, hbc⟩
          have hrc := Lib.hid (Rd.new (enc := encToken) (k := 2) (fun _ => rfl) w7a #[.int .i64 3, .string ⟨#[]⟩] 48 (n := 1) [tkO] (by rfl) rfl)
          have HFa := Lib.hid ((HF6.out.below hbc).below ((Below.refl w7a.heap.size w7a).alloc (Nat.le_refl _) (.cells #[.int .i64 3, .string ⟨#[]⟩] 48)))
          clear hbc
          go_wp2_with (at_builtin; refine wpList_appN (enc := encToken) (k := 2) (fun _ => rfl) (fun _ u hu => by simp at hu; rcases hu with rfl | rfl <;> rfl) (by omega) rfl _ _ 29 48 rfl (.agg #[.int .i64 0, .string ByteArray.empty]) 24 Tryz.underlying29 (by kernel_rfl) rfl w1.heap.size _ l6 rfl HFa.out.o _ _ _ _ rfl hrc.out (by omega) (by omega) HFa.out.z ?_; intro v7 w7 hownd hgd)
          have HF7 := Lib.hid (HFa.out.app hownd hgd)
          clear hownd hgd HFa hrc
          clear HF6 c0
          go_loopw [3, 6] (fun o i ws => ∃ (j : Nat) (lj : List Token), j ≤ nms.length ∧ i = .int .i64 j ∧ Hid (lj = (l6 ++ [tkO]) ++ (nms.take j).map tkA) ∧ lj.length = l6.length + 1 + j ∧ Ft w1.heap.size w1 X (⟨(K : Int), nms, evs⟩, ⟨A1, nms.length, c1⟩) o lj ws) (fun _ i _ => nms.length - (intOf i).toNat)
          case atStart => exact ⟨0, l6 ++ [tkO], by omega, rfl, by show l6 ++ [tkO] = (l6 ++ [tkO]) ++ []; rw [List.append_nil], by rw [List.length_append]; simp, HF7.out⟩
          case round =>
            obtain ⟨j, lj, hj, rfl, hlj, hljn, hfj⟩ := hrel
            clear HF7
            have cn := hfj.c1
            simp only [] at cn
            have hnr := HNI.out.1.below' hfj.b rfl
            have HFj := Lib.hid hfj
            have HLj := Lib.hid hlj.out
            clear hfj hlj
            by_cases hjn : j < nms.length
            · have hji : (j : Int) < (nms.length : Int) := by omega
              obtain ⟨bn, offn, y, hAe, _, hy, hcy⟩ := hnr.elem hjn
              simp only [] at hAe
              subst hAe
              have gy : wr.cell? ⟨bn, offn + j, none⟩ = some (.string ⟨y.toArray⟩) := by simpa using hcy 0 _ rfl
              have HNj := Lib.hid (show lj ++ [tkA y] = (l6 ++ [tkO]) ++ (nms.take (j + 1)).map tkA by rw [take_snoc hy, List.map_append, ← List.append_assoc, ← HLj.out]; rfl)
              obtain ⟨Y, hY⟩ : ∃ Y : ByteArray, (⟨y.toArray⟩ : ByteArray) = Y := ⟨_, rfl⟩
              rw [hY] at gy
              have HY := Lib.hid hY
              clear hy hcy hY hnr
              go_wp2_with fail
              refine (spec_l6Atom Y _).mono ?_
              rintro e wk1 ⟨rfl, hbc⟩
              have hrc := Lib.hid (Rd.new (enc := encToken) (k := 2) (fun _ => rfl) wk1 #[.int .i64 1, .string Y] 48 (n := 1) [tkA y] (by rw [← HY.out]; rfl) rfl)
              have HFa := Lib.hid ((HFj.out.below hbc).below ((Below.refl wk1.heap.size wk1).alloc (Nat.le_refl _) (.cells #[.int .i64 1, .string Y] 48)))
              clear hbc
              go_wp2_with (at_builtin; refine wpList_appN (enc := encToken) (k := 2) (fun _ => rfl) (fun _ u hu => by simp at hu; rcases hu with rfl | rfl <;> rfl) (by omega) rfl _ _ 29 48 rfl (.agg #[.int .i64 0, .string ByteArray.empty]) 24 Tryz.underlying29 (by kernel_rfl) rfl w1.heap.size _ lj rfl HFa.out.o _ _ _ _ rfl hrc.out (by omega) (by omega) HFa.out.z ?_; intro vk wk2 hownd hgd)
              have HFk := Lib.hid (HFa.out.app hownd hgd)
              clear hownd hgd HFa hrc
              go_roundw
              case rel => exact ⟨j + 1, lj ++ [tkA y], by omega, by go_num, HNj.out, by rw [List.length_append]; simp only [List.length_singleton]; omega, HFk.out⟩
              case measure => simp [intOf]; omega
            · have hji : ¬ (j : Int) < (nms.length : Int) := by omega
              have hje : j = nms.length := by omega
              have HG := Lib.hid (show lj ++ [tkC] = l6 ++ scopeNames ⟨(K : Int), nms, evs⟩ by
                rw [HN.out, HLj.out, hje, List.take_of_length_le (Nat.le_refl _)]
                simp only [groupT, List.append_assoc, List.cons_append, List.nil_append])
              clear hnr hje
              go_wp2_with fail
              refine (spec_l6Close _).mono ?_
              rintro e wg1 ⟨rfl, hbc⟩
              have hrc := Lib.hid (Rd.new (enc := encToken) (k := 2) (fun _ => rfl) wg1 #[.int .i64 4, .string ⟨#[]⟩] 48 (n := 1) [tkC] (by rfl) rfl)
              have HFa := Lib.hid ((HFj.out.below hbc).below ((Below.refl wg1.heap.size wg1).alloc (Nat.le_refl _) (.cells #[.int .i64 4, .string ⟨#[]⟩] 48)))
              clear hbc
              go_wp2_with (at_builtin; refine wpList_appN (enc := encToken) (k := 2) (fun _ => rfl) (fun _ u hu => by simp at hu; rcases hu with rfl | rfl <;> rfl) (by omega) rfl _ _ 29 48 rfl (.agg #[.int .i64 0, .string ByteArray.empty]) 24 Tryz.underlying29 (by kernel_rfl) rfl w1.heap.size _ lj rfl HFa.out.o _ _ _ _ rfl hrc.out (by omega) (by omega) HFa.out.z ?_; intro v8 w8 hownd hgd)
              have HFg := Lib.hid (HFa.out.app hownd hgd)
              clear hownd hgd HFa hrc
              obtain ⟨l8, hl8⟩ : ∃ l8, lj ++ [tkC] = l8 := ⟨_, rfl⟩
              have hl8n : l8.length ≤ l6.length + 5 := by rw [← hl8, List.length_append]; simp only [List.length_singleton]; omega
              have hf8 := HFg.out
              rw [hl8] at hf8
              have HF8 := Lib.hid hf8
              have HL8 := Lib.hid (HG.out.symm.trans hl8)
              clear hf8 hl8 HG HFg HFj
              refine (spec_l6Open _).mono ?_
              rintro e w9a ⟨rfl, hbc⟩
              have hrc := Lib.hid (Rd.new (enc := encToken) (k := 2) (fun _ => rfl) w9a #[.int .i64 3, .string ⟨#[]⟩] 48 (n := 1) [tkO] (by rfl) rfl)
              have HFa := Lib.hid ((HF8.out.below hbc).below ((Below.refl w9a.heap.size w9a).alloc (Nat.le_refl _) (.cells #[.int .i64 3, .string ⟨#[]⟩] 48)))
              clear hbc
              go_wp2_with (at_builtin; refine wpList_appN (enc := encToken) (k := 2) (fun _ => rfl) (fun _ u hu => by simp at hu; rcases hu with rfl | rfl <;> rfl) (by omega) rfl _ _ 29 48 rfl (.agg #[.int .i64 0, .string ByteArray.empty]) 24 Tryz.underlying29 (by kernel_rfl) rfl w1.heap.size _ l8 rfl HFa.out.o _ _ _ _ rfl hrc.out (by omega) (by omega) HFa.out.z ?_; intro v9 w9 hownd hgd)
              have HF9 := Lib.hid (HFa.out.app hownd hgd)
              clear hownd hgd HFa hrc
              go_loopw [3, 7] (fun o i ws => ∃ (j : Nat) (lj : List Token), j ≤ 4 ∧ i = .int .i64 j ∧ Hid (lj = (l8 ++ [tkO]) ++ (selTo evs eventList j).map tkA) ∧ lj.length ≤ l8.length + 1 + j ∧ Ft w1.heap.size w1 X (⟨(K : Int), nms, evs⟩, ⟨A1, nms.length, c1⟩) o lj ws) (fun _ i _ => 4 - (intOf i).toNat)
              case atStart => exact ⟨0, l8 ++ [tkO], by omega, rfl, by show l8 ++ [tkO] = (l8 ++ [tkO]) ++ []; rw [List.append_nil], by rw [List.length_append]; simp, HF9.out⟩
              case round =>
                obtain ⟨j, lj, hj, rfl, hlj, hljn, hfj⟩ := hrel
                clear HF9
                have HFj := Lib.hid hfj
                have HLj := Lib.hid hlj.out
                have ce := hfj.c2
                simp only [] at ce
                clear hfj hlj
                by_cases hj4 : j < 4
                · have hji : (j : Int) < 4 := by omega
                  have hj64 : (j : Int) ≤ 64 := by omega
                  have hj0 : (0 : Int) ≤ (j : Int) := by omega
                  have hjl : j < eventList.length := hj4
                  cases hb : hasBit evs j
                  · have hbe : (bits .and .i64 (evs / 2 ^ j) 1 == 1) = false := hb
                    have HNj := Lib.hid (show lj = (l8 ++ [tkO]) ++ (selTo evs eventList (j + 1)).map tkA by rw [selTo_no hb]; exact HLj.out)
                    clear hb
                    go_wp2
                    go_roundw
                    case rel => exact ⟨j + 1, lj, by omega, by go_num, HNj.out, by omega, HFj.out⟩
                    case measure => simp [intOf]; omega
                  · have hbe : (bits .and .i64 (evs / 2 ^ j) 1 == 1) = true := hb
                    obtain ⟨y, hy⟩ : ∃ y, eventList[j]? = some y := ⟨_, List.getElem?_eq_getElem hjl⟩
                    have HNj := Lib.hid (show lj ++ [tkA y] = (l8 ++ [tkO]) ++ (selTo evs eventList (j + 1)).map tkA by rw [selTo_yes hy hb, List.map_append, ← List.append_assoc, ← HLj.out]; rfl)
                    have hyd : eventList.getD j [] = y := by rw [List.getD_eq_getElem?_getD, hy]; rfl
                    have HYD := Lib.hid hyd
                    obtain ⟨Y, hY⟩ : ∃ Y : ByteArray, (⟨y.toArray⟩ : ByteArray) = Y := ⟨_, rfl⟩
                    have HY := Lib.hid hY
                    have HJL := Lib.hid hjl
                    clear hb hy hyd hY hjl
                    go_wp2_with fail
                    refine (spec_l6Events _).mono ?_
                    rintro e we ⟨⟨ge, rfl, hhe⟩, hbe2⟩
                    have ze : we.cell? ⟨ge, j, none⟩ = some (.string Y) := by
                      have h0 := words_holds hhe HJL.out
                      rw [HYD.out, HY.out] at h0
                      exact h0
                    have HFe := Lib.hid (HFj.out.below hbe2)
                    clear hhe hbe2
                    go_wp2_with fail
                    refine (spec_l6Atom Y _).mono ?_
                    rintro e wk1 ⟨rfl, hbc⟩
                    have hrc := Lib.hid (Rd.new (enc := encToken) (k := 2) (fun _ => rfl) wk1 #[.int .i64 1, .string Y] 48 (n := 1) [tkA y] (by rw [← HY.out]; rfl) rfl)
                    have HFa := Lib.hid ((HFe.out.below hbc).below ((Below.refl wk1.heap.size wk1).alloc (Nat.le_refl _) (.cells #[.int .i64 1, .string Y] 48)))
                    clear hbc
                    go_wp2_with (at_builtin; refine wpList_appN (enc := encToken) (k := 2) (fun _ => rfl) (fun _ u hu => by simp at hu; rcases hu with rfl | rfl <;> rfl) (by omega) rfl _ _ 29 48 rfl (.agg #[.int .i64 0, .string ByteArray.empty]) 24 Tryz.underlying29 (by kernel_rfl) rfl w1.heap.size _ lj rfl HFa.out.o _ _ _ _ rfl hrc.out (by omega) (by omega) HFa.out.z ?_; intro vk wk2 hownd hgd)
                    have HFk := Lib.hid (HFa.out.app hownd hgd)
                    clear hownd hgd HFa hrc
                    go_roundw
                    case rel => exact ⟨j + 1, lj ++ [tkA y], by omega, by go_num, HNj.out, by rw [List.length_append]; simp only [List.length_singleton]; omega, HFk.out⟩
                    case measure => simp [intOf]; omega
                · have hje : j = 4 := by omega
                  subst hje
                  have hj4i : ¬ ((4 : Nat) : Int) < 4 := by omega
                  have HEND := Lib.hid (show lj ++ [tkC, tkC] = toksTo rs (k + 1) by
                    rw [HT.out, HLj.out, ← HL8.out, ← HL6.out, HL.out]
                    simp only [scopeT, groupT, List.append_assoc, List.cons_append, List.nil_append])
                  go_wp2_with fail
                  refine (spec_l6Close _).mono ?_
                  rintro e wx ⟨rfl, hbx⟩
                  have HFx := Lib.hid (HFj.out.below hbx)
                  clear hbx
                  go_wp2_with fail
                  refine (spec_l6Close _).mono ?_
                  rintro e wy ⟨rfl, hby⟩
                  have hry := Lib.hid (Rd.new (enc := encToken) (k := 2) (fun _ => rfl) wy #[.int .i64 4, .string ⟨#[]⟩, .int .i64 4, .string ⟨#[]⟩] 48 (n := 2) [tkC, tkC] rfl rfl)
                  have HFa := Lib.hid ((HFx.out.below hby).below ((Below.refl wy.heap.size wy).alloc (Nat.le_refl _) (.cells #[.int .i64 4, .string ⟨#[]⟩, .int .i64 4, .string ⟨#[]⟩] 48)))
                  clear hby
                  go_wp2_with (at_builtin; refine wpList_appN (enc := encToken) (k := 2) (fun _ => rfl) (fun _ u hu => by simp at hu; rcases hu with rfl | rfl <;> rfl) (by omega) rfl _ _ 29 48 rfl (.agg #[.int .i64 0, .string ByteArray.empty]) 24 Tryz.underlying29 (by kernel_rfl) rfl w1.heap.size _ lj rfl HFa.out.o _ _ _ _ rfl hry.out (by omega) (by omega) HFa.out.z ?_; intro vz wz hownz hgz)
                  have HFz := Lib.hid (HFa.out.app hownz hgz)
                  clear hownz hgz HFa hry
                  go_roundw
                  case rel => exact ⟨k + 1, lj ++ [tkC, tkC], by omega, by go_num, HEND.out, by rw [List.length_append]; simp only [List.length_cons, List.length_nil]; omega, HFz.out.o, HFz.out.b⟩
                  case measure => simp [intOf]; omega
    · have hke : k = rs.length := by omega
      have hlti : ¬ (k : Int) < (rs.length : Int) := by omega
      have e : R = l := by rw [← HR.out, hl.out, hke]; exact (toksTo_all HOK.out HON.out HX.out).symm
      subst e
      have HO := Lib.hid hown
      have HB4 := Lib.hid (HB.out.trans (hW.mono HB.out.size))
      clear hl hown hW
      go_wp2
      go_ret
      exact retOwn_mk (own_mono HO.out (by omega)) HB4.out


end Go.Proofs.YtjpkceimokkpgaaGreatDoor
