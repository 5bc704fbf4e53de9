/-
  Walks: what each function returns, and that it leaves what lay in memory as it was.
-/
import Derived.Test.YthccfnoebbimjaaDoorProg
import Derived.Test.YthccfnoebbimjaaDoorPlain
import Derived.Test.YthccfnoebbimjaaDoorBase2
import Derived.Test.YthccfnoebbimjaaDoorOpen2
import Derived.Test.YthccfnoebbimjaaDoorShelf
import Derived.WalkKit
import Derived.WalkSpells
import Derived.WalkLawsBesides
import Derived.Lib.Hide
import Derived.Deep.LoopGhost
import Derived.Deep.QuietTactic
import Derived.BigQuiet
import Derived.Handy
import Derived.Deep.RegionHeld3
import Derived.StillTailTactics
import Derived.OpenShut
import Derived.ChangeSame
import Derived.Laws.StructEq

import Derived.Test.YthccfnoebbimjaaDoorPlainT

import Derived.Test.YthccfnoebbimjaaDoorW1

import Derived.Test.YthccfnoebbimjaaDoorW2

import Derived.Test.YthccfnoebbimjaaDoorW3

import Derived.Test.YthccfnoebbimjaaDoorW4

import Derived.Test.YthccfnoebbimjaaDoorW5

import Derived.Test.YthccfnoebbimjaaDoorW6

import Derived.Test.YthccfnoebbimjaaDoorBase3

import Derived.Lib.ItoaMem
import Derived.Lib.ItoaLen
import Derived.Lib.LaidTab

import Derived.Lib.AtoiTie
import Derived.Lib.AtoiBound
import Derived.Lib.ConvBytes

namespace Go.Proofs.YthccfnoebbimjaaDoor
open Go.ChangeShapes Go.WideShapes Go.ChangeAt Go.RowKit Go.Deep
set_option linter.unusedVariables false
set_option linter.unusedSimpArgs false

set_option maxRecDepth 20000

set_option maxHeartbeats 3200000 in
set_option maxRecDepth 20000 in
theorem impl_ReadSet (s : ByteArray) (w : World) (hs : s.size ≤ 1048576) (htab : Lib.TabIs Tryd.prog w "internal/strconv.uint64pow10" .u64 Lib.pow10Tab)
    (hE1 : ∃ pp, w.var? Tryd.prog "strconv.ErrSyntax" = some #[.iface 95 pp]) (hE2 : ∃ pp, w.var? Tryd.prog "strconv.ErrRange" = some #[.iface 95 pp]) :
    Calls Tryd.prog 6 #[.string s] w fun e w' => (∃ (A : Option Addr) (c : Nat), e = .returned (.tuple #[.slice A (readSet s.data.toList).1.length c, .bool (readSet s.data.toList).2]) ∧ w'.ownsRow w.heap.size 38 2 (.slice A (readSet s.data.toList).1.length c) (readSet s.data.toList).1.length ((readSet s.data.toList).1.flatMap encSpan)) ∧ Below w.heap.size w w' := by
  obtain ⟨R, hR⟩ : ∃ R, (readSet s.data.toList).1 = R := ⟨_, rfl⟩
  obtain ⟨ok, hok⟩ : ∃ ok, (readSet s.data.toList).2 = ok := ⟨_, rfl⟩
  have HD := Lib.hid (show readSet s.data.toList = (R, ok) by rw [← hR, ← hok])
  rw [hR, hok]
  clear hR hok
  have HSL := Lib.hid (size_len s)
  have HT := Lib.hid htab
  have HE1 := Lib.hid hE1
  have HE2 := Lib.hid hE2
  clear htab hE1 hE2
  obtain ⟨ps, hps⟩ : ∃ ps, parts 44 s.data.toList = ps := ⟨_, rfl⟩
  have HPS := Lib.hid hps
  have hpl : ps.length ≤ s.size + 1 := by rw [← hps, size_len]; exact partsGo_len' 44 _ []
  have HFit := Lib.hid (fun y (h : y ∈ ps) => show y.length ≤ s.size by
    rw [← hps] at h
    have := partsGo_fit' 44 s.data.toList [] y h
    rw [size_len]; simpa using this)
  have hnew := Lib.hid (World.ownsRow_made (base := w.heap.size) (e := 38) (size := 2) w #[] 0 (Nat.le_refl _) (by unfold maxLen; omega) rfl)
  have hB0 := Lib.hid (show Below w.heap.size w (w.alloc (.cells #[] 38)) from (Below.refl _ _).alloc (Nat.le_refl _) _)
  have HPa := Lib.hid (impl_Parts s 44 (w.alloc (.cells #[] 38)) (by omega))
  rw [hps] at HPa
  clear hps
  go_enter Tryd.func6, Tryd.ntmps6
  go_wp2_with fail
  refine HPa.out.mono ?_
  rintro e w1 ⟨Ap, cp, rfl, hop, hb1⟩
  have HP1 := Lib.hid hop
  have hap : Apart (.slice Ap ps.length cp) (.slice (some ⟨w.heap.size, 0, none⟩) 0 0) := by
    intro i hi j hj
    have h1 : w.heap.size + 1 ≤ i := by simpa using (hop.lt i hi).1
    have h2 : w.heap.size = j := by simpa [Value.ownBlock] using hj
    omega
  have HAp := Lib.hid hap
  clear hap
  have HB1 := Lib.hid (hB0.out.trans (hb1.mono hB0.out.size))
  have HO1 := Lib.hid (own_below hnew.out hb1)
  clear hop hb1 hB0 hnew HPa
  go_wp2_with fail
  go_loopw [4, 16] (fun o i wr => ∃ (k : Nat) (l : List Span), k ≤ ps.length ∧ i = .int .i64 k ∧ Hid ((ps.take k).map pieceOf = l) ∧ l.length = k ∧ Hid (∀ p ∈ ps.take k, pieceOk p = true) ∧ wr.ownsRow w.heap.size 38 2 o l.length (l.flatMap encSpan) ∧ Below w.heap.size w wr ∧ wr.ownsRow (w.alloc (.cells #[] 38)).heap.size 9 1 (.slice Ap ps.length cp) ps.length (ps.flatMap encStr) ∧ Apart (.slice Ap ps.length cp) o) (fun _ i _ => ps.length - (intOf i).toNat)
  case atStart => exact ⟨0, [], by omega, rfl, Lib.hid rfl, rfl, Lib.hid (by simp), HO1.out, HB1.out, HP1.out, HAp.out⟩
  case round =>
    clear HO1 HAp HP1
    obtain ⟨k, l, hk, rfl, hq, hll, ha, ho, hW, hpo, hap⟩ := hrel
    have HPO := Lib.hid hpo
    have HAP := Lib.hid hap
    clear hpo hap
    have HO := Lib.hid ho
    have HW := Lib.hid hW
    have hsz := hW.size
    have HLL := Lib.hid hll
    clear ho hW hll
    by_cases hlt : k < ps.length
    · obtain ⟨b, off, x, rfl, hb, hx, hc⟩ := (Rd.of_own (enc := encStr) (k := 1) (fun _ => rfl) HPO.out rfl).elem hlt
      have g0 : wr.cell? ⟨b, off + k, none⟩ = some (.string ⟨x.toArray⟩) := by simpa using hc 0 _ rfl
      have hxm := List.mem_of_getElem? hx
      have hxs := HFit.out x hxm
      obtain ⟨n, hn, e0, e1, l0, l1, hpn⟩ := parts_ends 58 x
      obtain ⟨X, hX⟩ : ∃ X : ByteArray, (⟨x.toArray⟩ : ByteArray) = X := ⟨_, rfl⟩
      have hXs : X.size ≤ 1048576 := by rw [← hX, size_len]; simp only [List.toList_toArray]; omega
      have hXd : X.data.toList = x := by rw [← hX]
      have HPa := Lib.hid (impl_Parts X 58 wr (by omega))
      rw [hXd] at HPa
      rw [hX] at g0
      have HF1 := Lib.hid (show pieceOf x = ((endOf (fstP x)).1, (endOf (lstP x)).1) from rfl)
      have HF2 := Lib.hid (show pieceOk x = ((endOf (fstP x)).2 && (endOf (lstP x)).2 && decide ((parts 58 x).length ≤ 2)) from rfl)
      have HBad := Lib.hid (fun (h : pieceOk x = false) => (HD.out.symm.trans (readSet_bad (s := s.data.toList) (p := x) (by rw [HPS.out]; exact hxm) h)))
      have HX2 := Lib.hid (take_snoc hx)
      obtain ⟨f, hf⟩ : ∃ f, fstP x = f := ⟨_, rfl⟩
      obtain ⟨la, hla⟩ : ∃ la, lstP x = la := ⟨_, rfl⟩
      rw [hf, hla] at HF1 HF2
      rw [show (parts 58 x).headD [] = f from hf] at e0 l0
      rw [show (parts 58 x).getLastD [] = la from hla] at e1 l1
      obtain ⟨es, hes⟩ : ∃ es, parts 58 x = es := ⟨_, rfl⟩
      rw [hes] at e0 e1 hn HF2 HPa hpn
      clear hes hf hla hX hXd hc hxm hx
      obtain ⟨vf, hvf⟩ : ∃ v, (endOf f).1 = v := ⟨_, rfl⟩
      obtain ⟨vl, hvl⟩ : ∃ v, (endOf la).1 = v := ⟨_, rfl⟩
      obtain ⟨bf, hbf⟩ : ∃ v, (endOf f).2 = v := ⟨_, rfl⟩
      obtain ⟨bl, hbl⟩ : ∃ v, (endOf la).2 = v := ⟨_, rfl⟩
      rw [hvf, hvl] at HF1
      rw [hbf, hbl] at HF2
      have HVf := Lib.hid hvf
      have HVl := Lib.hid hvl
      have HBf := Lib.hid hbf
      have HBl := Lib.hid hbl
      have E0 := Lib.hid e0
      have E1 := Lib.hid e1
      have HN := Lib.hid hn
      clear hvf hvl hbf hbl e0 e1 hn
      go_wp2_with fail
      refine HPa.out.mono ?_
      rintro e w2 ⟨Ae, ce, rfl, hoe, hb2⟩
      have HE := Lib.hid (Rd.of_own (enc := encStr) (k := 1) (fun _ => rfl) hoe rfl)
      have HO2 := Lib.hid (own_below HO.out hb2)
      have HW2 := Lib.hid (HW.out.trans (hb2.mono hsz))
      have HPO2 := Lib.hid (own_below HPO.out hb2)
      have hsz2 := HW2.out.size
      clear hoe hb2 HPa HO HW HPO
      have hlen : 0 < es.length := by have := HN.out; omega
      obtain ⟨be, oe, f', rfl, hbe, hf', hcf⟩ := HE.out.elem hlen
      have hff : f' = f := by rw [E0.out] at hf'; exact (Option.some.inj hf').symm
      subst hff
      have q0 : w2.cell? ⟨be, oe, none⟩ = some (.string ⟨f'.toArray⟩) := by simpa using hcf 0 _ rfl
      clear hcf hf'
      have hle : (es.length : Int) - 1 = (n : Int) := by have := HN.out; omega
      have hnl : n < es.length := by have := HN.out; omega
      obtain ⟨Fb, hFb⟩ : ∃ X : ByteArray, (⟨f'.toArray⟩ : ByteArray) = X := ⟨_, rfl⟩
      have hFbs : Fb.size ≤ 1048576 := by rw [← hFb, size_len]; simp only [List.toList_toArray]; omega
      have HFd := Lib.hid (show Fb.data.toList = f' by rw [← hFb])
      rw [hFb] at q0
      obtain ⟨Lb, hLb⟩ : ∃ X : ByteArray, (⟨la.toArray⟩ : ByteArray) = X := ⟨_, rfl⟩
      have hLbs : Lb.size ≤ 1048576 := by rw [← hLb, size_len]; simp only [List.toList_toArray]; omega
      have HLd := Lib.hid (show Lb.data.toList = la by rw [← hLb])
      have HLb := Lib.hid hLb
      clear hFb hLb
      go_wp2_with fail
      refine (impl_readEnd Fb w2 hFbs (tab_below HT.out HW2.out) (by obtain ⟨p, hp⟩ := HE1.out; exact ⟨p, var_below hp HW2.out⟩) (by obtain ⟨p, hp⟩ := HE2.out; exact ⟨p, var_below hp HW2.out⟩)).mono ?_
      rw [HFd.out, HVf.out, HBf.out]
      rintro e w3 ⟨rfl, hb3⟩
      have HE3 := Lib.hid (HE.out.below hb3)
      have HO3 := Lib.hid (own_below HO2.out hb3)
      have HW3 := Lib.hid (HW2.out.trans (hb3.mono hsz2))
      have HPO3 := Lib.hid (own_below HPO2.out hb3)
      have hsz3 := HW3.out.size
      clear hb3 HE HO2 HW2 HPO2 q0
      obtain ⟨be', oe', l', he', _, hl', hcl⟩ := HE3.out.elem hnl
      obtain ⟨rfl, rfl⟩ : be' = be ∧ oe' = oe := by simpa using he'.symm
      have hll' : l' = la := by rw [E1.out] at hl'; exact (Option.some.inj hl').symm
      subst hll'
      have q1 : w3.cell? ⟨be', oe' + n, none⟩ = some (.string ⟨l'.toArray⟩) := by simpa using hcl 0 _ rfl
      rw [HLb.out] at q1
      clear hcl hl' he'
      go_wp2_with fail
      refine (impl_readEnd Lb w3 hLbs (tab_below HT.out HW3.out) (by obtain ⟨p, hp⟩ := HE1.out; exact ⟨p, var_below hp HW3.out⟩) (by obtain ⟨p, hp⟩ := HE2.out; exact ⟨p, var_below hp HW3.out⟩)).mono ?_
      rw [HLd.out, HVl.out, HBl.out]
      rintro e w4 ⟨rfl, hb4⟩
      have HO4 := Lib.hid (own_below HO3.out hb4)
      have HW4 := Lib.hid (HW3.out.trans (hb4.mono hsz3))
      have HPO4 := Lib.hid (own_below HPO3.out hb4)
      have hsz4 := HW4.out.size
      clear hb4 HE3 HO3 HW3 HPO3 q1
      have hbad : ∀ {P : Ending → World → Prop}, pieceOk x = false → (∀ (h : R = [] ∧ ok = false), P (.returned (.tuple #[.slice none 0 0, .bool false])) w4) → P (.returned (.tuple #[.slice none 0 0, .bool false])) w4 := fun h k => k (by
        have h2 := HBad.out h
        injection h2 with h3 h4
        exact ⟨h3, h4⟩)
      cases bf with
      | false =>
        obtain ⟨rfl, rfl⟩ : R = [] ∧ ok = false := by
          have h2 := HBad.out (by rw [HF2.out]; rfl)
          injection h2 with h3 h4
          exact ⟨h3, h4⟩
        go_wp2
        go_ret2
        exact ⟨⟨none, 0, rfl, World.ownsRow_nil _ _ _ _⟩, HW4.out⟩
      | true =>
        cases bl with
        | false =>
          obtain ⟨rfl, rfl⟩ : R = [] ∧ ok = false := by
            have h2 := HBad.out (by rw [HF2.out]; rfl)
            injection h2 with h3 h4
            exact ⟨h3, h4⟩
          go_wp2
          go_ret2
          exact ⟨⟨none, 0, rfl, World.ownsRow_nil _ _ _ _⟩, HW4.out⟩
        | true =>
          by_cases h2 : es.length ≤ 2
          · have HOk := Lib.hid (show pieceOk x = true by rw [HF2.out, decide_eq_true h2]; rfl)
            have HNl := Lib.hid (show (ps.take (k + 1)).map pieceOf = l ++ [(vf, vl)] by rw [HX2.out, List.map_append, hq.out]; simp only [List.map_cons, List.map_nil, HF1.out])
            have HNa := Lib.hid (show ∀ p ∈ ps.take (k + 1), pieceOk p = true by
              intro p hp
              rw [HX2.out] at hp
              rcases List.mem_append.1 hp with h | h
              · exact ha.out p h
              · simp at h; rw [h]; exact HOk.out)
            have Hown2 := Lib.hid (HO4.out.alloc (.cells #[.int .i64 vf, .int .i64 vl] 38))
            have Hrd2 := Lib.hid (Rd.new (enc := encSpan) (k := 2) (fun _ => rfl) w4 #[.int .i64 vf, .int .i64 vl] 38 (n := 1) [(vf, vl)] rfl rfl)
            have HB3 := Lib.hid (HW4.out.alloc hsz4 (.cells #[.int .i64 vf, .int .i64 vl] 38))
            have HPO5 := Lib.hid (HPO4.out.alloc (.cells #[.int .i64 vf, .int .i64 vl] 38))
            have hlt5 := HPO4.out.lt
            have HLt5 := Lib.hid (show ∀ k, (Value.slice (some ⟨b, off, none⟩) ps.length cp).ownBlock = some k → k < (w4.alloc (.cells #[.int .i64 vf, .int .i64 vl] 38)).heap.size from fun k hk => by have := (hlt5 k hk).2; simp; omega)
            clear hlt5
            have hlls : l.length ≤ 1048577 := by have := HLL.out; omega
            have h2i : (es.length : Int) ≤ 2 := by omega
            clear hq ha hbad
            go_wp2_with (at_builtin; refine wpList_appG (enc := encSpan) (k := 2) (fun _ => rfl) (fun _ u hu => by simp at hu; rcases hu with rfl | rfl <;> rfl) (by omega) rfl _ _ 22 38 rfl (.agg #[.int .i64 0, .int .i64 0]) 16 Tryd.underlying22 (by kernel_rfl) rfl w.heap.size _ l rfl Hown2.out _ _ _ _ rfl Hrd2.out (by first | omega | (simp; omega)) (by omega) (by first | omega | (simp; omega)) ?_; intro v2 w7 hown2 hg2 h52)
            have hbel2 := gb_to_below hg2 (B := w.heap.size) (by first | omega | (simp; omega)) (fun k hk => (Hown2.out.lt k hk).1)
            go_roundw
            case rel => exact ⟨k + 1, l ++ [(vf, vl)], by omega, by go_num, HNl, by have := HLL.out; simp; omega, HNa, hown2, HB3.out.trans hbel2, HPO5.out.kept hg2 HAP.out.or, HAP.out.step HLt5.out h52⟩
            case measure => simp [intOf]; omega
          · obtain ⟨rfl, rfl⟩ : R = [] ∧ ok = false := by
              have h2 := HBad.out (by rw [HF2.out, decide_eq_false h2]; rfl)
              injection h2 with h3 h4
              exact ⟨h3, h4⟩
            have h2i : ¬ (es.length : Int) ≤ 2 := by omega
            go_wp2
            go_ret2
            exact ⟨⟨none, 0, rfl, World.ownsRow_nil _ _ _ _⟩, HW4.out⟩
    · have hke : k = ps.length := by omega
      have HL := Lib.hid (show l = readOutI s.data.toList by unfold readOutI; rw [HPS.out, ← hq.out, List.take_of_length_le (by omega)])
      have HAll := Lib.hid (show readSet s.data.toList = if setOk l = true ∧ setText l = s.data.toList then (l, true) else ([], false) by
        rw [HL.out]
        exact readSet_all (by rw [HPS.out]; intro p hp; exact ha.out p (by rw [List.take_of_length_le (by omega)]; exact hp)))
      clear hq ha HL
      rcases own_form HO.out with ⟨Aq, cq, rfl⟩
      have HRq := Lib.hid (Rd.of_own (enc := encSpan) (k := 2) (fun _ => rfl) HO.out rfl)
      have hls : l.length ≤ 1048577 := by have := HLL.out; omega
      cases hso : setOk l with
      | false =>
        obtain ⟨rfl, rfl⟩ : R = [] ∧ ok = false := by
          have h2 := HD.out.symm.trans HAll.out
          rw [if_neg (by rw [hso]; rintro ⟨h, _⟩; cases h)] at h2
          injection h2 with h3 h4
          exact ⟨h3, h4⟩
        have HSO := Lib.hid hso
        clear hso
        go_wp2_with fail
        refine (impl_SetOk Aq l.length cq l wr (by omega) HRq.out).mono ?_
        rw [HSO.out]
        rintro e w5 ⟨rfl, hb5⟩
        have HW5 := Lib.hid (HW.out.trans (hb5.mono hsz))
        clear hb5
        go_wp2
        go_ret2
        exact ⟨⟨none, 0, rfl, World.ownsRow_nil _ _ _ _⟩, HW5.out⟩
      | true =>
        have hl5 : l.length ≤ 5 := setOk_n hso
        have HSO := Lib.hid hso
        clear hso
        obtain ⟨T, hT⟩ : ∃ T : ByteArray, (⟨(setText l).toArray⟩ : ByteArray) = T := ⟨_, rfl⟩
        have HTd := Lib.hid (show T.data.toList = setText l by rw [← hT])
        have HTq := Lib.hid hT
        clear hT
        go_wp2_with fail
        refine (impl_SetOk Aq l.length cq l wr (by omega) HRq.out).mono ?_
        rw [HSO.out]
        rintro e w5 ⟨rfl, hb5⟩
        have HW5 := Lib.hid (HW.out.trans (hb5.mono hsz))
        have HO5 := Lib.hid (own_below HO.out hb5)
        have HR5 := Lib.hid (HRq.out.below hb5)
        clear hb5
        by_cases hTs : T = s
        · have hcmp : (T.toList == s.toList) = true := by rw [hTs]; simp
          obtain ⟨rfl, rfl⟩ : R = l ∧ ok = true := by
            have h2 := HD.out.symm.trans HAll.out
            rw [if_pos ⟨HSO.out, by rw [← HTd.out, hTs]⟩] at h2
            injection h2 with h3 h4
            exact ⟨h3, h4⟩
          have HTS := Lib.hid hTs
          clear hTs
          go_wp2_with fail
          refine (impl_SetText Aq R.length cq R w5 (by omega) HR5.out (tab_below HT.out HW5.out)).mono ?_
          rw [HTq.out]
          rintro e w6 ⟨rfl, hb6⟩
          have HW6 := Lib.hid (HW5.out.trans (hb6.mono HW5.out.size))
          have HO6 := Lib.hid (own_below HO5.out hb6)
          clear hb6
          go_wp2
          go_ret2
          exact ⟨⟨Aq, cq, rfl, HO6.out⟩, HW6.out⟩
        · have hcmp : (T.toList == s.toList) = false := by rw [ba_beq]; exact decide_eq_false hTs
          obtain ⟨rfl, rfl⟩ : R = [] ∧ ok = false := by
            have h2 := HD.out.symm.trans HAll.out
            rw [if_neg (by rintro ⟨_, h⟩; exact hTs (ba_eq.2 (by rw [HTd.out, h])))] at h2
            injection h2 with h3 h4
            exact ⟨h3, h4⟩
          clear hTs
          go_wp2_with fail
          refine (impl_SetText Aq l.length cq l w5 (by omega) HR5.out (tab_below HT.out HW5.out)).mono ?_
          rw [HTq.out]
          rintro e w6 ⟨rfl, hb6⟩
          have HW6 := Lib.hid (HW5.out.trans (hb6.mono HW5.out.size))
          clear hb6
          go_wp2
          go_ret2
          exact ⟨⟨none, 0, rfl, World.ownsRow_nil _ _ _ _⟩, HW6.out⟩

end Go.Proofs.YthccfnoebbimjaaDoor
