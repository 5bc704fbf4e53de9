/-
  Walks: what each function returns, and that it leaves what lay in memory as it was.
-/
import Derived.Test.YthccfnoebbimjaaDoorProg
import Derived.Test.YthccfnoebbimjaaDoorPlain
import Derived.Test.YthccfnoebbimjaaDoorBase2
import Derived.Test.YthccfnoebbimjaaDoorOpen2
import Derived.Test.YthccfnoebbimjaaDoorShelf
import Derived.WalkKit
import Derived.WalkSpells
import Derived.WalkLawsBesides
import Derived.Lib.Hide
import Derived.Deep.LoopGhost
import Derived.Deep.QuietTactic
import Derived.BigQuiet
import Derived.Handy
import Derived.Deep.RegionHeld3
import Derived.StillTailTactics
import Derived.OpenShut
import Derived.ChangeSame
import Derived.Laws.StructEq

import Derived.Test.YthccfnoebbimjaaDoorPlainT

import Derived.Test.YthccfnoebbimjaaDoorW1

import Derived.Test.YthccfnoebbimjaaDoorW2

import Derived.Test.YthccfnoebbimjaaDoorW3

import Derived.Test.YthccfnoebbimjaaDoorW4

import Derived.Test.YthccfnoebbimjaaDoorW5

import Derived.Test.YthccfnoebbimjaaDoorW6

import Derived.Test.YthccfnoebbimjaaDoorBase3

import Derived.Lib.ItoaMem
import Derived.Lib.ItoaLen
import Derived.Lib.LaidTab

import Derived.Lib.AtoiTie
import Derived.Lib.AtoiBound
import Derived.Lib.ConvBytes

namespace Go.Proofs.YthccfnoebbimjaaDoor
open Go.ChangeShapes Go.WideShapes Go.ChangeAt Go.RowKit Go.Deep
set_option linter.unusedVariables false
set_option linter.unusedSimpArgs false

set_option maxRecDepth 20000

theorem two_stored {wA w3 : World} {e : TypeId} {u0 u1 v0 v1 : Value} (hb : Below (wA.alloc (.cells #[u0, u1] e)).heap.size (wA.alloc (.cells #[u0, u1] e)) w3) :
    Below wA.heap.size wA ((w3.setCell ⟨wA.heap.size, 0, none⟩ v0).setCell ⟨wA.heap.size, 1, none⟩ v1) ∧ ((w3.setCell ⟨wA.heap.size, 0, none⟩ v0).setCell ⟨wA.heap.size, 1, none⟩ v1).cell? ⟨wA.heap.size, 0, none⟩ = some v0 ∧ ((w3.setCell ⟨wA.heap.size, 0, none⟩ v0).setCell ⟨wA.heap.size, 1, none⟩ v1).cell? ⟨wA.heap.size, 1, none⟩ = some v1 := by
  have hO := World.ownsRow_lit (base := wA.heap.size) (e := e) (size := 2) wA #[u0, u1] 1 (Nat.le_refl _) (by unfold maxLen; omega) rfl
  have h3 := own_below hO hb
  have hsz : wA.heap.size ≤ w3.heap.size := by have := hb.size; simp at this; omega
  have hb1 : Below wA.heap.size wA w3 := ((Below.refl wA.heap.size wA).alloc (Nat.le_refl _) _).trans (hb.mono (by simp))
  have s0 := h3.stored 0 v0
  have s1 := s0.1.stored 1 v1
  have d0 := s1.1.cellAt 0 (by omega)
  have d1 := s1.1.cellAt 1 (by omega)
  simp only [List.set_cons_succ, List.set_cons_zero, List.getElem?_cons_zero, List.getElem?_cons_succ] at d0 d1
  refine ⟨?_, d0, d1⟩
  refine hb1.trans ?_
  refine gb_to_below (gb_trans s0.2 s1.2) hsz ?_
  intro k hk
  have : wA.heap.size = k := by simpa [Value.ownBlock] using hk
  omega
theorem alloc_lt (w : World) (o : Obj) : w.heap.size < (w.alloc o).heap.size := by simp
theorem cell_set {u : World} {b o X i : Nat} {v v1 : Value} (h : u.cell? ⟨b, o, none⟩ = some v) (hne : b ≠ X) : (u.setCell ⟨X, i, none⟩ v1).cell? ⟨b, o, none⟩ = some v :=
  (World.cell?_of_block (w := u) (a := ⟨b, o, none⟩) (Below.heap_setCell u ⟨X, i, none⟩ v1 b hne)).trans h
set_option maxHeartbeats 3200000 in
set_option maxRecDepth 20000 in
theorem spec_ReadSet (s : ByteArray) (w : World) (hs : s.size ≤ 1048576) :
    Calls Tryd.prog 5 #[.string s] w fun e w' => (∃ (A : Option Addr) (c : Nat), e = .returned (.tuple #[.slice A (readSet s.data.toList).1.length c, .bool (readSet s.data.toList).2]) ∧ w'.ownsRow w.heap.size 38 2 (.slice A (readSet s.data.toList).1.length c) (readSet s.data.toList).1.length ((readSet s.data.toList).1.flatMap encSpan)) ∧ Below w.heap.size w w' := by
  obtain ⟨R, hR⟩ : ∃ R, (readSet s.data.toList).1 = R := ⟨_, rfl⟩
  obtain ⟨ok, hok⟩ : ∃ ok, (readSet s.data.toList).2 = ok := ⟨_, rfl⟩
  have HD := Lib.hid (show readSetS s.data.toList = (R, ok) by rw [readSet_eq, ← hR, ← hok])
  rw [hR, hok]
  clear hR hok
  have HSL := Lib.hid (size_len s)
  obtain ⟨ps, hps⟩ : ∃ ps, parts 44 s.data.toList = ps := ⟨_, rfl⟩
  have HPS := Lib.hid hps
  have hpl : ps.length ≤ s.size + 1 := by rw [← hps, size_len]; exact partsGo_len' 44 _ []
  have HFit := Lib.hid (fun y (h : y ∈ ps) => show y.length ≤ s.size by
    rw [← hps] at h
    have := partsGo_fit' 44 s.data.toList [] y h
    rw [size_len]; simpa using this)
  obtain ⟨L, hL⟩ : ∃ L, readOutS s.data.toList = L := ⟨_, rfl⟩
  have HLo := Lib.hid (show (if ps.length ≤ 5 then ps.map pairOf else []) = L by rw [← hL, ← hps]; rfl)
  have HD2 := Lib.hid (show (if s.data.toList = [] ∨ ¬ setText L = s.data.toList then (([] : List Span), false) else (L, true)) = (R, ok) by rw [← HD.out, ← hL]; rfl)
  clear hL HD
  have hnew := Lib.hid (World.ownsRow_made (base := w.heap.size) (e := 38) (size := 2) w #[] 0 (Nat.le_refl _) (by unfold maxLen; omega) rfl)
  have hB0 := Lib.hid (show Below w.heap.size w (w.alloc (.cells #[] 38)) from (Below.refl _ _).alloc (Nat.le_refl _) _)
  have HPa := Lib.hid (spec_Parts s 44 (w.alloc (.cells #[] 38)) (by omega))
  rw [hps] at HPa
  clear hps
  go_enter Tryd.func5, Tryd.ntmps5
  go_wp2_with fail
  refine HPa.out.mono ?_
  rintro e w1 ⟨Ap, cp, rfl, hop, hb1⟩
  have HP1 := Lib.hid hop
  have hap : Apart (.slice Ap ps.length cp) (.slice (some ⟨w.heap.size, 0, none⟩) 0 0) := by
    intro i hi j hj
    have h1 : w.heap.size + 1 ≤ i := by simpa using (hop.lt i hi).1
    have h2 : w.heap.size = j := by simpa [Value.ownBlock] using hj
    omega
  have HAp := Lib.hid hap
  clear hap
  have HB1 := Lib.hid (hB0.out.trans (hb1.mono hB0.out.size))
  have HO1 := Lib.hid (own_below hnew.out hb1)
  clear hop hb1 hB0 hnew HPa
  go_wp2_with fail
  go_loopw [4, 6] (fun o i wr => ∃ (k : Nat) (l : List Span), k ≤ ps.length ∧ (5 < ps.length → k = 0) ∧ i = .int .i64 k ∧ Hid ((ps.take k).map pairOf = l) ∧ l.length = k ∧ wr.ownsRow w.heap.size 38 2 o l.length (l.flatMap encSpan) ∧ Below w.heap.size w wr ∧ wr.ownsRow (w.alloc (.cells #[] 38)).heap.size 9 1 (.slice Ap ps.length cp) ps.length (ps.flatMap encStr) ∧ Apart (.slice Ap ps.length cp) o) (fun _ i _ => ps.length - (intOf i).toNat)
  case atStart => exact ⟨0, [], by omega, fun _ => rfl, rfl, Lib.hid rfl, rfl, HO1.out, HB1.out, HP1.out, HAp.out⟩
  case round =>
    clear HO1 HAp HP1
    obtain ⟨k, l, hk, hk5, rfl, hq, hll, ho, hW, hpo, hap⟩ := hrel
    have HPO := Lib.hid hpo
    have HAP := Lib.hid hap
    clear hpo hap
    have HO := Lib.hid ho
    have HW := Lib.hid hW
    have hsz := hW.size
    have HLL := Lib.hid hll
    clear ho hW hll
    by_cases hlt : k < ps.length ∧ ps.length ≤ 5
    · obtain ⟨hlt, hp5⟩ := hlt
      obtain ⟨b, off, x, rfl, hb, hx, hc⟩ := (Rd.of_own (enc := encStr) (k := 1) (fun _ => rfl) HPO.out rfl).elem hlt
      have g0 : wr.cell? ⟨b, off + k, none⟩ = some (.string ⟨x.toArray⟩) := by simpa using hc 0 _ rfl
      have hxm := List.mem_of_getElem? hx
      have hxs := HFit.out x hxm
      obtain ⟨n, hn, e0, e1, l0, l1, hpn⟩ := parts_ends 58 x
      obtain ⟨X, hX⟩ : ∃ X : ByteArray, (⟨x.toArray⟩ : ByteArray) = X := ⟨_, rfl⟩
      have hXs : X.size ≤ 1048576 := by rw [← hX, size_len]; simp only [List.toList_toArray]; omega
      have hXd : X.data.toList = x := by rw [← hX]
      have HPa := Lib.hid (spec_Parts X 58 wr (by omega))
      rw [hXd] at HPa
      rw [hX] at g0
      have HF1 := Lib.hid (show pairOf x = (numOf (fstP x), numOf (lstP x)) from rfl)
      have HX2 := Lib.hid (take_snoc hx)
      obtain ⟨f, hf⟩ : ∃ f, fstP x = f := ⟨_, rfl⟩
      obtain ⟨la, hla⟩ : ∃ la, lstP x = la := ⟨_, rfl⟩
      rw [hf, hla] at HF1
      rw [show (parts 58 x).headD [] = f from hf] at e0 l0
      rw [show (parts 58 x).getLastD [] = la from hla] at e1 l1
      obtain ⟨es, hes⟩ : ∃ es, parts 58 x = es := ⟨_, rfl⟩
      rw [hes] at e0 e1 hn HPa hpn
      clear hes hf hla hX hXd hc hxm hx
      have E0 := Lib.hid e0
      have E1 := Lib.hid e1
      have HN := Lib.hid hn
      clear e0 e1 hn
      go_wp2_with fail
      refine HPa.out.mono ?_
      rintro e w2 ⟨Ae, ce, rfl, hoe, hb2⟩
      have HE := Lib.hid (Rd.of_own (enc := encStr) (k := 1) (fun _ => rfl) hoe rfl)
      have HO2 := Lib.hid (own_below HO.out hb2)
      have HW2 := Lib.hid (HW.out.trans (hb2.mono hsz))
      have HPO2 := Lib.hid (own_below HPO.out hb2)
      have hsz2 := HW2.out.size
      clear hoe hb2 HPa HO HW HPO
      have hlen : 0 < es.length := by have := HN.out; omega
      obtain ⟨be, oe, f', rfl, hbe, hf', hcf⟩ := HE.out.elem hlen
      have hff : f' = f := by rw [E0.out] at hf'; exact (Option.some.inj hf').symm
      subst hff
      have q0 : w2.cell? ⟨be, oe, none⟩ = some (.string ⟨f'.toArray⟩) := by simpa using hcf 0 _ rfl
      clear hcf hf'
      have hle : (es.length : Int) - 1 = (n : Int) := by have := HN.out; omega
      have hnl : n < es.length := by have := HN.out; omega
      obtain ⟨Fb, hFb⟩ : ∃ X : ByteArray, (⟨f'.toArray⟩ : ByteArray) = X := ⟨_, rfl⟩
      have hFbs : Fb.size ≤ 1048576 := by rw [← hFb, size_len]; simp only [List.toList_toArray]; omega
      have HFd := Lib.hid (show Fb.data.toList = f' by rw [← hFb])
      rw [hFb] at q0
      obtain ⟨Lb, hLb⟩ : ∃ X : ByteArray, (⟨la.toArray⟩ : ByteArray) = X := ⟨_, rfl⟩
      have hLbs : Lb.size ≤ 1048576 := by rw [← hLb, size_len]; simp only [List.toList_toArray]; omega
      have HLd := Lib.hid (show Lb.data.toList = la by rw [← hLb])
      obtain ⟨be', oe', l', he', _, hl', hcl⟩ := HE.out.elem hnl
      obtain ⟨rfl, rfl⟩ : be' = be ∧ oe' = oe := by simpa using he'.symm
      have hll' : l' = la := by rw [E1.out] at hl'; exact (Option.some.inj hl').symm
      subst hll'
      have q1 : w2.cell? ⟨be', oe' + n, none⟩ = some (.string ⟨l'.toArray⟩) := by simpa using hcl 0 _ rfl
      rw [hLb] at q1
      clear hcl hl' he' hFb hLb
      have hbe2 : be' < w2.heap.size := hbe
      have hS : w2.cell? ⟨be', oe', none⟩ = some (.string Fb) ∧ w2.cell? ⟨be', oe' + n, none⟩ = some (.string Lb) := ⟨q0, q1⟩
      have hK : ∀ u u' : World, (u.cell? ⟨be', oe', none⟩ = some (.string Fb) ∧ u.cell? ⟨be', oe' + n, none⟩ = some (.string Lb)) → Below u.heap.size u u' → u'.cell? ⟨be', oe', none⟩ = some (.string Fb) ∧ u'.cell? ⟨be', oe' + n, none⟩ = some (.string Lb) := fun u u' h hb => ⟨(hb.cell (p := ⟨be', oe', none⟩) (World.block_lt_of_cell? u _ h.1)).trans h.1, (hb.cell (p := ⟨be', oe' + n, none⟩) (World.block_lt_of_cell? u _ h.2)).trans h.2⟩
      have HK := Lib.hid hK
      clear hK
      have hn0 : (0 : Int) ≤ (n : Int) := by omega
      have hnL : (n : Int) < (es.length : Int) := by omega
      have hes0 : (0 : Int) < (es.length : Int) := by omega
      have hwn : IntKind.i64.wrap (n : Int) = (n : Int) := IntWalk.i64_in _ (by omega)
      have hwn1 : IntKind.i64.wrap ((es.length : Int) - 1) = (n : Int) := by rw [hle, hwn]
      go_wp2_with fail
      go_region_held3 (fun w' => w'.cell? ⟨be', oe', none⟩ = some (.string Fb) ∧ w'.cell? ⟨be', oe' + n, none⟩ = some (.string Lb)) (first | exact hS | assumption | exact HK.out _ _ (by assumption) ((Below.refl _ _).alloc (Nat.le_refl _) _) | exact HK.out _ _ hS3 ((Below.refl _ _).alloc (Nat.le_refl _) _) | exact HK.out _ _ hS ((Below.refl _ _).alloc (Nat.le_refl _) _) | exact ⟨cell_set (cell_set (And.left (by first | exact hS3 | exact HK.out _ _ hS3 ((Below.refl _ _).alloc (Nat.le_refl _) _))) (by omega)) (by omega), cell_set (cell_set (And.right (by first | exact hS3 | exact HK.out _ _ hS3 ((Below.refl _ _).alloc (Nat.le_refl _) _))) (by omega)) (by omega)⟩)
        ((first | (go_at_call 18; refine (spec_l4Number _ _ (by first | exact hFbs | exact hLbs)).mono ?_; rintro e w3 ⟨rfl, hb3⟩; have hcl := (fun (b o : Nat) h => hb3.cell (p := ⟨b, o, none⟩) h); have hsz3 := hb3.size; (try simp at hsz3); (try (have hlt3 := Nat.lt_of_lt_of_le (alloc_lt _ _) hb3.size)); have hfr := (fun (b o : Nat) h => hb3.frozen (p := ⟨b, o, none⟩) h); have hS3 := HK.out _ _ (by first | exact hS | assumption | (simpa using hS)) hb3)))
      · rename_i wA hbA hclA hszA hfrA hSA hHA
        have F : Below w2.heap.size w2 (w3.alloc (.cells #[.int .i64 (numOf Fb.data.toList), .int .i64 (numOf Lb.data.toList)] 38)) ∧ (w3.alloc (.cells #[.int .i64 (numOf Fb.data.toList), .int .i64 (numOf Lb.data.toList)] 38)).cell? ⟨w3.heap.size, 0, none⟩ = some (.int .i64 (numOf Fb.data.toList)) ∧ (w3.alloc (.cells #[.int .i64 (numOf Fb.data.toList), .int .i64 (numOf Lb.data.toList)] 38)).cell? ⟨w3.heap.size, 1, none⟩ = some (.int .i64 (numOf Lb.data.toList)) := by
          have h1 : Below w2.heap.size w2 wA := (Below.refl w2.heap.size w2).drew.trans hbA
          have h2 : Below w2.heap.size w2 w3 := h1.trans (hb3.mono hszA)
          refine ⟨h2.alloc h2.size _, ?_, ?_⟩ <;> rw [World.cell?_alloc_mark] <;> rfl
        obtain ⟨X8, hX8⟩ : ∃ X8, w3.heap.size = X8 := ⟨_, rfl⟩
        rw [hX8] at F ⊢
        clear hX8
        clear hHA hcl hfr hsz3 hS3 hclA hfrA hszA hSA hb3 hbA HK hS q0 q1
        generalize w3.alloc (.cells #[.int .i64 (numOf Fb.data.toList), .int .i64 (numOf Lb.data.toList)] 38) = wF at F ⊢
        obtain ⟨F1, c8, c9⟩ := F
        have HOF := Lib.hid (own_below HO2.out F1)
        have HPF := Lib.hid (own_below HPO2.out F1)
        have HWF := Lib.hid (HW2.out.trans (F1.mono hsz2))
        have hszF := HWF.out.size
        clear F1 HO2 HPO2 HW2
        have HNl := Lib.hid (show (ps.take (k + 1)).map pairOf = l ++ [(numOf f', numOf l')] by rw [HX2.out, List.map_append, hq.out]; simp only [List.map_cons, List.map_nil, HF1.out])
        rw [HFd.out] at c8
        rw [HLd.out] at c9
        have Hown2 := Lib.hid (HOF.out.alloc (.cells #[.int .i64 (numOf f'), .int .i64 (numOf l')] 38))
        have Hrd2 := Lib.hid (Rd.new (enc := encSpan) (k := 2) (fun _ => rfl) wF #[.int .i64 (numOf f'), .int .i64 (numOf l')] 38 (n := 1) [(numOf f', numOf l')] rfl rfl)
        have HB3 := Lib.hid (HWF.out.alloc hszF (.cells #[.int .i64 (numOf f'), .int .i64 (numOf l')] 38))
        have HPO5 := Lib.hid (HPF.out.alloc (.cells #[.int .i64 (numOf f'), .int .i64 (numOf l')] 38))
        have hlt5 := HPF.out.lt
        have HLt5 := Lib.hid (show ∀ k, (Value.slice (some ⟨b, off, none⟩) ps.length cp).ownBlock = some k → k < (wF.alloc (.cells #[.int .i64 (numOf f'), .int .i64 (numOf l')] 38)).heap.size from fun k hk => by have := (hlt5 k hk).2; simp; omega)
        clear hlt5
        have hlls : l.length ≤ 1048577 := by have := HLL.out; omega
        clear hq
        go_wp2_with (at_builtin; refine wpList_appG (enc := encSpan) (k := 2) (fun _ => rfl) (fun _ u hu => by simp at hu; rcases hu with rfl | rfl <;> rfl) (by omega) rfl _ _ 22 38 rfl (.agg #[.int .i64 0, .int .i64 0]) 16 Tryd.underlying22 (by kernel_rfl) rfl w.heap.size _ l rfl Hown2.out _ _ _ _ rfl Hrd2.out (by first | omega | (simp; omega)) (by omega) (by first | omega | (simp; omega)) ?_; intro v2 w7 hown2 hg2 h52)
        have hbel2 := gb_to_below hg2 (B := w.heap.size) (by first | omega | (simp; omega)) (fun k hk => (Hown2.out.lt k hk).1)
        go_roundw
        case rel => exact ⟨k + 1, l ++ [(numOf f', numOf l')], by omega, by omega, by go_num, HNl, by have := HLL.out; simp; omega, hown2, HB3.out.trans hbel2, HPO5.out.kept hg2 HAP.out.or, HAP.out.step HLt5.out h52⟩
        case measure => simp [intOf]; omega
      · rename_i wA hbA hclA hszA hfrA hSA hHA
        have F0 := two_stored (v0 := .int .i64 (numOf Fb.data.toList)) (v1 := .int .i64 (numOf Lb.data.toList)) hb3
        have F : Below w2.heap.size w2 ((w3.setCell ⟨wA.heap.size, 0, none⟩ (.int .i64 (numOf Fb.data.toList))).setCell ⟨wA.heap.size, 1, none⟩ (.int .i64 (numOf Lb.data.toList))) ∧ ((w3.setCell ⟨wA.heap.size, 0, none⟩ (.int .i64 (numOf Fb.data.toList))).setCell ⟨wA.heap.size, 1, none⟩ (.int .i64 (numOf Lb.data.toList))).cell? ⟨wA.heap.size, 0, none⟩ = some (.int .i64 (numOf Fb.data.toList)) ∧ ((w3.setCell ⟨wA.heap.size, 0, none⟩ (.int .i64 (numOf Fb.data.toList))).setCell ⟨wA.heap.size, 1, none⟩ (.int .i64 (numOf Lb.data.toList))).cell? ⟨wA.heap.size, 1, none⟩ = some (.int .i64 (numOf Lb.data.toList)) := by
          have h1 : Below w2.heap.size w2 wA := (Below.refl w2.heap.size w2).drew.trans hbA
          exact ⟨h1.trans (F0.1.mono hszA), F0.2.1, F0.2.2⟩
        clear F0
        obtain ⟨X8, hX8⟩ : ∃ X8, wA.heap.size = X8 := ⟨_, rfl⟩
        rw [hX8] at F ⊢
        clear hX8
        clear hHA hcl hfr hsz3 hS3 hclA hfrA hszA hSA hb3 hbA HK hS q0 q1
        generalize (w3.setCell ⟨X8, 0, none⟩ (.int .i64 (numOf Fb.data.toList))).setCell ⟨X8, 1, none⟩ (.int .i64 (numOf Lb.data.toList)) = wF at F ⊢
        obtain ⟨F1, c8, c9⟩ := F
        have HOF := Lib.hid (own_below HO2.out F1)
        have HPF := Lib.hid (own_below HPO2.out F1)
        have HWF := Lib.hid (HW2.out.trans (F1.mono hsz2))
        have hszF := HWF.out.size
        clear F1 HO2 HPO2 HW2
        have HNl := Lib.hid (show (ps.take (k + 1)).map pairOf = l ++ [(numOf f', numOf l')] by rw [HX2.out, List.map_append, hq.out]; simp only [List.map_cons, List.map_nil, HF1.out])
        rw [HFd.out] at c8
        rw [HLd.out] at c9
        have Hown2 := Lib.hid (HOF.out.alloc (.cells #[.int .i64 (numOf f'), .int .i64 (numOf l')] 38))
        have Hrd2 := Lib.hid (Rd.new (enc := encSpan) (k := 2) (fun _ => rfl) wF #[.int .i64 (numOf f'), .int .i64 (numOf l')] 38 (n := 1) [(numOf f', numOf l')] rfl rfl)
        have HB3 := Lib.hid (HWF.out.alloc hszF (.cells #[.int .i64 (numOf f'), .int .i64 (numOf l')] 38))
        have HPO5 := Lib.hid (HPF.out.alloc (.cells #[.int .i64 (numOf f'), .int .i64 (numOf l')] 38))
        have hlt5 := HPF.out.lt
        have HLt5 := Lib.hid (show ∀ k, (Value.slice (some ⟨b, off, none⟩) ps.length cp).ownBlock = some k → k < (wF.alloc (.cells #[.int .i64 (numOf f'), .int .i64 (numOf l')] 38)).heap.size from fun k hk => by have := (hlt5 k hk).2; simp; omega)
        clear hlt5
        have hlls : l.length ≤ 1048577 := by have := HLL.out; omega
        clear hq
        go_wp2_with (at_builtin; refine wpList_appG (enc := encSpan) (k := 2) (fun _ => rfl) (fun _ u hu => by simp at hu; rcases hu with rfl | rfl <;> rfl) (by omega) rfl _ _ 22 38 rfl (.agg #[.int .i64 0, .int .i64 0]) 16 Tryd.underlying22 (by kernel_rfl) rfl w.heap.size _ l rfl Hown2.out _ _ _ _ rfl Hrd2.out (by first | omega | (simp; omega)) (by omega) (by first | omega | (simp; omega)) ?_; intro v2 w7 hown2 hg2 h52)
        have hbel2 := gb_to_below hg2 (B := w.heap.size) (by first | omega | (simp; omega)) (fun k hk => (Hown2.out.lt k hk).1)
        go_roundw
        case rel => exact ⟨k + 1, l ++ [(numOf f', numOf l')], by omega, by omega, by go_num, HNl, by have := HLL.out; simp; omega, hown2, HB3.out.trans hbel2, HPO5.out.kept hg2 HAP.out.or, HAP.out.step HLt5.out h52⟩
        case measure => simp [intOf]; omega
      · rename_i wA hbA hclA hszA hfrA hSA hHA
        have F : Below w2.heap.size w2 ((w3.setCell ⟨w2.heap.size, 0, none⟩ (.int .i64 (numOf Fb.data.toList))).setCell ⟨w2.heap.size, 1, none⟩ (.int .i64 (numOf Lb.data.toList))) ∧ ((w3.setCell ⟨w2.heap.size, 0, none⟩ (.int .i64 (numOf Fb.data.toList))).setCell ⟨w2.heap.size, 1, none⟩ (.int .i64 (numOf Lb.data.toList))).cell? ⟨w2.heap.size, 0, none⟩ = some (.int .i64 (numOf Fb.data.toList)) ∧ ((w3.setCell ⟨w2.heap.size, 0, none⟩ (.int .i64 (numOf Fb.data.toList))).setCell ⟨w2.heap.size, 1, none⟩ (.int .i64 (numOf Lb.data.toList))).cell? ⟨w2.heap.size, 1, none⟩ = some (.int .i64 (numOf Lb.data.toList)) := two_stored (wA := w2) (e := 38) (u0 := .int .i64 0) (u1 := .int .i64 0) ((Below.refl _ (w2.alloc (.cells #[.int .i64 0, .int .i64 0] 38))).drew.trans (hbA.trans (hb3.mono hbA.size)))
        clear hHA hcl hfr hsz3 hS3 hclA hfrA hszA hSA hb3 hbA HK hS q0 q1
        generalize (w3.setCell ⟨w2.heap.size, 0, none⟩ (.int .i64 (numOf Fb.data.toList))).setCell ⟨w2.heap.size, 1, none⟩ (.int .i64 (numOf Lb.data.toList)) = wF at F ⊢
        obtain ⟨F1, c8, c9⟩ := F
        have HOF := Lib.hid (own_below HO2.out F1)
        have HPF := Lib.hid (own_below HPO2.out F1)
        have HWF := Lib.hid (HW2.out.trans (F1.mono hsz2))
        have hszF := HWF.out.size
        clear F1 HO2 HPO2 HW2
        have HNl := Lib.hid (show (ps.take (k + 1)).map pairOf = l ++ [(numOf f', numOf l')] by rw [HX2.out, List.map_append, hq.out]; simp only [List.map_cons, List.map_nil, HF1.out])
        rw [HFd.out] at c8
        rw [HLd.out] at c9
        have Hown2 := Lib.hid (HOF.out.alloc (.cells #[.int .i64 (numOf f'), .int .i64 (numOf l')] 38))
        have Hrd2 := Lib.hid (Rd.new (enc := encSpan) (k := 2) (fun _ => rfl) wF #[.int .i64 (numOf f'), .int .i64 (numOf l')] 38 (n := 1) [(numOf f', numOf l')] rfl rfl)
        have HB3 := Lib.hid (HWF.out.alloc hszF (.cells #[.int .i64 (numOf f'), .int .i64 (numOf l')] 38))
        have HPO5 := Lib.hid (HPF.out.alloc (.cells #[.int .i64 (numOf f'), .int .i64 (numOf l')] 38))
        have hlt5 := HPF.out.lt
        have HLt5 := Lib.hid (show ∀ k, (Value.slice (some ⟨b, off, none⟩) ps.length cp).ownBlock = some k → k < (wF.alloc (.cells #[.int .i64 (numOf f'), .int .i64 (numOf l')] 38)).heap.size from fun k hk => by have := (hlt5 k hk).2; simp; omega)
        clear hlt5
        have hlls : l.length ≤ 1048577 := by have := HLL.out; omega
        clear hq
        go_wp2_with (at_builtin; refine wpList_appG (enc := encSpan) (k := 2) (fun _ => rfl) (fun _ u hu => by simp at hu; rcases hu with rfl | rfl <;> rfl) (by omega) rfl _ _ 22 38 rfl (.agg #[.int .i64 0, .int .i64 0]) 16 Tryd.underlying22 (by kernel_rfl) rfl w.heap.size _ l rfl Hown2.out _ _ _ _ rfl Hrd2.out (by first | omega | (simp; omega)) (by omega) (by first | omega | (simp; omega)) ?_; intro v2 w7 hown2 hg2 h52)
        have hbel2 := gb_to_below hg2 (B := w.heap.size) (by first | omega | (simp; omega)) (fun k hk => (Hown2.out.lt k hk).1)
        go_roundw
        case rel => exact ⟨k + 1, l ++ [(numOf f', numOf l')], by omega, by omega, by go_num, HNl, by have := HLL.out; simp; omega, hown2, HB3.out.trans hbel2, HPO5.out.kept hg2 HAP.out.or, HAP.out.step HLt5.out h52⟩
        case measure => simp [intOf]; omega
    · have hL := HLo.out
      have HL2 := Lib.hid (show l = L by
        rw [← hL, ← hq.out]
        by_cases h5 : ps.length ≤ 5
        · rw [if_pos h5, List.take_of_length_le (by omega)]
        · rw [if_neg h5, hk5 (by omega)]; rfl)
      have hlls : l.length ≤ 5 := by
        have := HLL.out
        by_cases h5 : ps.length ≤ 5
        · omega
        · have := hk5 (by omega); omega
      clear hL hq HLo
      rcases own_form HO.out with ⟨Aq, cq, rfl⟩
      have HRq := Lib.hid (Rd.of_own (enc := encSpan) (k := 2) (fun _ => rfl) HO.out rfl)
      by_cases hkn : k < ps.length
      all_goals
        first
          | have h5i : ¬ (ps.length : Int) ≤ 5 := fun h => hlt ⟨hkn, by omega⟩
          | skip
        by_cases hemp : s = ⟨#[]⟩
        · have hcmp : (s.toList == []) = true := by rw [hemp, show ({ data := #[] } : ByteArray).toList = [] from List.isEmpty_iff.1 (by rw [ba_empty]; exact decide_eq_true rfl)]; rfl
          have hcmp2 : s.toList.isEmpty = true := by rw [ba_empty]; exact decide_eq_true hemp
          obtain ⟨rfl, rfl⟩ : R = [] ∧ ok = false := by
            have h2 := HD2.out
            rw [if_pos (.inl (by rw [hemp]))] at h2
            injection h2 with h3 h4
            exact ⟨h3.symm, h4.symm⟩
          have HE := Lib.hid hemp
          clear hemp
          have Hmade := Lib.hid (World.ownsRow_made (base := w.heap.size) (e := 38) (size := 2) wr #[] 0 hsz (by unfold maxLen; omega) rfl)
          have HWm := Lib.hid (HW.out.alloc hsz (.cells #[] 38))
          go_wp2
          go_ret2
          exact ⟨⟨_, _, rfl, Hmade.out⟩, HWm.out⟩
        · have hcmp : (s.toList == []) = false := by
            cases h : (s.toList == []) with
            | false => rfl
            | true => exact absurd (ba_eq.2 (by have := eq_of_beq h; rwa [ByteArray.toList_eq] at this)) hemp
          have hcmp2 : s.toList.isEmpty = false := by rw [ba_empty]; exact decide_eq_false hemp
          obtain ⟨T, hT⟩ : ∃ T : ByteArray, (⟨(setText l).toArray⟩ : ByteArray) = T := ⟨_, rfl⟩
          have HTd := Lib.hid (show T.data.toList = setText L by rw [← hT, ← HL2.out])
          have HTq := Lib.hid hT
          clear hT
          by_cases hTs : T = s
          · have hcmp3 : (T.toList == s.toList) = true := by rw [hTs]; simp
            obtain ⟨rfl, rfl⟩ : R = L ∧ ok = true := by
              have h2 := HD2.out
              rw [if_neg (by rintro (h | h); exact hemp (ba_eq.2 h); exact h (by rw [← HTd.out, hTs]))] at h2
              injection h2 with h3 h4
              exact ⟨h3.symm, h4.symm⟩
            have HTS := Lib.hid hTs
            have HE := Lib.hid hemp
            clear hTs hemp
            go_wp2_with fail
            refine (spec_SetText Aq l.length cq l wr (by omega) HRq.out).mono ?_
            rw [HTq.out]
            rintro e w6 ⟨rfl, hb6⟩
            have HW6 := Lib.hid (HW.out.trans (hb6.mono hsz))
            have HO6 := Lib.hid (own_below HO.out hb6)
            clear hb6
            rw [HL2.out] at HO6
            have hll := congrArg List.length HL2.out
            go_wp2
            go_ret2
            exact ⟨⟨Aq, cq, by rw [← hll]; rfl, HO6.out⟩, HW6.out⟩
          · have hcmp3 : (T.toList == s.toList) = false := by rw [ba_beq]; exact decide_eq_false hTs
            obtain ⟨rfl, rfl⟩ : R = [] ∧ ok = false := by
              have h2 := HD2.out
              rw [if_pos (.inr (fun h => hTs (ba_eq.2 (by rw [HTd.out, h]))))] at h2
              injection h2 with h3 h4
              exact ⟨h3.symm, h4.symm⟩
            have HE := Lib.hid hemp
            clear hTs hemp
            go_wp2_with fail
            refine (spec_SetText Aq l.length cq l wr (by omega) HRq.out).mono ?_
            rw [HTq.out]
            rintro e w6 ⟨rfl, hb6⟩
            have HW6 := Lib.hid (HW.out.trans (hb6.mono hsz))
            have hsz6 := HW6.out.size
            clear hb6
            have Hmade := Lib.hid (World.ownsRow_made (base := w.heap.size) (e := 38) (size := 2) w6 #[] 0 hsz6 (by unfold maxLen; omega) rfl)
            have HWm := Lib.hid (HW6.out.alloc hsz6 (.cells #[] 38))
            go_wp2
            go_ret2
            exact ⟨⟨_, _, rfl, Hmade.out⟩, HWm.out⟩

end Go.Proofs.YthccfnoebbimjaaDoor
