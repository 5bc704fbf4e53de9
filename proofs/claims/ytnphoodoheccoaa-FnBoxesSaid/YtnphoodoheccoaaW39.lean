/-
  Walks: what each function returns, and that it leaves what lay in memory as it was.
-/
import Derived.Test.YtnphoodoheccoaaProg
import Derived.Test.YtnphoodoheccoaaPlain
import Derived.Test.YtnphoodoheccoaaBase2
import Derived.Test.YtnphoodoheccoaaOpen2
import Derived.Test.YtnphoodoheccoaaShelf
import Derived.WalkKit
import Derived.WalkSpells
import Derived.WalkLawsBesides
import Derived.Lib.Hide
import Derived.Deep.LoopGhost
import Derived.Deep.QuietTactic
import Derived.BigQuiet
import Derived.Handy
import Derived.Deep.RegionHeld3
import Derived.StillTailTactics
import Derived.OpenShut
import Derived.ChangeSame
import Derived.Laws.StructEq

import Derived.Test.YtnphoodoheccoaaPlainT

import Derived.Test.YtnphoodoheccoaaW1

import Derived.Test.YtnphoodoheccoaaW2

import Derived.Test.YtnphoodoheccoaaW3

import Derived.Test.YtnphoodoheccoaaW4

import Derived.Test.YtnphoodoheccoaaW5

import Derived.Test.YtnphoodoheccoaaW6

import Derived.Test.YtnphoodoheccoaaW7

import Derived.Test.YtnphoodoheccoaaW9

import Derived.Test.YtnphoodoheccoaaW10

import Derived.Test.YtnphoodoheccoaaW11

import Derived.Test.YtnphoodoheccoaaW13

import Derived.Test.YtnphoodoheccoaaW14

import Derived.Test.YtnphoodoheccoaaW17

import Derived.Test.YtnphoodoheccoaaW18

import Derived.Test.YtnphoodoheccoaaW19

import Derived.Test.YtnphoodoheccoaaW30

import Derived.Test.YtnphoodoheccoaaW36

import Derived.Test.YtnphoodoheccoaaW37

import Derived.Test.YtnphoodoheccoaaW38

namespace Go.Proofs.Ytnphoodoheccoaa
open Go.ChangeShapes Go.WideShapes Go.ChangeAt Go.RowKit Go.Deep
set_option linter.unusedVariables false
set_option linter.unusedSimpArgs false

set_option maxRecDepth 20000

/-! ### the plain law of FnBoxes -/
theorem less_irrefl : ∀ a : List UInt8, Op.bytesLess a a = false
  | [] => rfl
  | x :: a => by
    have ih := less_irrefl a
    simp [Op.bytesLess, ih, UInt8.lt_irrefl]
theorem less_trans : ∀ a b c : List UInt8, Op.bytesLess a b = true → Op.bytesLess b c = true → Op.bytesLess a c = true
  | [], [], _, h, _ => by simp [Op.bytesLess] at h
  | [], _ :: _, [], _, h => by simp [Op.bytesLess] at h
  | [], _ :: _, _ :: _, _, _ => rfl
  | _ :: _, [], _, h, _ => by simp [Op.bytesLess] at h
  | _ :: _, _ :: _, [], _, h => by simp [Op.bytesLess] at h
  | x :: a, y :: b, z :: c, h1, h2 => by
    have ih := less_trans a b c
    simp only [Op.bytesLess, Bool.or_eq_true, Bool.and_eq_true, decide_eq_true_eq, beq_iff_eq] at h1 h2 ⊢
    rcases h1 with h1 | ⟨rfl, h1⟩
    · rcases h2 with h2 | ⟨rfl, h2⟩
      · exact .inl (UInt8.lt_trans h1 h2)
      · exact .inl h1
    · rcases h2 with h2 | ⟨rfl, h2⟩
      · exact .inl h2
      · exact .inr ⟨rfl, ih h1 h2⟩
theorem boxesOk_each {l : List Box} (h : boxesOk l = true) {k : Nat} (hk : k < l.length) : boxAt l k = true := by
  unfold boxesOk at h
  rw [Bool.and_eq_true, List.all_eq_true] at h
  exact h.1 k (List.mem_range.2 hk)
theorem boxesOk_asc {l : List Box} (h : boxesOk l = true) {j : Nat} {x : Box} (hx : l[j]? = some x) : ∀ (k : Nat) (y : Box), j < k → l[k]? = some y → nameLt x.name y.name = true := by
  intro k
  induction k with
  | zero => intro y hj; omega
  | succ m ih =>
    intro y hj hy
    have hlt : m + 1 < l.length := (List.getElem?_eq_some_iff.1 hy).1
    have hz : l[m]? = some (l[m]'(by omega)) := List.getElem?_eq_getElem _
    generalize l[m]'(by omega) = z at hz
    have hb := boxesOk_each h hlt
    rw [boxAt_later (by omega) hy (by simpa using hz)] at hb
    simp only [Bool.and_eq_true] at hb
    rcases Nat.lt_or_ge j m with hjm | hjm
    · exact less_trans _ _ _ (ih z hjm hz) hb.2.1
    · have e : j = m := by omega
      subst e
      rw [hx] at hz
      injection hz with hz
      rw [hz]; exact hb.2.1
/-- What holds of each box of a list that is right. -/
theorem boxesOk_at {l : List Box} (h : boxesOk l = true) {k : Nat} {b : Box} (hb : l[k]? = some b) : boxNamed l b.name = k ∧ boxWith l b.validity = k ∧ boxOk b = true := by
  have hlt : k < l.length := (List.getElem?_eq_some_iff.1 hb).1
  have he := boxesOk_each h hlt
  have hand : boxOk b = true ∧ boxWith l b.validity = (k : Int) := by
    rcases Nat.eq_zero_or_pos k with h0 | h0
    · subst h0
      rw [boxAt_first hb, Bool.and_eq_true, decide_eq_true_eq] at he
      exact ⟨he.1, by simpa using he.2⟩
    · have hz : l[k - 1]? = some (l[k - 1]'(by omega)) := List.getElem?_eq_getElem _
      rw [boxAt_later (by omega) hb hz] at he
      simp only [Bool.and_eq_true, decide_eq_true_eq] at he
      exact ⟨he.1, he.2.2⟩
  refine ⟨?_, hand.2, hand.1⟩
  refine ixOf_hit (p := fun c : Box => decide (c.name = b.name)) hb (decide_eq_true rfl) (fun j y hj hy => ?_)
  refine decide_eq_false (fun e => ?_)
  have h1 := boxesOk_asc h hy k b hj hb
  rw [e] at h1
  unfold nameLt at h1
  rw [less_irrefl] at h1
  cases h1
theorem boxOk_each {x : Box} (h : boxOk x = true) {k : Nat} (hk : k < x.msgs.length) : msgOk x.next x.msgs k = true := by
  unfold boxOk at h
  simp only [Bool.and_eq_true, List.all_eq_true] at h
  exact h.2.2.2.2 k (List.mem_range.2 hk)
theorem boxOk_asc {x : Box} (h : boxOk x = true) {j : Nat} {p : Msg} (hp : x.msgs[j]? = some p) : ∀ (k : Nat) (m : Msg), j < k → x.msgs[k]? = some m → p.uid < m.uid := by
  intro k
  induction k with
  | zero => intro y hj; omega
  | succ i ih =>
    intro m hj hm
    have hlt : i + 1 < x.msgs.length := (List.getElem?_eq_some_iff.1 hm).1
    have hz : x.msgs[i]? = some (x.msgs[i]'(by omega)) := List.getElem?_eq_getElem _
    generalize x.msgs[i]'(by omega) = z at hz
    have hb := boxOk_each h hlt
    rw [msgOk_later (by omega) hm (by simpa using hz)] at hb
    simp only [Bool.and_eq_true, decide_eq_true_eq] at hb
    rcases Nat.lt_or_ge j i with hji | hji
    · have := ih z hji hz
      omega
    · have e : j = i := by omega
      subst e
      rw [hp] at hz
      injection hz with hz
      rw [hz]; exact hb.2.2.2
/-- What holds of each message of a box that is right. -/
theorem boxOk_uid {x : Box} (h : boxOk x = true) {k : Nat} {m : Msg} (hm : x.msgs[k]? = some m) : placeOf x.msgs m.uid = k ∧ m.uid < x.next := by
  have hlt : k < x.msgs.length := (List.getElem?_eq_some_iff.1 hm).1
  have he := boxOk_each h hlt
  refine ⟨?_, ?_⟩
  · refine ixOf_hit (p := fun c : Msg => decide (c.uid = m.uid)) hm (decide_eq_true rfl) (fun j y hj hy => ?_)
    refine decide_eq_false (fun e => ?_)
    have h1 := boxOk_asc h hy k m hj hm
    omega
  · have hr : inR m.uid 1 (x.next - 1) = true := by
      rcases Nat.eq_zero_or_pos k with h0 | h0
      · subst h0
        rw [msgOk_first hm, Bool.and_eq_true] at he
        exact he.1
      · have hz : x.msgs[k - 1]? = some (x.msgs[k - 1]'(by omega)) := List.getElem?_eq_getElem _
        rw [msgOk_later (by omega) hm hz, Bool.and_eq_true] at he
        exact he.1
    unfold inR at hr
    simp at hr
    omega
theorem sameBox_self (x : Box) : sameBox x x = true := by simp [sameBox]
theorem sameBoxes_self : ∀ l : List Box, sameBoxes l l = true
  | [] => rfl
  | x :: l => by unfold sameBoxes; rw [sameBox_self, sameBoxes_self l]; rfl

theorem dec_Byte {H : Type} {enc0 : TypeId × Value → H} {w : World} {base : Nat} {spare : Nat → Bool} {held : Bool} (n : Nat) (cs : List Value) (x : DataW H × List MemPlace)
    (h : DataW.trod enc0 Try.prog w base spare held n 5 cs = some x) : ∃ y : UInt8, cs = encB y ∧ True := by
  obtain ⟨a, h1, _, hw⟩ := DataW.trod_int Try.underlying5 h
  have h : 0 ≤ a ∧ a < 256 := by simp [Lit.wf, IntKind.min, IntKind.max, IntKind.signed, IntKind.bits] at hw; omega
  refine ⟨UInt8.ofNat a.toNat, ?_, trivial⟩
  rw [h1]
  have h2 : (UInt8.ofNat a.toNat).toNat = a.toNat := UInt8.toNat_ofNat_of_lt' (by show a.toNat < 256; omega)
  show [Value.int .u8 a] = [Value.int .u8 ((UInt8.ofNat a.toNat).toNat : Int)]
  rw [h2, Int.toNat_of_nonneg h.1]
set_option maxRecDepth 20000 in
/-- Bytes that came in. -/
theorem open_Bytes {H : Type} {enc0 : TypeId × Value → H} {w : World} {base b0 : Nat} {r : Reach} {spare : Nat → Bool} {held : Bool} {v : Value} {d : DataW H} {p : List MemPlace}
    (o : Value.okWide Try.prog w r b0 22 v) (h : DataW.Trod enc0 Try.prog w base spare held 22 v d p) :
    ∃ (A : Option Addr) (n c : Nat) (xs : List UInt8), v = .slice A n c ∧ Rd encB 1 w A n xs ∧ n ≤ 9223372036854775807 := by
  obtain ⟨A, n, c, xs, rfl, h, hc, hm, hN⟩ := open_rd encB (fun _ => True) 1 Try.underlying22 o h (by kernel_rfl) (by omega) (fun _ => rfl) (fun n cs x hx => dec_Byte n cs x hx)
  exact ⟨A, n, c, xs, rfl, h, by unfold maxLen at hm; omega⟩
theorem laws_big (A : Option Addr) (n c : Nat) (w : World) (hn : n ≤ 9223372036854775807) :
    Calls Try.prog 5 #[.slice A n c] w fun e w' => e = .returned (.bool (decide (1048576 < n))) ∧ w = w' := by
  by_cases h : 1048576 < n
  · go_enter Try.func5, Try.ntmps5
    go_wp2
    go_ret
    exact ⟨by simp [h]; try omega, rfl⟩
  · go_enter Try.func5, Try.ntmps5
    go_wp2
    go_ret
    exact ⟨by simp [h]; try omega, rfl⟩

theorem calls_bool {P : Program} {f : FuncId} {args : Array Value} {w : World} {a b : Bool} {R : World → Prop} (h : Calls P f args w fun e w' => e = .returned (.bool a) ∧ R w') (e : a = b) : Calls P f args w fun e w' => e = .returned (.bool b) ∧ R w' := e ▸ h
theorem calls_int {P : Program} {f : FuncId} {args : Array Value} {w : World} {a b : Int} {R : World → Prop} (h : Calls P f args w fun e w' => e = .returned (.int .i64 a) ∧ R w') (e : a = b) : Calls P f args w fun e w' => e = .returned (.int .i64 b) ∧ R w' := e ▸ h
theorem box_facts {rs : List (Box × Hd)} (h : boxesOk (rs.map Prod.fst) = true) {k : Nat} {q : Box × Hd} (hq : rs[k]? = some q) : boxNamed (rs.map Prod.fst) q.1.name = k ∧ boxWith (rs.map Prod.fst) q.1.validity = k ∧ boxOk q.1 = true := boxesOk_at h (map_get hq)
set_option maxHeartbeats 6400000 in
set_option maxRecDepth 20000 in
theorem walk_FnBoxes {H : Type} {enc0 : TypeId × Value → H} {base : Nat} {d0 : DataW H} {p0 : List MemPlace} (v0 : Value) (w : World) (o0 : Value.okWide Try.prog w .any base 22 v0) (k0 : DataW.Trod enc0 Try.prog w 0 (fun _ => true) true 22 v0 d0 p0) (hS : w.ShapedOpen Try.prog) :
    Calls Try.prog 4 #[v0] w fun e w' => e = .returned (.bool true) ∧ Below w.heap.size w w' := by
  obtain ⟨A0, n0, c0, ys0, rfl, h0, hn0⟩ := open_Bytes o0 k0
  have HM := Lib.hid (ML.of_shaped hS)
  clear o0 k0 hS
  by_cases hbig : 1048576 < n0
  · have hd : decide (1048576 < n0) = true := by simpa using hbig
    have C := Lib.hid (laws_big A0 n0 c0 w hn0)
    rw [hd] at C
    clear h0
    go_enter Try.func4, Try.ntmps4
    go_wp2_with fail
    refine C.out.mono ?_
    rintro e z ⟨rfl, rfl⟩
    go_wp2
    go_ret
    exact ⟨rfl, Below.refl _ _⟩
  have hd : decide (1048576 < n0) = false := by simpa using hbig
  have C := Lib.hid (laws_big A0 n0 c0 w hn0)
  rw [hd] at C
  have D := Lib.hid (spec_DrawBoxesOk A0 n0 c0 ys0 w (by omega) h0)
  clear h0 hd
  go_enter Try.func4, Try.ntmps4
  go_wp2_with fail
  refine C.out.mono ?_
  rintro e z ⟨rfl, rfl⟩
  go_wp2_with fail
  refine D.out.mono ?_
  rintro e w1 ⟨⟨A, c, rs, rfl, hrl, ho, hdr⟩, hb1⟩
  have HR := Lib.hid (Rd.of_own (enc := encBox) (k := 4) (fun _ => rfl) ho rfl)
  have hcap := own_cap ho
  have HI := Lib.hid (fun p hp => (hdr p hp).is (by omega) : ∀ p ∈ rs, BoxIs w1 p.1 p.2)
  have HF := Lib.hid (fun p hp => (hdr p hp).fit (by omega) : ∀ p ∈ rs, p.1.Fit)
  have HM1 := Lib.hid (HM.out.below hb1)
  have HB1 := Lib.hid hb1
  obtain ⟨OK, hOK⟩ : ∃ OK, boxesOk (rs.map Prod.fst) = OK := ⟨_, rfl⟩
  have HOK := Lib.hid hOK
  clear ho hdr hb1 HM hOK C D
  go_wp2_with fail
  refine (impl_BoxesOk A rs.length c rs w1 (by omega) HR.out HI.out HF.out HM1.out).mono ?_
  rw [HOK.out]
  rintro e w2 ⟨rfl, hb2⟩
  have HB2 := Lib.hid hb2
  clear hb2
  go_wp2_with fail
  refine (spec_BoxesOk A rs.length c rs w2 (by omega) hcap (HR.out.below HB2.out) (fun p hp => (HI.out p hp).below HB2.out) HF.out).mono ?_
  rw [HOK.out]
  rintro e w3 ⟨rfl, hb3⟩
  have HB3 := Lib.hid (HB2.out.trans (hb3.mono HB2.out.size))
  have HSB := Lib.hid (sameBoxes_self (rs.map Prod.fst))
  clear hb3 HB2
  have hne : (OK != OK) = false := by simp
  go_wp2_with fail
  clear hne
  go_loopg [4] rs.length (fun gk i wr => ∃ k : Nat, k + gk = rs.length ∧ i = .int .i64 k ∧ Below w1.heap.size w1 wr)
  case atStart => exact ⟨0, by omega, rfl, HB3.out⟩
  case round =>
    obtain ⟨k, hk, rfl, hW⟩ := hrel
    have HK := Lib.hid hk
    have hkl : k ≤ rs.length := by omega
    have HW := Lib.hid hW
    clear hk hW HB3
    by_cases hlt : k < rs.length
    · have hki : (k : Int) < (rs.length : Int) := by omega
      have hk0 : (0 : Int) ≤ (k : Int) := by omega
      go_wp2_with fail
      refine (spec_BoxesOk A rs.length c rs wr (by omega) hcap (HR.out.below HW.out) (fun p hp => (HI.out p hp).below HW.out) HF.out).mono ?_
      rw [HOK.out]
      rintro e w4 ⟨rfl, hb4⟩
      have HW4 := Lib.hid (HW.out.trans (hb4.mono HW.out.size))
      clear hb4 HW
      cases OK
      · go_wp2_with fail
        refine (impl_SameBoxes A A rs.length rs.length c c rs rs w4 (by omega) (by omega) (HR.out.below HW4.out) (HR.out.below HW4.out) (fun p hp => (HI.out p hp).below HW4.out) (fun p hp => (HI.out p hp).below HW4.out) HF.out HF.out).mono ?_
        rw [HSB.out]
        rintro e w5 ⟨rfl, hb5⟩
        have HW5 := Lib.hid (HW4.out.trans (hb5.mono HW4.out.size))
        clear hb5
        go_wp2
        go_ret
        exact ⟨rfl, HB1.out.trans (HW5.out.mono HB1.out.size)⟩
      · obtain ⟨b, off, q, rfl, hbl, hx, hc⟩ := HR.out.elem hlt
        have HX := Lib.hid (box_facts HOK.out hx)
        have hqm := List.mem_of_getElem? hx
        have HQI := Lib.hid (HI.out q hqm)
        have HQF := Lib.hid (HF.out q hqm)
        have HC := Lib.hid (fun (j : Nat) (u : Value) (hu : (encBox q)[j]? = some u) (W : World) (hb : Below w1.heap.size w1 W) => (hb.cell (p := ⟨b, off + k * 4 + j, none⟩) hbl).trans (hc j u hu))
        clear hx hc hqm hbl
        have g0 : w4.cell? ⟨b, off + k * 4, none⟩ = some (.string q.1.name) := HC.out 0 _ rfl w4 HW4.out
        go_wp2_with fail
        refine (calls_int (impl_BoxNamed (some ⟨b, off, none⟩) rs.length c rs q.1.name w4 (by omega) (HR.out.below HW4.out)) HX.out.1).mono ?_
        rintro e w5 ⟨rfl, hb5⟩
        have HW5 := Lib.hid (HW4.out.trans (hb5.mono HW4.out.size))
        have g1 : w5.cell? ⟨b, off + k * 4 + 1, none⟩ = some (.int .i64 q.1.validity) := HC.out 1 _ rfl w5 HW5.out
        clear hb5 HW4 g0
        go_wp2_with fail
        refine (calls_int (impl_BoxWith (some ⟨b, off, none⟩) rs.length c rs q.1.validity w5 (by omega) (HR.out.below HW5.out)) HX.out.2.1).mono ?_
        rintro e w6 ⟨rfl, hb6⟩
        have HW6 := Lib.hid (HW5.out.trans (hb6.mono HW5.out.size))
        have g0 : w6.cell? ⟨b, off + k * 4, none⟩ = some (.string q.1.name) := HC.out 0 _ rfl w6 HW6.out
        have g1 : w6.cell? ⟨b, off + k * 4 + 1, none⟩ = some (.int .i64 q.1.validity) := HC.out 1 _ rfl w6 HW6.out
        have g2 : w6.cell? ⟨b, off + k * 4 + 2, none⟩ = some (.int .i64 q.1.next) := HC.out 2 _ rfl w6 HW6.out
        have g3 : w6.cell? ⟨b, off + k * 4 + 3, none⟩ = some (.slice q.2.A q.2.n q.2.c) := HC.out 3 _ rfl w6 HW6.out
        clear hb6 HW5
        go_wp2_with fail
        refine (calls_bool (impl_BoxOk q.1 q.2 w6 (HQI.out.below HW6.out) HQF.out (HM1.out.below HW6.out)) HX.out.2.2).mono ?_
        rintro e w7 ⟨rfl, hb7⟩
        have HW7 := Lib.hid (HW6.out.trans (hb7.mono HW6.out.size))
        clear hb7 g0 g1 g2 g3
        have g0 : w7.cell? ⟨b, off + k * 4, none⟩ = some (.string q.1.name) := HC.out 0 _ rfl w7 HW7.out
        have g1 : w7.cell? ⟨b, off + k * 4 + 1, none⟩ = some (.int .i64 q.1.validity) := HC.out 1 _ rfl w7 HW7.out
        have g2 : w7.cell? ⟨b, off + k * 4 + 2, none⟩ = some (.int .i64 q.1.next) := HC.out 2 _ rfl w7 HW7.out
        have g3 : w7.cell? ⟨b, off + k * 4 + 3, none⟩ = some (.slice q.2.A q.2.n q.2.c) := HC.out 3 _ rfl w7 HW7.out
        obtain ⟨U, hU⟩ : ∃ U, q.1.msgs.map Msg.uid = U := ⟨_, rfl⟩
        have HU := Lib.hid hU
        have hUl : U.length ≤ 1048576 := by rw [← hU, List.length_map]; exact HQF.out.2.1
        clear hU HW6
        go_wp2_with fail
        refine (impl_UidsOf q.1 q.2 w7 (HQI.out.below HW7.out) HQF.out).mono ?_
        rw [HU.out]
        rintro e w8 ⟨Au, cu, rfl, hou, hb8⟩
        have HRU := Lib.hid (Rd.of_own (enc := encI) (k := 1) (fun _ => rfl) hou rfl)
        have HW8 := Lib.hid (HW7.out.trans (hb8.mono HW7.out.size))
        clear hou hb8 g0 g1 g2 g3 HW7
        go_wp2_with fail
        go_loopg [6] U.length (fun gj i wr => ∃ j : Nat, j + gj = U.length ∧ i = .int .i64 j ∧ Below w8.heap.size w8 wr)
        case atStart => exact ⟨0, by omega, rfl, Below.refl _ _⟩
        case round =>
          obtain ⟨j, hj, rfl, hV⟩ := hrel
          have HJ := Lib.hid hj
          have HV := Lib.hid hV
          have hjl : j ≤ U.length := by omega
          clear hj hV
          by_cases hjlt : j < U.length
          · have hji : (j : Int) < (U.length : Int) := by omega
            have hj0 : (0 : Int) ≤ (j : Int) := by omega
            obtain ⟨bu, offu, u, rfl, hblu, hxu, hcu⟩ := HRU.out.elem hjlt
            have HPU := Lib.hid (show placeOf q.1.msgs u = j ∧ u < q.1.next by
              rw [← HU.out, List.getElem?_map] at hxu
              cases hm : q.1.msgs[j]? with
              | none => rw [hm] at hxu; cases hxu
              | some m =>
                rw [hm] at hxu
                injection hxu with hxu
                rw [← hxu]
                exact boxOk_uid HX.out.2.2 hm)
            have HWr := Lib.hid (HW8.out.trans (HV.out.mono HW8.out.size))
            have cu0 : wr.cell? ⟨bu, offu + j, none⟩ = some (.int .i64 u) := by
              have h1 := (HV.out.cell (p := ⟨bu, offu + j * 1 + 0, none⟩) hblu).trans (hcu 0 _ rfl)
              simpa using h1
            have g0 : wr.cell? ⟨b, off + k * 4, none⟩ = some (.string q.1.name) := HC.out 0 _ rfl wr HWr.out
            have g1 : wr.cell? ⟨b, off + k * 4 + 1, none⟩ = some (.int .i64 q.1.validity) := HC.out 1 _ rfl wr HWr.out
            have g2 : wr.cell? ⟨b, off + k * 4 + 2, none⟩ = some (.int .i64 q.1.next) := HC.out 2 _ rfl wr HWr.out
            have g3 : wr.cell? ⟨b, off + k * 4 + 3, none⟩ = some (.slice q.2.A q.2.n q.2.c) := HC.out 3 _ rfl wr HWr.out
            have hun : u < q.1.next := HPU.out.2
            have hun2 : decide (q.1.next ≤ u) = false := decide_eq_false (by omega)
            clear hxu hcu hblu
            go_wp2_with fail
            have fu : ∀ z : Later wr, z.at_.cell? ⟨bu, offu + j, none⟩ = some (.int .i64 u) := fun z => z.cell cu0
            have f0 : ∀ z : Later wr, z.at_.cell? ⟨b, off + k * 4, none⟩ = some (.string q.1.name) := fun z => z.cell g0
            have f1 : ∀ z : Later wr, z.at_.cell? ⟨b, off + k * 4 + 1, none⟩ = some (.int .i64 q.1.validity) := fun z => z.cell g1
            have f2 : ∀ z : Later wr, z.at_.cell? ⟨b, off + k * 4 + 2, none⟩ = some (.int .i64 q.1.next) := fun z => z.cell g2
            have f3 : ∀ z : Later wr, z.at_.cell? ⟨b, off + k * 4 + 3, none⟩ = some (.slice q.2.A q.2.n q.2.c) := fun z => z.cell g3
            refine wp_region_calm_lit (by kernel_rfl) (by kernel_rfl) ?_
            repeat (go_big_quiet_step (first | (go_at_call 17; exact Calls.calm (calls_int (impl_PlaceOf q.1 q.2 u _ ((HQI.out.below HWr.out).below (Later.bel _)) HQF.out.2.1) HPU.out.1))))
            refine wpQuiet_nil ?_
            intro _ hw'
            obtain ⟨z, rfl⟩ := hw'
            have HVf := Lib.hid (HV.out.trans (z.bel.mono HV.out.size))
            clear fu f0 f1 f2 f3 g0 g1 g2 g3 cu0
            go_wp2
            go_roundg (U.length - (j + 1))
            case rel => exact ⟨j + 1, by omega, by go_num, HVf.out⟩
            case measure => have := HJ.out; omega
          · have hji : ¬ (j : Int) < (U.length : Int) := by omega
            have HWf := Lib.hid (HW8.out.trans (HV.out.mono HW8.out.size))
            go_wp2
            go_roundg (rs.length - (k + 1))
            case rel => exact ⟨k + 1, by omega, by go_num, HWf.out⟩
            case measure => have := HK.out; omega
    · have hki : ¬ (k : Int) < (rs.length : Int) := by omega
      go_wp2_with fail
      refine (impl_SameBoxes A A rs.length rs.length c c rs rs wr (by omega) (by omega) (HR.out.below HW.out) (HR.out.below HW.out) (fun p hp => (HI.out p hp).below HW.out) (fun p hp => (HI.out p hp).below HW.out) HF.out HF.out).mono ?_
      rw [HSB.out]
      rintro e w5 ⟨rfl, hb5⟩
      have HW5 := Lib.hid (HW.out.trans (hb5.mono HW.out.size))
      clear hb5
      go_wp2
      go_ret
      exact ⟨rfl, HB1.out.trans (HW5.out.mono HB1.out.size)⟩

end Go.Proofs.Ytnphoodoheccoaa
