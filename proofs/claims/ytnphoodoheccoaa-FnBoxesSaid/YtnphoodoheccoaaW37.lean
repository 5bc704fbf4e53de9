/-
  Walks: what each function returns, and that it leaves what lay in memory as it was.
-/
import Derived.Test.YtnphoodoheccoaaProg
import Derived.Test.YtnphoodoheccoaaPlain
import Derived.Test.YtnphoodoheccoaaBase2
import Derived.Test.YtnphoodoheccoaaOpen2
import Derived.Test.YtnphoodoheccoaaShelf
import Derived.WalkKit
import Derived.WalkSpells
import Derived.WalkLawsBesides
import Derived.Lib.Hide
import Derived.Deep.LoopGhost
import Derived.Deep.QuietTactic
import Derived.BigQuiet
import Derived.Handy
import Derived.Deep.RegionHeld3
import Derived.StillTailTactics
import Derived.OpenShut
import Derived.ChangeSame
import Derived.Laws.StructEq

import Derived.Deep.DrawnRows
import Derived.Deep.Cut
import Derived.Deep.CutBlock
import Derived.Deep.CutRange

import Derived.Test.YtnphoodoheccoaaPlainT

import Derived.Test.YtnphoodoheccoaaW1

import Derived.Test.YtnphoodoheccoaaW2

import Derived.Test.YtnphoodoheccoaaW3

import Derived.Test.YtnphoodoheccoaaW30

import Derived.Test.YtnphoodoheccoaaW36

namespace Go.Proofs.Ytnphoodoheccoaa
open Go.ChangeShapes Go.WideShapes Go.ChangeAt Go.RowKit Go.Deep
set_option linter.unusedVariables false
set_option linter.unusedSimpArgs false

set_option maxRecDepth 20000

/-- A drawn box in a list: its messages, a few, in a block of their own. -/
def BxD (M base : Nat) (W : World) (p : Box × Hd) : Prop :=
  W.ownsRow base 62 3 (.slice p.2.A p.2.n p.2.c) p.2.n (p.1.msgs.flatMap encMsg) ∧ p.1.msgs.length = p.2.n ∧ p.2.n ≤ M ∧ p.1.name.size ≤ 100 ∧ ∀ y ∈ p.1.msgs, y.text.size ≤ 100
theorem BxD.below {M base : Nat} {W W' : World} {p : Box × Hd} (h : BxD M base W p) (hb : Below W.heap.size W W') : BxD M base W' p := ⟨own_below h.1 hb, h.2⟩
theorem BxD.gb {M base g : Nat} {W W' : World} {p : Box × Hd} (h : BxD M base W p) (hg : W.grownBy W' (some g)) (hlt : g < base) : BxD M base W' p := ⟨own_gb h.1 hg hlt, h.2⟩
theorem BxD.mono {M base base' : Nat} {W : World} {p : Box × Hd} (h : BxD M base W p) (hb : base' ≤ base) : BxD M base' W p := ⟨own_mono h.1 hb, h.2⟩
theorem BxD.most {M M' base : Nat} {W : World} {p : Box × Hd} (h : BxD M base W p) (hM : M ≤ M') : BxD M' base W p := ⟨h.1, h.2.1, Nat.le_trans h.2.2.1 hM, h.2.2.2⟩
theorem BxD.kinds {M base : Nat} {W W' : World} {p : Box × Hd} {b2 k2 n2 : Nat} {e2 : TypeId} {v2 : Value} {xs2 : List Value} (h : BxD M base W p) (h2 : W.ownsRow b2 e2 k2 v2 n2 xs2) (hne : 62 ≠ e2) (hg : W.grownBy W' v2.ownBlock) : BxD M base W' p :=
  ⟨own_kind_keptB h.1 h2 hne hg, h.2⟩
theorem BxD.is {M base : Nat} {W : World} {p : Box × Hd} (hM : M ≤ 1000) (h : BxD M base W p) : BoxIs W p.1 p.2 :=
  ⟨by have := h.2.2.2.1; unfold maxLen; omega, Rd.of_own (enc := encMsg) (k := 3) (fun _ => rfl) h.1 h.2.1, by have := h.2.2.1; unfold maxLen; omega, fun y hy => by have := h.2.2.2.2 y hy; unfold Msg.Big maxLen; omega⟩
theorem BxD.fit {M base : Nat} {W : World} {p : Box × Hd} (hM : M ≤ 1000) (h : BxD M base W p) : p.1.Fit :=
  ⟨by have := h.2.2.2.1; omega, by have := h.2.1; have := h.2.2.1; omega, fun y hy => by have := h.2.2.2.2 y hy; unfold Msg.Fit; omega⟩
def msgOwn (p : Box × Hd) : Option Nat := (Value.slice p.2.A p.2.n p.2.c).ownBlock
def NAb (rs : List (Box × Hd)) : Prop := rs.Pairwise (fun p q => ∀ i, msgOwn p = some i → msgOwn q ≠ some i)
theorem NAb.snoc {rs : List (Box × Hd)} {y : Box × Hd} {B : Nat} (h : NAb rs) (h1 : ∀ q ∈ rs, ∀ i, msgOwn q = some i → i < B) (h2 : ∀ i, msgOwn y = some i → B ≤ i) : NAb (rs ++ [y]) := by
  refine List.pairwise_append.2 ⟨h, List.pairwise_singleton _ _, ?_⟩
  intro p hp q hq i hi e
  rw [List.mem_singleton.1 hq] at e
  have a := h1 p hp i hi
  have b := h2 i e
  omega
/-- What holds in the worlds between: the cursor, the boxes, their messages. -/
structure Br (M : Nat) (w0 w : World) (g : Nat) (v : Value) (rs : List (Box × Hd)) (W : World) : Prop where
  cur : Cur w0 g W
  gr : w.grownBy W (some g)
  s : W.ownsRow w.heap.size 40 4 v rs.length (rs.flatMap encBox)
  nm : ∀ p ∈ rs, BxD M w.heap.size W p
  na : NAb rs
section
variable {M : Nat} {w0 w W W' : World} {g : Nat} {v : Value} {rs : List (Box × Hd)} (h : Br M w0 w g v rs W)
include h
theorem Br.below (hb : Below W.heap.size W W') : Br M w0 w g v rs W' :=
  ⟨h.cur.below hb, gb_trans h.gr (gb_below (some g) hb), own_below h.s hb, fun p hp => (h.nm p hp).below hb, h.na⟩
theorem Br.gb (hc : Cur w0 g W') (hg : W.grownBy W' (some g)) (h1 : g < w.heap.size) : Br M w0 w g v rs W' :=
  ⟨hc, gb_trans h.gr hg, own_gb h.s hg h1, fun p hp => (h.nm p hp).gb hg h1, h.na⟩
theorem Br.most {M' : Nat} (hM : M ≤ M') : Br M' w0 w g v rs W := ⟨h.cur, h.gr, h.s, fun p hp => (h.nm p hp).most hM, h.na⟩
/-- One more box appended. -/
theorem Br.push {v' : Value} {p : Box × Hd} (h1 : g < w.heap.size) (hp : BxD M w.heap.size W p) (hna : NAb (rs ++ [p])) (ho : W'.ownsRow w.heap.size 40 4 v' (rs ++ [p]).length ((rs ++ [p]).flatMap encBox)) (hg : W.grownBy W' v.ownBlock) : Br M w0 w g v' (rs ++ [p]) W' := by
  have hz := h.gr.size
  have hb : Below w.heap.size W W' := gb_to_below hg hz (fun k hk => (h.s.lt k hk).1)
  refine ⟨h.cur.belowB hb h1, gb_belowB h.gr hb (Nat.le_refl _), ho, fun q hq => ?_, hna⟩
  rcases List.mem_append.1 hq with hq | hq
  · exact (h.nm q hq).kinds h.s (by decide) hg
  · rw [List.mem_singleton.1 hq]
    exact hp.kinds h.s (by decide) hg
end
theorem br_box {M : Nat} (hM : 5 ≤ M) (name : ByteArray) (hn : name.size ≤ 100) (vd : Int) {w0 w : World} {g : Nat} {v : Value} {rs : List (Box × Hd)} (h1 : g < w.heap.size) (W : World) (h : Br M w0 w g v rs W) :
    Calls Try.prog 60 #[.pointer (some ⟨g, 0, none⟩), .string name, .int .i64 vd] W fun e W' => (∃ p : Box × Hd, e = .returned (.agg #[.string p.1.name, .int .i64 p.1.validity, .int .i64 p.1.next, .slice p.2.A p.2.n p.2.c]) ∧ BxD M w.heap.size W' p ∧ NAb (rs ++ [p])) ∧ Br M w0 w g v rs W' ∧ W.grownBy W' (some g) :=
  (spec_l9Box name vd w0 g W h.cur).mono (by
    rintro e w' ⟨⟨nx, A, c, ms, rfl, hl, hts, ho⟩, hc, hg⟩
    have hz := h.gr.size
    refine ⟨⟨(⟨name, vd, nx, ms⟩, ⟨A, ms.length, c⟩), rfl, ⟨own_mono ho hz, rfl, by show ms.length ≤ M; omega, hn, hts⟩, ?_⟩, h.gb hc hg h1, hg⟩
    exact h.na.snoc (y := (⟨name, vd, nx, ms⟩, ⟨A, ms.length, c⟩)) (B := W.heap.size) (fun q hq i hi => ((h.nm q hq).1.lt i hi).2) (fun i hi => (ho.lt i hi).1))
def boxNames : List ByteArray := [⟨#[97]⟩, ⟨#[97, 47, 98]⟩, ⟨#[97, 98]⟩, ⟨#[105, 110, 98, 111, 120]⟩]
set_option maxHeartbeats 6400000 in
set_option maxRecDepth 20000 in
theorem spec_l9Right (w0 : World) (g : Nat) (w : World) (hc : Cur w0 g w) :
    Calls Try.prog 57 #[.pointer (some ⟨g, 0, none⟩)] w fun e w' => ∃ (A : Option Addr) (c : Nat) (rs : List (Box × Hd)), e = .returned (.slice A rs.length c) ∧ rs.length ≤ 4 ∧ Br 5 w0 w g (.slice A rs.length c) rs w' := by
  have hgl := hc.lt
  have hn0 : Br 5 w0 w g (.slice (some ⟨w.heap.size, 0, none⟩) 0 0) [] ((w.alloc (.cells #[] 40)).alloc (.cells #[.string ⟨#[97]⟩, .string ⟨#[97, 47, 98]⟩, .string ⟨#[97, 98]⟩, .string ⟨#[105, 110, 98, 111, 120]⟩] 9)) := by
    have hb1 : Below w.heap.size w (w.alloc (.cells #[] 40)) := (Below.refl _ _).alloc (Nat.le_refl _) _
    have hb2 : Below (w.alloc (.cells #[] 40)).heap.size (w.alloc (.cells #[] 40)) ((w.alloc (.cells #[] 40)).alloc (.cells #[.string ⟨#[97]⟩, .string ⟨#[97, 47, 98]⟩, .string ⟨#[97, 98]⟩, .string ⟨#[105, 110, 98, 111, 120]⟩] 9)) := (Below.refl _ _).alloc (Nat.le_refl _) _
    exact ⟨(hc.below hb1).below hb2, gb_trans (gb_below (some g) hb1) (gb_below _ hb2), own_below (World.ownsRow_made (base := w.heap.size) (e := 40) (size := 4) w #[] 0 (Nat.le_refl _) (by unfold maxLen; omega) rfl) hb2, by simp, List.Pairwise.nil⟩
  obtain ⟨Y, hY⟩ : ∃ Y, (w.alloc (.cells #[] 40)).heap.size = Y := ⟨_, rfl⟩
  have hm0 : ((w.alloc (.cells #[] 40)).alloc (.cells #[.string ⟨#[97]⟩, .string ⟨#[97, 47, 98]⟩, .string ⟨#[97, 98]⟩, .string ⟨#[105, 110, 98, 111, 120]⟩] 9)).ownsRow w.heap.size 9 1 (.slice (some ⟨Y, 0, none⟩) 4 4) 4 (boxNames.flatMap fun s => [Value.string s]) := by
    have := World.ownsRow_lit (base := w.heap.size) (e := 9) (size := 1) (w.alloc (.cells #[] 40)) #[.string ⟨#[97]⟩, .string ⟨#[97, 47, 98]⟩, .string ⟨#[97, 98]⟩, .string ⟨#[105, 110, 98, 111, 120]⟩] 4 (by simp) (by unfold maxLen; omega) rfl
    rw [hY] at this
    exact this
  have HN0 := Lib.hid hn0
  have HM0 := Lib.hid hm0
  have hgw := hgl.2
  clear hc hn0 hm0
  go_enter Try.func57, Try.ntmps57
  go_wp2_with fail
  clear hY
  generalize (w.alloc (.cells #[] 40)).alloc (.cells #[.string ⟨#[97]⟩, .string ⟨#[97, 47, 98]⟩, .string ⟨#[97, 98]⟩, .string ⟨#[105, 110, 98, 111, 120]⟩] 9) = W1 at *
  go_loopg [3, 5, 6] 4 (fun gk o n i wr => ∃ (k nn : Nat) (A : Option Addr) (c : Nat) (rs : List (Box × Hd)), k + gk = 4 ∧ i = .int .i64 k ∧ n = .int .i64 nn ∧ nn ≤ k ∧ o = .slice A rs.length c ∧ rs.length ≤ k ∧ Br 5 w0 w g (.slice A rs.length c) rs wr ∧ wr.ownsRow w.heap.size 9 1 (.slice (some ⟨Y, 0, none⟩) 4 4) 4 (boxNames.flatMap fun s => [Value.string s]))
  case atStart => exact ⟨0, 0, _, 0, [], rfl, rfl, rfl, Nat.le_refl _, rfl, Nat.le_refl _, HN0.out, HM0.out⟩
  case round =>
    obtain ⟨k, nn, A, c, rs, hk, rfl, rfl, hnn, rfl, hl, hbr, hmr⟩ := hrel
    clear HN0 HM0
    have HK := Lib.hid hk
    have hk4 : k ≤ 4 := by omega
    have HBR := Lib.hid hbr
    have HMR := Lib.hid hmr
    clear hk hbr hmr
    by_cases hlt : k < 4
    · have hlti : (k : Int) < 4 := by omega
      go_wp2_with fail
      refine (spec_l1Once 3 w0 g wr HBR.out.cur (by omega) (by omega)).mono ?_
      rintro e w2 ⟨⟨b, rfl⟩, hc2, hg2⟩
      have HB2 := Lib.hid (HBR.out.gb hc2 hg2 hgw)
      have HM2 := Lib.hid (own_gb HMR.out hg2 hgw)
      clear hc2 hg2 HBR HMR
      cases b
      · obtain ⟨z, hz⟩ : ∃ z, boxNames[k]? = some z := ⟨_, List.getElem?_eq_getElem (show k < boxNames.length from hlt)⟩
        have hz100 : z.size ≤ 100 := by
          have hm := List.mem_of_getElem? hz
          simp only [boxNames, List.mem_cons, List.not_mem_nil, or_false] at hm
          rcases hm with rfl | rfl | rfl | rfl <;> decide
        have g0 : w2.cell? ⟨Y, k, none⟩ = some (.string z) := by
          have h0 := flat_get (enc := fun s => [Value.string s]) (k := 1) (fun _ => rfl) boxNames k 0 z _ hz rfl
          have h1 := (HM2.out.cellAt (k * 1) (by omega)).trans h0
          simpa using h1
        clear hz
        go_wp2_with fail
        obtain ⟨vd, hvd⟩ : ∃ vd : Int, 1 + ((nn : Int) + 1) * 3 % 7 = vd := ⟨_, rfl⟩
        rw [hvd]
        clear hvd
        refine (br_box (Nat.le_refl 5) z hz100 vd hgw w2 HB2.out).mono ?_
        rintro e w3 ⟨⟨p, rfl, hp3, hna3⟩, hb3, hg3⟩
        have hal : Below w3.heap.size w3 (w3.alloc (.cells #[.string p.1.name, .int .i64 p.1.validity, .int .i64 p.1.next, .slice p.2.A p.2.n p.2.c] 40)) := (Below.refl _ _).alloc (Nat.le_refl _) _
        have HB3 := Lib.hid (hb3.below hal)
        have HP3 := Lib.hid (hp3.below hal)
        have HNA := Lib.hid hna3
        have HM3 := Lib.hid (own_below (own_gb HM2.out hg3 hgw) hal)
        have hrc := Lib.hid (Rd.new (enc := encBox) (k := 4) (fun _ => rfl) w3 #[.string p.1.name, .int .i64 p.1.validity, .int .i64 p.1.next, .slice p.2.A p.2.n p.2.c] 40 (n := 1) [p] (by simp) rfl)
        have hz3 : w.heap.size ≤ (w3.alloc (.cells #[.string p.1.name, .int .i64 p.1.validity, .int .i64 p.1.next, .slice p.2.A p.2.n p.2.c] 40)).heap.size := HB3.out.gr.size
        have HZ3 := Lib.hid hz3
        clear hal hb3 hp3 hna3 hg3 HB2 HM2 g0 hz3
        go_wp2_with (at_builtin; refine wpList_appN (enc := encBox) (k := 4) (fun _ => rfl) (fun _ u hu => by simp at hu; rcases hu with rfl | rfl | rfl | rfl <;> rfl) (by omega) rfl _ _ 34 40 rfl (.agg #[.string ByteArray.empty, .int .i64 0, .int .i64 0, .slice none 0 0]) 56 Try.underlying34 (by kernel_rfl) rfl w.heap.size _ rs rfl HB3.out.s _ _ _ _ rfl hrc.out (by omega) (by omega) HZ3.out ?_; intro vn wn hownd hgd)
        obtain ⟨A4, c4, rfl⟩ := own_form hownd
        have HBn := Lib.hid (HB3.out.push hgw HP3.out HNA.out hownd hgd)
        have HMn := Lib.hid (own_kind_keptB HM3.out HB3.out.s (by decide) hgd)
        rw [len_snocB] at HBn
        clear hownd hgd HB3 HP3 HNA HM3 hrc HZ3
        go_roundg (gk - 1)
        case rel => exact ⟨k + 1, nn + 1, A4, c4, rs ++ [p], by have := HK.out; omega, by go_num, by go_num, by omega, by rw [len_snocB], by rw [len_snocB]; omega, by rw [len_snocB]; exact HBn.out, HMn.out⟩
        case measure => have := HK.out; omega
      · go_wp2
        go_roundg (gk - 1)
        case rel => exact ⟨k + 1, nn, A, c, rs, by have := HK.out; omega, by go_num, rfl, by omega, rfl, by omega, HB2.out, HM2.out⟩
        case measure => have := HK.out; omega
    · have hlti : ¬ (k : Int) < 4 := by omega
      go_wp2
      go_ret
      exact ⟨A, c, rs, rfl, by omega, HBR.out⟩

end Go.Proofs.Ytnphoodoheccoaa
