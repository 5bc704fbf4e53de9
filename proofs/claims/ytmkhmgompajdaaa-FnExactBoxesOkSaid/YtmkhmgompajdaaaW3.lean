/-
  Walks: what each function returns, and that it leaves what lay in memory as it was.
-/
import Derived.Test.YtmkhmgompajdaaaProg
import Derived.Test.YtmkhmgompajdaaaPlain
import Derived.Test.YtmkhmgompajdaaaBase2
import Derived.Test.YtmkhmgompajdaaaOpen2
import Derived.Test.YtmkhmgompajdaaaShelf
import Derived.WalkKit
import Derived.WalkSpells
import Derived.WalkLawsBesides
import Derived.Lib.Hide
import Derived.Deep.LoopGhost
import Derived.Deep.QuietTactic
import Derived.BigQuiet
import Derived.Handy
import Derived.Deep.RegionHeld3
import Derived.StillTailTactics
import Derived.OpenShut
import Derived.ChangeSame
import Derived.Laws.StructEq

import Derived.Test.YtmkhmgompajdaaaPlainT

import Derived.Test.YtmkhmgompajdaaaW1

import Derived.Test.YtmkhmgompajdaaaW2

namespace Go.Proofs.Ytmkhmgompajdaaa
open Go.ChangeShapes Go.WideShapes Go.ChangeAt Go.RowKit Go.Deep
set_option linter.unusedVariables false
set_option linter.unusedSimpArgs false

/-- A mailbox that lies in memory. -/
def BoxIs (w : World) (x : Box) (h : Hd) : Prop := x.name.size ≤ maxLen ∧ Rd encMsg 3 w h.A h.n x.msgs ∧ h.n ≤ maxLen ∧ ∀ y ∈ x.msgs, y.Big
theorem BoxIs.below {w w' : World} {x : Box} {h : Hd} (i : BoxIs w x h) (hb : Below w.heap.size w w') : BoxIs w' x h := ⟨i.1, i.2.1.below hb, i.2.2⟩
/-- A mailbox of the call's own. -/
def BoxOwn (base : Nat) (w : World) (x : Box) (h : Hd) : Prop := x.name.size ≤ maxLen ∧ w.ownsRow base 81 3 (.slice h.A h.n h.c) h.n (x.msgs.flatMap encMsg) ∧ x.msgs.length = h.n ∧ h.n ≤ 1048576 ∧ ∀ y ∈ x.msgs, y.Big
theorem BoxOwn.below {base : Nat} {w w' : World} {x : Box} {h : Hd} (i : BoxOwn base w x h) (hb : Below w.heap.size w w') : BoxOwn base w' x h := ⟨i.1, own_below i.2.1 hb, i.2.2⟩
theorem BoxOwn.map {base : Nat} {w w' : World} {x : Box} {h : Hd} (i : BoxOwn base w x h) (f : w.ownsRow base 81 3 (.slice h.A h.n h.c) h.n (x.msgs.flatMap encMsg) → w'.ownsRow base 81 3 (.slice h.A h.n h.c) h.n (x.msgs.flatMap encMsg)) : BoxOwn base w' x h := ⟨i.1, f i.2.1, i.2.2⟩
theorem BoxOwn.mono {base base' : Nat} {w : World} {x : Box} {h : Hd} (i : BoxOwn base w x h) (hb : base' ≤ base) : BoxOwn base' w x h := ⟨i.1, own_mono i.2.1 hb, i.2.2⟩
theorem BoxOwn.is {base : Nat} {w : World} {x : Box} {h : Hd} (i : BoxOwn base w x h) : BoxIs w x h := ⟨i.1, Rd.of_own (enc := encMsg) (k := 3) (fun _ => rfl) i.2.1 i.2.2.1, by have := i.2.2.2.1; unfold maxLen; omega, i.2.2.2.2⟩
set_option maxHeartbeats 800000 in
theorem laws_szBox (x : Box) (h : Hd) (left : Int) (w : World) (h0 : 0 ≤ left) (h1 : left ≤ 1048576) (hx : BoxIs w x h) :
    Calls Try.prog 15 #[.agg #[.string x.name, .int .i64 x.validity, .int .i64 x.next, .slice h.A h.n h.c], .int .i64 left] w fun e w' => (∃ v : Int, e = .returned (.int .i64 v) ∧ -1 ≤ v ∧ v ≤ left ∧ (0 ≤ v → x.Fit)) ∧ Below w.heap.size w w' := by
  obtain ⟨hs, hr, hn, hb⟩ := hx
  unfold maxLen at hs hn
  have HR := Lib.hid hr
  have HB := Lib.hid hb
  have HN := Lib.hid hr.1
  clear hr hb
  by_cases c : left - x.name.size < 0
  · go_enter Try.func15, Try.ntmps15
    go_wp2
    go_ret
    exact ⟨⟨_, rfl, by omega, by omega, by omega⟩, by go_grown⟩
  · go_enter Try.func15, Try.ntmps15
    go_wp2_with fail
    refine (laws_szMsgS _ _ _ x.msgs _ _ (by omega) (by omega) (by omega) (HR.out.below (by go_grown)) HB.out).mono ?_
    rintro e w1 ⟨⟨v1, rfl, hm1, hle, hfit⟩, hb1⟩
    have HF := Lib.hid hfit
    have HW := Lib.hid (Below.trans (by go_grown : Below w.heap.size w _) (hb1.mono (by simp)))
    clear hfit hb1
    by_cases hneg : v1 < 0
    · go_wp2
      go_ret
      exact ⟨⟨-1, rfl, by omega, by omega, by omega⟩, HW.out⟩
    · go_wp2
      go_ret
      exact ⟨⟨v1, rfl, by omega, by omega, fun hv => ⟨by omega, by rw [HN.out]; exact (HF.out hv).1, (HF.out hv).2⟩⟩, HW.out⟩
set_option maxHeartbeats 800000 in
theorem laws_toBox (x : Box) (h : Hd) (w : World) (hx : BoxIs w x h) (hf : x.Fit) :
    Calls Try.prog 17 #[.agg #[.string x.name, .int .i64 x.validity, .int .i64 x.next, .slice h.A h.n h.c]] w fun e w' => (∃ h' : Hd, e = .returned (.agg #[.string x.name, .int .i64 x.validity, .int .i64 x.next, .slice h'.A h'.n h'.c]) ∧ BoxOwn w.heap.size w' x h') ∧ Below w.heap.size w w' := by
  obtain ⟨hs, hr, hn, hb⟩ := hx
  have HR := Lib.hid hr
  have HB := Lib.hid hb
  have HN := Lib.hid hr.1
  have HF := Lib.hid hf
  have hlen : h.n ≤ 1048576 := by rw [← hr.1]; exact hf.2.1
  have HS := Lib.hid hs
  clear hr hb hf hs
  go_enter Try.func17, Try.ntmps17
  go_wp2_with fail
  refine (laws_toMsgS _ _ _ x.msgs _ hlen (HR.out.below (by go_grown))).mono ?_
  rintro e w1 ⟨A1, c1, rfl, ho, hb1⟩
  have p0 : w1.cell? ⟨w.heap.size + 1 + 1, 0, none⟩ = some (.string x.name) := (hb1.cell (p := ⟨w.heap.size + 1 + 1, 0, none⟩) (by simp)).trans (by go_simp)
  have p1 : w1.cell? ⟨w.heap.size + 1 + 1, 1, none⟩ = some (.int .i64 x.validity) := (hb1.cell (p := ⟨w.heap.size + 1 + 1, 1, none⟩) (by simp)).trans (by go_simp)
  have p2 : w1.cell? ⟨w.heap.size + 1 + 1, 2, none⟩ = some (.int .i64 x.next) := (hb1.cell (p := ⟨w.heap.size + 1 + 1, 2, none⟩) (by simp)).trans (by go_simp)
  have p3 : w1.cell? ⟨w.heap.size + 1 + 1, 3, none⟩ = some (.slice none 0 0) := (hb1.cell (p := ⟨w.heap.size + 1 + 1, 3, none⟩) (by simp)).trans (by go_simp)
  have q0 : w1.cell? ⟨w.heap.size + 1, 0, none⟩ = some (.string ⟨#[]⟩) := (hb1.cell (p := ⟨w.heap.size + 1, 0, none⟩) (by simp)).trans (by go_simp)
  have q1 : w1.cell? ⟨w.heap.size + 1, 1, none⟩ = some (.int .i64 0) := (hb1.cell (p := ⟨w.heap.size + 1, 1, none⟩) (by simp)).trans (by go_simp)
  have q2 : w1.cell? ⟨w.heap.size + 1, 2, none⟩ = some (.int .i64 0) := (hb1.cell (p := ⟨w.heap.size + 1, 2, none⟩) (by simp)).trans (by go_simp)
  have q3 : w1.cell? ⟨w.heap.size + 1, 3, none⟩ = some (.slice none 0 0) := (hb1.cell (p := ⟨w.heap.size + 1, 3, none⟩) (by simp)).trans (by go_simp)
  have f0 : ∀ i, w1.frozen? ⟨w.heap.size + 1 + 1, i, none⟩ = false := fun i => (hb1.frozen (p := ⟨w.heap.size + 1 + 1, i, none⟩) (by simp)).trans (by go_simp)
  have f1 : ∀ i, w1.frozen? ⟨w.heap.size + 1, i, none⟩ = false := fun i => (hb1.frozen (p := ⟨w.heap.size + 1, i, none⟩) (by simp)).trans (by go_simp)
  have HW := Lib.hid (Below.trans (by go_grown : Below w.heap.size w _) (hb1.mono (by simp; omega)))
  have HO := Lib.hid (own_mono ho (base' := w.heap.size + 1 + 1 + 1) (by simp))
  clear hb1 ho
  go_wp2
  try simp only [Exit.inBlock, Exit.then]
  refine bodyPost_ret (by simp [results, Try.results17, go_sem, q0, q1, q2, q3]; try rfl) rfl ?_
  refine ⟨⟨⟨A1, x.msgs.length, c1⟩, rfl, HS.out, ?_, rfl, HF.out.2.1, HB.out⟩, ?_⟩
  · refine own_mono (base := w.heap.size + 1 + 1 + 1) ?_ (by omega)
    repeat (with_reducible refine own_setCell ?_ ?_ _)
    · exact HO.out
    all_goals (simp only []; omega)
  · repeat (with_reducible refine Below.setCell ?_ ?_ _)
    · exact HW.out
    all_goals (simp only []; omega)
set_option maxHeartbeats 800000 in
theorem laws_eqBox (x : Box) (h1 h2 : Hd) (w : World) (i1 : BoxIs w x h1) (i2 : BoxIs w x h2) (hf : x.Fit) :
    Calls Try.prog 19 #[.agg #[.string x.name, .int .i64 x.validity, .int .i64 x.next, .slice h1.A h1.n h1.c], .agg #[.string x.name, .int .i64 x.validity, .int .i64 x.next, .slice h2.A h2.n h2.c]] w fun e w' => e = .returned (.bool true) ∧ Below w.heap.size w w' := by
  obtain ⟨A1, n1, c1⟩ := h1
  obtain ⟨A2, n2, c2⟩ := h2
  have hr1 := i1.2.1
  have hr2 := i2.2.1
  replace hf := hf.2.1
  simp only [] at hr1 hr2
  have e1 := hr1.1
  have e2 := hr2.1
  subst e1
  subst e2
  have H1 := Lib.hid hr1
  have H2 := Lib.hid hr2
  clear i1 i2 hr1 hr2
  go_enter Try.func19, Try.ntmps19
  go_wp2_with fail
  refine (laws_eqMsgS _ _ _ _ _ x.msgs _ (by omega) (H1.out.below (by go_grown)) (H2.out.below (by go_grown))).mono ?_
  rintro e w1 ⟨rfl, hb1⟩
  have HW := Lib.hid (Below.trans (by go_grown : Below w.heap.size w _) (hb1.mono (by simp; omega)))
  clear hb1
  go_wp2
  go_ret
  exact ⟨rfl, HW.out⟩
set_option maxRecDepth 20000 in
theorem dec_Box {H : Type} {enc0 : TypeId × Value → H} {w : World} {base : Nat} {spare : Nat → Bool} {held : Bool} (n : Nat) (cs : List Value) (x : DataW H × List MemPlace)
    (h : DataW.trod enc0 Try.prog w base spare held n 24 cs = some x) : ∃ y : Box × Hd, cs = encBox y ∧ BoxIs w y.1 y.2 := by
  obtain ⟨xs, m, _, _, hl, hlen, hf⟩ := DataW.trod_struct (P := Try.prog) (t := 24) Try.underlying24 h
  have hl2 : cs.length = 4 := hl
  have hx2 : xs.length = 4 := hlen
  match cs, hl2, xs, hx2 with
  | [c0, c1, c2, c3], _, [y0, y1, y2, y3], _ =>
    have e0 : DataW.trod enc0 Try.prog w base spare held m 9 [c0] = some y0 := hf 0 _ rfl
    obtain ⟨a0, h0, _, b0⟩ := DataW.trod_string Try.underlying9 e0
    obtain rfl := List.singleton_inj.1 h0
    have e1 : DataW.trod enc0 Try.prog w base spare held m 3 [c1] = some y1 := hf 1 _ rfl
    obtain ⟨a1, h1, _, b1⟩ := DataW.trod_int Try.underlying3 e1
    obtain rfl := List.singleton_inj.1 h1
    have e2 : DataW.trod enc0 Try.prog w base spare held m 3 [c2] = some y2 := hf 2 _ rfl
    obtain ⟨a2, h2, _, b2⟩ := DataW.trod_int Try.underlying3 e2
    obtain rfl := List.singleton_inj.1 h2
    have e3 : DataW.trod enc0 Try.prog w base spare held m 22 [c3] = some y3 := hf 3 _ rfl
    obtain ⟨A, n, c, zs, h3, hr, hn, hc, hz⟩ := trod_rd encMsg Msg.Big 3 Try.underlying22 e3 (by kernel_rfl) (by omega) (fun _ => rfl) (fun n cs x hx => dec_Msg n cs x hx)
    obtain rfl := List.singleton_inj.1 h3
    exact ⟨(⟨a0, a1, a2, zs⟩, ⟨A, n, c⟩), rfl, b0, hr, Nat.le_trans hn hc, hz⟩
set_option maxRecDepth 20000 in
/-- A mailbox that came in. -/
theorem open_Box {H : Type} {enc0 : TypeId × Value → H} {w : World} {base b0 : Nat} {r : Reach} {spare : Nat → Bool} {held : Bool} {v : Value} {d : DataW H} {p : List MemPlace}
    (o : Value.okWide Try.prog w r b0 24 v) (h : DataW.Trod enc0 Try.prog w base spare held 24 v d p) :
    ∃ (x : Box) (h : Hd), v = .agg #[.string x.name, .int .i64 x.validity, .int .i64 x.next, .slice h.A h.n h.c] ∧ BoxIs w x h := by
  obtain ⟨cs, rfl, _⟩ := okWide_struct Try.underlying24 o
  obtain ⟨n, hn⟩ := h
  obtain ⟨y, hy, hi⟩ := dec_Box n _ _ hn
  have hcs : cs = (encBox y).toArray := by
    have : cs.toList = encBox y := by rw [← hy]; simp [Value.cells]
    rw [← this]
  exact ⟨y.1, y.2, by rw [hcs], hi⟩

end Go.Proofs.Ytmkhmgompajdaaa
