/-
  Walks: what each function returns, and that it leaves what lay in memory as it was.
-/
import Derived.Test.YtnphoodoheccoaaProg
import Derived.Test.YtnphoodoheccoaaPlain
import Derived.Test.YtnphoodoheccoaaBase2
import Derived.Test.YtnphoodoheccoaaOpen2
import Derived.Test.YtnphoodoheccoaaShelf
import Derived.WalkKit
import Derived.WalkSpells
import Derived.WalkLawsBesides
import Derived.Lib.Hide
import Derived.Deep.LoopGhost
import Derived.Deep.QuietTactic
import Derived.BigQuiet
import Derived.Handy
import Derived.Deep.RegionHeld3
import Derived.StillTailTactics
import Derived.OpenShut
import Derived.ChangeSame
import Derived.Laws.StructEq

import Derived.Test.YtnphoodoheccoaaPlainT

import Derived.Test.YtnphoodoheccoaaW1

import Derived.Test.YtnphoodoheccoaaW2

import Derived.Test.YtnphoodoheccoaaW3

import Derived.Test.YtnphoodoheccoaaW5

namespace Go.Proofs.Ytnphoodoheccoaa
open Go.ChangeShapes Go.WideShapes Go.ChangeAt Go.RowKit Go.Deep
set_option linter.unusedVariables false
set_option linter.unusedSimpArgs false


/-! ### marks that are numbers -/
def imarks (k0 : Int) (n : Nat) : List Int := (List.range n).map fun j => k0 + (j : Nat)
theorem imarks_len (k0 : Int) (n : Nat) : (imarks k0 n).length = n := by simp [imarks]
theorem imarks_at (k0 : Int) {n j : Nat} (h : j < n) : (imarks k0 n)[j]? = some (k0 + (j : Nat)) := by simp [imarks, h]
theorem imarks_succ (k0 : Int) (n : Nat) : imarks k0 (n + 1) = imarks k0 n ++ [k0 + (n : Nat)] := by simp [imarks, List.range_succ]
theorem imarks_set (k0 : Int) (j : Nat) (xs : List Int) (h : j < xs.length) : (imarks k0 j ++ xs.drop j).set j (k0 + (j : Nat)) = imarks k0 (j + 1) ++ xs.drop (j + 1) := by
  rw [List.set_append_right _ _ (by rw [imarks_len]; exact Nat.le_refl _), imarks_len, Nat.sub_self, List.drop_eq_getElem_cons h, imarks_succ, List.set_cons_zero, List.append_assoc]
  rfl
theorem flat_setI (l : List Int) (k : Nat) (c : Int) : (l.flatMap fun n => [Value.int .i64 n]).set k (.int .i64 c) = (l.set k c).flatMap fun n => [Value.int .i64 n] := by
  induction l generalizing k with
  | nil => rfl
  | cons x r ih =>
    cases k with
    | zero => rfl
    | succ k =>
      rw [List.flatMap_cons, List.set_cons_succ, List.flatMap_cons, ← ih k]
      rfl



set_option maxHeartbeats 1600000 in
set_option maxRecDepth 20000 in
theorem impl_UidsOf (x : Box) (h : Hd) (w : World) (hx : BoxIs w x h) (hf : x.Fit) :
    Calls Try.prog 16 #[.agg #[.string x.name, .int .i64 x.validity, .int .i64 x.next, .slice h.A h.n h.c]] w (RetOwn encI 1 3 w (x.msgs.map Msg.uid)) := by
  obtain ⟨A, n, c⟩ := h
  have hr := hx.2.1
  simp only [] at hr
  have HL := Lib.hid hr.1
  have hn : n ≤ 1048576 := by rw [← hr.1]; exact hf.2.1
  have HR := Lib.hid hr
  clear hx hr hf
  go_enter Try.func16, Try.ntmps16
  go_wp2_with fail
  have hW : Below w.heap.size w (w.alloc (.cells #[.string x.name, .int .i64 x.validity, .int .i64 x.next, .slice A n c] 40)) := by go_grown
  have hP : Holds (w.alloc (.cells #[.string x.name, .int .i64 x.validity, .int .i64 x.next, .slice A n c] 40)) w.heap.size [.string x.name, .int .i64 x.validity, .int .i64 x.next, .slice A n c] := Holds.new w _ _
  have hs1 : (w.alloc (.cells #[.string x.name, .int .i64 x.validity, .int .i64 x.next, .slice A n c] 40)).heap.size = w.heap.size + 1 := by simp
  generalize w.alloc (.cells #[.string x.name, .int .i64 x.validity, .int .i64 x.next, .slice A n c] 40) = w1 at *
  have hnew := World.ownsRow_made (base := w1.heap.size) (e := 3) (size := 1) w1 #[] 0 (Nat.le_refl _) (by unfold maxLen; omega) rfl
  have HW := Lib.hid hW
  have HP := Lib.hid hP
  have H := Lib.hid (HR.out.below hW)
  have p3w := (hP.below ((Below.refl w1.heap.size w1).alloc (Nat.le_refl _) (.cells #[] 3))).2 3 (.slice A n c) rfl
  clear hW HR hP
  go_wp2_with fail
  go_loopw [3, 10] (fun o i wr => ∃ (k : Nat) (l : List Int), k ≤ n ∧ i = .int .i64 k ∧ l = (x.msgs.take k).map Msg.uid ∧ l.length = k ∧ wr.ownsRow w1.heap.size 3 1 o l.length (l.flatMap encI) ∧ Below w1.heap.size w1 wr) (fun _ i _ => n - (intOf i).toNat)
  case atStart => exact ⟨0, [], by omega, rfl, rfl, rfl, by rw [← hs1]; exact hnew, (Below.refl _ _).alloc (Nat.le_refl _) _⟩
  case round =>
    obtain ⟨k, l, hk, rfl, hl, hll, hown, hb⟩ := hrel
    have p3 := (HP.out.below hb).2 3 (.slice A n c) rfl
    clear hnew p3w
    by_cases hlt : k < n
    · obtain ⟨b, off, m, rfl, _, hm, hc⟩ := (H.out.below hb).elem hlt
      have g0 : wr.cell? ⟨b, off + k * 3, none⟩ = some (.int .i64 m.uid) := by simpa using hc 0 _ rfl
      have g1 : wr.cell? ⟨b, off + k * 3 + 1, none⟩ = some (.int .i64 m.flags) := hc 1 _ rfl
      have g2 : wr.cell? ⟨b, off + k * 3 + 2, none⟩ = some (.string m.text) := hc 2 _ rfl
      have Hl := Lib.hid (show l ++ [m.uid] = (x.msgs.take (k + 1)).map Msg.uid by rw [hl, take_snoc hm, List.map_append]; rfl)
      have Hown2 := Lib.hid ((hown.alloc (.cells #[.int .i64 m.uid, .int .i64 m.flags, .string m.text] 62)).alloc (.cells #[.int .i64 m.uid] 3))
      have hrd := Rd.new (enc := encI) (k := 1) (fun _ => rfl) (wr.alloc (.cells #[.int .i64 m.uid, .int .i64 m.flags, .string m.text] 62)) #[.int .i64 m.uid] 3 (n := 1) [m.uid] rfl rfl
      rw [show (wr.alloc (.cells #[.int .i64 m.uid, .int .i64 m.flags, .string m.text] 62)).heap.size = wr.heap.size + 1 from by simp] at hrd
      have Hrd := Lib.hid hrd
      clear hrd
      have HB := Lib.hid ((hb.alloc hb.size (.cells #[.int .i64 m.uid, .int .i64 m.flags, .string m.text] 62)).alloc (by have := hb.size; simp; omega) (.cells #[.int .i64 m.uid] 3))
      have hsz := hb.size
      clear hl hown hb hm hc
      go_wp2_with (at_builtin; refine wpList_app (enc := encI) (k := 1) (fun _ => rfl) (fun _ u hu => by simp at hu; subst hu; rfl) (by omega) rfl _ _ 43 3 rfl (.int .i64 0) 8 Try.underlying43 (by kernel_rfl) rfl w1.heap.size _ l rfl Hown2.out _ _ _ _ rfl Hrd.out (by omega) (by omega) (by simp; omega) ?_; intro v' w' hown' hbel')
      go_roundw
      case rel => exact ⟨k + 1, l ++ [m.uid], by omega, by go_num, Hl.out, by simp; omega, hown', HB.out.trans hbel'⟩
      case measure => simp [intOf]; omega
    · have hke : k = n := by omega
      subst hke
      rw [List.take_of_length_le (by rw [HL.out]; exact Nat.le_refl _)] at hl
      have Hl := Lib.hid hl
      have Hown := Lib.hid hown
      have HB := Lib.hid (HW.out.trans (hb.mono HW.out.size))
      clear hl hown hb
      go_wp2
      go_ret
      have ho := Hown.out
      rw [Hl.out] at ho
      exact retOwn_mk (own_mono ho HW.out.size) HB.out

end Go.Proofs.Ytnphoodoheccoaa
