/-
  Walks: what each function returns, and that it leaves what lay in memory as it was.
-/
import Derived.Test.YtnphoodoheccoaaProg
import Derived.Test.YtnphoodoheccoaaPlain
import Derived.Test.YtnphoodoheccoaaBase2
import Derived.Test.YtnphoodoheccoaaOpen2
import Derived.Test.YtnphoodoheccoaaShelf
import Derived.WalkKit
import Derived.WalkSpells
import Derived.WalkLawsBesides
import Derived.Lib.Hide
import Derived.Deep.LoopGhost
import Derived.Deep.QuietTactic
import Derived.BigQuiet
import Derived.Handy
import Derived.Deep.RegionHeld3
import Derived.StillTailTactics
import Derived.OpenShut
import Derived.ChangeSame
import Derived.Laws.StructEq

import Derived.Test.YtnphoodoheccoaaPlainT

import Derived.Test.YtnphoodoheccoaaW1

import Derived.Test.YtnphoodoheccoaaW21

namespace Go.Proofs.Ytnphoodoheccoaa
open Go.ChangeShapes Go.WideShapes Go.ChangeAt Go.RowKit Go.Deep
set_option linter.unusedVariables false
set_option linter.unusedSimpArgs false


structure Filter where
  on : Bool
  scopes : List Scope
instance : Inhabited Filter := ⟨⟨false, []⟩⟩
/-- A filter's handle: its slice, and what its elements lead to. -/
structure FHd where
  A : Option Addr
  n : Nat
  c : Nat
  rs : List (Scope × Hd)
instance : Inhabited FHd := ⟨⟨none, 0, 0, []⟩⟩
abbrev encFilter (p : Filter × FHd) : List Value := [.bool p.1.on, .slice p.2.A p.2.n p.2.c]
def Filter.Fit (x : Filter) : Prop := x.scopes.length ≤ 1048576 ∧ ∀ y ∈ x.scopes, y.Fit
theorem fits_of {x : Filter} {rs : List (Scope × Hd)} (hf : x.Fit) (hm : rs.map Prod.fst = x.scopes) : ∀ p ∈ rs, p.1.Fit := fun p hp => hf.2 p.1 (by rw [← hm]; exact List.mem_map_of_mem hp)

def FilterIs (w : World) (x : Filter) (h : FHd) : Prop := Rd encScope 3 w h.A h.n h.rs ∧ h.n ≤ maxLen ∧ (∀ p ∈ h.rs, ScopeIs w p.1 p.2) ∧ h.rs.map Prod.fst = x.scopes
theorem FilterIs.below {w w' : World} {x : Filter} {h : FHd} (i : FilterIs w x h) (hb : Below w.heap.size w w') : FilterIs w' x h := ⟨i.1.below hb, i.2.1, fun p hp => (i.2.2.1 p hp).below hb, i.2.2.2⟩
def FilterOwn (base : Nat) (w : World) (x : Filter) (h : FHd) : Prop := w.ownsRow base 32 3 (.slice h.A h.n h.c) h.n (h.rs.flatMap encScope) ∧ h.rs.length = h.n ∧ h.n ≤ 1048576 ∧ (∀ p ∈ h.rs, ScopeOwn base w p.1 p.2) ∧ h.rs.map Prod.fst = x.scopes ∧ NA h.rs
theorem FilterOwn.below {base : Nat} {w w' : World} {x : Filter} {h : FHd} (i : FilterOwn base w x h) (hb : Below w.heap.size w w') : FilterOwn base w' x h := ⟨own_below i.1 hb, i.2.1, i.2.2.1, fun p hp => (i.2.2.2.1 p hp).below hb, i.2.2.2.2⟩
theorem FilterOwn.mono {base base' : Nat} {w : World} {x : Filter} {h : FHd} (i : FilterOwn base w x h) (hb : base' ≤ base) : FilterOwn base' w x h := ⟨own_mono i.1 hb, i.2.1, i.2.2.1, fun p hp => (i.2.2.2.1 p hp).mono hb, i.2.2.2.2⟩
theorem FilterOwn.is {base : Nat} {w : World} {x : Filter} {h : FHd} (i : FilterOwn base w x h) : FilterIs w x h := ⟨Rd.of_own (enc := encScope) (k := 3) (fun _ => rfl) i.1 i.2.1, by have := i.2.2.1; unfold maxLen; omega, fun p hp => (i.2.2.2.1 p hp).is, i.2.2.2.2.1⟩
theorem FilterIs.len {w : World} {x : Filter} {h : FHd} (i : FilterIs w x h) : h.n = x.scopes.length := by rw [← i.2.2.2, List.length_map, i.1.1]

set_option maxHeartbeats 800000 in
set_option maxRecDepth 20000 in
theorem slices_IndexFunc_Scope (A : Option Addr) (n c g : Nat) (lb : Array Value) (p : Scope × Hd → Bool) (xs : List (Scope × Hd)) (w : World) (hn : n ≤ 4611686018427387904) (h : Rd encScope 3 w A n xs)
    (eg : ∀ args w, (callFunc g args).run Try.prog w = .ok (.enter g args) w) (hp : PaysAt Try.prog g lb (fun x : Scope × Hd => .agg #[.int .i64 x.1.kind, .slice x.2.A x.2.n x.2.c, .int .i64 x.1.events]) p w xs) :
    Calls Try.prog 49 #[.slice A n c, .func (.func g) #[] lb] w fun e w' => e = .returned (.int .i64 (ixOf p xs)) ∧ Below w.heap.size w w' := by
  have HL := Lib.hid h.1
  have H := Lib.hid h
  have HP := Lib.hid hp
  clear h hp
  go_enter Try.func49, Try.ntmps49
  go_wp2_with fail
  go_loopw [8] (fun i wr => ∃ k : Nat, k ≤ n ∧ i = .int .i64 k ∧ Below w.heap.size w wr ∧ Hid (∀ (j : Nat) (y : Scope × Hd), j < k → xs[j]? = some y → p y = false)) (fun i _ => n - (intOf i).toNat)
  case atStart => exact ⟨0, Nat.zero_le _, rfl, Below.refl _ _, fun j y hj => absurd hj (by omega)⟩
  case round =>
    obtain ⟨k, hk, rfl, hW, ha⟩ := hrel
    by_cases hlt : k < n
    · obtain ⟨b, off, x, rfl, _, hx, hc⟩ := (H.out.below hW).elem hlt
      have g0 : wr.cell? ⟨b, off + k * 3, none⟩ = some (.int .i64 x.1.kind) := by simpa using hc 0 _ rfl
      have g1 : wr.cell? ⟨b, off + k * 3 + 1, none⟩ = some (.slice x.2.A x.2.n x.2.c) := hc 1 _ rfl
      have g2 : wr.cell? ⟨b, off + k * 3 + 2, none⟩ = some (.int .i64 x.1.events) := hc 2 _ rfl
      have hcall := HP.out wr x (List.mem_of_getElem? hx) hW
      have HX := Lib.hid hx
      have HW := Lib.hid hW
      clear hc hx hW H HP
      cases hq : p x with
      | true =>
        rw [hq] at hcall
        have hfin := Lib.hid (ixOf_hit HX.out hq ha.out)
        clear hq ha
        go_wp2_with (go_at_fn g; refine hcall.mono ?_; rintro e w' ⟨rfl, hb'⟩)
        go_ret
        exact ⟨ret_i hfin.out.symm, HW.out.trans (hb'.mono HW.out.size)⟩
      | false =>
        rw [hq] at hcall
        have hs := Lib.hid (anyF_succ ha.out HX.out hq)
        clear hq ha
        go_wp2_with (go_at_fn g; refine hcall.mono ?_; rintro e w' ⟨rfl, hb'⟩)
        go_roundw
        case rel => exact ⟨k + 1, by omega, by go_num, HW.out.trans (hb'.mono HW.out.size), hs.out⟩
        case measure => simp [intOf]; omega
    · have hke : k = n := by omega
      have hfin := Lib.hid (ixOf_miss (p := p) (l := xs) (fun j y hy => ha.out j y (by rw [hke, ← HL.out]; exact (List.getElem?_eq_some_iff.1 hy).1) hy))
      clear ha hke
      go_wp2
      go_ret
      exact ⟨ret_i hfin.out.symm, hW⟩
set_option maxRecDepth 20000 in
theorem slices_ContainsFunc_Scope (A : Option Addr) (n c g : Nat) (lb : Array Value) (p : Scope × Hd → Bool) (xs : List (Scope × Hd)) (w : World) (hn : n ≤ 4611686018427387904) (h : Rd encScope 3 w A n xs)
    (eg : ∀ args w, (callFunc g args).run Try.prog w = .ok (.enter g args) w) (hp : PaysAt Try.prog g lb (fun x : Scope × Hd => .agg #[.int .i64 x.1.kind, .slice x.2.A x.2.n x.2.c, .int .i64 x.1.events]) p w xs) :
    Calls Try.prog 24 #[.slice A n c, .func (.func g) #[] lb] w fun e w' => e = .returned (.bool (xs.any p)) ∧ Below w.heap.size w w' := by
  have hc := slices_IndexFunc_Scope A n c g lb p xs w hn h eg hp
  have hr := Lib.hid (ixOf_any p xs)
  generalize ixOf p xs = r at *
  clear h hp
  go_enter Try.func24, Try.ntmps24
  go_wp2_with (go_at_call 49; refine hc.mono ?_; rintro e w' ⟨rfl, hb'⟩)
  go_ret
  exact ⟨ret_b hr.out, hb'⟩

end Go.Proofs.Ytnphoodoheccoaa
