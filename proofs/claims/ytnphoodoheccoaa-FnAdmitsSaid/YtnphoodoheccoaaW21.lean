/-
  Walks: what each function returns, and that it leaves what lay in memory as it was.
-/
import Derived.Test.YtnphoodoheccoaaProg
import Derived.Test.YtnphoodoheccoaaPlain
import Derived.Test.YtnphoodoheccoaaBase2
import Derived.Test.YtnphoodoheccoaaOpen2
import Derived.Test.YtnphoodoheccoaaShelf
import Derived.WalkKit
import Derived.WalkSpells
import Derived.WalkLawsBesides
import Derived.Lib.Hide
import Derived.Deep.LoopGhost
import Derived.Deep.QuietTactic
import Derived.BigQuiet
import Derived.Handy
import Derived.Deep.RegionHeld3
import Derived.StillTailTactics
import Derived.OpenShut
import Derived.ChangeSame
import Derived.Laws.StructEq

import Derived.Test.YtnphoodoheccoaaPlainT

import Derived.Test.YtnphoodoheccoaaW1

namespace Go.Proofs.Ytnphoodoheccoaa
open Go.ChangeShapes Go.WideShapes Go.ChangeAt Go.RowKit Go.Deep
set_option linter.unusedVariables false
set_option linter.unusedSimpArgs false


def zeroStr : Str := []
def strFit (s : Str) : Prop := s.length ≤ 1048576
def strBig (s : Str) : Prop := s.length ≤ maxLen
theorem encStr_size (s : Str) : (⟨s.toArray⟩ : ByteArray).size = s.length := by show s.toArray.size = _; simp
theorem mk_toList (s : ByteArray) : (⟨s.data.toList.toArray⟩ : ByteArray) = s := by cases s; simp


theorem dec_Str {H : Type} {enc0 : TypeId × Value → H} {w : World} {base : Nat} {spare : Nat → Bool} {held : Bool} (n : Nat) (cs : List Value) (x : DataW H × List MemPlace)
    (h : DataW.trod enc0 Try.prog w base spare held n 9 cs = some x) : ∃ y : Str, cs = encStr y ∧ strBig y := by
  obtain ⟨a, h1, _, b⟩ := DataW.trod_string Try.underlying9 h
  refine ⟨a.data.toList, ?_, ?_⟩
  · rw [h1]
  · unfold strBig; rw [← size_len]; exact b
set_option maxRecDepth 20000 in
/-- A slice of strings that came in. -/
theorem open_Strs {H : Type} {enc0 : TypeId × Value → H} {w : World} {base b0 : Nat} {r : Reach} {spare : Nat → Bool} {held : Bool} {v : Value} {d : DataW H} {p : List MemPlace}
    (o : Value.okWide Try.prog w r b0 30 v) (h : DataW.Trod enc0 Try.prog w base spare held 30 v d p) :
    ∃ (A : Option Addr) (n c : Nat) (xs : List Str), v = .slice A n c ∧ Rd encStr 1 w A n xs ∧ n ≤ 9223372036854775807 ∧ ∀ y ∈ xs, strBig y := by
  obtain ⟨A, n, c, xs, rfl, h, hc, hm, hN⟩ := open_rd encStr strBig 1 Try.underlying30 o h (by kernel_rfl) (by omega) (fun _ => rfl) (fun n cs x hx => dec_Str n cs x hx)
  exact ⟨A, n, c, xs, rfl, h, by unfold maxLen at hm; omega, hN⟩


structure Scope where
  kind : Int
  names : List Str
  events : Int
instance : Inhabited Scope := ⟨⟨0, [], 0⟩⟩
abbrev encScope (p : Scope × Hd) : List Value := [.int .i64 p.1.kind, .slice p.2.A p.2.n p.2.c, .int .i64 p.1.events]
def zeroScope : Scope × Hd := (⟨0, [], 0⟩, ⟨none, 0, 0⟩)
theorem flat_set_Scope (l : List (Scope × Hd)) (j : Nat) (x : Scope × Hd) (hj : j < l.length) : ((((l.flatMap encScope).set (j * 3) (.int .i64 x.1.kind)).set (j * 3 + 1) (.slice x.2.A x.2.n x.2.c)).set (j * 3 + 2) (.int .i64 x.1.events)) = (l.set j x).flatMap encScope := setRow_flat (enc := encScope) (k := 3) (fun _ => rfl) l j x hj
def Scope.Fit (x : Scope) : Prop := x.names.length ≤ 1048576 ∧ ∀ y ∈ x.names, strFit y
/-- No two of the slices of names lie in one block. -/
def nameOwn (p : Scope × Hd) : Option Nat := (Value.slice p.2.A p.2.n p.2.c).ownBlock
def NA (rs : List (Scope × Hd)) : Prop := rs.Pairwise (fun p q => ∀ i, nameOwn p = some i → nameOwn q ≠ some i)
theorem NA.snoc {zs : List (Scope × Hd)} {y : Scope × Hd} {B : Nat} (h : NA zs) (hlt : ∀ q ∈ zs, ∀ i, nameOwn q = some i → i < B) (hy : ∀ i, nameOwn y = some i → B ≤ i) : NA (zs ++ [y]) := by
  refine List.pairwise_append.2 ⟨h, List.pairwise_singleton _ _, ?_⟩
  intro p hp q hq i hi e
  simp at hq; subst hq
  have h1 := hlt p hp i hi
  have h2 := hy i e
  omega

/-- A scope that lies in memory. -/
def ScopeIs (w : World) (x : Scope) (h : Hd) : Prop := Rd encStr 1 w h.A h.n x.names ∧ h.n ≤ maxLen ∧ ∀ y ∈ x.names, strBig y
theorem ScopeIs.below {w w' : World} {x : Scope} {h : Hd} (i : ScopeIs w x h) (hb : Below w.heap.size w w') : ScopeIs w' x h := ⟨i.1.below hb, i.2⟩
/-- A scope of the call's own. -/
def ScopeOwn (base : Nat) (w : World) (x : Scope) (h : Hd) : Prop := w.ownsRow base 9 1 (.slice h.A h.n h.c) h.n (x.names.flatMap encStr) ∧ x.names.length = h.n ∧ h.n ≤ 1048576 ∧ ∀ y ∈ x.names, strBig y
theorem ScopeOwn.below {base : Nat} {w w' : World} {x : Scope} {h : Hd} (i : ScopeOwn base w x h) (hb : Below w.heap.size w w') : ScopeOwn base w' x h := ⟨own_below i.1 hb, i.2⟩
theorem ScopeOwn.map {base : Nat} {w w' : World} {x : Scope} {h : Hd} (i : ScopeOwn base w x h) (f : w.ownsRow base 9 1 (.slice h.A h.n h.c) h.n (x.names.flatMap encStr) → w'.ownsRow base 9 1 (.slice h.A h.n h.c) h.n (x.names.flatMap encStr)) : ScopeOwn base w' x h := ⟨f i.1, i.2⟩
theorem ScopeOwn.mono {base base' : Nat} {w : World} {x : Scope} {h : Hd} (i : ScopeOwn base w x h) (hb : base' ≤ base) : ScopeOwn base' w x h := ⟨own_mono i.1 hb, i.2⟩
theorem ScopeOwn.is {base : Nat} {w : World} {x : Scope} {h : Hd} (i : ScopeOwn base w x h) : ScopeIs w x h := ⟨Rd.of_own (enc := encStr) (k := 1) (fun _ => rfl) i.1 i.2.1, by have := i.2.2.1; unfold maxLen; omega, i.2.2.2⟩

set_option maxHeartbeats 800000 in
set_option maxRecDepth 20000 in
theorem slices_IndexFunc_Str (A : Option Addr) (n c g : Nat) (lb : Array Value) (p : Str → Bool) (xs : List Str) (w : World) (hn : n ≤ 4611686018427387904) (h : Rd encStr 1 w A n xs)
    (eg : ∀ args w, (callFunc g args).run Try.prog w = .ok (.enter g args) w) (hp : PaysAt Try.prog g lb (fun x : Str => .string ⟨x.toArray⟩) p w xs) :
    Calls Try.prog 54 #[.slice A n c, .func (.func g) #[] lb] w fun e w' => e = .returned (.int .i64 (ixOf p xs)) ∧ Below w.heap.size w w' := by
  have HL := Lib.hid h.1
  have H := Lib.hid h
  have HP := Lib.hid hp
  clear h hp
  go_enter Try.func54, Try.ntmps54
  go_wp2_with fail
  go_loopw [8] (fun i wr => ∃ k : Nat, k ≤ n ∧ i = .int .i64 k ∧ Below w.heap.size w wr ∧ Hid (∀ (j : Nat) (y : Str), j < k → xs[j]? = some y → p y = false)) (fun i _ => n - (intOf i).toNat)
  case atStart => exact ⟨0, Nat.zero_le _, rfl, Below.refl _ _, fun j y hj => absurd hj (by omega)⟩
  case round =>
    obtain ⟨k, hk, rfl, hW, ha⟩ := hrel
    by_cases hlt : k < n
    · obtain ⟨b, off, x, rfl, _, hx, hc⟩ := (H.out.below hW).elem hlt
      have g0 : wr.cell? ⟨b, off + k, none⟩ = some (.string ⟨x.toArray⟩) := by simpa using hc 0 _ rfl
      have hcall := HP.out wr x (List.mem_of_getElem? hx) hW
      have HX := Lib.hid hx
      have HW := Lib.hid hW
      clear hc hx hW H HP
      cases hq : p x with
      | true =>
        rw [hq] at hcall
        have hfin := Lib.hid (ixOf_hit HX.out hq ha.out)
        clear hq ha
        go_wp2_with (go_at_fn g; refine hcall.mono ?_; rintro e w' ⟨rfl, hb'⟩)
        go_ret
        exact ⟨ret_i hfin.out.symm, HW.out.trans (hb'.mono HW.out.size)⟩
      | false =>
        rw [hq] at hcall
        have hs := Lib.hid (anyF_succ ha.out HX.out hq)
        clear hq ha
        go_wp2_with (go_at_fn g; refine hcall.mono ?_; rintro e w' ⟨rfl, hb'⟩)
        go_roundw
        case rel => exact ⟨k + 1, by omega, by go_num, HW.out.trans (hb'.mono HW.out.size), hs.out⟩
        case measure => simp [intOf]; omega
    · have hke : k = n := by omega
      have hfin := Lib.hid (ixOf_miss (p := p) (l := xs) (fun j y hy => ha.out j y (by rw [hke, ← HL.out]; exact (List.getElem?_eq_some_iff.1 hy).1) hy))
      clear ha hke
      go_wp2
      go_ret
      exact ⟨ret_i hfin.out.symm, hW⟩
set_option maxRecDepth 20000 in
theorem slices_ContainsFunc_Str (A : Option Addr) (n c g : Nat) (lb : Array Value) (p : Str → Bool) (xs : List Str) (w : World) (hn : n ≤ 4611686018427387904) (h : Rd encStr 1 w A n xs)
    (eg : ∀ args w, (callFunc g args).run Try.prog w = .ok (.enter g args) w) (hp : PaysAt Try.prog g lb (fun x : Str => .string ⟨x.toArray⟩) p w xs) :
    Calls Try.prog 28 #[.slice A n c, .func (.func g) #[] lb] w fun e w' => e = .returned (.bool (xs.any p)) ∧ Below w.heap.size w w' := by
  have hc := slices_IndexFunc_Str A n c g lb p xs w hn h eg hp
  have hr := Lib.hid (ixOf_any p xs)
  generalize ixOf p xs = r at *
  clear h hp
  go_enter Try.func28, Try.ntmps28
  go_wp2_with (go_at_call 54; refine hc.mono ?_; rintro e w' ⟨rfl, hb'⟩)
  go_ret
  exact ⟨ret_b hr.out, hb'⟩

end Go.Proofs.Ytnphoodoheccoaa
