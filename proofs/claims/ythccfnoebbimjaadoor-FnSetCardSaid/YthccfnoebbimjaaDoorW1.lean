/-
  Walks: what each function returns, and that it leaves what lay in memory as it was.
-/
import Derived.Test.YthccfnoebbimjaaDoorProg
import Derived.Test.YthccfnoebbimjaaDoorPlain
import Derived.Test.YthccfnoebbimjaaDoorBase2
import Derived.Test.YthccfnoebbimjaaDoorOpen2
import Derived.Test.YthccfnoebbimjaaDoorShelf
import Derived.WalkKit
import Derived.WalkSpells
import Derived.WalkLawsBesides
import Derived.Lib.Hide
import Derived.Deep.LoopGhost
import Derived.Deep.QuietTactic
import Derived.BigQuiet
import Derived.Handy
import Derived.Deep.RegionHeld3
import Derived.StillTailTactics
import Derived.OpenShut
import Derived.ChangeSame
import Derived.Laws.StructEq

import Derived.Test.YthccfnoebbimjaaDoorPlainT

namespace Go.Proofs.YthccfnoebbimjaaDoor
open Go.ChangeShapes Go.WideShapes Go.ChangeAt Go.RowKit Go.Deep
set_option linter.unusedVariables false
set_option linter.unusedSimpArgs false

set_option maxHeartbeats 400000 in
theorem within_any (n lo hi : Int) (w : World) :
    Calls Tryd.prog 29 #[.int .i64 n, .int .i64 lo, .int .i64 hi] w fun e w' => e = .returned (.bool (inR n lo hi)) ∧ w = w' := by
  by_cases h1 : lo ≤ n
  · by_cases h2 : n ≤ hi
    · go_enter Tryd.func29, Tryd.ntmps29
      go_wp2
      go_ret
      exact ⟨by simp [inR, h1, h2], rfl⟩
    · have h2' : decide (n ≤ hi) = false := by simpa using h2
      go_enter Tryd.func29, Tryd.ntmps29
      go_wp2
      go_ret
      exact ⟨by simp [inR, h1, h2], rfl⟩
  · have h1' : decide (lo ≤ n) = false := by simpa using h1
    go_enter Tryd.func29, Tryd.ntmps29
    go_wp2
    go_ret
    exact ⟨by simp [inR]; omega, rfl⟩
set_option maxHeartbeats 400000 in
theorem l1In_any (n lo hi : Int) (w : World) :
    Calls Tryd.prog 28 #[.int .i64 n, .int .i64 lo, .int .i64 hi] w fun e w' => e = .returned (.bool (inR n lo hi)) ∧ w = w' := by
  by_cases h1 : lo ≤ n
  · by_cases h2 : n ≤ hi
    · go_enter Tryd.func28, Tryd.ntmps28
      go_wp2
      go_ret
      exact ⟨by simp [inR, h1, h2], rfl⟩
    · have h2' : decide (n ≤ hi) = false := by simpa using h2
      go_enter Tryd.func28, Tryd.ntmps28
      go_wp2
      go_ret
      exact ⟨by simp [inR, h1, h2], rfl⟩
  · have h1' : decide (lo ≤ n) = false := by simpa using h1
    go_enter Tryd.func28, Tryd.ntmps28
    go_wp2
    go_ret
    exact ⟨by simp [inR]; omega, rfl⟩

/-- A later world: what lay there lies there still. -/
structure Later (w : World) where
  at_ : World
  bel : Below w.heap.size w at_
instance (w : World) : Nonempty (Later w) := ⟨⟨w, Below.refl _ w⟩⟩
theorem Later.cell {w : World} (u : Later w) {b i : Nat} {v : Value} (h : w.cell? ⟨b, i, none⟩ = some v) : u.at_.cell? ⟨b, i, none⟩ = some v := (u.bel.cell (p := ⟨b, i, none⟩) (World.block_lt_of_cell? w _ h)).trans h
/-- A region that draws its order, whose callees may make memory and whose answers do not hang on it: one walk, in the order of the text. -/
theorem wp_region_calm_lit {P : Program} {id : Nat} {Q : Exit → Act → World → Prop} {a : Act} {w : World} {l : List Oper} (hm : P.follows .mixedOrders = true) (hB : Region.lexB .any l.toArray = true)
    (h : wpQuiet P l.toArray (fun w' => ∃ u : Later w, w' = u.at_) (fun a' => ∀ w', (∃ u : Later w, w' = u.at_) → Q .normal a' w') l a) : (Code.region id l.toArray true).wp P Q a w :=
  wp_region_quiet (C := fun w' => ∃ u : Later w, w' = u.at_) hm hB ⟨⟨w.drew, (Below.refl _ w).drew⟩, rfl⟩ (by simpa using h)
theorem Calls.calm {P : Program} {f : FuncId} {args : Array Value} {w : World} {v : Value} {u : Later w} (h : Calls P f args u.at_ fun e w' => e = .returned v ∧ Below u.at_.heap.size u.at_ w') :
    Calls P f args u.at_ fun e w'' => e = .returned v ∧ ∃ u' : Later w, w'' = u'.at_ :=
  h.mono fun _ w' ⟨h1, h2⟩ => ⟨h1, ⟨w', u.bel.trans (h2.mono u.bel.size)⟩, rfl⟩
theorem Calls.calm_same {P : Program} {f : FuncId} {args : Array Value} {w : World} {v : Value} {u : Later w} (h : Calls P f args u.at_ fun e w' => e = .returned v ∧ w' = u.at_) :
    Calls P f args u.at_ fun e w'' => e = .returned v ∧ ∃ u' : Later w, w'' = u'.at_ :=
  h.mono fun _ _ ⟨h1, h2⟩ => ⟨h1, u, h2⟩
/-- A contract's answer, known. -/
theorem Calls.known {P : Program} {f : FuncId} {args : Array Value} {w : World} {a b : Bool} {R : World → Prop} (h : Calls P f args w fun e w' => e = .returned (.bool a) ∧ R w') (e : a = b) : Calls P f args w fun e w' => e = .returned (.bool b) ∧ R w' := e ▸ h
theorem Calls.knownI {P : Program} {f : FuncId} {args : Array Value} {w : World} {a b : Int} {R : World → Prop} (h : Calls P f args w fun e w' => e = .returned (.int .i64 a) ∧ R w') (e : a = b) : Calls P f args w fun e w' => e = .returned (.int .i64 b) ∧ R w' := e ▸ h
theorem Calls.flip {P : Program} {f : FuncId} {args : Array Value} {w : World} {v : Value} (h : Calls P f args w fun e w' => e = .returned v ∧ w = w') : Calls P f args w fun e w' => e = .returned v ∧ w' = w := h.mono fun _ _ ⟨h1, h2⟩ => ⟨h1, h2.symm⟩
theorem own_cap {w : World} {base : Nat} {e : TypeId} {k n c m : Nat} {A : Option Addr} {xs : List Value} (h : w.ownsRow base e k (.slice A n c) m xs) : m ≤ c := by
  rcases h.2 with ⟨hv, h0⟩ | ⟨g, cap, cur, hv, _, _, hnc, _⟩
  · omega
  · injection hv with _ _ hc
    omega


def zeroStr : Str := []
def strFit (s : Str) : Prop := s.length ≤ 1048576
def strBig (s : Str) : Prop := s.length ≤ maxLen
theorem encStr_size (s : Str) : (⟨s.toArray⟩ : ByteArray).size = s.length := by show s.toArray.size = _; simp
theorem mk_toList (s : ByteArray) : (⟨s.data.toList.toArray⟩ : ByteArray) = s := by cases s; simp


theorem ba_eq {a b : ByteArray} : a = b ↔ a.data.toList = b.data.toList := by
  constructor
  · rintro rfl; rfl
  · intro h
    rw [str_eq h]
theorem ba_beq (a b : ByteArray) : (a.toList == b.toList) = decide (a = b) := by
  rw [Bool.eq_iff_iff, beq_iff_eq, decide_eq_true_iff, ByteArray.toList_eq, ByteArray.toList_eq, ba_eq]
theorem ba_empty (a : ByteArray) : a.toList.isEmpty = decide (a = ⟨#[]⟩) := by
  rw [Bool.eq_iff_iff, List.isEmpty_iff, decide_eq_true_iff, ByteArray.toList_eq]
  constructor
  · intro h; cases a; simp at h; subst h; rfl
  · rintro rfl; rfl

theorem var_below {P : Program} {w w' : World} {name : String} {cs : Array Value} (h : w.var? P name = some cs) (hb : Below w.heap.size w w') : w'.var? P name = some cs := by
  unfold World.var? at h ⊢
  cases hg : P.globalNamed name with
  | none => rw [hg] at h; simp at h
  | some g =>
    rw [hg] at h
    simp only [Option.bind_some] at h ⊢
    have hlt : g < w.heap.size := by
      rcases Nat.lt_or_ge g w.heap.size with h1 | h1
      · exact h1
      · rw [Array.getElem?_eq_none h1] at h; cases h
    rw [hb.block g hlt]; exact h
theorem tab_below {P : Program} {w w' : World} {name : String} {k : IntKind} {zs : List Int} (h : Lib.TabIs P w name k zs) (hb : Below w.heap.size w w') : Lib.TabIs P w' name k zs := var_below h hb

/-! ### the draws: a cursor over the bytes that lay there at first; only its own block is written -/
theorem bits_low (y : Int) : ∃ m : Nat, m ≤ 255 ∧ bits .and .i64 y 255 = (m : Int) := by
  have h1 : (BitVec.ofInt 64 y &&& BitVec.ofInt 64 255).toNat ≤ 255 := by
    rw [BitVec.toNat_and]
    exact Nat.le_trans Nat.and_le_right (by decide)
  refine ⟨(BitVec.ofInt 64 y &&& BitVec.ofInt 64 255).toNat, h1, ?_⟩
  show IntKind.i64.wrap ((BitVec.ofInt 64 y &&& BitVec.ofInt 64 255).toNat : Int) = _
  generalize (BitVec.ofInt 64 y &&& BitVec.ofInt 64 255).toNat = m at h1
  simp only [IntKind.wrap, IntKind.min, IntKind.max, IntKind.bits, IntKind.signed]
  simp
  omega
def Cur (w0 : World) (g : Nat) (w : World) : Prop :=
  ∃ (A : Option Addr) (n c i : Nat) (h : Int) (xs : List UInt8), n ≤ 1048576 ∧ i ≤ n ∧ Rd encB 1 w0 A n xs ∧ Below w0.heap.size w0 w ∧
    w.ownsRow w0.heap.size 54 3 (.slice (some ⟨g, 0, none⟩) 1 1) 1 [.slice A n c, .int .i64 i, .int .i64 h]
theorem Cur.bel {w0 w : World} {g : Nat} (h : Cur w0 g w) : Below w0.heap.size w0 w := by obtain ⟨_, _, _, _, _, _, _, _, _, hb, _⟩ := h; exact hb
theorem Cur.lt {w0 w : World} {g : Nat} (h : Cur w0 g w) : w0.heap.size ≤ g ∧ g < w.heap.size := by obtain ⟨_, _, _, _, _, _, _, _, _, _, ho⟩ := h; exact ho.lt g rfl
theorem Cur.below {w0 w w' : World} {g : Nat} (h : Cur w0 g w) (hb : Below w.heap.size w w') : Cur w0 g w' := by
  obtain ⟨A, n, c, i, hh, xs, h1, h2, h3, h4, h5⟩ := h
  exact ⟨A, n, c, i, hh, xs, h1, h2, h3, h4.trans (hb.mono h4.size), own_below h5 hb⟩
theorem Cur.of_gb {w0 w w' : World} {g : Nat} (h : Cur w0 g w) (hb : w.grownBy w' (some g)) : Below w0.heap.size w0 w' :=
  h.bel.grown hb (by have := h.bel.size; omega) (by intro k hk; injection hk with e; have := h.lt; omega)
theorem cur_fin0 {w0 w w2 : World} {g n c i : Nat} {h : Int} {A : Option Addr} {xs : List UInt8} (hn : n ≤ 1048576) (hi : i ≤ n) (hx : Rd encB 1 w0 A n xs) (hb : Below w0.heap.size w0 w2)
    (ho : w2.ownsRow w0.heap.size 54 3 (.slice (some ⟨g, 0, none⟩) 1 1) 1 [.slice A n c, .int .i64 i, .int .i64 h]) (hg : w.grownBy w2 (some g)) (q r : Nat) :
    Cur w0 g ((w2.drewN q).drewN r) ∧ w.grownBy ((w2.drewN q).drewN r) (some g) :=
  ⟨⟨A, n, c, i, h, xs, hn, hi, hx, below_drewN (below_drewN hb q) r, own_drewN (own_drewN ho q) r⟩, gb_drewN (gb_drewN hg q) r⟩
theorem cur_fin1 {w0 w w2 : World} {g n c i : Nat} {h : Int} {A : Option Addr} {xs : List UInt8} (hn : n ≤ 1048576) (hi : i < n) (hx : Rd encB 1 w0 A n xs) (hb : Below w0.heap.size w0 w2)
    (ho : w2.ownsRow w0.heap.size 54 3 (.slice (some ⟨g, 0, none⟩) 1 1) 1 [.slice A n c, .int .i64 i, .int .i64 h]) (hg : w.grownBy w2 (some g)) (q : Nat) :
    Cur w0 g ((w2.drewN q).setCell ⟨g, 1, none⟩ (.int .i64 ((i : Int) + 1))) ∧ w.grownBy ((w2.drewN q).setCell ⟨g, 1, none⟩ (.int .i64 ((i : Int) + 1))) (some g) := by
  have s1 := (own_drewN ho q).stored 1 (.int .i64 ((i : Int) + 1))
  have hl := ho.lt g rfl
  refine ⟨⟨A, n, c, i + 1, h, xs, hn, hi, hx, (below_drewN hb q).grown s1.2 (Nat.le_of_lt (Nat.lt_of_le_of_lt hl.1 hl.2)) (by intro k hk; injection hk with e; omega), s1.1⟩, gb_trans (gb_drewN hg q) s1.2⟩
theorem Cur.pick {w0 w w' : World} {g b i : Nat} {v : Value} (hb : b ≠ g) (hg : w.grownBy w' (some g)) (hc : w.cell? ⟨b, i, none⟩ = some v) : w'.cell? ⟨b, i, none⟩ = some v := by
  have hl := World.block_lt_of_cell? w _ hc
  have h1 := hg.block b hl (by intro e; injection e with e; exact hb e)
  rw [← hc]
  unfold World.cell?
  simp only [h1]
theorem Cur.rd {w0 w w' : World} {g : Nat} {α : Type} {enc : α → List Value} {k : Nat} {A : Option Addr} {n : Nat} {xs : List α} (h : Cur w0 g w) (hx : Rd enc k w0 A n xs) : Rd enc k w A n xs := hx.below h.bel
theorem Cur.belowB {w0 w w' : World} {g B : Nat} (h : Cur w0 g w) (hb : Below B w w') (hB : g < B) : Cur w0 g w' := by
  have hl := h.lt
  obtain ⟨A, n, c, i, hh, xs, h1, h2, h3, h4, h5⟩ := h
  refine ⟨A, n, c, i, hh, xs, h1, h2, h3, h4.trans (hb.mono (by omega)), h5.1, ?_⟩
  rcases h5.2 with ⟨hn, _⟩ | ⟨g', cap, cur, hv, hg, hk, r⟩
  · cases hn
  · have e : g' = g := by injection hv with e; injection e with e; injection e with e; exact e.symm
    subst e
    exact .inr ⟨g', cap, cur, hv, hg, (hb.block g' hB).trans hk, r⟩
theorem gb_belowB {a b c : World} {g B : Nat} (h : a.grownBy b (some g)) (hb : Below B b c) (hB : a.heap.size ≤ B) : a.grownBy c (some g) :=
  ⟨hb.os.trans h.os, hb.tape.trans h.tape, hb.output.trans h.output, Nat.le_trans h.size hb.size, fun k hk hne => (hb.block k (by omega)).trans (h.block k hk hne)⟩
theorem Cur.gbelow {w0 w w' : World} {g : Nat} (h : Cur w0 g w) (hb : Below w.heap.size w w') : Cur w0 g w' ∧ w.grownBy w' (some g) := ⟨h.below hb, gb_below _ hb⟩
theorem byte_wrap (m : Nat) (h : m ≤ 255) : IntKind.u8.wrap (m : Int) = ((UInt8.ofNat m).toNat : Int) := by
  have h2 : (UInt8.ofNat m).toNat = m := UInt8.toNat_ofNat_of_lt' (by show m < 256; omega)
  rw [h2]
  simp only [IntKind.wrap, IntKind.min, IntKind.max, IntKind.bits, IntKind.signed]
  simp
  omega
theorem own_gb {w w' : World} {base g : Nat} {e : TypeId} {k n : Nat} {v : Value} {xs : List Value} (h : w.ownsRow base e k v n xs) (hg : w.grownBy w' (some g)) (hlt : g < base) : w'.ownsRow base e k v n xs :=
  h.kept hg (by
    rcases h.2 with ⟨rfl, _⟩ | ⟨g', cap, cur, rfl, hg', _⟩
    · exact .inl rfl
    · refine .inr fun e => ?_
      have e2 : g' = g := by injection e
      omega)

end Go.Proofs.YthccfnoebbimjaaDoor
