/-
  Walks: what each function returns, and that it leaves what lay in memory as it was.
-/
import Derived.Test.YtnphoodoheccoaaProg
import Derived.Test.YtnphoodoheccoaaPlain
import Derived.Test.YtnphoodoheccoaaBase2
import Derived.Test.YtnphoodoheccoaaOpen2
import Derived.Test.YtnphoodoheccoaaShelf
import Derived.WalkKit
import Derived.WalkSpells
import Derived.WalkLawsBesides
import Derived.Lib.Hide
import Derived.Deep.LoopGhost
import Derived.Deep.QuietTactic
import Derived.BigQuiet
import Derived.Handy
import Derived.Deep.RegionHeld3
import Derived.StillTailTactics
import Derived.OpenShut
import Derived.ChangeSame
import Derived.Laws.StructEq

import Derived.Test.YtnphoodoheccoaaPlainT

import Derived.Test.YtnphoodoheccoaaW1

import Derived.Test.YtnphoodoheccoaaW21

import Derived.Test.YtnphoodoheccoaaW30

namespace Go.Proofs.Ytnphoodoheccoaa
open Go.ChangeShapes Go.WideShapes Go.ChangeAt Go.RowKit Go.Deep
set_option linter.unusedVariables false
set_option linter.unusedSimpArgs false

set_option maxRecDepth 20000

/-! ### lists of slices, each in a block of its own -/
/-- Slices (a value, its elements), each owned, no two in one block. -/
def OwnAll {α : Type} (enc : α → List Value) (e : TypeId) (k : Nat) (w : World) (base : Nat) (ls : List (Value × List α)) : Prop :=
  (∀ p ∈ ls, w.ownsRow base e k p.1 p.2.length (p.2.flatMap enc)) ∧ ls.Pairwise (fun p q => ∀ i, p.1.ownBlock = some i → q.1.ownBlock ≠ some i)
theorem OwnAll.nil {α : Type} {enc : α → List Value} {e : TypeId} {k : Nat} {w : World} {base : Nat} : OwnAll enc e k w base [] := ⟨by simp, List.Pairwise.nil⟩
theorem OwnAll.below {α : Type} {enc : α → List Value} {e : TypeId} {k : Nat} {w w' : World} {base : Nat} {ls : List (Value × List α)} (h : OwnAll enc e k w base ls) (hb : Below w.heap.size w w') : OwnAll enc e k w' base ls :=
  ⟨fun p hp => own_below (h.1 p hp) hb, h.2⟩
theorem OwnAll.grown {α : Type} {enc : α → List Value} {e : TypeId} {k : Nat} {w w' : World} {base : Nat} {ls : List (Value × List α)} {row : Option Nat} (h : OwnAll enc e k w base ls) (hg : w.grownBy w' row)
    (hne : ∀ p ∈ ls, ∀ i, p.1.ownBlock = some i → row ≠ some i) : OwnAll enc e k w' base ls :=
  ⟨fun p hp => (h.1 p hp).kept hg (by
    cases hv : p.1.ownBlock with
    | none => exact .inl rfl
    | some i => exact .inr (fun e => hne p hp i hv e.symm)), h.2⟩
theorem OwnAll.gb {α : Type} {enc : α → List Value} {e : TypeId} {k : Nat} {w w' : World} {base g : Nat} {ls : List (Value × List α)} (h : OwnAll enc e k w base ls) (hg : w.grownBy w' (some g)) (hlt : g < base) : OwnAll enc e k w' base ls :=
  h.grown hg (fun p hp i hi e => by injection e with e; have := ((h.1 p hp).lt i hi).1; omega)
theorem OwnAll.mono {α : Type} {enc : α → List Value} {e : TypeId} {k : Nat} {w : World} {base base' : Nat} {ls : List (Value × List α)} (h : OwnAll enc e k w base ls) (hb : base' ≤ base) : OwnAll enc e k w base' ls :=
  ⟨fun p hp => own_mono (h.1 p hp) hb, h.2⟩
/-- One more, in a block that is younger than all of them. -/
theorem OwnAll.snoc {α : Type} {enc : α → List Value} {e : TypeId} {k : Nat} {w : World} {base B : Nat} {ls : List (Value × List α)} {v : Value} {xs : List α} (h : OwnAll enc e k w base ls)
    (hlt : ∀ p ∈ ls, ∀ i, p.1.ownBlock = some i → i < B) (hv : w.ownsRow B e k v xs.length (xs.flatMap enc)) (hB : base ≤ B) : OwnAll enc e k w base (ls ++ [(v, xs)]) := by
  refine ⟨?_, List.pairwise_append.2 ⟨h.2, List.pairwise_singleton _ _, ?_⟩⟩
  · intro p hp
    rcases List.mem_append.1 hp with h1 | h1
    · exact h.1 p h1
    · simp at h1; subst h1; exact own_mono hv hB
  · intro p hp q hq i hi e
    simp at hq; subst hq
    have h1 := hlt p hp i hi
    have h2 := (hv.lt i e).1
    omega
theorem OwnAll.lt {α : Type} {enc : α → List Value} {e : TypeId} {k : Nat} {w : World} {base : Nat} {ls : List (Value × List α)} (h : OwnAll enc e k w base ls) : ∀ p ∈ ls, ∀ i, p.1.ownBlock = some i → i < w.heap.size :=
  fun p hp i hi => ((h.1 p hp).lt i hi).2
theorem pairwise_at {α : Type} {R : α → α → Prop} (hs : ∀ a b, R a b → R b a) : ∀ {l : List α} {i j : Nat} {a b : α}, l.Pairwise R → i ≠ j → l[i]? = some a → l[j]? = some b → R a b
  | [], i, j, a, b, _, _, h, _ => by simp at h
  | x :: l, 0, 0, a, b, _, hne, _, _ => absurd rfl hne
  | x :: l, 0, j + 1, a, b, hp, _, hi, hj => by
    simp at hi hj
    exact hi ▸ (List.pairwise_cons.1 hp).1 b (List.mem_of_getElem? hj)
  | x :: l, i + 1, 0, a, b, hp, _, hi, hj => by
    simp at hi hj
    exact hs _ _ (hj ▸ (List.pairwise_cons.1 hp).1 a (List.mem_of_getElem? hi))
  | x :: l, i + 1, j + 1, a, b, hp, hne, hi, hj => by
    simp at hi hj
    exact pairwise_at hs (List.pairwise_cons.1 hp).2 (by omega) hi hj
theorem apartSym {α : Type} (a b : Value × List α) (h : ∀ i, a.1.ownBlock = some i → b.1.ownBlock ≠ some i) : ∀ i, b.1.ownBlock = some i → a.1.ownBlock ≠ some i := fun i hb ha => h i ha hb
/-- The one at j is written anew (in its block or in a new one): the others stay. -/
theorem OwnAll.others {α : Type} {enc : α → List Value} {e : TypeId} {k : Nat} {w w' : World} {base : Nat} {ls : List (Value × List α)} {j : Nat} {p : Value × List α} (h : OwnAll enc e k w base ls) (hj : ls[j]? = some p) (hg : w.grownBy w' p.1.ownBlock) :
    ∀ i q, i ≠ j → ls[i]? = some q → w'.ownsRow base e k q.1 q.2.length (q.2.flatMap enc) := fun i q hne hi =>
  (h.1 q (List.mem_of_getElem? hi)).kept hg (by
    cases hv : q.1.ownBlock with
    | none => exact .inl rfl
    | some b => exact .inr (fun e => pairwise_at apartSym h.2 hne hi hj b hv e.symm))
/-- Blocks of two kinds of cells are two blocks. -/
theorem own_kinds {w : World} {b1 b2 k1 k2 n1 n2 : Nat} {e1 e2 : TypeId} {v1 v2 : Value} {xs1 xs2 : List Value} (h1 : w.ownsRow b1 e1 k1 v1 n1 xs1) (h2 : w.ownsRow b2 e2 k2 v2 n2 xs2) (hne : e1 ≠ e2) : ∀ i, v1.ownBlock = some i → v2.ownBlock ≠ some i := by
  intro i hi hj
  rcases h1.2 with ⟨rfl, _⟩ | ⟨g1, c1, cur1, rfl, _, hh1, _⟩
  · simp [Value.ownBlock] at hi
  rcases h2.2 with ⟨rfl, _⟩ | ⟨g2, c2, cur2, rfl, _, hh2, _⟩
  · simp [Value.ownBlock] at hj
  simp [Value.ownBlock] at hi hj
  subst hi
  subst hj
  rw [hh1] at hh2
  injection hh2 with hh2
  injection hh2 with _ he _
  exact hne he

/-- A drawn scope: its cells, its names in a block of their own. -/
def ScopeDrawn (base : Nat) (e : Ending) (w' : World) : Prop :=
  ∃ (x : Scope) (h : Hd), x.names.length = h.n ∧ h.n ≤ 2 ∧ (∀ y ∈ x.names, y.length ≤ 100) ∧ e = .returned (.agg #[.int .i64 x.kind, .slice h.A h.n h.c, .int .i64 x.events]) ∧ w'.ownsRow base 9 1 (.slice h.A h.n h.c) h.n (x.names.flatMap encStr)
/-- What holds in the worlds between: the cursor, the scope's cells at X, the answer's cells. -/
def Sc6 (w0 w : World) (X g : Nat) (k : Int) (v : Value) (ev : Int) (W : World) : Prop :=
  Cur w0 g W ∧ w.grownBy W (some g) ∧ W.ownsRow w.heap.size 32 3 (.slice (some ⟨w.heap.size, 0, none⟩) 1 1) 1 [.int .i64 0, .slice none 0 0, .int .i64 0] ∧ W.ownsRow X 32 3 (.slice (some ⟨X, 0, none⟩) 1 1) 1 [.int .i64 k, v, .int .i64 ev]
theorem Sc6.below {w0 w W W' : World} {X g : Nat} {k ev : Int} {v : Value} (h : Sc6 w0 w X g k v ev W) (hb : Below W.heap.size W W') : Sc6 w0 w X g k v ev W' :=
  ⟨h.1.below hb, gb_trans h.2.1 (gb_below (some g) hb), own_below h.2.2.1 hb, own_below h.2.2.2 hb⟩
theorem Sc6.gb {w0 w W W' : World} {X g : Nat} {k ev : Int} {v : Value} (h : Sc6 w0 w X g k v ev W) (hc : Cur w0 g W') (hg : W.grownBy W' (some g)) (h1 : g < w.heap.size) (h2 : g < X) : Sc6 w0 w X g k v ev W' :=
  ⟨hc, gb_trans h.2.1 hg, own_gb h.2.2.1 hg h1, own_gb h.2.2.2 hg h2⟩
section
variable {w0 w W : World} {X g : Nat} {k ev : Int} {v : Value} (h : Sc6 w0 w X g k v ev W)
include h
theorem Sc6.t0 : W.cell? ⟨X, 0, none⟩ = some (.int .i64 k) := h.2.2.2.cellAt 0 (by omega)
theorem Sc6.t1 : W.cell? ⟨X, 1, none⟩ = some v := h.2.2.2.cellAt 1 (by omega)
theorem Sc6.t2 : W.cell? ⟨X, 2, none⟩ = some (.int .i64 ev) := h.2.2.2.cellAt 2 (by omega)
theorem Sc6.tf (j : Nat) : W.frozen? ⟨X, j, none⟩ = false := h.2.2.2.frozenAt j
theorem Sc6.q0 : W.cell? ⟨w.heap.size, 0, none⟩ = some (.int .i64 0) := h.2.2.1.cellAt 0 (by omega)
theorem Sc6.q1 : W.cell? ⟨w.heap.size, 1, none⟩ = some (.slice none 0 0) := h.2.2.1.cellAt 1 (by omega)
theorem Sc6.q2 : W.cell? ⟨w.heap.size, 2, none⟩ = some (.int .i64 0) := h.2.2.1.cellAt 2 (by omega)
theorem Sc6.qf (j : Nat) : W.frozen? ⟨w.heap.size, j, none⟩ = false := h.2.2.1.frozenAt j
theorem Sc6.lt : X < W.heap.size := (h.2.2.2.lt X rfl).2
theorem Sc6.set (h1 : w0.heap.size ≤ X) (h2 : w.heap.size < X) (h3 : g < X) (u : Value) : Sc6 w0 w X g k u ev (W.setCell ⟨X, 1, none⟩ u) := by
  have s := h.2.2.2.stored 1 u
  have hb : Below X W (W.setCell ⟨X, 1, none⟩ u) := (Below.refl X W).setCell (by simp) u
  exact ⟨h.1.belowB hb h3, gb_belowB h.2.1 hb (by omega), h.2.2.1.kept s.2 (.inr (by simp [Value.ownBlock]; omega)), s.1⟩
end
theorem sc6_name {w0 w : World} {X g : Nat} {k ev : Int} {v : Value} (h1 : g < w.heap.size) (h2 : g < X) (W : World) (h : Sc6 w0 w X g k v ev W) :
    Calls Try.prog 22 #[.pointer (some ⟨g, 0, none⟩)] W fun e W' => (∃ s : ByteArray, s.size ≤ 100 ∧ e = .returned (.string s)) ∧ Sc6 w0 w X g k v ev W' :=
  (spec_l2NameG w0 g W h.1).mono (by
    rintro e w' ⟨⟨s, hs, rfl⟩, hc, hg⟩
    exact ⟨⟨s, hs, rfl⟩, h.gb hc hg h1 h2⟩)
theorem sc6_fin {w0 w W W' : World} {X g : Nat} {k ev : Int} {v : Value} (h : Sc6 w0 w X g k v ev W) (hgl : g < w.heap.size) (hb : Below w.heap.size W W') : Cur w0 g W' ∧ w.grownBy W' (some g) :=
  ⟨h.1.belowB hb hgl, gb_belowB h.2.1 hb (Nat.le_refl _)⟩
theorem own_lit_at {base : Nat} {e : TypeId} {size : Nat} {N : Nat} (W : World) (cs : Array Value) (n : Nat) (hN : W.heap.size = N) (hb : base ≤ W.heap.size) (hm : n ≤ maxLen) (hl : cs.size = n * size) :
    (W.alloc (.cells cs e)).ownsRow base e size (.slice (some ⟨N, 0, none⟩) n n) n cs.toList := by
  subst hN
  exact World.ownsRow_lit W cs n hb hm hl
set_option maxHeartbeats 6400000 in
theorem spec_l6Scope (w0 : World) (g : Nat) (w : World) (hc : Cur w0 g w) :
    Calls Try.prog 47 #[.pointer (some ⟨g, 0, none⟩)] w fun e w' => ScopeDrawn w.heap.size e w' ∧ Cur w0 g w' ∧ w.grownBy w' (some g) := by
  have hgl := hc.lt
  have hal : Below w.heap.size w (w.alloc (.cells #[.int .i64 0, .slice none 0 0, .int .i64 0] 32)) := (Below.refl _ _).alloc (Nat.le_refl _) _
  have HC0 := Lib.hid (hc.below hal)
  have HG0 := Lib.hid (gb_below (some g) hal)
  have HP := Lib.hid (World.ownsRow_lit (base := w.heap.size) (e := 32) (size := 3) w #[.int .i64 0, .slice none 0 0, .int .i64 0] 1 (Nat.le_refl _) (by unfold maxLen; omega) rfl)
  clear hc hal
  go_enter Try.func47, Try.ntmps47
  go_wp2_with fail
  refine (spec_l1Below 4 w0 g _ HC0.out (by omega) (by omega)).mono ?_
  rintro e w1 ⟨⟨m1, hm1, _, rfl⟩, hc1, hg1⟩
  have HP1 := Lib.hid (own_gb HP.out hg1 hgl.2)
  have HC1 := Lib.hid hc1
  have HG1 := Lib.hid (gb_trans HG0.out hg1)
  have HZ1 := Lib.hid hg1.size
  clear hc1 hg1 HC0 HG0 HP
  go_wp2_with fail
  refine (spec_l1Below 15 w0 g _ HC1.out (by omega) (by omega)).mono ?_
  rintro e w2 ⟨⟨m2, hm2, _, rfl⟩, hc2, hg2⟩
  have hww : w.heap.size < w2.heap.size := by have h1 := HZ1.out; have h2 := hg2.size; simp at h1; omega
  have hal : Below w2.heap.size w2 (w2.alloc (.cells #[.int .i64 (1 + m1), .slice none 0 0, .int .i64 (1 + m2)] 32)) := (Below.refl _ _).alloc (Nat.le_refl _) _
  have S2 : Sc6 w0 w w2.heap.size g (1 + m1) (.slice none 0 0) (1 + m2) (w2.alloc (.cells #[.int .i64 (1 + m1), .slice none 0 0, .int .i64 (1 + m2)] 32)) :=
    ⟨hc2.below hal, gb_trans (gb_trans HG1.out hg2) (gb_below _ hal), own_below (own_gb HP1.out hg2 hgl.2) hal, World.ownsRow_lit (base := w2.heap.size) (e := 32) (size := 3) w2 #[.int .i64 (1 + m1), .slice none 0 0, .int .i64 (1 + m2)] 1 (Nat.le_refl _) (by unfold maxLen; omega) rfl⟩
  have HC2 := Lib.hid hc2
  have HG2 := Lib.hid (gb_trans HG1.out hg2)
  have hq2 := own_gb HP1.out hg2 hgl.2
  have q0 := hq2.cellAt 0 (by omega)
  have q1 := hq2.cellAt 1 (by omega)
  have q2 := hq2.cellAt 2 (by omega)
  have qf0 := hq2.frozenAt 0
  have qf1 := hq2.frozenAt 1
  have qf2 := hq2.frozenAt 2
  simp only [List.getElem?_cons_zero, List.getElem?_cons_succ] at q0 q1 q2
  clear hc2 hg2 HC1 HG1 HP1 hal HZ1 hq2
  have HS := Lib.hid S2
  clear S2
  by_cases h3 : 1 + (m1 : Int) < 3
  · go_wp2
    refine bodyPost_ret (by simp [results, Try.results47, go_sem, q0, q1, q2, hww]; try rfl) rfl ?_
    refine ⟨⟨⟨1 + m1, [], 1 + m2⟩, ⟨none, 0, 0⟩, rfl, by simp, by simp, rfl, ⟨rfl, .inl ⟨rfl, rfl⟩⟩⟩, ?_⟩
    have hb : ∀ u0 u1 u2 o, Below w.heap.size w2 ((((w2.setCell ⟨w.heap.size, 0, none⟩ u0).setCell ⟨w.heap.size, 1, none⟩ u1).setCell ⟨w.heap.size, 2, none⟩ u2).alloc o) := by
      intro u0 u1 u2 o
      refine Below.alloc ?_ (by simp; omega) _
      (repeat (with_reducible refine Below.setCell ?_ ?_ _)) <;> first | exact Below.refl _ _ | (simp only []; omega)
    exact ⟨HC2.out.belowB (hb _ _ _ _) hgl.2, gb_belowB HG2.out (hb _ _ _ _) (Nat.le_refl _)⟩
  have hgX : g < w2.heap.size := by omega
  clear q0 q1 q2 qf0 qf1 qf2 HC2 HG2
  go_wp2_with fail
  generalize w2.alloc (.cells #[.int .i64 (1 + m1), .slice none 0 0, .int .i64 (1 + m2)] 32) = W2 at *
  generalize w2.heap.size = X at *
  have t1 := HS.out.t1
  have HSd := Lib.hid (HS.out.below (Below.refl _ W2).drew)
  have t1d : W2.drew.cell? ⟨X, 1, none⟩ = some (.slice none 0 0) := t1
  go_region_law (first
    | (refine step_app (enc := encStr) (k := 1) (fun _ => rfl) (fun _ u hu => by simp at hu; subst hu; rfl) (by omega) rfl (.tmp 15) (.tmp 18) 30 9 rfl (.string ByteArray.empty) 16 Try.underlying30 (by kernel_rfl) rfl w3.heap.size (.slice none 0 0) [] (by simp [Act.eval, Act.put]) ⟨rfl, .inl ⟨rfl, rfl⟩⟩ (some ⟨w3.heap.size, 0, none⟩) 1 1 [s.data.toList] (by simp [Act.eval, Act.put]) (Rd.new (enc := encStr) (k := 1) (fun _ => rfl) w3 #[.string s] 9 (n := 1) [s.data.toList] (by simp) rfl) (by simp) (by omega) (by simp) ?_; intro v' w4 hown4 hbel4; obtain ⟨A4, c4, rfl⟩ := own_form hown4
       have hb4 := ((Below.refl w3.heap.size w3).alloc (Nat.le_refl _) _).trans hbel4; have hs4 := hs3.below hb4; have y1 := hs4.t1; have yf1 := hs4.tf 1)
    | (refine step_call rfl 22 #[.tmp 16] _ rfl (enters_of Try.func22 (by kernel_rfl) rfl) #[.pointer (some ⟨g, 0, none⟩)] (by simp [Act.eval, Act.put]) (sc6_name hgl.2 hgX _ HSd.out) ?_; rintro e w3 ⟨⟨s, hs, rfl⟩, hs3⟩; refine ⟨_, rfl, ?_⟩; have x1 := hs3.t1; have hX3 := hs3.lt))
  all_goals
    have hwX : w0.heap.size ≤ X := by omega
    have HS5 := Lib.hid (hs4.set hwX hww hgX (.slice A4 1 c4))
    have HN5 := Lib.hid (own_mono (own_setCell hown4 (p := ⟨X, 1, none⟩) hX3 (.slice A4 1 c4)) (base' := X + 1) (by omega))
    have HSL := Lib.hid hs
    clear hs hs4 hb4 hown4 hbel4 y1 yf1 x1 hX3 hs3 t1 t1d HS HSd
    generalize w4.setCell ⟨X, 1, none⟩ (.slice A4 1 c4) = W5 at *
    go_wp2_with fail
    refine (spec_l1Once 3 w0 g _ HS5.out.1 (by omega) (by omega)).mono ?_
    rintro e w6 ⟨⟨b, rfl⟩, hc6, hg6⟩
    have hs6 := HS5.out.gb hc6 hg6 hgl.2 hgX
    have HN6 := Lib.hid (own_gb HN5.out hg6 (by omega))
    have t0 := hs6.t0
    have t1 := hs6.t1
    have t2 := hs6.t2
    have tf := hs6.tf 1
    have q0 := hs6.q0
    have q1 := hs6.q1
    have q2 := hs6.q2
    have qf0 := hs6.qf 0
    have qf1 := hs6.qf 1
    have qf2 := hs6.qf 2
    have hX6 := hs6.lt
    have hW6 : w.heap.size < w6.heap.size := by omega
    have HS6 := Lib.hid hs6
    clear hs6 hc6 hg6 HS5 HN5
    cases b
    · go_wp2
      refine bodyPost_ret (by simp [results, Try.results47, go_sem, q0, q1, q2, hww]; try rfl) rfl ?_
      refine ⟨⟨⟨1 + m1, [s.data.toList], 1 + m2⟩, ⟨A4, 1, c4⟩, rfl, by simp, by simp; exact HSL.out, rfl, ?_⟩, ?_⟩
      · refine own_mono (base := X + 1) ?_ (by omega)
        repeat (with_reducible refine own_setCell ?_ ?_ _)
        · exact HN6.out
        all_goals (simp only []; omega)
      · exact sc6_fin HS6.out hgl.2 (by (repeat (with_reducible refine Below.setCell ?_ ?_ _)) <;> first | exact Below.refl _ _ | (simp only []; omega))
    · go_wp2
      refine bodyPost_ret (by simp [results, Try.results47, go_sem, q0, q1, q2, hww, hW6, hX6]; try rfl) rfl ?_
      refine ⟨⟨⟨1 + m1, [[97], [105, 110, 98, 111, 120]], 1 + m2⟩, ⟨some ⟨w6.heap.size, 0, none⟩, 2, 2⟩, rfl, by simp, by simp, rfl, own_lit_at _ #[.string ⟨#[97]⟩, .string ⟨#[105, 110, 98, 111, 120]⟩] 2 (by simp) (by simp; omega) (by unfold maxLen; omega) rfl⟩, ?_⟩
      refine sc6_fin HS6.out hgl.2 ?_
      refine Below.alloc ?_ (by simp; omega) _
      (repeat (with_reducible refine Below.setCell ?_ ?_ _)) <;> first | exact Below.refl _ _ | (simp only []; omega)

/-- 'append(out, ys...)': what it writes, and where the answer lies. -/
theorem run_appG {α : Type} {enc : α → List Value} {k : Nat} (hk : ∀ x, (enc x).length = k) (h1c : ∀ x, ∀ u ∈ enc x, u.oneCell' = true) (hk0 : 0 < k)
    {P : Program} {w : World} (t ty e : TypeId)
    (z : Value) (bytes : Nat) (ht : P.underlying t = some (.slice e)) (hinfo : (P.info? e).map (fun i => (i.zero, i.size, i.bytes)) = some (some z, k, bytes)) (hzs : z.cells.size = k)
    (base : Nat) (v : Value) (xs : List α) (hown : w.ownsRow base e k v xs.length (xs.flatMap enc))
    (A : Option Addr) (m c : Nat) (ys : List α) (hr : Rd enc k w A m ys)
    (hbytes : (xs.length + m) * bytes ≤ 140737488355328) (hb1 : 1 ≤ bytes) (hbase : base ≤ w.heap.size) :
    ∃ v' w', (Builtin.append_ #[t, t] ty #[v, .slice A m c]).run P w = .ok v' w' ∧ w'.ownsRow base e k v' (xs ++ ys).length ((xs ++ ys).flatMap enc) ∧ w.grownBy w' v.ownBlock ∧ (v'.ownBlock = v.ownBlock ∨ v'.ownBlock = some w.heap.size) := by
  obtain ⟨i, hi, hz0, hz1, hz2⟩ := info_parts hinfo
  have hlm : ys.length = m := hr.1
  have h63 : xs.length + m ≤ maxLen := by
    have := Nat.le_trans (Nat.le_mul_of_pos_right (xs.length + m) hb1) hbytes
    unfold maxLen; omega
  have hflat : (xs ++ ys).flatMap enc = xs.flatMap enc ++ ys.flatMap enc := List.flatMap_append
  cases A with
  | some ad =>
    obtain ⟨v', w', hrun, h2, h3, _, h5⟩ := run_append_own_at (P := P) w base t ty e i z k bytes ht hi hz0 hz1 hz2 hzs hk0 v xs.length (xs.flatMap enc) hown ad m c (ys.flatMap enc) (by rw [flat_len hk, hlm]) (by
      intro j u hu
      have hj : j < (ys.flatMap enc).length := (List.getElem?_eq_some_iff.1 hu).1
      rw [flat_len hk, hlm] at hj
      have hm : 0 < m := Nat.pos_of_ne_zero (fun h => by subst h; simp at hj)
      obtain ⟨b, off, he, hb, hc⟩ := hr.2 hm
      injection he with he
      subst he
      have hq : j / k < m := Nat.div_lt_of_lt_mul (by rw [Nat.mul_comm]; exact hj)
      obtain ⟨y, hy⟩ := hr.get hq
      have hlt : j % k < (enc y).length := by rw [hk]; exact Nat.mod_lt _ hk0
      have h1 := flat_get hk ys (j / k) (j % k) y _ hy (List.getElem?_eq_getElem hlt)
      have hjj : j / k * k + j % k = j := by rw [Nat.mul_comm]; exact Nat.div_add_mod j k
      rw [hjj, hu] at h1
      have h2 := hc (j / k) y hy (j % k) _ (List.getElem?_eq_getElem hlt)
      rw [Addr.add_lit, ← hjj, ← Nat.add_assoc, h2, h1]) (by
      intro u hu
      obtain ⟨y, _, hy⟩ := List.mem_flatMap.1 hu
      exact h1c y u hy) h63 hbytes hbase
    refine ⟨v', w', hrun, ?_, h3, h5⟩
    rw [hflat, List.length_append, hlm]
    exact h2
  | none =>
    have hm : m = 0 := by
      rcases Nat.eq_zero_or_pos m with h | h
      · exact h
      · obtain ⟨b, off, he, _⟩ := hr.2 h
        cases he
    subst hm
    have hy : ys = [] := List.eq_nil_of_length_eq_zero hlm
    subst hy
    refine ⟨v, w, ?_, by simpa using hown, World.grownBy.refl _ _, .inl rfl⟩
    rcases hown.2 with ⟨rfl, _⟩ | ⟨g, cap, cur, rfl, _, _, hnc, _⟩
    · simp [Builtin.append_, run_underlying ht, sizeOf, typeInfo, hi, Builtin.lenOf, Builtin.firstCells]
    · simp [Builtin.append_, run_underlying ht, sizeOf, typeInfo, hi, Builtin.lenOf, Builtin.firstCells, hnc, storeCells]
/-- The same as one step of a region that draws its order. -/
theorem step_appG {α : Type} {enc : α → List Value} {k : Nat} (hk : ∀ x, (enc x).length = k) (h1c : ∀ x, ∀ u ∈ enc x, u.oneCell' = true) (hk0 : 0 < k)
    {P : Program} {w : World} {ops : Array Oper} {o : Oper} {a : Act} {K : Act → World → Prop} {Q : Exit → Act → World → Prop} {E : Prop} (hgd : o.guard = none) (s x : Operand) (t e : TypeId)
    (ho : o.op = .call { callee := .builtin .append, args := #[s, x], argTypes := #[t, t] })
    (z : Value) (bytes : Nat) (ht : P.underlying t = some (.slice e)) (hinfo : (P.info? e).map (fun i => (i.zero, i.size, i.bytes)) = some (some z, k, bytes)) (hzs : z.cells.size = k)
    (base : Nat) (v : Value) (xs : List α) (hs : a.eval s = v) (hown : w.ownsRow base e k v xs.length (xs.flatMap enc))
    (A : Option Addr) (m c : Nat) (ys : List α) (hx : a.eval x = .slice A m c) (hr : Rd enc k w A m ys)
    (hbytes : (xs.length + m) * bytes ≤ 140737488355328) (hb1 : 1 ≤ bytes) (hbase : base ≤ w.heap.size)
    (hK : ∀ v' w', w'.ownsRow base e k v' (xs ++ ys).length ((xs ++ ys).flatMap enc) → w.grownBy w' v.ownBlock → (v'.ownBlock = v.ownBlock ∨ v'.ownBlock = some w.heap.size) → K (a.put o.dst v') w') :
    if Region.wanted o (yielded ops a.tmps) = true then Oper.wp P o a w K Q else E := by
  have hw : Region.wanted o (yielded ops a.tmps) = true := by simp [Region.wanted, hgd]
  rw [if_pos hw]
  obtain ⟨v', w', hr2, h2, h3, h5⟩ := run_appG hk h1c hk0 (P := P) (w := w) t o.type e z bytes ht hinfo hzs base v xs hown A m c ys hr hbytes hb1 hbase
  unfold Oper.wp execOp
  simp only [ho, resolve, invoke, builtin, Sem.run_bind, Sem.run_pure, Result.andThen_ok, List.map_toArray, List.map_cons, List.map_nil, hs, hx, hr2]
  exact hK v' w' h2 h3 h5
theorem wpList_appN {α : Type} {enc : α → List Value} {k : Nat} (hk : ∀ x, (enc x).length = k) (h1c : ∀ x, ∀ u ∈ enc x, u.oneCell' = true) (hk0 : 0 < k)
    {P : Program} {w : World} {ops : Array Oper} {rest : List Oper} {o : Oper} {a : Act} {Q : Exit → Act → World → Prop} (hgd : o.guard = none) (s x : Operand) (t e : TypeId)
    (ho : o.op = .call { callee := .builtin .append, args := #[s, x], argTypes := #[t, t] })
    (z : Value) (bytes : Nat) (ht : P.underlying t = some (.slice e)) (hinfo : (P.info? e).map (fun i => (i.zero, i.size, i.bytes)) = some (some z, k, bytes)) (hzs : z.cells.size = k)
    (base : Nat) (v : Value) (xs : List α) (hs : a.eval s = v) (hown : w.ownsRow base e k v xs.length (xs.flatMap enc))
    (A : Option Addr) (m c : Nat) (ys : List α) (hx : a.eval x = .slice A m c) (hr : Rd enc k w A m ys)
    (hbytes : (xs.length + m) * bytes ≤ 140737488355328) (hb1 : 1 ≤ bytes) (hbase : base ≤ w.heap.size)
    (hK : ∀ v' w', w'.ownsRow base e k v' (xs ++ ys).length ((xs ++ ys).flatMap enc) → w.grownBy w' v.ownBlock → wpList P ops Q rest (a.put o.dst v') w') :
    wpList P ops Q (o :: rest) a w := by
  obtain ⟨v', w', hrun, h2, h3, _⟩ := run_appG hk h1c hk0 (P := P) (w := w) t o.type e z bytes ht hinfo hzs base v xs hown A m c ys hr hbytes hb1 hbase
  refine wpList_plain hgd fun K hK' => ?_
  unfold Oper.wp
  simp [execOp, ho, resolve, invoke, builtin, hs, hx, hrun, Result.andThen]
  exact hK' _ _ (hK v' w' h2 h3)

end Go.Proofs.Ytnphoodoheccoaa
