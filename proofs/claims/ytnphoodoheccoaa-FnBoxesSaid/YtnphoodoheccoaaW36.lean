/-
  Walks: what each function returns, and that it leaves what lay in memory as it was.
-/
import Derived.Test.YtnphoodoheccoaaProg
import Derived.Test.YtnphoodoheccoaaPlain
import Derived.Test.YtnphoodoheccoaaBase2
import Derived.Test.YtnphoodoheccoaaOpen2
import Derived.Test.YtnphoodoheccoaaShelf
import Derived.WalkKit
import Derived.WalkSpells
import Derived.WalkLawsBesides
import Derived.Lib.Hide
import Derived.Deep.LoopGhost
import Derived.Deep.QuietTactic
import Derived.BigQuiet
import Derived.Handy
import Derived.Deep.RegionHeld3
import Derived.StillTailTactics
import Derived.OpenShut
import Derived.ChangeSame
import Derived.Laws.StructEq

import Derived.Deep.DrawnRows
import Derived.Deep.Cut
import Derived.Deep.CutBlock
import Derived.Deep.CutRange

import Derived.Test.YtnphoodoheccoaaPlainT

import Derived.Test.YtnphoodoheccoaaW1

import Derived.Test.YtnphoodoheccoaaW2

import Derived.Test.YtnphoodoheccoaaW30

namespace Go.Proofs.Ytnphoodoheccoaa
open Go.ChangeShapes Go.WideShapes Go.ChangeAt Go.RowKit Go.Deep
set_option linter.unusedVariables false
set_option linter.unusedSimpArgs false

set_option maxRecDepth 20000

/-- Blocks of two kinds of cells are two blocks. -/
theorem own_kinds {w : World} {b1 b2 k1 k2 n1 n2 : Nat} {e1 e2 : TypeId} {v1 v2 : Value} {xs1 xs2 : List Value} (h1 : w.ownsRow b1 e1 k1 v1 n1 xs1) (h2 : w.ownsRow b2 e2 k2 v2 n2 xs2) (hne : e1 ≠ e2) : ∀ i, v1.ownBlock = some i → v2.ownBlock ≠ some i := by
  intro i hi hj
  rcases h1.2 with ⟨rfl, _⟩ | ⟨g1, c1, cur1, rfl, _, hh1, _⟩
  · simp [Value.ownBlock] at hi
  rcases h2.2 with ⟨rfl, _⟩ | ⟨g2, c2, cur2, rfl, _, hh2, _⟩
  · simp [Value.ownBlock] at hj
  simp [Value.ownBlock] at hi hj
  subst hi
  subst hj
  rw [hh1] at hh2
  injection hh2 with hh2
  injection hh2 with _ he _
  exact hne he
theorem own_kind_kept {w w' : World} {b1 b2 k1 k2 n1 n2 : Nat} {e1 e2 : TypeId} {v1 v2 : Value} {xs1 xs2 : List Value} (h1 : w.ownsRow b1 e1 k1 v1 n1 xs1) (h2 : w.ownsRow b2 e2 k2 v2 n2 xs2) (hne : e1 ≠ e2) (hg : w.grownBy w' v2.ownBlock) : w'.ownsRow b1 e1 k1 v1 n1 xs1 :=
  h1.kept hg (by
    cases hv : v1.ownBlock with
    | none => exact .inl rfl
    | some i => exact .inr (fun e => own_kinds h1 h2 hne i hv e.symm))

/-- 'append(out, ys...)': what it writes, and where the answer lies. -/
theorem run_appG {α : Type} {enc : α → List Value} {k : Nat} (hk : ∀ x, (enc x).length = k) (h1c : ∀ x, ∀ u ∈ enc x, u.oneCell' = true) (hk0 : 0 < k)
    {P : Program} {w : World} (t ty e : TypeId)
    (z : Value) (bytes : Nat) (ht : P.underlying t = some (.slice e)) (hinfo : (P.info? e).map (fun i => (i.zero, i.size, i.bytes)) = some (some z, k, bytes)) (hzs : z.cells.size = k)
    (base : Nat) (v : Value) (xs : List α) (hown : w.ownsRow base e k v xs.length (xs.flatMap enc))
    (A : Option Addr) (m c : Nat) (ys : List α) (hr : Rd enc k w A m ys)
    (hbytes : (xs.length + m) * bytes ≤ 140737488355328) (hb1 : 1 ≤ bytes) (hbase : base ≤ w.heap.size) :
    ∃ v' w', (Builtin.append_ #[t, t] ty #[v, .slice A m c]).run P w = .ok v' w' ∧ w'.ownsRow base e k v' (xs ++ ys).length ((xs ++ ys).flatMap enc) ∧ w.grownBy w' v.ownBlock ∧ (v'.ownBlock = v.ownBlock ∨ v'.ownBlock = some w.heap.size) := by
  obtain ⟨i, hi, hz0, hz1, hz2⟩ := info_parts hinfo
  have hlm : ys.length = m := hr.1
  have h63 : xs.length + m ≤ maxLen := by
    have := Nat.le_trans (Nat.le_mul_of_pos_right (xs.length + m) hb1) hbytes
    unfold maxLen; omega
  have hflat : (xs ++ ys).flatMap enc = xs.flatMap enc ++ ys.flatMap enc := List.flatMap_append
  cases A with
  | some ad =>
    obtain ⟨v', w', hrun, h2, h3, _, h5⟩ := run_append_own_at (P := P) w base t ty e i z k bytes ht hi hz0 hz1 hz2 hzs hk0 v xs.length (xs.flatMap enc) hown ad m c (ys.flatMap enc) (by rw [flat_len hk, hlm]) (by
      intro j u hu
      have hj : j < (ys.flatMap enc).length := (List.getElem?_eq_some_iff.1 hu).1
      rw [flat_len hk, hlm] at hj
      have hm : 0 < m := Nat.pos_of_ne_zero (fun h => by subst h; simp at hj)
      obtain ⟨b, off, he, hb, hc⟩ := hr.2 hm
      injection he with he
      subst he
      have hq : j / k < m := Nat.div_lt_of_lt_mul (by rw [Nat.mul_comm]; exact hj)
      obtain ⟨y, hy⟩ := hr.get hq
      have hlt : j % k < (enc y).length := by rw [hk]; exact Nat.mod_lt _ hk0
      have h1 := flat_get hk ys (j / k) (j % k) y _ hy (List.getElem?_eq_getElem hlt)
      have hjj : j / k * k + j % k = j := by rw [Nat.mul_comm]; exact Nat.div_add_mod j k
      rw [hjj, hu] at h1
      have h2 := hc (j / k) y hy (j % k) _ (List.getElem?_eq_getElem hlt)
      rw [Addr.add_lit, ← hjj, ← Nat.add_assoc, h2, h1]) (by
      intro u hu
      obtain ⟨y, _, hy⟩ := List.mem_flatMap.1 hu
      exact h1c y u hy) h63 hbytes hbase
    refine ⟨v', w', hrun, ?_, h3, h5⟩
    rw [hflat, List.length_append, hlm]
    exact h2
  | none =>
    have hm : m = 0 := by
      rcases Nat.eq_zero_or_pos m with h | h
      · exact h
      · obtain ⟨b, off, he, _⟩ := hr.2 h
        cases he
    subst hm
    have hy : ys = [] := List.eq_nil_of_length_eq_zero hlm
    subst hy
    refine ⟨v, w, ?_, by simpa using hown, World.grownBy.refl _ _, .inl rfl⟩
    rcases hown.2 with ⟨rfl, _⟩ | ⟨g, cap, cur, rfl, _, _, hnc, _⟩
    · simp [Builtin.append_, run_underlying ht, sizeOf, typeInfo, hi, Builtin.lenOf, Builtin.firstCells]
    · simp [Builtin.append_, run_underlying ht, sizeOf, typeInfo, hi, Builtin.lenOf, Builtin.firstCells, hnc, storeCells]
/-- The same as one step of a region that draws its order. -/
theorem step_appG {α : Type} {enc : α → List Value} {k : Nat} (hk : ∀ x, (enc x).length = k) (h1c : ∀ x, ∀ u ∈ enc x, u.oneCell' = true) (hk0 : 0 < k)
    {P : Program} {w : World} {ops : Array Oper} {o : Oper} {a : Act} {K : Act → World → Prop} {Q : Exit → Act → World → Prop} {E : Prop} (hgd : o.guard = none) (s x : Operand) (t e : TypeId)
    (ho : o.op = .call { callee := .builtin .append, args := #[s, x], argTypes := #[t, t] })
    (z : Value) (bytes : Nat) (ht : P.underlying t = some (.slice e)) (hinfo : (P.info? e).map (fun i => (i.zero, i.size, i.bytes)) = some (some z, k, bytes)) (hzs : z.cells.size = k)
    (base : Nat) (v : Value) (xs : List α) (hs : a.eval s = v) (hown : w.ownsRow base e k v xs.length (xs.flatMap enc))
    (A : Option Addr) (m c : Nat) (ys : List α) (hx : a.eval x = .slice A m c) (hr : Rd enc k w A m ys)
    (hbytes : (xs.length + m) * bytes ≤ 140737488355328) (hb1 : 1 ≤ bytes) (hbase : base ≤ w.heap.size)
    (hK : ∀ v' w', w'.ownsRow base e k v' (xs ++ ys).length ((xs ++ ys).flatMap enc) → w.grownBy w' v.ownBlock → (v'.ownBlock = v.ownBlock ∨ v'.ownBlock = some w.heap.size) → K (a.put o.dst v') w') :
    if Region.wanted o (yielded ops a.tmps) = true then Oper.wp P o a w K Q else E := by
  have hw : Region.wanted o (yielded ops a.tmps) = true := by simp [Region.wanted, hgd]
  rw [if_pos hw]
  obtain ⟨v', w', hr2, h2, h3, h5⟩ := run_appG hk h1c hk0 (P := P) (w := w) t o.type e z bytes ht hinfo hzs base v xs hown A m c ys hr hbytes hb1 hbase
  unfold Oper.wp execOp
  simp only [ho, resolve, invoke, builtin, Sem.run_bind, Sem.run_pure, Result.andThen_ok, List.map_toArray, List.map_cons, List.map_nil, hs, hx, hr2]
  exact hK v' w' h2 h3 h5
theorem wpList_appN {α : Type} {enc : α → List Value} {k : Nat} (hk : ∀ x, (enc x).length = k) (h1c : ∀ x, ∀ u ∈ enc x, u.oneCell' = true) (hk0 : 0 < k)
    {P : Program} {w : World} {ops : Array Oper} {rest : List Oper} {o : Oper} {a : Act} {Q : Exit → Act → World → Prop} (hgd : o.guard = none) (s x : Operand) (t e : TypeId)
    (ho : o.op = .call { callee := .builtin .append, args := #[s, x], argTypes := #[t, t] })
    (z : Value) (bytes : Nat) (ht : P.underlying t = some (.slice e)) (hinfo : (P.info? e).map (fun i => (i.zero, i.size, i.bytes)) = some (some z, k, bytes)) (hzs : z.cells.size = k)
    (base : Nat) (v : Value) (xs : List α) (hs : a.eval s = v) (hown : w.ownsRow base e k v xs.length (xs.flatMap enc))
    (A : Option Addr) (m c : Nat) (ys : List α) (hx : a.eval x = .slice A m c) (hr : Rd enc k w A m ys)
    (hbytes : (xs.length + m) * bytes ≤ 140737488355328) (hb1 : 1 ≤ bytes) (hbase : base ≤ w.heap.size)
    (hK : ∀ v' w', w'.ownsRow base e k v' (xs ++ ys).length ((xs ++ ys).flatMap enc) → w.grownBy w' v.ownBlock → wpList P ops Q rest (a.put o.dst v') w') :
    wpList P ops Q (o :: rest) a w := by
  obtain ⟨v', w', hrun, h2, h3, _⟩ := run_appG hk h1c hk0 (P := P) (w := w) t o.type e z bytes ht hinfo hzs base v xs hown A m c ys hr hbytes hb1 hbase
  refine wpList_plain hgd fun K hK' => ?_
  unfold Oper.wp
  simp [execOp, ho, resolve, invoke, builtin, hs, hx, hrun, Result.andThen]
  exact hK' _ _ (hK v' w' h2 h3)

set_option maxHeartbeats 1600000 in
theorem spec_l7Body (w0 : World) (g : Nat) (w : World) (hc : Cur w0 g w) :
    Calls Try.prog 70 #[.pointer (some ⟨g, 0, none⟩)] w fun e w' => (∃ s : ByteArray, s.size ≤ 100 ∧ e = .returned (.string s)) ∧ Cur w0 g w' ∧ w.grownBy w' (some g) := by
  have hc1 := Lib.hid hc
  clear hc
  go_enter Try.func70, Try.ntmps70
  go_wp2_with fail
  refine (spec_l1Pick (fun s => s.size ≤ 100) _ 7 7 w0 g _ (hc1.out.below (by go_grown)) (by omega) (by omega) (by have := hc1.out.lt; omega) _ (Holds.new _ _ _) rfl ?_).mono ?_
  · intro v hv
    simp only [List.mem_cons, List.not_mem_nil, or_false] at hv
    rcases hv with rfl | rfl | rfl | rfl | rfl | rfl | rfl <;> exact ⟨_, by decide, rfl⟩
  rintro e w3 ⟨⟨s, hs, rfl⟩, hc3, hg3⟩
  have hc3 := Lib.hid hc3
  have HG := Lib.hid (gb_trans (gb_below (some g) ((Below.refl w.heap.size w).alloc (Nat.le_refl _) _)) hg3)
  clear hg3
  go_wp2_with fail
  go_ret
  exact ⟨⟨s, hs, rfl⟩, hc3.out, HG.out⟩
theorem own_kind_keptB {w w' : World} {b1 b2 k1 k2 n1 n2 : Nat} {e1 e2 : TypeId} {v1 v2 : Value} {xs1 xs2 : List Value} (h1 : w.ownsRow b1 e1 k1 v1 n1 xs1) (h2 : w.ownsRow b2 e2 k2 v2 n2 xs2) (hne : e1 ≠ e2) (hg : w.grownBy w' v2.ownBlock) : w'.ownsRow b1 e1 k1 v1 n1 xs1 :=
  h1.kept hg (by
    cases hv : v1.ownBlock with
    | none => exact .inl rfl
    | some i => exact .inr (fun e => own_kinds h1 h2 hne i hv e.symm))
/-- What holds in the worlds between: the cursor, the answer's cells, the box's cells at X, its messages. -/
structure Bx (w0 w : World) (X g : Nat) (name : ByteArray) (vd nx : Int) (v : Value) (ms : List Msg) (W : World) : Prop where
  cur : Cur w0 g W
  gr : w.grownBy W (some g)
  q : W.ownsRow w.heap.size 40 4 (.slice (some ⟨w.heap.size, 0, none⟩) 1 1) 1 [.string ⟨#[]⟩, .int .i64 0, .int .i64 0, .slice none 0 0]
  t : W.ownsRow X 40 4 (.slice (some ⟨X, 0, none⟩) 1 1) 1 [.string name, .int .i64 vd, .int .i64 nx, v]
  s : W.ownsRow (w.heap.size + 1) 62 3 v ms.length (ms.flatMap encMsg)
section
variable {w0 w W W' : World} {X g : Nat} {name : ByteArray} {vd nx : Int} {v : Value} {ms : List Msg} (h : Bx w0 w X g name vd nx v ms W)
include h
theorem Bx.below (hb : Below W.heap.size W W') : Bx w0 w X g name vd nx v ms W' :=
  ⟨h.cur.below hb, gb_trans h.gr (gb_below (some g) hb), own_below h.q hb, own_below h.t hb, own_below h.s hb⟩
theorem Bx.gb (hc : Cur w0 g W') (hg : W.grownBy W' (some g)) (h1 : g < w.heap.size) (h2 : g < X) : Bx w0 w X g name vd nx v ms W' :=
  ⟨hc, gb_trans h.gr hg, own_gb h.q hg h1, own_gb h.t hg h2, own_gb h.s hg (by omega)⟩
theorem Bx.t0 : W.cell? ⟨X, 0, none⟩ = some (.string name) := h.t.cellAt 0 (by omega)
theorem Bx.t1 : W.cell? ⟨X, 1, none⟩ = some (.int .i64 vd) := h.t.cellAt 1 (by omega)
theorem Bx.t2 : W.cell? ⟨X, 2, none⟩ = some (.int .i64 nx) := h.t.cellAt 2 (by omega)
theorem Bx.t3 : W.cell? ⟨X, 3, none⟩ = some v := h.t.cellAt 3 (by omega)
theorem Bx.tf (j : Nat) : W.frozen? ⟨X, j, none⟩ = false := h.t.frozenAt j
theorem Bx.q0 : W.cell? ⟨w.heap.size, 0, none⟩ = some (.string ⟨#[]⟩) := h.q.cellAt 0 (by omega)
theorem Bx.q1 : W.cell? ⟨w.heap.size, 1, none⟩ = some (.int .i64 0) := h.q.cellAt 1 (by omega)
theorem Bx.q2 : W.cell? ⟨w.heap.size, 2, none⟩ = some (.int .i64 0) := h.q.cellAt 2 (by omega)
theorem Bx.q3 : W.cell? ⟨w.heap.size, 3, none⟩ = some (.slice none 0 0) := h.q.cellAt 3 (by omega)
theorem Bx.qf (j : Nat) : W.frozen? ⟨w.heap.size, j, none⟩ = false := h.q.frozenAt j
theorem Bx.lt : X < W.heap.size := (h.t.lt X rfl).2
/-- 'Next' written. -/
theorem Bx.setNext (h1 : w.heap.size < X) (h3 : g < w.heap.size) (n : Int) : Bx w0 w X g name vd n v ms (W.setCell ⟨X, 2, none⟩ (.int .i64 n)) := by
  have s := h.t.stored 2 (.int .i64 n)
  have hb : Below X W (W.setCell ⟨X, 2, none⟩ (.int .i64 n)) := (Below.refl X W).setCell (by simp) _
  exact ⟨h.cur.belowB hb (by omega), gb_belowB h.gr hb (by omega), h.q.kept s.2 (.inr (by simp [Value.ownBlock]; omega)), s.1, own_kind_keptB h.s h.t (by decide) s.2⟩
/-- A message appended, the slice written anew. -/
theorem Bx.push {v' : Value} {m : Msg} (h1 : w.heap.size < X) (h3 : g < w.heap.size) (ho : W'.ownsRow (w.heap.size + 1) 62 3 v' (ms ++ [m]).length ((ms ++ [m]).flatMap encMsg)) (hg : W.grownBy W' v.ownBlock) :
    W'.cell? ⟨X, 3, none⟩ = some v ∧ W'.cell? ⟨X, 2, none⟩ = some (.int .i64 nx) ∧ W'.frozen? ⟨X, 3, none⟩ = false ∧ Bx w0 w X g name vd nx v' (ms ++ [m]) (W'.setCell ⟨X, 3, none⟩ v') := by
  have hz : w.heap.size < W.heap.size := by have := h.lt; omega
  have hb0 : Below (w.heap.size + 1) W W' := gb_to_below hg (by omega) (fun k hk => (h.s.lt k hk).1)
  have hq := own_kind_keptB h.q h.s (by decide) hg
  have ht := own_kind_keptB h.t h.s (by decide) hg
  have s := ht.stored 3 v'
  have hb : Below X W' (W'.setCell ⟨X, 3, none⟩ v') := (Below.refl X W').setCell (by simp) _
  refine ⟨ht.cellAt 3 (by omega), ht.cellAt 2 (by omega), ht.frozenAt 3, (h.cur.belowB hb0 (by omega)).belowB hb (by omega), gb_belowB (gb_belowB h.gr hb0 (by omega)) hb (by omega), hq.kept s.2 (.inr (by simp [Value.ownBlock]; omega)), s.1, own_kind_keptB ho ht (by decide) s.2⟩
end
theorem bx_below {w0 w : World} {X g : Nat} {name : ByteArray} {vd nx : Int} {v : Value} {ms : List Msg} (h1 : g < w.heap.size) (h2 : w.heap.size < X) (W : World) (h : Bx w0 w X g name vd nx v ms W) (n : Int) (hn : n ≤ 1073741824) (hn0 : 0 < n) :
    Calls Try.prog 46 #[.pointer (some ⟨g, 0, none⟩), .int .i64 n] W fun e W' => (∃ m : Nat, (m : Int) < n ∧ e = .returned (.int .i64 m)) ∧ Bx w0 w X g name vd nx v ms W' :=
  (spec_l1Below n w0 g W h.cur hn (by omega)).mono (by
    rintro e w' ⟨⟨m, hm, _, rfl⟩, hc, hg⟩
    exact ⟨⟨m, hm hn0, rfl⟩, h.gb hc hg h1 (by omega)⟩)
theorem bx_body {w0 w : World} {X g : Nat} {name : ByteArray} {vd nx : Int} {v : Value} {ms : List Msg} (h1 : g < w.heap.size) (h2 : w.heap.size < X) (W : World) (h : Bx w0 w X g name vd nx v ms W) :
    Calls Try.prog 70 #[.pointer (some ⟨g, 0, none⟩)] W fun e W' => (∃ s : ByteArray, s.size ≤ 100 ∧ e = .returned (.string s)) ∧ Bx w0 w X g name vd nx v ms W' :=
  (spec_l7Body w0 g W h.cur).mono (by
    rintro e w' ⟨⟨s, hs, rfl⟩, hc, hg⟩
    exact ⟨⟨s, hs, rfl⟩, h.gb hc hg h1 (by omega)⟩)
/-- A drawn box: its messages are a few, in a block of their own. -/
def BoxDrawn (name : ByteArray) (vd : Int) (base : Nat) (e : Ending) (w' : World) : Prop :=
  ∃ (nx : Int) (A : Option Addr) (c : Nat) (ms : List Msg), e = .returned (.agg #[.string name, .int .i64 vd, .int .i64 nx, .slice A ms.length c]) ∧ ms.length ≤ 5 ∧ (∀ y ∈ ms, y.text.size ≤ 100) ∧ w'.ownsRow base 62 3 (.slice A ms.length c) ms.length (ms.flatMap encMsg)
theorem len_snocB {α : Type} (l : List α) (x : α) : (l ++ [x]).length = l.length + 1 := by simp
set_option maxHeartbeats 6400000 in
set_option maxRecDepth 20000 in
theorem spec_l9Box (name : ByteArray) (vd : Int) (w0 : World) (g : Nat) (w : World) (hc : Cur w0 g w) :
    Calls Try.prog 60 #[.pointer (some ⟨g, 0, none⟩), .string name, .int .i64 vd] w fun e w' => BoxDrawn name vd w.heap.size e w' ∧ Cur w0 g w' ∧ w.grownBy w' (some g) := by
  have hgl := hc.lt
  obtain ⟨X, hX⟩ : ∃ X, (w.alloc (.cells #[.string ⟨#[]⟩, .int .i64 0, .int .i64 0, .slice none 0 0] 40)).heap.size = X := ⟨_, rfl⟩
  have hww : w.heap.size < X := by rw [← hX]; simp
  have HS1 : Hid (Bx w0 w X g name vd 1 (.slice none 0 0) [] ((w.alloc (.cells #[.string ⟨#[]⟩, .int .i64 0, .int .i64 0, .slice none 0 0] 40)).alloc (.cells #[.string name, .int .i64 vd, .int .i64 1, .slice none 0 0] 40))) := by
    have hal : Below w.heap.size w (w.alloc (.cells #[.string ⟨#[]⟩, .int .i64 0, .int .i64 0, .slice none 0 0] 40)) := (Below.refl _ _).alloc (Nat.le_refl _) _
    have hP := World.ownsRow_lit (base := w.heap.size) (e := 40) (size := 4) w #[.string ⟨#[]⟩, .int .i64 0, .int .i64 0, .slice none 0 0] 1 (Nat.le_refl _) (by unfold maxLen; omega) rfl
    have hal2 : Below X (w.alloc (.cells #[.string ⟨#[]⟩, .int .i64 0, .int .i64 0, .slice none 0 0] 40)) ((w.alloc (.cells #[.string ⟨#[]⟩, .int .i64 0, .int .i64 0, .slice none 0 0] 40)).alloc (.cells #[.string name, .int .i64 vd, .int .i64 1, .slice none 0 0] 40)) := (Below.refl _ _).alloc (by omega) _
    have hal2' := hal2
    rw [← hX] at hal2'
    refine ⟨(hc.below hal).below hal2', gb_trans (gb_below (some g) hal) (gb_below _ hal2'), own_below hP hal2', ?_, ⟨rfl, .inl ⟨rfl, rfl⟩⟩⟩
    have := World.ownsRow_lit (base := X) (e := 40) (size := 4) (w.alloc (.cells #[.string ⟨#[]⟩, .int .i64 0, .int .i64 0, .slice none 0 0] 40)) #[.string name, .int .i64 vd, .int .i64 1, .slice none 0 0] 1 (by omega) (by unfold maxLen; omega) rfl
    rw [hX] at this
    exact this
  clear hc
  go_enter Try.func60, Try.ntmps60
  go_wp2_with fail
  generalize (w.alloc (.cells #[.string ⟨#[]⟩, .int .i64 0, .int .i64 0, .slice none 0 0] 40)).alloc (.cells #[.string name, .int .i64 vd, .int .i64 1, .slice none 0 0] 40) = W1 at *
  clear hX
  refine (spec_l1Below 6 w0 g _ HS1.out.cur (by omega) (by omega)).mono ?_
  rintro e w2 ⟨⟨m, hm, _, rfl⟩, hc2, hg2⟩
  have HS2 := Lib.hid (HS1.out.gb hc2 hg2 hgl.2 (by omega))
  clear hc2 hg2 HS1
  go_wp2_with fail
  go_loopg [9] m (fun gk i wr => ∃ (k : Nat) (nx : Int) (A : Option Addr) (c : Nat) (ms : List Msg), k + gk = m ∧ i = .int .i64 k ∧ ms.length ≤ k ∧ (0 ≤ nx ∧ nx ≤ 1 + 2 * (k : Int)) ∧ (∀ y ∈ ms, y.text.size ≤ 100) ∧ Bx w0 w X g name vd nx (.slice A ms.length c) ms wr)
  case atStart => exact ⟨0, 1, none, 0, [], by omega, rfl, Nat.le_refl _, by omega, by simp, HS2.out⟩
  case round =>
    obtain ⟨k, nx, A, c, ms, hk, rfl, hl, ⟨hn0, hn1⟩, hts, hs⟩ := hrel
    clear HS2
    have HTS := Lib.hid hts
    have HS := Lib.hid hs
    have HK := Lib.hid hk
    have hkm : k ≤ m := by omega
    have hm6 : m ≤ 5 := by omega
    clear hs hts hk
    by_cases hlt : k < m
    · have hlti : (k : Int) < (m : Int) := by omega
      have t2d : wr.drew.cell? ⟨X, 2, none⟩ = some (.int .i64 nx) := HS.out.t2
      have HSd := Lib.hid (HS.out.below (Below.refl _ wr).drew)
      have hXd := HSd.out.lt
      go_upto_region 6 with fail
      go_cut [] from 15 to 41 (fun wc => ∃ N : Int, (0 ≤ N ∧ N ≤ 2 + 2 * (k : Int)) ∧ Bx w0 w X g name vd N (.slice A ms.length c) ms wc)
      case first =>
        go_wp2_with fail
        go_region_law (refine step_call rfl 46 #[.tmp 22, .const (.int .i64 2)] _ rfl (enters_of Try.func46 (by kernel_rfl) rfl) #[.pointer (some ⟨g, 0, none⟩), .int .i64 2] (by simp [Act.eval, Act.put]) (bx_below hgl.2 hww _ HSd.out 2 (by omega) (by omega)) ?_; rintro e w3 ⟨⟨x, hx, rfl⟩, hs3⟩; refine ⟨_, rfl, ?_⟩; have hxw1 : IntKind.i64.wrap (nx + (x : Int)) = nx + (x : Int) := IntWalk.i64_in _ (by omega); have x2 := hs3.t2; have hX3 := hs3.lt; have xf := hs3.tf 2; have HS3 := Lib.hid hs3; clear hs3)
        all_goals
          have HS4 := Lib.hid (HS3.out.setNext hww hgl.2 (nx + (x : Int)))
          clear x2 xf hX3 HS3 t2d HSd hXd
          go_wp2_with fail
          go_meet
          case rel => exact ⟨nx + (x : Int), by omega, HS4.out⟩
      case rest =>
        obtain ⟨N, hN1, hcut⟩ := hcut
        clear t2d HSd hXd HS
        have HS4 := Lib.hid hcut
        clear hcut
        have t2d : wc.drew.cell? ⟨X, 2, none⟩ = some (.int .i64 N) := HS4.out.t2
        have t3d : wc.drew.cell? ⟨X, 3, none⟩ = some (.slice A ms.length c) := HS4.out.t3
        have HSd := Lib.hid (HS4.out.below (Below.refl _ wc).drew)
        go_upto_region 7 with fail
        go_cut [] from 15 to 41 (fun wc => ∃ (A' : Option Addr) (c' : Nat) (ms' : List Msg), ms'.length ≤ k + 1 ∧ (∀ y ∈ ms', y.text.size ≤ 100) ∧ Bx w0 w X g name vd N (.slice A' ms'.length c') ms' wc)
        case first =>
          go_wp2_with fail
          go_region_law (first
            | (refine step_appG (enc := encMsg) (k := 3) (fun _ => rfl) (fun _ u hu => by simp at hu; rcases hu with rfl | rfl | rfl <;> rfl) (by omega) rfl (.tmp 27) (.tmp 35) 38 62 rfl (.agg #[.int .i64 0, .int .i64 0, .string ByteArray.empty]) 32 Try.underlying38 (by kernel_rfl) rfl (w.heap.size + 1) (.slice A ms.length c) ms (by simp [Act.eval, Act.put]) (HS7.out.below ((Below.refl w7.heap.size w7).alloc (Nat.le_refl _) _)).s (some ⟨w7.heap.size, 0, none⟩) 1 1 [(⟨N, (f : Int), s⟩ : Msg)] (by simp [Act.eval, Act.put]) (Rd.new (enc := encMsg) (k := 3) (fun _ => rfl) w7 #[.int .i64 N, .int .i64 (f : Int), .string s] 62 (n := 1) [(⟨N, (f : Int), s⟩ : Msg)] (by simp) rfl) (by omega) (by omega) (by have := HS7.out.lt; simp; omega) ?_; intro v' w8 hown8 hg8 _; obtain ⟨A8, c8, rfl⟩ := own_form hown8
               have hp8 := (HS7.out.below ((Below.refl w7.heap.size w7).alloc (Nat.le_refl _) _)).push hww hgl.2 hown8 hg8; have y1 := hp8.1; have y2 := hp8.2.1; have yf := hp8.2.2.1; have hF8 := hp8.2.2.2; rw [len_snocB] at hF8; have HF8 := Lib.hid hF8; clear hp8 hF8 hown8 hg8)
            | (refine step_call rfl 70 #[.tmp 32] _ rfl (enters_of Try.func70 (by kernel_rfl) rfl) #[.pointer (some ⟨g, 0, none⟩)] (by simp [Act.eval, Act.put]) (bx_body hgl.2 hww _ HS6.out) ?_; rintro e w7 ⟨⟨s, hss, rfl⟩, hs7⟩; refine ⟨_, rfl, ?_⟩; have z2 := hs7.t2; have z3 := hs7.t3; have hX7 := hs7.lt; have HS7 := Lib.hid hs7; clear hs7)
            | (refine step_call rfl 46 #[.tmp 30, .const (.int .i64 32)] _ rfl (enters_of Try.func46 (by kernel_rfl) rfl) #[.pointer (some ⟨g, 0, none⟩), .int .i64 32] (by simp [Act.eval, Act.put]) (bx_below hgl.2 hww _ HSd.out 32 (by omega) (by omega)) ?_; rintro e w6 ⟨⟨f, hf, rfl⟩, hs6⟩; refine ⟨_, rfl, ?_⟩; have x2 := hs6.t2; have x3 := hs6.t3; have hX6 := hs6.lt; have HS6 := Lib.hid hs6; clear hs6))
          all_goals
            clear y1 y2 yf x2 x3 hX6 z2 z3 hX7 HS6 HS7 HSd t2d t3d HS4
            generalize w8.setCell ⟨X, 3, none⟩ _ = W9 at *
            go_wp2_with fail
            go_meet
            case rel => exact ⟨A8, c8, ms ++ [(⟨N, (f : Int), s⟩ : Msg)], by rw [len_snocB]; omega, fun y hy => by rcases List.mem_append.1 hy with hy | hy; exact HTS.out y hy; rw [List.mem_singleton.1 hy]; exact hss, by rw [len_snocB]; exact HF8.out⟩
        case rest =>
          obtain ⟨A', c', ms', hl', hts', hcut⟩ := hcut
          clear HSd t2d t3d HS4 HTS
          have HTS := Lib.hid hts'
          have t2 := hcut.t2
          have tf := hcut.tf 2
          have hX9 := hcut.lt
          have HS9 := Lib.hid (hcut.setNext hww hgl.2 (N + 1))
          clear hcut hts'
          go_wp2
          go_roundg (gk - 1)
          case rel => exact ⟨k + 1, N + 1, A', c', ms', by have := HK.out; omega, by go_num, hl', by omega, HTS.out, HS9.out⟩
          case measure => have := HK.out; omega
    · have hlti : ¬ (k : Int) < (m : Int) := by omega
      have t0 := HS.out.t0
      have t1 := HS.out.t1
      have t2 := HS.out.t2
      have t3 := HS.out.t3
      have q0 := HS.out.q0
      have q1 := HS.out.q1
      have q2 := HS.out.q2
      have q3 := HS.out.q3
      have qf0 := HS.out.qf 0
      have qf1 := HS.out.qf 1
      have qf2 := HS.out.qf 2
      have qf3 := HS.out.qf 3
      have hXl := HS.out.lt
      go_wp2
      refine bodyPost_ret (by simp [results, Try.results60, go_sem, q0, q1, q2, q3, hww]; try rfl) rfl ?_
      have hb : ∀ u0 u1 u2 u3, Below w.heap.size wr ((((wr.setCell ⟨w.heap.size, 0, none⟩ u0).setCell ⟨w.heap.size, 1, none⟩ u1).setCell ⟨w.heap.size, 2, none⟩ u2).setCell ⟨w.heap.size, 3, none⟩ u3) := by
        intro u0 u1 u2 u3
        (repeat (with_reducible refine Below.setCell ?_ ?_ _)) <;> first | exact Below.refl _ _ | (simp only []; omega)
      refine ⟨⟨nx, A, c, ms, rfl, by omega, HTS.out, ?_⟩, HS.out.cur.belowB (hb _ _ _ _) hgl.2, gb_belowB HS.out.gr (hb _ _ _ _) (Nat.le_refl _)⟩
      refine own_mono (base := w.heap.size + 1) ?_ (by omega)
      (repeat (with_reducible refine own_setCell ?_ ?_ _)) <;> first | exact HS.out.s | (simp only []; omega)

end Go.Proofs.Ytnphoodoheccoaa
