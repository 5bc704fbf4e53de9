/-
  Walks: what each function returns, and that it leaves what lay in memory as it was.
-/
import Derived.Test.YtjpkceimokkpgaaGreatDoorProg
import Derived.Test.YtjpkceimokkpgaaGreatDoorPlain
import Derived.Test.YtjpkceimokkpgaaGreatDoorBase2
import Derived.Test.YtjpkceimokkpgaaGreatDoorOpen2
import Derived.Test.YtjpkceimokkpgaaGreatDoorShelf
import Derived.WalkKit
import Derived.WalkSpells
import Derived.WalkLawsBesides
import Derived.Lib.Hide
import Derived.Deep.LoopGhost
import Derived.Deep.QuietTactic
import Derived.BigQuiet
import Derived.Handy
import Derived.Deep.RegionHeld3
import Derived.StillTailTactics
import Derived.OpenShut
import Derived.ChangeSame
import Derived.Laws.StructEq

import Derived.Test.YtjpkceimokkpgaaGreatDoorPlainT

import Derived.Test.YtjpkceimokkpgaaGreatDoorBase3

import Derived.Test.YtjpkceimokkpgaaGreatDoorW1

import Derived.Test.YtjpkceimokkpgaaGreatDoorW2

import Derived.Test.YtjpkceimokkpgaaGreatDoorW3

import Derived.Test.YtjpkceimokkpgaaGreatDoorW4

import Derived.Test.YtjpkceimokkpgaaGreatDoorW5

import Derived.Test.YtjpkceimokkpgaaGreatDoorW9

import Derived.Test.YtjpkceimokkpgaaGreatDoorW30

namespace Go.Proofs.YtjpkceimokkpgaaGreatDoor
open Go.ChangeShapes Go.WideShapes Go.ChangeAt Go.RowKit Go.Deep
set_option linter.unusedVariables false
set_option linter.unusedSimpArgs false

set_option maxRecDepth 20000

/-- 'append(out, ys...)': what it writes, and where the answer lies. -/
theorem run_appG {α : Type} {enc : α → List Value} {k : Nat} (hk : ∀ x, (enc x).length = k) (h1c : ∀ x, ∀ u ∈ enc x, u.oneCell' = true) (hk0 : 0 < k)
    {P : Program} {w : World} (t ty e : TypeId)
    (z : Value) (bytes : Nat) (ht : P.underlying t = some (.slice e)) (hinfo : (P.info? e).map (fun i => (i.zero, i.size, i.bytes)) = some (some z, k, bytes)) (hzs : z.cells.size = k)
    (base : Nat) (v : Value) (xs : List α) (hown : w.ownsRow base e k v xs.length (xs.flatMap enc))
    (A : Option Addr) (m c : Nat) (ys : List α) (hr : Rd enc k w A m ys)
    (hbytes : (xs.length + m) * bytes ≤ 140737488355328) (hb1 : 1 ≤ bytes) (hbase : base ≤ w.heap.size) :
    ∃ v' w', (Builtin.append_ #[t, t] ty #[v, .slice A m c]).run P w = .ok v' w' ∧ w'.ownsRow base e k v' (xs ++ ys).length ((xs ++ ys).flatMap enc) ∧ w.grownBy w' v.ownBlock ∧ (v'.ownBlock = v.ownBlock ∨ v'.ownBlock = some w.heap.size) := by
  obtain ⟨i, hi, hz0, hz1, hz2⟩ := info_parts hinfo
  have hlm : ys.length = m := hr.1
  have h63 : xs.length + m ≤ maxLen := by
    have := Nat.le_trans (Nat.le_mul_of_pos_right (xs.length + m) hb1) hbytes
    unfold maxLen; omega
  have hflat : (xs ++ ys).flatMap enc = xs.flatMap enc ++ ys.flatMap enc := List.flatMap_append
  cases A with
  | some ad =>
    obtain ⟨v', w', hrun, h2, h3, _, h5⟩ := run_append_own_at (P := P) w base t ty e i z k bytes ht hi hz0 hz1 hz2 hzs hk0 v xs.length (xs.flatMap enc) hown ad m c (ys.flatMap enc) (by rw [flat_len hk, hlm]) (by
      intro j u hu
      have hj : j < (ys.flatMap enc).length := (List.getElem?_eq_some_iff.1 hu).1
      rw [flat_len hk, hlm] at hj
      have hm : 0 < m := Nat.pos_of_ne_zero (fun h => by subst h; simp at hj)
      obtain ⟨b, off, he, hb, hc⟩ := hr.2 hm
      injection he with he
      subst he
      have hq : j / k < m := Nat.div_lt_of_lt_mul (by rw [Nat.mul_comm]; exact hj)
      obtain ⟨y, hy⟩ := hr.get hq
      have hlt : j % k < (enc y).length := by rw [hk]; exact Nat.mod_lt _ hk0
      have h1 := flat_get hk ys (j / k) (j % k) y _ hy (List.getElem?_eq_getElem hlt)
      have hjj : j / k * k + j % k = j := by rw [Nat.mul_comm]; exact Nat.div_add_mod j k
      rw [hjj, hu] at h1
      have h2 := hc (j / k) y hy (j % k) _ (List.getElem?_eq_getElem hlt)
      rw [Addr.add_lit, ← hjj, ← Nat.add_assoc, h2, h1]) (by
      intro u hu
      obtain ⟨y, _, hy⟩ := List.mem_flatMap.1 hu
      exact h1c y u hy) h63 hbytes hbase
    refine ⟨v', w', hrun, ?_, h3, h5⟩
    rw [hflat, List.length_append, hlm]
    exact h2
  | none =>
    have hm : m = 0 := by
      rcases Nat.eq_zero_or_pos m with h | h
      · exact h
      · obtain ⟨b, off, he, _⟩ := hr.2 h
        cases he
    subst hm
    have hy : ys = [] := List.eq_nil_of_length_eq_zero hlm
    subst hy
    refine ⟨v, w, ?_, by simpa using hown, World.grownBy.refl _ _, .inl rfl⟩
    rcases hown.2 with ⟨rfl, _⟩ | ⟨g, cap, cur, rfl, _, _, hnc, _⟩
    · simp [Builtin.append_, run_underlying ht, sizeOf, typeInfo, hi, Builtin.lenOf, Builtin.firstCells]
    · simp [Builtin.append_, run_underlying ht, sizeOf, typeInfo, hi, Builtin.lenOf, Builtin.firstCells, hnc, storeCells]
/-- The same as one step of a region that draws its order. -/
theorem step_appG {α : Type} {enc : α → List Value} {k : Nat} (hk : ∀ x, (enc x).length = k) (h1c : ∀ x, ∀ u ∈ enc x, u.oneCell' = true) (hk0 : 0 < k)
    {P : Program} {w : World} {ops : Array Oper} {o : Oper} {a : Act} {K : Act → World → Prop} {Q : Exit → Act → World → Prop} {E : Prop} (hgd : o.guard = none) (s x : Operand) (t e : TypeId)
    (ho : o.op = .call { callee := .builtin .append, args := #[s, x], argTypes := #[t, t] })
    (z : Value) (bytes : Nat) (ht : P.underlying t = some (.slice e)) (hinfo : (P.info? e).map (fun i => (i.zero, i.size, i.bytes)) = some (some z, k, bytes)) (hzs : z.cells.size = k)
    (base : Nat) (v : Value) (xs : List α) (hs : a.eval s = v) (hown : w.ownsRow base e k v xs.length (xs.flatMap enc))
    (A : Option Addr) (m c : Nat) (ys : List α) (hx : a.eval x = .slice A m c) (hr : Rd enc k w A m ys)
    (hbytes : (xs.length + m) * bytes ≤ 140737488355328) (hb1 : 1 ≤ bytes) (hbase : base ≤ w.heap.size)
    (hK : ∀ v' w', w'.ownsRow base e k v' (xs ++ ys).length ((xs ++ ys).flatMap enc) → w.grownBy w' v.ownBlock → (v'.ownBlock = v.ownBlock ∨ v'.ownBlock = some w.heap.size) → K (a.put o.dst v') w') :
    if Region.wanted o (yielded ops a.tmps) = true then Oper.wp P o a w K Q else E := by
  have hw : Region.wanted o (yielded ops a.tmps) = true := by simp [Region.wanted, hgd]
  rw [if_pos hw]
  obtain ⟨v', w', hr2, h2, h3, h5⟩ := run_appG hk h1c hk0 (P := P) (w := w) t o.type e z bytes ht hinfo hzs base v xs hown A m c ys hr hbytes hb1 hbase
  unfold Oper.wp execOp
  simp only [ho, resolve, invoke, builtin, Sem.run_bind, Sem.run_pure, Result.andThen_ok, List.map_toArray, List.map_cons, List.map_nil, hs, hx, hr2]
  exact hK v' w' h2 h3 h5
theorem wpList_appN {α : Type} {enc : α → List Value} {k : Nat} (hk : ∀ x, (enc x).length = k) (h1c : ∀ x, ∀ u ∈ enc x, u.oneCell' = true) (hk0 : 0 < k)
    {P : Program} {w : World} {ops : Array Oper} {rest : List Oper} {o : Oper} {a : Act} {Q : Exit → Act → World → Prop} (hgd : o.guard = none) (s x : Operand) (t e : TypeId)
    (ho : o.op = .call { callee := .builtin .append, args := #[s, x], argTypes := #[t, t] })
    (z : Value) (bytes : Nat) (ht : P.underlying t = some (.slice e)) (hinfo : (P.info? e).map (fun i => (i.zero, i.size, i.bytes)) = some (some z, k, bytes)) (hzs : z.cells.size = k)
    (base : Nat) (v : Value) (xs : List α) (hs : a.eval s = v) (hown : w.ownsRow base e k v xs.length (xs.flatMap enc))
    (A : Option Addr) (m c : Nat) (ys : List α) (hx : a.eval x = .slice A m c) (hr : Rd enc k w A m ys)
    (hbytes : (xs.length + m) * bytes ≤ 140737488355328) (hb1 : 1 ≤ bytes) (hbase : base ≤ w.heap.size)
    (hK : ∀ v' w', w'.ownsRow base e k v' (xs ++ ys).length ((xs ++ ys).flatMap enc) → w.grownBy w' v.ownBlock → wpList P ops Q rest (a.put o.dst v') w') :
    wpList P ops Q (o :: rest) a w := by
  obtain ⟨v', w', hrun, h2, h3, _⟩ := run_appG hk h1c hk0 (P := P) (w := w) t o.type e z bytes ht hinfo hzs base v xs hown A m c ys hr hbytes hb1 hbase
  refine wpList_plain hgd fun K hK' => ?_
  unfold Oper.wp
  simp [execOp, ho, resolve, invoke, builtin, hs, hx, hrun, Result.andThen]
  exact hK' _ _ (hK v' w' h2 h3)

/-- Blocks of two kinds of cells are two blocks. -/
theorem own_kinds {w : World} {b1 b2 k1 k2 n1 n2 : Nat} {e1 e2 : TypeId} {v1 v2 : Value} {xs1 xs2 : List Value} (h1 : w.ownsRow b1 e1 k1 v1 n1 xs1) (h2 : w.ownsRow b2 e2 k2 v2 n2 xs2) (hne : e1 ≠ e2) : ∀ i, v1.ownBlock = some i → v2.ownBlock ≠ some i := by
  intro i hi hj
  rcases h1.2 with ⟨rfl, _⟩ | ⟨g1, c1, cur1, rfl, _, hh1, _⟩
  · simp [Value.ownBlock] at hi
  rcases h2.2 with ⟨rfl, _⟩ | ⟨g2, c2, cur2, rfl, _, hh2, _⟩
  · simp [Value.ownBlock] at hj
  simp [Value.ownBlock] at hi hj
  subst hi
  subst hj
  rw [hh1] at hh2
  injection hh2 with hh2
  injection hh2 with _ he _
  exact hne he
theorem own_kind_kept {w w' : World} {b1 b2 k1 k2 n1 n2 : Nat} {e1 e2 : TypeId} {v1 v2 : Value} {xs1 xs2 : List Value} (h1 : w.ownsRow b1 e1 k1 v1 n1 xs1) (h2 : w.ownsRow b2 e2 k2 v2 n2 xs2) (hne : e1 ≠ e2) (hg : w.grownBy w' v2.ownBlock) : w'.ownsRow b1 e1 k1 v1 n1 xs1 :=
  h1.kept hg (by
    cases hv : v1.ownBlock with
    | none => exact .inl rfl
    | some i => exact .inr (fun e => own_kinds h1 h2 hne i hv e.symm))

/-- What holds while the tokens grow: the tokens, the scope in hand, all that lay there. -/
structure Ft (B : Nat) (w : World) (X : Nat) (q : Scope × Hd) (v : Value) (l : List Token) (W : World) : Prop where
  o : W.ownsRow B 48 2 v l.length (l.flatMap encToken)
  s : W.ownsRow B 79 3 (.slice (some ⟨X, 0, none⟩) 1 1) 1 (encScope q)
  b : Below B w W
  z : B ≤ W.heap.size
section
variable {B : Nat} {w W W' : World} {X : Nat} {q : Scope × Hd} {v v' : Value} {l ys : List Token} (h : Ft B w X q v l W)
include h
theorem Ft.below (hb : Below W.heap.size W W') : Ft B w X q v l W' := ⟨own_below h.o hb, own_below h.s hb, h.b.trans (hb.mono h.z), Nat.le_trans h.z hb.size⟩
theorem Ft.c0 : W.cell? ⟨X, 0, none⟩ = some (.int .i64 q.1.kind) := h.s.cellAt 0 (by omega)
theorem Ft.c1 : W.cell? ⟨X, 1, none⟩ = some (.slice q.2.A q.2.n q.2.c) := h.s.cellAt 1 (by omega)
theorem Ft.c2 : W.cell? ⟨X, 2, none⟩ = some (.int .i64 q.1.events) := h.s.cellAt 2 (by omega)
theorem Ft.lt : X < W.heap.size := (h.s.lt X rfl).2
theorem Ft.app (ho : W'.ownsRow B 48 2 v' (l ++ ys).length ((l ++ ys).flatMap encToken)) (hg : W.grownBy W' v.ownBlock) : Ft B w X q v' (l ++ ys) W' :=
  ⟨ho, own_kind_kept h.s h.o (by decide) hg, h.b.trans (gb_to_below hg h.z (fun k hk => (h.o.lt k hk).1)), Nat.le_trans h.z hg.size⟩
end

set_option maxHeartbeats 6400000 in
set_option maxRecDepth 20000 in
theorem impl_FilterTokens (x : Filter) (h : FHd) (w : World) (i : FilterIs w x h) (f : x.Fit) (hml : ML w) :
    Calls Tryz.prog 39 #[.agg #[.bool x.on, .slice h.A h.n h.c]] w (RetOwn encToken 2 48 w (filterT x)) := by
  obtain ⟨A, n, c, rs⟩ := h
  obtain ⟨R, hR⟩ : ∃ R, filterT x = R := ⟨_, rfl⟩
  have HR := Lib.hid hR
  have HX := Lib.hid i.2.2.2
  obtain rfl : n = rs.length := i.1.1.symm
  rw [hR]
  clear hR
  simp only []
  have nB : Below w.heap.size w (w.alloc (.cells #[.bool x.on, .slice A rs.length c] 34)) := by go_grown
  have nP : Holds (w.alloc (.cells #[.bool x.on, .slice A rs.length c] 34)) w.heap.size [.bool x.on, .slice A rs.length c] := Holds.new w _ _
  have nI := i.below nB
  have nM := hml.below nB
  clear i hml
  go_enter Tryz.func39, Tryz.ntmps39
  have p0 := nP.2 0 (.bool x.on) rfl
  have p1 := nP.2 1 (.slice A rs.length c) rfl
  go_wp2_with fail
  generalize w.alloc (.cells #[.bool x.on, .slice A rs.length c] 34) = w1 at *
  refine (impl_FilterOk x ⟨A, rs.length, c, rs⟩ w1 nI f nM).mono ?_
  rintro e w2 ⟨rfl, hb⟩
  have HB := Lib.hid (nB.trans (hb.mono nB.size))
  have HP := Lib.hid (nP.below hb)
  have HI := Lib.hid (nI.below hb)
  have hz2 : w.heap.size ≤ w2.heap.size := HB.out.size
  clear nB nP nI nM hb p0 p1
  cases hok : filterOk x
  · have HN := Lib.hid (filterT_no hok)
    clear hok
    go_wp2
    go_ret
    have e : R = [] := by rw [← HR.out, HN.out]
    subst e
    exact ⟨none, 0, rfl, ⟨rfl, .inl ⟨rfl, rfl⟩⟩, HB.out⟩
  have p0 := HP.out.2 0 (.bool x.on) rfl
  have p1 := HP.out.2 1 (.slice A rs.length c) rfl
  have HOK := Lib.hid hok
  clear hok
  cases hon : x.on
  · have HN := Lib.hid (filterT_off HOK.out hon)
    rw [hon] at p0
    go_wp2_with fail
    refine (impl_atom ⟨#[110, 111, 110, 101]⟩ _).mono ?_
    rintro e w3 ⟨rfl, hb3⟩
    have HB3 := Lib.hid (HB.out.trans (hb3.mono HB.out.size))
    clear hb3
    go_wp2
    go_ret
    have e : R = [tkA [110, 111, 110, 101]] := by rw [← HR.out, HN.out]
    subst e
    exact ⟨_, _, rfl, own_lit_at (size := 2) w3 #[.int .i64 1, .string ⟨#[110, 111, 110, 101]⟩] 1 rfl HB3.out.size (by unfold maxLen; omega) rfl, HB3.out.alloc HB3.out.size _⟩
  have HON := Lib.hid hon
  rw [hon] at p0
  clear hon
  have hn3 : rs.length ≤ 3 := filterOk_few HOK.out HX.out
  have HS := Lib.hid (filterOk_each HOK.out HX.out)
  go_wp2_with fail
  refine (impl_atom ⟨#[115, 101, 116]⟩ _).mono ?_
  rintro e w3 ⟨rfl, hb3⟩
  have p1 := (HP.out.below hb3).2 1 (.slice A rs.length c) rfl
  have hl1 := own_lit_at (base := w2.heap.size) (e := 48) (size := 2) w3 #[.int .i64 1, .string ⟨#[115, 101, 116]⟩] 1 rfl hb3.size (by unfold maxLen; omega) rfl
  have hb4 := hb3.alloc hb3.size (.cells #[.int .i64 1, .string ⟨#[115, 101, 116]⟩] 48)
  have hlt3 : w.heap.size < w3.heap.size := World.block_lt_of_cell? w3 _ p1
  clear hb3 p0
  go_wp2_with fail
  have hl1' : (w3.alloc (.cells #[.int .i64 1, .string ⟨#[115, 101, 116]⟩] 48)).ownsRow w2.heap.size 48 2 (.slice (some ⟨w3.heap.size, 0, none⟩) 1 1) 1 ((toksTo rs 0).flatMap encToken) := hl1
  clear hl1 hlt3 p1
  go_loopw [3, 21] (fun o i wr => ∃ (k : Nat) (l : List Token), k ≤ rs.length ∧ i = .int .i64 k ∧ Hid (l = toksTo rs k) ∧ l.length ≤ 1 + 20 * k ∧ wr.ownsRow w2.heap.size 48 2 o l.length (l.flatMap encToken) ∧ Below w2.heap.size w2 wr) (fun _ i _ => rs.length - (intOf i).toNat)
  case atStart => exact ⟨0, toksTo rs 0, Nat.zero_le _, rfl, rfl, by simp [toksTo], hl1', hb4⟩
  case round =>
    obtain ⟨k, l, hk, rfl, hl, hll, hown, hW⟩ := hrel
    clear hl1' hb4
    by_cases hlt : k < rs.length
    · obtain ⟨b, off, q, rfl, _, hx, hc⟩ := (HI.out.1.below hW).elem hlt
      have g0 : wr.cell? ⟨b, off + k * 3, none⟩ = some (.int .i64 q.1.kind) := by simpa using hc 0 _ rfl
      have g1 : wr.cell? ⟨b, off + k * 3 + 1, none⟩ = some (.slice q.2.A q.2.n q.2.c) := hc 1 _ rfl
      have g2 : wr.cell? ⟨b, off + k * 3 + 2, none⟩ = some (.int .i64 q.1.events) := hc 2 _ rfl
      have hqm : q ∈ rs := List.mem_of_getElem? hx
      have hq := HS.out q hqm
      have hNI := HI.out.2.2.1 q hqm
      have HT := Lib.hid (toksTo_succ hx)
      obtain ⟨⟨kd, nms, evs⟩, ⟨A1, n1, c1⟩⟩ := q
      obtain ⟨hkd1, hkd2⟩ := scopeOk_kind hq
      have hnm3 : nms.length ≤ 3 := scopeOk_names hq
      simp only [] at hkd1 hkd2 g0 g1 g2
      obtain ⟨K, rfl⟩ : ∃ K : Nat, kd = (K : Int) := ⟨kd.toNat, by omega⟩
      have hn1 : nms.length = n1 := hNI.1.1
      have HNI := Lib.hid hNI
      have HFt0 := Lib.hid (show Ft w2.heap.size w2 wr.heap.size (⟨(K : Int), nms, evs⟩, ⟨A1, n1, c1⟩) u3 l (wr.alloc (.cells #[.int .i64 (K : Int), .slice A1 n1 c1, .int .i64 evs] 79)) from
        ⟨hown.alloc _, own_lit_at (size := 3) wr #[.int .i64 (K : Int), .slice A1 n1 c1, .int .i64 evs] 1 rfl hW.size (by unfold maxLen; omega) rfl, hW.alloc hW.size _, by have := hW.size; simp; omega⟩)
      have HL := Lib.hid hl.out
      clear hc hx hl hown hW hNI hq hqm
      go_wp2_with fail
      generalize wr.alloc (.cells #[.int .i64 (K : Int), .slice A1 n1 c1, .int .i64 evs] 79) = W0 at *
      generalize wr.heap.size = X at *
      have hK5 : (K : Int) < 5 := by omega
      have hK0 : (0 : Int) ≤ (K : Int) := by omega
      have hKn : K < scopeList.length := by show K < 5; omega
      obtain ⟨Z, hZ⟩ : ∃ Z : ByteArray, (⟨(scopeList.getD K []).toArray⟩ : ByteArray) = Z := ⟨_, rfl⟩
      have HZ := Lib.hid hZ
      have HFd := Lib.hid (HFt0.out.below (Below.refl _ W0).drew)
      have s0d : W0.drew.cell? ⟨X, 0, none⟩ = some (.int .i64 (K : Int)) := HFt0.out.c0
      have HN1 := Lib.hid hn1
      have HKN := Lib.hid hKn
      clear hZ HFt0 g0 g1 g2 hkd1 hkd2 hn1 hKn
      go_region_law (first
        | (refine step_appG (enc := encToken) (k := 2) (fun _ => rfl) (fun _ u hu => by simp at hu; rcases hu with rfl | rfl <;> rfl) (by omega) rfl (.tmp 25) (.tmp 33) 29 48 rfl (.agg #[.int .i64 0, .string ByteArray.empty]) 24 Tryz.underlying29 (by kernel_rfl) rfl w2.heap.size u3 l (by simp [Act.eval, Act.put]) (hf5.below ((Below.refl w5.heap.size w5).alloc (Nat.le_refl _) _)).o (some ⟨w5.heap.size, 0, none⟩) 2 2 [tkO, tkA (scopeList.getD K [])] (by simp [Act.eval, Act.put]) (Rd.new (enc := encToken) (k := 2) (fun _ => rfl) w5 #[.int .i64 3, .string ⟨#[]⟩, .int .i64 1, .string Z] 48 (n := 2) [tkO, tkA (scopeList.getD K [])] (by rw [← HZ.out]; rfl) rfl) (by omega) (by omega) (by have := hf5.z; simp; omega) ?_; intro v6 w6 hown6 hg6 _
           have HF6 := Lib.hid ((hf5.below ((Below.refl w5.heap.size w5).alloc (Nat.le_refl _) _)).app hown6 hg6); clear hown6 hg6 hf5 hb5)
        | (refine step_call rfl 31 #[.tmp 31] _ rfl (enters_of Tryz.func31 (by kernel_rfl) rfl) #[.string Z] (by simp [Act.eval, Act.put]) (impl_atom Z _) ?_; rintro e w5 ⟨rfl, hb5⟩; refine ⟨_, rfl, ?_⟩; have hf5 := hf4.below hb5; clear hf4 s4 z4)
        | (refine step_call rfl 81 #[] _ rfl (enters_of Tryz.func81 (by kernel_rfl) rfl) #[] (by simp [Act.eval, Act.put]) (impl_scopeWords _) ?_; rintro e w4 ⟨⟨g4, rfl, hh4⟩, hb4⟩; refine ⟨_, rfl, ?_⟩; have hf4 := HFd.out.below hb4; have s4 := hf4.c0; have z4 : w4.cell? ⟨g4, K, none⟩ = some (.string Z) := by (rw [← HZ.out]; exact words_holds hh4 HKN.out)
           clear hh4 hb4))
      all_goals
        obtain ⟨l6, hl6⟩ : ∃ l6, l ++ scopeHead ⟨(K : Int), nms, evs⟩ = l6 := ⟨_, rfl⟩
        have hf6 : Ft w2.heap.size w2 X (⟨(K : Int), nms, evs⟩, ⟨A1, n1, c1⟩) v6 l6 w6 := hl6 ▸ HF6.out
        have hl6n : l6.length = l.length + 2 := by rw [← hl6, List.length_append]; rfl
        have HL6 := Lib.hid hl6
        clear HF6 hl6 s0d HFd
        have c0 := hf6.c0
        have c1' := hf6.c1
        have HF6 := Lib.hid hf6
        clear hf6
        simp only [] at c0 c1'
        by_cases k3 : (K : Int) < 3
        · have hh : (decide ((K : Int) = 3) || decide ((K : Int) = 4)) = false := by rw [decide_eq_false (by omega), decide_eq_false (by omega)]; rfl
          have hN : scopeNames ⟨(K : Int), nms, evs⟩ = [] := by unfold scopeNames; exact if_pos k3
          obtain ⟨l8, hl8⟩ : ∃ l8, l6 ++ scopeNames ⟨(K : Int), nms, evs⟩ = l8 := ⟨_, rfl⟩
          have e8 : l8 = l6 := by rw [← hl8, hN, List.append_nil]
          have hl8n : l8.length ≤ l6.length + 5 := by rw [e8]; omega
          have HF8 := Lib.hid (show Ft w2.heap.size w2 X (⟨(K : Int), nms, evs⟩, ⟨A1, n1, c1⟩) v6 l8 w6 from e8 ▸ HF6.out)
          have HL8 := Lib.hid hl8
          clear hl8 e8 hN HF6
          go_wp2_with (go_at_call 82; refine (impl_hasNames _ _).mono ?_; rintro e w' ⟨rfl, rfl⟩; rw [hh])
          generalize v6 = v8 at *
          generalize w6 = w8 at *
          have HF8d := Lib.hid (HF8.out.below (Below.refl _ w8).drew)
          have s8d : w8.drew.cell? ⟨X, 2, none⟩ = some (.int .i64 evs) := HF8.out.c2
          obtain ⟨E, hE⟩ : ∃ E, selTo evs eventList 4 = E := ⟨_, rfl⟩
          have hEl : E.length ≤ 4 := by rw [← hE]; exact selTo_len _ _ _
          have HE := Lib.hid hE
          clear hE
          go_region_law (first
            | (refine step_appG (enc := encToken) (k := 2) (fun _ => rfl) (fun _ u hu => by simp at hu; rcases hu with rfl | rfl <;> rfl) (by omega) rfl (.tmp 43) (.tmp 48) 29 48 rfl (.agg #[.int .i64 0, .string ByteArray.empty]) 24 Tryz.underlying29 (by kernel_rfl) rfl w2.heap.size v8 l8 (by simp [Act.eval, Act.put]) hf11.o A11 _ c11 (groupT E) (by simp [Act.eval, Act.put]) hr11 (by rw [groupT_len]; omega) (by omega) hf11.z ?_; intro v12 w12 hown12 hg12 _
               have HF12 := Lib.hid (hf11.app hown12 hg12); clear hown12 hg12 hf11 hr11 hb11)
            | (refine step_call rfl 36 #[.tmp 47] _ rfl (enters_of Tryz.func36 (by kernel_rfl) rfl) #[.slice A10 E.length c10] (by simp [Act.eval, Act.put]) (impl_group A10 E.length c10 E _ (by omega) hr10) ?_; rintro e w11 ⟨A11, c11, rfl, ho11, hb11⟩; refine ⟨_, rfl, ?_⟩; have hf11 := hf10.below hb11; have hr11 := Rd.of_own (enc := encToken) (k := 2) (fun _ => rfl) ho11 rfl; clear hf10 hr10 ho11)
            | (refine step_call rfl 37 #[.tmp 44, .tmp 46] _ rfl (enters_of Tryz.func37 (by kernel_rfl) rfl) #[.slice (some ⟨g9, 0, none⟩) 4 4, .int .i64 evs] (by simp [Act.eval, Act.put]) (HE.out ▸ impl_namesOf (some ⟨g9, 0, none⟩) 4 4 evs eventList _ (by omega) hr9 eventList_fit) ?_; rintro e w10 ⟨A10, c10, rfl, ho10, hb10⟩; refine ⟨_, rfl, ?_⟩; have hf10 := hf9.below hb10; have hr10 := Rd.of_own (enc := encStr) (k := 1) (fun _ => rfl) ho10 rfl; clear hf9 s9 hr9 ho10 hb10)
            | (refine step_call rfl 83 #[] _ rfl (enters_of Tryz.func83 (by kernel_rfl) rfl) #[] (by simp [Act.eval, Act.put]) (impl_eventWords _) ?_; rintro e w9 ⟨⟨g9, rfl, hh9⟩, hb9⟩; refine ⟨_, rfl, ?_⟩; have hf9 := HF8d.out.below hb9; have s9 := hf9.c2; have hr9 := words_rd (n := 4) hh9 rfl; clear hh9 hb9))
          all_goals
            have hl12 : (l8 ++ groupT E).length ≤ l8.length + 6 := by rw [List.length_append, groupT_len]; omega
            obtain ⟨l12, hle12⟩ : ∃ l12, l8 ++ groupT E = l12 := ⟨_, rfl⟩
            rw [hle12] at HF12 hl12
            have HL12 := Lib.hid hle12
            clear hle12 s8d HF8d HF8
            have hrC := Lib.hid (Rd.new (enc := encToken) (k := 2) (fun _ => rfl) w12 #[.int .i64 4, .string ⟨#[]⟩] 48 (n := 1) [tkC] rfl rfl)
            have HF13 := Lib.hid (HF12.out.below ((Below.refl w12.heap.size w12).alloc (Nat.le_refl _) (.cells #[.int .i64 4, .string ⟨#[]⟩] 48)))
            go_wp2_with (at_builtin; refine wpList_appN (enc := encToken) (k := 2) (fun _ => rfl) (fun _ u hu => by simp at hu; rcases hu with rfl | rfl <;> rfl) (by omega) rfl _ _ 29 48 rfl (.agg #[.int .i64 0, .string ByteArray.empty]) 24 Tryz.underlying29 (by kernel_rfl) rfl w2.heap.size _ l12 rfl HF13.out.o _ _ _ _ rfl hrC.out (by omega) (by omega) HF13.out.z ?_; intro v14 w14 hown14 hg14)
            have hf14 := HF13.out.app hown14 hg14
            have HF14 := Lib.hid hf14
            have HEND := Lib.hid (show l12 ++ [tkC] = toksTo rs (k + 1) by
              rw [HT.out, ← HL12.out, ← HL8.out, ← HL6.out, ← HE.out, HL.out]
              simp only [scopeT, List.append_assoc])
            clear hf14 hown14 hg14
            go_roundw
            case rel => exact ⟨k + 1, l12 ++ [tkC], by omega, by go_num, HEND.out, by rw [List.length_append]; simp only [List.length_singleton]; omega, HF14.out.o, HF14.out.b⟩
            case measure => simp [intOf]; omega
        · have hh : (decide ((K : Int) = 3) || decide ((K : Int) = 4)) = true := by by_cases e : (K : Int) = 3; rw [decide_eq_true e]; rfl; rw [decide_eq_true (show (K : Int) = 4 by omega), Bool.or_true]
          have hN : scopeNames ⟨(K : Int), nms, evs⟩ = groupT nms := by unfold scopeNames; exact if_neg k3
          have HN := Lib.hid hN
          clear hN
          go_wp2_with (go_at_call 82; refine (impl_hasNames _ _).mono ?_; rintro e w' ⟨rfl, rfl⟩; rw [hh])
          refine (impl_group A1 n1 c1 nms _ (by have := HN1.out; omega) (HNI.out.1.below' HF6.out.b rfl)).mono ?_
          rintro e w7 ⟨A7, c7, rfl, ho7, hb7⟩
          have HF7 := Lib.hid (HF6.out.below hb7)
          have HR7 := Lib.hid (Rd.of_own (enc := encToken) (k := 2) (fun _ => rfl) ho7 rfl)
          have hgl : (groupT nms).length ≤ 5 := by rw [groupT_len]; omega
          clear ho7 hb7
          rw [← HN.out] at HR7 hgl ⊢
          generalize hG : scopeNames ⟨(K : Int), nms, evs⟩ = G at *
          have HG := Lib.hid hG
          clear hG
          go_wp2_with (at_builtin; refine wpList_appN (enc := encToken) (k := 2) (fun _ => rfl) (fun _ u hu => by simp at hu; rcases hu with rfl | rfl <;> rfl) (by omega) rfl _ _ 29 48 rfl (.agg #[.int .i64 0, .string ByteArray.empty]) 24 Tryz.underlying29 (by kernel_rfl) rfl w2.heap.size _ l6 rfl HF7.out.o _ _ _ G rfl HR7.out (by omega) (by omega) HF7.out.z ?_; intro v8 w8 hown8 hg8)
          have hf8 := HF7.out.app hown8 hg8
          obtain ⟨l8, hl8⟩ : ∃ l8, l6 ++ G = l8 := ⟨_, rfl⟩
          have hl8n : l8.length ≤ l6.length + 5 := by rw [← hl8, List.length_append]; omega
          rw [hl8] at hf8
          have HF8 := Lib.hid hf8
          have HL8 := Lib.hid (show l6 ++ scopeNames ⟨(K : Int), nms, evs⟩ = l8 by rw [HG.out]; exact hl8)
          clear hf8 hl8 hown8 hg8 HF7 HR7 HF6
          have HF8d := Lib.hid (HF8.out.below (Below.refl _ w8).drew)
          have s8d : w8.drew.cell? ⟨X, 2, none⟩ = some (.int .i64 evs) := HF8.out.c2
          obtain ⟨E, hE⟩ : ∃ E, selTo evs eventList 4 = E := ⟨_, rfl⟩
          have hEl : E.length ≤ 4 := by rw [← hE]; exact selTo_len _ _ _
          have HE := Lib.hid hE
          clear hE
          go_region_law (first
            | (refine step_appG (enc := encToken) (k := 2) (fun _ => rfl) (fun _ u hu => by simp at hu; rcases hu with rfl | rfl <;> rfl) (by omega) rfl (.tmp 43) (.tmp 48) 29 48 rfl (.agg #[.int .i64 0, .string ByteArray.empty]) 24 Tryz.underlying29 (by kernel_rfl) rfl w2.heap.size v8 l8 (by simp [Act.eval, Act.put]) hf11.o A11 _ c11 (groupT E) (by simp [Act.eval, Act.put]) hr11 (by rw [groupT_len]; omega) (by omega) hf11.z ?_; intro v12 w12 hown12 hg12 _
               have HF12 := Lib.hid (hf11.app hown12 hg12); clear hown12 hg12 hf11 hr11 hb11)
            | (refine step_call rfl 36 #[.tmp 47] _ rfl (enters_of Tryz.func36 (by kernel_rfl) rfl) #[.slice A10 E.length c10] (by simp [Act.eval, Act.put]) (impl_group A10 E.length c10 E _ (by omega) hr10) ?_; rintro e w11 ⟨A11, c11, rfl, ho11, hb11⟩; refine ⟨_, rfl, ?_⟩; have hf11 := hf10.below hb11; have hr11 := Rd.of_own (enc := encToken) (k := 2) (fun _ => rfl) ho11 rfl; clear hf10 hr10 ho11)
            | (refine step_call rfl 37 #[.tmp 44, .tmp 46] _ rfl (enters_of Tryz.func37 (by kernel_rfl) rfl) #[.slice (some ⟨g9, 0, none⟩) 4 4, .int .i64 evs] (by simp [Act.eval, Act.put]) (HE.out ▸ impl_namesOf (some ⟨g9, 0, none⟩) 4 4 evs eventList _ (by omega) hr9 eventList_fit) ?_; rintro e w10 ⟨A10, c10, rfl, ho10, hb10⟩; refine ⟨_, rfl, ?_⟩; have hf10 := hf9.below hb10; have hr10 := Rd.of_own (enc := encStr) (k := 1) (fun _ => rfl) ho10 rfl; clear hf9 s9 hr9 ho10 hb10)
            | (refine step_call rfl 83 #[] _ rfl (enters_of Tryz.func83 (by kernel_rfl) rfl) #[] (by simp [Act.eval, Act.put]) (impl_eventWords _) ?_; rintro e w9 ⟨⟨g9, rfl, hh9⟩, hb9⟩; refine ⟨_, rfl, ?_⟩; have hf9 := HF8d.out.below hb9; have s9 := hf9.c2; have hr9 := words_rd (n := 4) hh9 rfl; clear hh9 hb9))
          all_goals
            have hl12 : (l8 ++ groupT E).length ≤ l8.length + 6 := by rw [List.length_append, groupT_len]; omega
            obtain ⟨l12, hle12⟩ : ∃ l12, l8 ++ groupT E = l12 := ⟨_, rfl⟩
            rw [hle12] at HF12 hl12
            have HL12 := Lib.hid hle12
            clear hle12 s8d HF8d HF8
            have hrC := Lib.hid (Rd.new (enc := encToken) (k := 2) (fun _ => rfl) w12 #[.int .i64 4, .string ⟨#[]⟩] 48 (n := 1) [tkC] rfl rfl)
            have HF13 := Lib.hid (HF12.out.below ((Below.refl w12.heap.size w12).alloc (Nat.le_refl _) (.cells #[.int .i64 4, .string ⟨#[]⟩] 48)))
            go_wp2_with (at_builtin; refine wpList_appN (enc := encToken) (k := 2) (fun _ => rfl) (fun _ u hu => by simp at hu; rcases hu with rfl | rfl <;> rfl) (by omega) rfl _ _ 29 48 rfl (.agg #[.int .i64 0, .string ByteArray.empty]) 24 Tryz.underlying29 (by kernel_rfl) rfl w2.heap.size _ l12 rfl HF13.out.o _ _ _ _ rfl hrC.out (by omega) (by omega) HF13.out.z ?_; intro v14 w14 hown14 hg14)
            have hf14 := HF13.out.app hown14 hg14
            have HF14 := Lib.hid hf14
            have HEND := Lib.hid (show l12 ++ [tkC] = toksTo rs (k + 1) by
              rw [HT.out, ← HL12.out, ← HL8.out, ← HL6.out, ← HE.out, HL.out]
              simp only [scopeT, List.append_assoc])
            clear hf14 hown14 hg14
            go_roundw
            case rel => exact ⟨k + 1, l12 ++ [tkC], by omega, by go_num, HEND.out, by rw [List.length_append]; simp only [List.length_singleton]; omega, HF14.out.o, HF14.out.b⟩
            case measure => simp [intOf]; omega
    · have hke : k = rs.length := by omega
      have e : R = l := by rw [← HR.out, hl.out, hke]; exact (toksTo_all HOK.out HON.out HX.out).symm
      subst e
      have HO := Lib.hid hown
      have HB4 := Lib.hid (HB.out.trans (hW.mono HB.out.size))
      clear hl hown hW
      go_wp2
      go_ret
      exact retOwn_mk (own_mono HO.out hz2) HB4.out

end Go.Proofs.YtjpkceimokkpgaaGreatDoor
