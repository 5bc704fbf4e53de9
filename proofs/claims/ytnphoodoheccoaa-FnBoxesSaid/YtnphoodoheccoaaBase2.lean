/-
  More words for memory: append as one step of a region that draws its order.
-/
import Derived.Test.YtnphoodoheccoaaBase
import Derived.Deep.AppendLies
import Derived.Deep.RegionLaw
namespace Go.Proofs.Ytnphoodoheccoaa
open Go.RowKit
set_option linter.unusedVariables false
theorem run_app {α : Type} {enc : α → List Value} {k : Nat} (hk : ∀ x, (enc x).length = k) (h1c : ∀ x, ∀ u ∈ enc x, u.oneCell' = true) (hk0 : 0 < k)
    {P : Program} {w : World} (t ty e : TypeId)
    (z : Value) (bytes : Nat) (ht : P.underlying t = some (.slice e)) (hinfo : (P.info? e).map (fun i => (i.zero, i.size, i.bytes)) = some (some z, k, bytes)) (hzs : z.cells.size = k)
    (base : Nat) (v : Value) (xs : List α) (hown : w.ownsRow base e k v xs.length (xs.flatMap enc))
    (A : Option Addr) (m c : Nat) (ys : List α) (hr : Rd enc k w A m ys)
    (hbytes : (xs.length + m) * bytes ≤ 140737488355328) (hb1 : 1 ≤ bytes) (hbase : base ≤ w.heap.size) :
    ∃ v' w', (Builtin.append_ #[t, t] ty #[v, .slice A m c]).run P w = .ok v' w' ∧ w'.ownsRow base e k v' (xs ++ ys).length ((xs ++ ys).flatMap enc) ∧ Below base w w' := by
  obtain ⟨i, hi, hz0, hz1, hz2⟩ := info_parts hinfo
  have hlm : ys.length = m := hr.1
  have h63 : xs.length + m ≤ maxLen := by
    have := Nat.le_trans (Nat.le_mul_of_pos_right (xs.length + m) hb1) hbytes
    unfold maxLen; omega
  have hflat : (xs ++ ys).flatMap enc = xs.flatMap enc ++ ys.flatMap enc := List.flatMap_append
  have hownlt : ∀ j, v.ownBlock = some j → base ≤ j := fun j hj => (hown.lt j hj).1
  have hgr : ∀ w', w.grownBy w' v.ownBlock → Below base w w' := fun w' hg => (Below.refl base w).grown hg hbase hownlt
  cases A with
  | some ad =>
    obtain ⟨v', w', hrun, h2, h3, _, _⟩ := run_append_own_at (P := P) w base t ty e i z k bytes ht hi hz0 hz1 hz2 hzs hk0 v xs.length (xs.flatMap enc) hown ad m c (ys.flatMap enc) (by rw [flat_len hk, hlm]) (by
      intro j u hu
      have hj : j < (ys.flatMap enc).length := (List.getElem?_eq_some_iff.1 hu).1
      rw [flat_len hk, hlm] at hj
      have hm : 0 < m := Nat.pos_of_ne_zero (fun h => by subst h; simp at hj)
      obtain ⟨b, off, he, hb, hc⟩ := hr.2 hm
      injection he with he
      subst he
      have hq : j / k < m := Nat.div_lt_of_lt_mul (by rw [Nat.mul_comm]; exact hj)
      obtain ⟨y, hy⟩ := hr.get hq
      have hlt : j % k < (enc y).length := by rw [hk]; exact Nat.mod_lt _ hk0
      have h1 := flat_get hk ys (j / k) (j % k) y _ hy (List.getElem?_eq_getElem hlt)
      have hjj : j / k * k + j % k = j := by rw [Nat.mul_comm]; exact Nat.div_add_mod j k
      rw [hjj, hu] at h1
      have h2 := hc (j / k) y hy (j % k) _ (List.getElem?_eq_getElem hlt)
      rw [Addr.add_lit, ← hjj, ← Nat.add_assoc, h2, h1]) (by
      intro u hu
      obtain ⟨y, _, hy⟩ := List.mem_flatMap.1 hu
      exact h1c y u hy) h63 hbytes hbase
    refine ⟨v', w', hrun, ?_, hgr w' h3⟩
    rw [hflat, List.length_append, hlm]
    exact h2
  | none =>
    have hm : m = 0 := by
      rcases Nat.eq_zero_or_pos m with h | h
      · exact h
      · obtain ⟨b, off, he, _⟩ := hr.2 h
        cases he
    subst hm
    have hy : ys = [] := List.eq_nil_of_length_eq_zero hlm
    subst hy
    refine ⟨v, w, ?_, by simpa using hown, Below.refl _ _⟩
    rcases hown.2 with ⟨rfl, _⟩ | ⟨g, cap, cur, rfl, _, _, hnc, _⟩
    · simp [Builtin.append_, run_underlying ht, sizeOf, typeInfo, hi, Builtin.lenOf, Builtin.firstCells]
    · simp [Builtin.append_, run_underlying ht, sizeOf, typeInfo, hi, Builtin.lenOf, Builtin.firstCells, hnc, storeCells]
/-- The same as one step of a region that draws its order. -/
theorem step_app {α : Type} {enc : α → List Value} {k : Nat} (hk : ∀ x, (enc x).length = k) (h1c : ∀ x, ∀ u ∈ enc x, u.oneCell' = true) (hk0 : 0 < k)
    {P : Program} {w : World} {ops : Array Oper} {o : Oper} {a : Act} {K : Act → World → Prop} {Q : Exit → Act → World → Prop} {E : Prop} (hgd : o.guard = none) (s x : Operand) (t e : TypeId)
    (ho : o.op = .call { callee := .builtin .append, args := #[s, x], argTypes := #[t, t] })
    (z : Value) (bytes : Nat) (ht : P.underlying t = some (.slice e)) (hinfo : (P.info? e).map (fun i => (i.zero, i.size, i.bytes)) = some (some z, k, bytes)) (hzs : z.cells.size = k)
    (base : Nat) (v : Value) (xs : List α) (hs : a.eval s = v) (hown : w.ownsRow base e k v xs.length (xs.flatMap enc))
    (A : Option Addr) (m c : Nat) (ys : List α) (hx : a.eval x = .slice A m c) (hr : Rd enc k w A m ys)
    (hbytes : (xs.length + m) * bytes ≤ 140737488355328) (hb1 : 1 ≤ bytes) (hbase : base ≤ w.heap.size)
    (hK : ∀ v' w', w'.ownsRow base e k v' (xs ++ ys).length ((xs ++ ys).flatMap enc) → Below base w w' → K (a.put o.dst v') w') :
    if Region.wanted o (yielded ops a.tmps) = true then Oper.wp P o a w K Q else E := by
  have hw : Region.wanted o (yielded ops a.tmps) = true := by simp [Region.wanted, hgd]
  rw [if_pos hw]
  obtain ⟨v', w', hr2, h2, h3⟩ := run_app hk h1c hk0 (P := P) (w := w) t o.type e z bytes ht hinfo hzs base v xs hown A m c ys hr hbytes hb1 hbase
  unfold Oper.wp execOp
  simp only [ho, resolve, invoke, builtin, Sem.run_bind, Sem.run_pure, Result.andThen_ok, List.map_toArray, List.map_cons, List.map_nil, hs, hx, hr2]
  exact hK v' w' h2 h3
/-- A call of a Go function as one step of a region that draws its order. -/
theorem step_call {P : Program} {w : World} {ops : Array Oper} {o : Oper} {a : Act} {K : Act → World → Prop} {Q : Exit → Act → World → Prop} {E : Prop} (hgd : o.guard = none) (f : FuncId) (xs : Array Operand) (ts : Array TypeId)
    (ho : o.op = .call { callee := .value (.func f), args := xs, argTypes := ts }) (eg : ∀ args w, (callFunc f args).run P w = .ok (.enter f args) w)
    (vs : Array Value) (hv : xs.map a.eval = vs) {R : Ending → World → Prop} (hc : Calls P f vs w R) (h : ∀ e w', R e w' → ∃ v, e = .returned v ∧ K (a.put o.dst v) w') :
    if Region.wanted o (yielded ops a.tmps) = true then Oper.wp P o a w K Q else E := by
  have hw : Region.wanted o (yielded ops a.tmps) = true := by simp [Region.wanted, hgd]
  rw [if_pos hw]
  have he : a.eval (.func f) = .func (.func f) #[] #[] := by cases a; rfl
  unfold Oper.wp execOp
  simp only [ho, resolve, invoke, he, hv, Deferred.ofValue]
  simp [eg]
  refine hc.mono fun e w' hR => ?_
  obtain ⟨v, rfl, hk⟩ := h e w' hR
  exact hk
end Go.Proofs.Ytnphoodoheccoaa
namespace Go.Proofs.Ytnphoodoheccoaa
open Go.RowKit
theorem own_setCell {w : World} {base : Nat} {e : TypeId} {k n : Nat} {v : Value} {xs : List Value} (h : w.ownsRow base e k v n xs) {p : Addr} (hp : p.block < base) (u : Value) : (w.setCell p u).ownsRow base e k v n xs := by
  refine ⟨h.1, ?_⟩
  rcases h.2 with hn | ⟨g, cap, cur, hv, hg, hh, r⟩
  · exact .inl hn
  · exact .inr ⟨g, cap, cur, hv, hg, (Below.heap_setCell w p u g (by omega)).trans hh, r⟩
end Go.Proofs.Ytnphoodoheccoaa
namespace Go.Proofs.Ytnphoodoheccoaa
open Go.RowKit
/-- The first cells of a block. -/
def Holds (w : World) (b : Nat) (vs : List Value) : Prop := b < w.heap.size ∧ ∀ i v, vs[i]? = some v → w.cell? ⟨b, i, none⟩ = some v
theorem Holds.below {w w' : World} {b : Nat} {vs : List Value} (h : Holds w b vs) (hb : Below w.heap.size w w') : Holds w' b vs :=
  ⟨Nat.lt_of_lt_of_le h.1 hb.size, fun i v hv => (hb.cell (p := ⟨b, i, none⟩) h.1).trans (h.2 i v hv)⟩
theorem Holds.new (w : World) (vs : List Value) (t : TypeId) : Holds (w.alloc (.cells vs.toArray t)) w.heap.size vs :=
  ⟨by simp, fun i v hv => by rw [World.cell?_alloc_mark]; simpa using hv⟩
theorem Holds.drewN {w : World} {b : Nat} {vs : List Value} (h : Holds w b vs) (n : Nat) : Holds (w.drewN n) b vs := h
theorem Holds.drew {w : World} {b : Nat} {vs : List Value} (h : Holds w b vs) : Holds w.drew b vs := h
end Go.Proofs.Ytnphoodoheccoaa
namespace Go.Proofs.Ytnphoodoheccoaa
open Go.RowKit
/-- Four cells of each of two blocks. -/
def Eight (w : World) (b g : Nat) (v0 v1 v2 v3 u3 : Value) : Prop :=
  w.cell? ⟨b, 0, none⟩ = some v0 ∧ w.cell? ⟨b, 1, none⟩ = some v1 ∧ w.cell? ⟨b, 2, none⟩ = some v2 ∧ w.cell? ⟨b, 3, none⟩ = some v3 ∧ w.cell? ⟨g, 0, none⟩ = some v0 ∧ w.cell? ⟨g, 1, none⟩ = some v1 ∧ w.cell? ⟨g, 2, none⟩ = some v2 ∧ w.cell? ⟨g, 3, none⟩ = some u3
theorem Eight.below {w w' : World} {b g : Nat} {v0 v1 v2 v3 u3 : Value} (h : Eight w b g v0 v1 v2 v3 u3) (hb : Below w.heap.size w w') (l1 : b < w.heap.size) (l2 : g < w.heap.size) : Eight w' b g v0 v1 v2 v3 u3 := by
  obtain ⟨h0, h1, h2, h3, k0, k1, k2, k3⟩ := h
  exact ⟨(hb.cell (p := ⟨b, 0, none⟩) l1).trans h0, (hb.cell (p := ⟨b, 1, none⟩) l1).trans h1, (hb.cell (p := ⟨b, 2, none⟩) l1).trans h2, (hb.cell (p := ⟨b, 3, none⟩) l1).trans h3,
    (hb.cell (p := ⟨g, 0, none⟩) l2).trans k0, (hb.cell (p := ⟨g, 1, none⟩) l2).trans k1, (hb.cell (p := ⟨g, 2, none⟩) l2).trans k2, (hb.cell (p := ⟨g, 3, none⟩) l2).trans k3⟩
end Go.Proofs.Ytnphoodoheccoaa
