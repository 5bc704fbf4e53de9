/-
  Opening a slice that lies in a field.
-/
import Derived.Test.YtnphoodoheccoaaOpen
namespace Go.Proofs.Ytnphoodoheccoaa
open Go.ChangeShapes Go.WideShapes Go.ChangeAt Go.RowKit Go.Deep
set_option linter.unusedVariables false
section
variable {H : Type} {enc0 : TypeId × Value → H} {P : Program} {w : World} {base : Nat} {spare : Nat → Bool} {held : Bool}
theorem trod_rd {α : Type} [Inhabited α] (enc : α → List Value) (N : α → Prop) (k : Nat) {t e : TypeId} {fuel : Nat} {cs : List Value} {x : DataW H × List MemPlace} (ht : P.underlying t = some (.slice e))
    (hf : DataW.trod enc0 P w base spare held fuel t cs = some x) (hC : P.cellsOf e = k) (hk0 : 0 < k) (hk : ∀ y, (enc y).length = k)
    (hdec : ∀ (n : Nat) (cs : List Value) (x : DataW H × List MemPlace), DataW.trod enc0 P w base spare held n e cs = some x → ∃ y : α, cs = enc y ∧ N y) :
    ∃ A n c xs, cs = [.slice A n c] ∧ Rd enc k w A n xs ∧ n ≤ c ∧ c ≤ maxLen ∧ ∀ y ∈ xs, N y := by
  rcases open_slice ht hf with ⟨hcs, _⟩ | ⟨a, n, c, m, nn, D, Pl, hcs, _, hl, hm, hmm, _, hi⟩
  · exact ⟨none, 0, 0, [], hcs, Rd.none_ _ _ _ _, Nat.le_refl _, Nat.zero_le _, by simp⟩
  · have hlm : n ≤ m := by rw [hmm]; split <;> omega
    have hex : ∀ i, i < n → ∃ y : α, (∀ j v, (enc y)[j]? = some v → w.cell? (a.add (i * k + j)) = some v) ∧ N y := by
      intro i hin
      obtain ⟨cs', h1, h2⟩ := hi i (by omega)
      obtain ⟨y, rfl, hN⟩ := hdec _ _ _ h2
      obtain ⟨_, hlen, hat⟩ := World.cells?_some h1
      refine ⟨y, fun j v hj => ?_, hN⟩
      have hjl : j < P.cellsOf e := by rw [← hlen]; exact (List.getElem?_eq_some_iff.1 hj).1
      have h3 := hat j hjl
      rw [hC, Go.Deep.add_add] at h3
      rw [h3, hj]
    obtain ⟨V, hV⟩ := choose_lt (α := α) (p := fun i y => (∀ j v, (enc y)[j]? = some v → w.cell? (a.add (i * k + j)) = some v) ∧ N y) hex
    refine ⟨some a, n, c, (List.range n).map V, hcs, ⟨by simp, fun hn => ?_⟩, hl, hm, ?_⟩
    · have h0 := (hV 0 hn).1 0 _ (List.getElem?_eq_getElem (by rw [hk]; exact hk0))
      rw [Nat.zero_mul, Nat.zero_add] at h0
      have hz : a.add 0 = a := by unfold Addr.add; rfl
      rw [hz] at h0
      have hs := World.cell?_spot h0
      have hlt := World.block_lt_of_cell? w a h0
      obtain ⟨b, off, spot⟩ := a
      subst hs
      refine ⟨b, off, rfl, hlt, fun j x hx i v hv => ?_⟩
      have hj : j < n := by
        have := (List.getElem?_eq_some_iff.1 hx).1
        simpa using this
      have hxv : x = V j := by
        simp [List.getElem?_map, List.getElem?_range hj] at hx
        exact hx.symm
      subst hxv
      have := (hV j hj).1 i v hv
      rw [Addr.add_lit] at this
      rw [Nat.add_assoc]
      exact this
    · intro y hy
      obtain ⟨i, hir, rfl⟩ := List.mem_map.1 hy
      exact (hV i (List.mem_range.1 hir)).2
end
end Go.Proofs.Ytnphoodoheccoaa
