import Derived.Lib.AppendStr
import Derived.Lib.Join
import Derived.Test.YtjpkceimokkpgaaGreatDoorBase2
import Derived.Test.YtjpkceimokkpgaaGreatDoorPlain
namespace Go.Proofs.YtjpkceimokkpgaaGreatDoor
open Go.RowKit
set_option linter.unusedVariables false
theorem strCells_flat (s : ByteArray) : Lib.strCells s = s.data.toList.flatMap encB := by
  unfold Lib.strCells
  rw [← List.map_eq_flatMap]
/-- 'append(b, s...)' on bytes that the call owns. -/
theorem wpList_appS {P : Program} {w : World} {ops : Array Oper} {rest : List Oper} {o : Oper} {a : Act} {Q : Exit → Act → World → Prop} (hgd : o.guard = none) (sl x : Operand) (t u e : TypeId)
    (ho : o.op = .call { callee := .builtin .append, args := #[sl, x], argTypes := #[t, u] }) (ht : P.underlying t = some (.slice e)) (hu : P.underlying u = some .string)
    (hinfo : (P.info? e).map (fun i => (i.zero, i.size, i.bytes)) = some (some (.int .u8 0), 1, 1))
    (base : Nat) (v : Value) (xs : Str) (hs : a.eval sl = v) (hown : w.ownsRow base e 1 v xs.length (xs.flatMap encB)) (s : ByteArray) (hx : a.eval x = .string s)
    (hb : xs.length + s.size ≤ 140737488355328) (hbase : base ≤ w.heap.size)
    (hK : ∀ v' w', w'.ownsRow base e 1 v' (xs ++ s.data.toList).length ((xs ++ s.data.toList).flatMap encB) → Below base w w' → wpList P ops Q rest (a.put o.dst v') w') :
    wpList P ops Q (o :: rest) a w := by
  obtain ⟨i, hi, hzz⟩ := Option.map_eq_some_iff.1 hinfo
  simp only [Prod.mk.injEq] at hzz
  obtain ⟨hz, hsz, hby⟩ := hzz
  refine Lib.wpList_append_own_string w hgd sl x t u ho base e i ht hu hi hz hsz hby v xs.length (xs.flatMap encB) hs hown s hx (by unfold maxLen; omega) hb hbase ?_
  intro v' w' h1 h2 _
  refine hK v' w' ?_ ((Below.refl base w).grown h2 hbase (fun j hj => (hown.lt j hj).1))
  rw [List.flatMap_append, List.length_append, ← strCells_flat, ← size_len]
  exact h1
theorem join_take_succ {xs : List Str} {k : Nat} {x : Str} (sep : Str) (h : xs[k]? = some x) : Lib.join (xs.take (k + 1)) sep = if k = 0 then x else Lib.join (xs.take k) sep ++ sep ++ x := by
  cases xs with
  | nil => simp at h
  | cons a r =>
    cases k with
    | zero =>
      simp at h; subst h
      simp [Lib.join_one]
    | succ k =>
      have h' : r[k]? = some x := by simpa using h
      rw [if_neg (by omega), List.take_succ_cons, List.take_succ_cons, Lib.join_cons, Lib.join_cons, Lib.joinTail_take_succ sep r k x h']
      simp [List.append_assoc]
theorem join_len_le {M S : Nat} (sep : Str) (hs : sep.length ≤ S) : ∀ (xs : List Str), (∀ y ∈ xs, y.length ≤ M) → (Lib.join xs sep).length ≤ xs.length * (M + S)
  | [], _ => by simp [Lib.join_nil]
  | x :: r, h => by
    rw [Lib.join_cons, List.length_append, Lib.joinTail_length]
    have hx := h x (List.mem_cons_self ..)
    have hl : ∀ (l : List Str), (∀ y ∈ l, y.length ≤ M) → Lib.lens l ≤ l.length * M := by
      intro l
      induction l with
      | nil => intro _; simp [Lib.lens]
      | cons a l ih =>
        intro h
        have h1 := ih (fun y hy => h y (List.mem_cons_of_mem _ hy))
        have h2 := h a (List.mem_cons_self ..)
        simp only [Lib.lens, List.map_cons, List.sum_cons, List.length_cons] at h1 ⊢
        rw [Nat.succ_mul]; omega
    have h1 := hl r (fun y hy => h y (List.mem_cons_of_mem _ hy))
    have h2 : sep.length * r.length ≤ r.length * S := by rw [Nat.mul_comm]; exact Nat.mul_le_mul_left _ hs
    rw [List.length_cons, Nat.succ_mul, Nat.mul_add]
    omega
theorem join_bound {xs : List Str} {sep : Str} (hn : xs.length ≤ 1048576) (hf : ∀ y ∈ xs, y.length ≤ 1048576) (hs : sep.length ≤ 1048576) : (Lib.join xs sep).length ≤ 2199023255552 := by
  have h1 := join_len_le sep hs xs hf
  have h2 : xs.length * (1048576 + 1048576) ≤ 1048576 * (1048576 + 1048576) := Nat.mul_le_mul_right _ hn
  omega
theorem mem_take {α : Type} {l : List α} {k : Nat} {x : α} (h : x ∈ l.take k) : x ∈ l := List.mem_of_mem_take h
theorem join_take_bound {xs : List Str} {sep : Str} (k : Nat) (hn : xs.length ≤ 1048576) (hf : ∀ y ∈ xs, y.length ≤ 1048576) (hs : sep.length ≤ 1048576) : (Lib.join (xs.take k) sep).length ≤ 2199023255552 :=
  join_bound (by rw [List.length_take]; omega) (fun y hy => hf y (mem_take hy)) hs
end Go.Proofs.YtjpkceimokkpgaaGreatDoor
