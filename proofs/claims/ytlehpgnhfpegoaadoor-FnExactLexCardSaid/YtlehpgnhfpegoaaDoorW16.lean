/-
  Walks: what each function returns, and that it leaves what lay in memory as it was.
-/
import Derived.Test.YtlehpgnhfpegoaaDoorProg
import Derived.Test.YtlehpgnhfpegoaaDoorPlain
import Derived.Test.YtlehpgnhfpegoaaDoorBase2
import Derived.Test.YtlehpgnhfpegoaaDoorOpen2
import Derived.Test.YtlehpgnhfpegoaaDoorShelf
import Derived.WalkKit
import Derived.WalkSpells
import Derived.WalkLawsBesides
import Derived.Lib.Hide
import Derived.Deep.LoopGhost
import Derived.Deep.QuietTactic
import Derived.BigQuiet
import Derived.Handy
import Derived.Deep.RegionHeld3
import Derived.StillTailTactics
import Derived.OpenShut
import Derived.ChangeSame
import Derived.Laws.StructEq

import Derived.Test.YtlehpgnhfpegoaaDoorPlainT

import Derived.Test.YtlehpgnhfpegoaaDoorW1

import Derived.Test.YtlehpgnhfpegoaaDoorW2

import Derived.Test.YtlehpgnhfpegoaaDoorW3

import Derived.Test.YtlehpgnhfpegoaaDoorW4

import Derived.Test.YtlehpgnhfpegoaaDoorW5

import Derived.Test.YtlehpgnhfpegoaaDoorW6

import Derived.Test.YtlehpgnhfpegoaaDoorBase3

import Derived.Lib.ItoaMem
import Derived.Lib.ItoaLen
import Derived.Lib.LaidTab

import Derived.Lib.AtoiTie
import Derived.Lib.AtoiBound
import Derived.Lib.ConvBytes

namespace Go.Proofs.YtlehpgnhfpegoaaDoor
open Go.ChangeShapes Go.WideShapes Go.ChangeAt Go.RowKit Go.Deep
set_option linter.unusedVariables false
set_option linter.unusedSimpArgs false

set_option maxRecDepth 20000

set_option maxHeartbeats 800000 in
theorem laws_markText (n : Int) (w : World) (hn : n ≤ 1152921504606846976) :
    Calls Tryd.prog 22 #[.int .i64 n] w fun e w' => e = .returned (.string ⟨(mt n).toArray⟩) ∧ Below w.heap.size w w' := by
  by_cases h0 : n ≤ 0
  · have hm : mt n = [109, 48] := by unfold mt; rw [if_pos h0]
    have HM := Lib.hid hm
    clear hm
    go_enter Tryd.func22, Tryd.ntmps22
    go_wp2
    go_ret
    exact ⟨by rw [HM.out]; rfl, Below.refl _ _⟩
  · obtain ⟨K, rfl⟩ := Int.eq_ofNat_of_zero_le (show 0 ≤ n by omega)
    have hK : 0 < K := by omega
    have hm : mt (K : Int) = 109 :: mtGo K K [] := by unfold mt; rw [if_neg h0, Int.toNat_natCast]
    have HM := Lib.hid hm
    clear hm h0
    go_enter Tryd.func22, Tryd.ntmps22
    go_wp2_with fail
    go_loopw [0, 3] (fun i o wr => ∃ (k : Nat) (l : Str), i = .int .i64 k ∧ o = .string ⟨l.toArray⟩ ∧ l.length + k ≤ K ∧ Hid (mtGo k k l = mtGo K K []) ∧ Below w.heap.size w wr) (fun i _ _ => (intOf i).toNat)
    case atStart => exact ⟨K, [], rfl, rfl, by simp, rfl, Below.refl _ _⟩
    case round =>
      obtain ⟨k, l, rfl, rfl, hl, hg, hW⟩ := hrel
      by_cases hk : 0 < k
      · have hcv := run_ofBytes (P := Tryd.prog) 28 9 5 Tryd.underlying28 Tryd.underlying5 Tryd.underlying9
          (Rd.new (enc := encB) (k := 1) (fun _ => rfl) wr #[.int .u8 (48 + (k : Int) % 10)] 5 (n := 1) [UInt8.ofNat (48 + k % 10)] (by simp [encB]; omega) rfl) 1
        have hstep : mtGo (k / 10) (k / 10) (UInt8.ofNat (48 + k % 10) :: l) = mtGo K K [] := by rw [← hg.out]; exact (mtGo_step k l hk).symm
        have Hstep := Lib.hid hstep
        clear hstep hg
        have hd : k / 10 + 1 ≤ k := by omega
        generalize UInt8.ofNat (48 + k % 10) = c at hcv Hstep
        go_wp2
        go_roundw
        case rel => exact ⟨k / 10, c :: l, by go_num, congrArg Value.string (ByteArray.mk_append_mk [c] l), by simp; omega, Hstep.out, hW.alloc hW.size _⟩
        case measure => simp [intOf]; omega
      · obtain rfl : k = 0 := by omega
        have hfin : l = mtGo K K [] := by rw [← hg.out]; rfl
        have Hfin := Lib.hid hfin
        clear hfin hg hk
        go_wp2
        go_ret
        exact ⟨ret_s (by rw [HM.out, ← Hfin.out]; exact ByteArray.mk_append_mk [109] l), hW⟩

/-- 'append(out, ys...)' with ys not nil: what it writes, and where the answer lies. -/
theorem wpList_appG {α : Type} {enc : α → List Value} {k : Nat} (hk : ∀ x, (enc x).length = k) (h1c : ∀ x, ∀ u ∈ enc x, u.oneCell' = true) (hk0 : 0 < k)
    {P : Program} {w : World} {ops : Array Oper} {rest : List Oper} {o : Oper} {a : Act} {Q : Exit → Act → World → Prop} (hgd : o.guard = none) (s x : Operand) (t e : TypeId)
    (ho : o.op = .call { callee := .builtin .append, args := #[s, x], argTypes := #[t, t] })
    (z : Value) (bytes : Nat) (ht : P.underlying t = some (.slice e)) (hinfo : (P.info? e).map (fun i => (i.zero, i.size, i.bytes)) = some (some z, k, bytes)) (hzs : z.cells.size = k)
    (base : Nat) (v : Value) (xs : List α) (hs : a.eval s = v) (hown : w.ownsRow base e k v xs.length (xs.flatMap enc))
    (ad : Addr) (m c : Nat) (ys : List α) (hx : a.eval x = .slice (some ad) m c) (hr : Rd enc k w (some ad) m ys)
    (hbytes : (xs.length + m) * bytes ≤ 140737488355328) (hb1 : 1 ≤ bytes) (hbase : base ≤ w.heap.size)
    (hK : ∀ v' w', w'.ownsRow base e k v' (xs ++ ys).length ((xs ++ ys).flatMap enc) → w.grownBy w' v.ownBlock → (v'.ownBlock = v.ownBlock ∨ v'.ownBlock = some w.heap.size) → wpList P ops Q rest (a.put o.dst v') w') :
    wpList P ops Q (o :: rest) a w := by
  obtain ⟨i, hi, hz0, hz1, hz2⟩ := info_parts hinfo
  have hlm : ys.length = m := hr.1
  have h63 : xs.length + m ≤ maxLen := by
    have := Nat.le_trans (Nat.le_mul_of_pos_right (xs.length + m) hb1) hbytes
    unfold maxLen; omega
  have hflat : (xs ++ ys).flatMap enc = xs.flatMap enc ++ ys.flatMap enc := List.flatMap_append
  obtain ⟨v', w', hrun, h2, h3, _, h5⟩ := run_append_own_at (P := P) w base t o.type e i z k bytes ht hi hz0 hz1 hz2 hzs hk0 v xs.length (xs.flatMap enc) hown ad m c (ys.flatMap enc) (by rw [flat_len hk, hlm]) (by
      intro j u hu
      have hj : j < (ys.flatMap enc).length := (List.getElem?_eq_some_iff.1 hu).1
      rw [flat_len hk, hlm] at hj
      have hm : 0 < m := Nat.pos_of_ne_zero (fun h => by subst h; simp at hj)
      obtain ⟨b, off, he, hb, hc⟩ := hr.2 hm
      injection he with he
      subst he
      have hq : j / k < m := Nat.div_lt_of_lt_mul (by rw [Nat.mul_comm]; exact hj)
      obtain ⟨y, hy⟩ := hr.get hq
      have hlt : j % k < (enc y).length := by rw [hk]; exact Nat.mod_lt _ hk0
      have h1 := flat_get hk ys (j / k) (j % k) y _ hy (List.getElem?_eq_getElem hlt)
      have hjj : j / k * k + j % k = j := by rw [Nat.mul_comm]; exact Nat.div_add_mod j k
      rw [hjj, hu] at h1
      have h2 := hc (j / k) y hy (j % k) _ (List.getElem?_eq_getElem hlt)
      rw [Addr.add_lit, ← hjj, ← Nat.add_assoc, h2, h1]) (by
      intro u hu
      obtain ⟨y, _, hy⟩ := List.mem_flatMap.1 hu
      exact h1c y u hy) h63 hbytes hbase
  refine wpList_plain hgd fun K hK' => ?_
  unfold Oper.wp
  simp [execOp, ho, resolve, invoke, builtin, hs, hx, hrun, Result.andThen]
  refine hK' _ _ (hK v' w' ?_ h3 h5)
  rw [hflat, List.length_append, hlm]
  exact h2
/-- The two slices lie apart. -/
def Apart (v u : Value) : Prop := ∀ i, v.ownBlock = some i → ∀ j, u.ownBlock = some j → i ≠ j
theorem Apart.or {v u : Value} (h : Apart v u) : v.ownBlock = none ∨ v.ownBlock ≠ u.ownBlock := by
  cases he : v.ownBlock with
  | none => exact .inl rfl
  | some k => exact .inr fun e => h k he k e.symm rfl
theorem Apart.step {v u u' : Value} {B : Nat} (h : Apart v u) (hv : ∀ k, v.ownBlock = some k → k < B) (h5 : u'.ownBlock = u.ownBlock ∨ u'.ownBlock = some B) : Apart v u' := by
  intro i hi j hj
  rcases h5 with h5 | h5
  · exact h i hi j (by rw [← h5, hj])
  · have := hv i hi
    rw [h5] at hj; injection hj with hj
    omega
theorem older {v u : Value} {B : Nat} (hv : ∀ k, v.ownBlock = some k → k < B) (hu : ∀ k, u.ownBlock = some k → B ≤ k) : v.ownBlock = none ∨ v.ownBlock ≠ u.ownBlock :=
  Apart.or (fun i hi j hj => by have h1 := hv i hi; have h2 := hu j hj; omega)

def tmarks (k0 : Int) (n : Nat) : List Token := (List.range n).map fun j => ⟨k0 + 2 * (j : Nat), ⟨(mt (k0 + 2 * (j : Nat) + 1)).toArray⟩⟩
theorem tmarks_len (k0 : Int) (n : Nat) : (tmarks k0 n).length = n := by simp [tmarks]
theorem tmarks_at (k0 : Int) {n j : Nat} (h : j < n) : (tmarks k0 n)[j]? = some ⟨k0 + 2 * (j : Nat), ⟨(mt (k0 + 2 * (j : Nat) + 1)).toArray⟩⟩ := by simp [tmarks, h]
theorem tmarks_succ (k0 : Int) (n : Nat) : tmarks k0 (n + 1) = tmarks k0 n ++ [⟨k0 + 2 * (n : Nat), ⟨(mt (k0 + 2 * (n : Nat) + 1)).toArray⟩⟩] := by simp [tmarks, List.range_succ]
theorem tmarks_set (k0 : Int) (j : Nat) (xs : List Token) (h : j < xs.length) : (tmarks k0 j ++ xs.drop j).set j ⟨k0 + 2 * (j : Nat), ⟨(mt (k0 + 2 * (j : Nat) + 1)).toArray⟩⟩ = tmarks k0 (j + 1) ++ xs.drop (j + 1) := by
  rw [List.set_append_right _ _ (by rw [tmarks_len]; exact Nat.le_refl _), tmarks_len, Nat.sub_self, List.drop_eq_getElem_cons h, tmarks_succ, List.set_cons_zero, List.append_assoc]
  rfl
set_option maxHeartbeats 1600000 in
theorem laws_markTokenS (A : Option Addr) (n c base : Nat) (k0 : Int) (xs : List Token) (w : World) (hk0 : 0 ≤ k0) (hk1 : k0 + 2 * n ≤ 1152921504606846976) (hl : xs.length = n)
    (hown : w.ownsRow base 34 2 (.slice A n c) n (xs.flatMap encToken)) :
    Calls Tryd.prog 9 #[.slice A n c, .int .i64 k0] w fun e w' => e = .returned (.int .i64 (k0 + 2 * n)) ∧ w'.ownsRow base 34 2 (.slice A n c) n ((tmarks k0 n).flatMap encToken) ∧ w.grownBy w' (Value.slice A n c).ownBlock := by
  have hn0 : k0 + 2 * (n : Int) ≤ 1152921504606846976 := hk1
  have HL := Lib.hid hl
  clear hl
  go_enter Tryd.func9, Tryd.ntmps9
  go_wp2_with fail
  go_loopw [1, 5] (fun m i wr => ∃ (j : Nat), j ≤ n ∧ i = .int .i64 j ∧ m = .int .i64 (k0 + 2 * j) ∧ wr.ownsRow base 34 2 (.slice A n c) n ((tmarks k0 j ++ xs.drop j).flatMap encToken) ∧ w.grownBy wr (Value.slice A n c).ownBlock) (fun _ i _ => n - (intOf i).toNat)
  case atStart => exact ⟨0, Nat.zero_le _, rfl, by simp, by simpa [tmarks] using hown, World.grownBy.refl _ _⟩
  case round =>
    obtain ⟨j, hj, rfl, rfl, ho, hg⟩ := hrel
    clear hown
    by_cases hlt : j < n
    · have hlx : j < xs.length := by rw [HL.out]; exact hlt
      have hA : ∃ g, A = some ⟨g, 0, none⟩ := by
        rcases ho.2 with ⟨hv, h0⟩ | ⟨g, cap, cur, hv, _⟩
        · omega
        · injection hv with hA; exact ⟨g, hA⟩
      obtain ⟨g, rfl⟩ := hA
      have hat : (tmarks k0 j ++ xs.drop j)[j]? = some xs[j] := by
        rw [List.getElem?_append_right (by simp [tmarks]), tmarks_len, Nat.sub_self, List.getElem?_drop]; simp [hlx]
      generalize xs[j] = z at hat
      have c0 : wr.cell? ⟨g, j * 2, none⟩ = some (.int .i64 z.kind) := (ho.cellAt (j * 2) (by omega)).trans (flat_get (enc := encToken) (k := 2) (fun _ => rfl) _ j 0 _ _ hat rfl)
      have f0 := ho.frozenAt (j * 2)
      have s0 := ho.stored (j * 2) (.int .i64 (k0 + 2 * j))
      have e1 : ((((tmarks k0 j ++ xs.drop j).flatMap encToken).set (j * 2) (.int .i64 (k0 + 2 * j)))[j * 2 + 1]?) = some (.string z.text) := by
        rw [List.getElem?_set_ne (by omega)]
        exact flat_get (enc := encToken) (k := 2) (fun _ => rfl) _ j 1 _ _ hat rfl
      have S0 := Lib.hid s0
      have Hg := Lib.hid hg
      have E1 := Lib.hid e1
      have Hat := Lib.hid hat
      have hlj : j < (tmarks k0 j ++ xs.drop j).length := by rw [List.length_append, tmarks_len, List.length_drop]; omega
      clear ho hg s0 e1 hat
      go_wp2_with fail
      refine (laws_markText _ _ (by omega)).mono ?_
      rintro e w1 ⟨rfl, hb1⟩
      have ho1 := own_below S0.out.1 hb1
      have c1 : w1.cell? ⟨g, j * 2 + 1, none⟩ = some (.string z.text) := (ho1.cellAt (j * 2 + 1) (by omega)).trans E1.out
      have f1 := ho1.frozenAt (j * 2 + 1)
      obtain ⟨X, hX⟩ : ∃ X : ByteArray, (⟨(mt (k0 + 2 * j + 1)).toArray⟩ : ByteArray) = X := ⟨_, rfl⟩
      have s1 := ho1.stored (j * 2 + 1) (.string X)
      have hfin := s1.1
      rw [show (.int .i64 (k0 + 2 * j) : Value) = .int .i64 (⟨k0 + 2 * j, X⟩ : Token).kind from rfl, show (.string X : Value) = .string (⟨k0 + 2 * j, X⟩ : Token).text from rfl, flat_set_Token _ j ⟨k0 + 2 * j, X⟩ hlj] at hfin
      have hset := tmarks_set k0 j xs hlx
      rw [hX] at hset ⊢
      rw [hset] at hfin
      have Hs1 := Lib.hid hfin
      have Hg2 := Lib.hid (gb_trans Hg.out (gb_trans S0.out.2 (gb_trans (gb_below _ hb1) s1.2)))
      clear s1 hfin ho1 hb1 hset hX S0 E1
      go_wp2
      go_roundw
      case rel => exact ⟨j + 1, by omega, by go_num, by go_num, Hs1.out, Hg2.out⟩
      case measure => simp [intOf]; omega
    · have hke : j = n := by omega
      subst hke
      have hfin : tmarks k0 j ++ xs.drop j = tmarks k0 j := by rw [List.drop_eq_nil_of_le (by rw [HL.out]; exact Nat.le_refl _), List.append_nil]
      rw [hfin] at ho
      have Ho := Lib.hid ho
      have Hg := Lib.hid hg
      clear ho hg hfin hlt
      go_wp2
      go_ret
      exact ⟨rfl, Ho.out, Hg.out⟩
set_option maxHeartbeats 1600000 in
theorem laws_heldTokenS (A : Option Addr) (n c : Nat) (k0 : Int) (w : World) (hk0 : 0 ≤ k0) (hk1 : k0 + 2 * n ≤ 1152921504606846976) (h : Rd encToken 2 w A n (tmarks k0 n)) :
    Calls Tryd.prog 10 #[.slice A n c, .int .i64 k0] w fun e w' => e = .returned (.int .i64 (k0 + 2 * n)) ∧ Below w.heap.size w w' := by
  have hn0 : k0 + 2 * (n : Int) ≤ 1152921504606846976 := hk1
  have H := Lib.hid h
  clear h
  go_enter Tryd.func10, Tryd.ntmps10
  go_wp2_with fail
  go_loopw [1, 5] (fun m i wr => ∃ j : Nat, j ≤ n ∧ i = .int .i64 j ∧ m = .int .i64 (k0 + 2 * j) ∧ Below w.heap.size w wr) (fun _ i _ => n - (intOf i).toNat)
  case atStart => exact ⟨0, Nat.zero_le _, rfl, by simp, Below.refl _ _⟩
  case round =>
    obtain ⟨j, hj, rfl, rfl, hW⟩ := hrel
    by_cases hlt : j < n
    · obtain ⟨b, off, x, rfl, hb, hx, hc⟩ := (H.out.below hW).elem hlt
      obtain ⟨X, hX⟩ : ∃ X : ByteArray, (⟨(mt (k0 + 2 * j + 1)).toArray⟩ : ByteArray) = X := ⟨_, rfl⟩
      have hxm : x = ⟨k0 + 2 * j, X⟩ := by rw [tmarks_at k0 hlt, hX] at hx; exact (Option.some.inj hx).symm
      subst hxm
      have g0 : wr.cell? ⟨b, off + j * 2, none⟩ = some (.int .i64 (k0 + 2 * j)) := by simpa using hc 0 _ rfl
      have g1 : wr.cell? ⟨b, off + j * 2 + 1, none⟩ = some (.string X) := hc 1 _ rfl
      have HW := Lib.hid hW
      have HX := Lib.hid hX
      have hsz := hW.size
      have hjn : (j : Int) < (n : Int) := by omega
      have hj0 : (0 : Int) ≤ (j : Int) := by omega
      clear hc hx hW H hX
      go_wp2_with fail
      have f0 : ∀ u : Later wr, u.at_.cell? ⟨b, off + j * 2 + 1, none⟩ = some (.string X) := fun u => u.cell g1
      refine wp_region_calm_lit (by kernel_rfl) (by kernel_rfl) ?_
      repeat (go_big_quiet_step (first | (go_at_call 22; exact Calls.calm (Calls.knownS (laws_markText (k0 + 2 * j + 1) _ (by omega)) HX.out))))
      refine wpQuiet_nil ?_
      intro _ hw'
      obtain ⟨u, rfl⟩ := hw'
      have HBf := Lib.hid (HW.out.trans (u.bel.mono hsz))
      go_wp2
      go_roundw
      case rel => exact ⟨j + 1, by omega, by go_num, by go_num, HBf.out⟩
      case measure => simp [intOf]; omega
    · have hke : j = n := by omega
      subst hke
      go_wp2
      go_ret
      exact ⟨rfl, hW⟩

end Go.Proofs.YtlehpgnhfpegoaaDoor
