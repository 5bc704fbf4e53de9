/-
  Walks: what each function returns, and that it leaves what lay in memory as it was.
-/
import Derived.Test.YtnphoodoheccoaaProg
import Derived.Test.YtnphoodoheccoaaPlain
import Derived.Test.YtnphoodoheccoaaBase2
import Derived.Test.YtnphoodoheccoaaOpen2
import Derived.Test.YtnphoodoheccoaaShelf
import Derived.WalkKit
import Derived.WalkSpells
import Derived.WalkLawsBesides
import Derived.Lib.Hide
import Derived.Deep.LoopGhost
import Derived.Deep.QuietTactic
import Derived.BigQuiet
import Derived.Handy
import Derived.Deep.RegionHeld3
import Derived.StillTailTactics
import Derived.OpenShut
import Derived.ChangeSame
import Derived.Laws.StructEq

import Derived.Test.YtnphoodoheccoaaPlainT

import Derived.Test.YtnphoodoheccoaaW1

import Derived.Test.YtnphoodoheccoaaW21

import Derived.Test.YtnphoodoheccoaaW24

import Derived.Test.YtnphoodoheccoaaW30

import Derived.Test.YtnphoodoheccoaaW31

namespace Go.Proofs.Ytnphoodoheccoaa
open Go.ChangeShapes Go.WideShapes Go.ChangeAt Go.RowKit Go.Deep
set_option linter.unusedVariables false
set_option linter.unusedSimpArgs false

set_option maxRecDepth 20000

/-- A drawn scope's names: a few, in a block of their own. -/
def ScD (M base : Nat) (W : World) (p : Scope × Hd) : Prop :=
  W.ownsRow base 9 1 (.slice p.2.A p.2.n p.2.c) p.2.n (p.1.names.flatMap encStr) ∧ p.1.names.length = p.2.n ∧ p.2.n ≤ M ∧ ∀ y ∈ p.1.names, y.length ≤ 100
theorem ScD.below {M base : Nat} {W W' : World} {p : Scope × Hd} (h : ScD M base W p) (hb : Below W.heap.size W W') : ScD M base W' p := ⟨own_below h.1 hb, h.2⟩
theorem ScD.gb {M base g : Nat} {W W' : World} {p : Scope × Hd} (h : ScD M base W p) (hg : W.grownBy W' (some g)) (hlt : g < base) : ScD M base W' p := ⟨own_gb h.1 hg hlt, h.2⟩
theorem ScD.mono {M base base' : Nat} {W : World} {p : Scope × Hd} (h : ScD M base W p) (hb : base' ≤ base) : ScD M base' W p := ⟨own_mono h.1 hb, h.2⟩
theorem own_kind_kept {w w' : World} {b1 b2 k1 k2 n1 n2 : Nat} {e1 e2 : TypeId} {v1 v2 : Value} {xs1 xs2 : List Value} (h1 : w.ownsRow b1 e1 k1 v1 n1 xs1) (h2 : w.ownsRow b2 e2 k2 v2 n2 xs2) (hne : e1 ≠ e2) (hg : w.grownBy w' v2.ownBlock) : w'.ownsRow b1 e1 k1 v1 n1 xs1 :=
  h1.kept hg (by
    cases hv : v1.ownBlock with
    | none => exact .inl rfl
    | some i => exact .inr (fun e => own_kinds h1 h2 hne i hv e.symm))
theorem ScD.kinds {M base : Nat} {W W' : World} {p : Scope × Hd} {b2 k2 n2 : Nat} {e2 : TypeId} {v2 : Value} {xs2 : List Value} (h : ScD M base W p) (h2 : W.ownsRow b2 e2 k2 v2 n2 xs2) (hne : 9 ≠ e2) (hg : W.grownBy W' v2.ownBlock) : ScD M base W' p :=
  ⟨own_kind_kept h.1 h2 hne hg, h.2⟩
theorem ScD.most {M M' base : Nat} {W : World} {p : Scope × Hd} (h : ScD M base W p) (hM : M ≤ M') : ScD M' base W p := ⟨h.1, h.2.1, Nat.le_trans h.2.2.1 hM, h.2.2.2⟩
theorem ScD.own {M base : Nat} {W : World} {p : Scope × Hd} (hM : M ≤ 1000) (h : ScD M base W p) : ScopeOwn base W p.1 p.2 := ⟨h.1, h.2.1, by have := h.2.2.1; omega, fun y hy => by have := h.2.2.2 y hy; unfold strBig maxLen; omega⟩
theorem ScD.fit {M base : Nat} {W : World} {p : Scope × Hd} (hM : M ≤ 1000) (h : ScD M base W p) : p.1.Fit := ⟨by have := h.2.1; have := h.2.2.1; omega, fun y hy => by have := h.2.2.2 y hy; unfold strFit; omega⟩
/-- What holds in the worlds between: the cursor, the answer's cells, the filter's cells at X, its scopes, their names. -/
structure Fs6 (M : Nat) (w0 w : World) (X g : Nat) (on : Bool) (v : Value) (rs : List (Scope × Hd)) (W : World) : Prop where
  cur : Cur w0 g W
  gr : w.grownBy W (some g)
  q : W.ownsRow w.heap.size 26 2 (.slice (some ⟨w.heap.size, 0, none⟩) 1 1) 1 [.bool false, .slice none 0 0]
  t : W.ownsRow X 26 2 (.slice (some ⟨X, 0, none⟩) 1 1) 1 [.bool on, v]
  s : W.ownsRow (w.heap.size + 1) 32 3 v rs.length (rs.flatMap encScope)
  nm : ∀ p ∈ rs, ScD M (w.heap.size + 1) W p
  na : NA rs
section
variable {M : Nat} {w0 w W W' : World} {X g : Nat} {on : Bool} {v : Value} {rs : List (Scope × Hd)} (h : Fs6 M w0 w X g on v rs W)
include h
theorem Fs6.below (hb : Below W.heap.size W W') : Fs6 M w0 w X g on v rs W' :=
  ⟨h.cur.below hb, gb_trans h.gr (gb_below (some g) hb), own_below h.q hb, own_below h.t hb, own_below h.s hb, fun p hp => (h.nm p hp).below hb, h.na⟩
theorem Fs6.gb (hc : Cur w0 g W') (hg : W.grownBy W' (some g)) (h1 : g < w.heap.size) (h2 : g < X) : Fs6 M w0 w X g on v rs W' :=
  ⟨hc, gb_trans h.gr hg, own_gb h.q hg h1, own_gb h.t hg h2, own_gb h.s hg (by omega), fun p hp => (h.nm p hp).gb hg (by omega), h.na⟩
theorem Fs6.t0 : W.cell? ⟨X, 0, none⟩ = some (.bool on) := h.t.cellAt 0 (by omega)
theorem Fs6.t1 : W.cell? ⟨X, 1, none⟩ = some v := h.t.cellAt 1 (by omega)
theorem Fs6.tf (j : Nat) : W.frozen? ⟨X, j, none⟩ = false := h.t.frozenAt j
theorem Fs6.q0 : W.cell? ⟨w.heap.size, 0, none⟩ = some (.bool false) := h.q.cellAt 0 (by omega)
theorem Fs6.q1 : W.cell? ⟨w.heap.size, 1, none⟩ = some (.slice none 0 0) := h.q.cellAt 1 (by omega)
theorem Fs6.qf (j : Nat) : W.frozen? ⟨w.heap.size, j, none⟩ = false := h.q.frozenAt j
theorem Fs6.lt : X < W.heap.size := (h.t.lt X rfl).2
theorem Fs6.below0 (h1 : w.heap.size < X) : w.heap.size < W.heap.size := by have := h.lt; omega
/-- The filter's own cells written. -/
theorem Fs6.setOn (h1 : w.heap.size < X) (h3 : g < w.heap.size) (b : Bool) : Fs6 M w0 w X g b v rs (W.setCell ⟨X, 0, none⟩ (.bool b)) := by
  have s := h.t.stored 0 (.bool b)
  have hb : Below X W (W.setCell ⟨X, 0, none⟩ (.bool b)) := (Below.refl X W).setCell (by simp) _
  exact ⟨h.cur.belowB hb (by omega), gb_belowB h.gr hb (by omega), h.q.kept s.2 (.inr (by simp [Value.ownBlock]; omega)), s.1, own_kind_kept h.s h.t (by decide) s.2, fun p hp => (h.nm p hp).kinds h.t (by decide) s.2, h.na⟩
/-- The scopes' slice written anew. -/
theorem Fs6.setScopes {v' : Value} {rs' : List (Scope × Hd)} (h1 : w.heap.size < X) (h3 : g < w.heap.size) (hs : W.ownsRow (w.heap.size + 1) 32 3 v' rs'.length (rs'.flatMap encScope)) (hn : ∀ p ∈ rs', ScD M (w.heap.size + 1) W p) (hna : NA rs') : Fs6 M w0 w X g on v' rs' (W.setCell ⟨X, 1, none⟩ v') := by
  have s := h.t.stored 1 v'
  have hb : Below X W (W.setCell ⟨X, 1, none⟩ v') := (Below.refl X W).setCell (by simp) _
  exact ⟨h.cur.belowB hb (by omega), gb_belowB h.gr hb (by omega), h.q.kept s.2 (.inr (by simp [Value.ownBlock]; omega)), s.1, own_kind_kept hs h.t (by decide) s.2, fun p hp => (hn p hp).kinds h.t (by decide) s.2, hna⟩
/-- The scopes appended to: all else stays. -/
theorem Fs6.app (h1 : w.heap.size < X) (h3 : g < w.heap.size) (hg : W.grownBy W' v.ownBlock) : Cur w0 g W' ∧ w.grownBy W' (some g) ∧ W'.ownsRow w.heap.size 26 2 (.slice (some ⟨w.heap.size, 0, none⟩) 1 1) 1 [.bool false, .slice none 0 0] ∧ W'.ownsRow X 26 2 (.slice (some ⟨X, 0, none⟩) 1 1) 1 [.bool on, v] ∧ ∀ p, ScD M (w.heap.size + 1) W p → ScD M (w.heap.size + 1) W' p := by
  have hb : Below (w.heap.size + 1) W W' := gb_to_below hg (by have := h.below0 h1; omega) (fun k hk => (h.s.lt k hk).1)
  exact ⟨h.cur.belowB hb (by omega), gb_belowB h.gr hb (by omega), own_kind_kept h.q h.s (by decide) hg, own_kind_kept h.t h.s (by decide) hg, fun p hp => hp.kinds h.s (by decide) hg⟩
end
theorem len_snoc {α : Type} (l : List α) (x : α) : (l ++ [x]).length = l.length + 1 := by simp
theorem Fs6.push {M : Nat} {w0 w W W' : World} {X g : Nat} {on : Bool} {v v' : Value} {rs : List (Scope × Hd)} {p : Scope × Hd} (h : Fs6 M w0 w X g on v rs W) (h1 : w.heap.size < X) (h3 : g < w.heap.size) (hp : ScD M (w.heap.size + 1) W p) (hna : NA (rs ++ [p]))
    (ho : W'.ownsRow (w.heap.size + 1) 32 3 v' (rs ++ [p]).length ((rs ++ [p]).flatMap encScope)) (hg : W.grownBy W' v.ownBlock) :
    W'.cell? ⟨X, 1, none⟩ = some v ∧ W'.frozen? ⟨X, 1, none⟩ = false ∧ Fs6 M w0 w X g on v' (rs ++ [p]) (W'.setCell ⟨X, 1, none⟩ v') := by
  obtain ⟨hc, hgr, hq, ht, hn⟩ := h.app h1 h3 hg
  have s := ht.stored 1 v'
  have hb : Below X W' (W'.setCell ⟨X, 1, none⟩ v') := (Below.refl X W').setCell (by simp) _
  refine ⟨ht.cellAt 1 (by omega), ht.frozenAt 1, hc.belowB hb (by omega), gb_belowB hgr hb (by omega), hq.kept s.2 (.inr (by simp [Value.ownBlock]; omega)), s.1, own_kind_kept ho ht (by decide) s.2, fun r hr => ?_, hna⟩
  rcases List.mem_append.1 hr with hr | hr
  · exact (hn r (h.nm r hr)).kinds ht (by decide) s.2
  · rw [List.mem_singleton.1 hr]
    exact (hn p hp).kinds ht (by decide) s.2
theorem fs6_scope {M : Nat} (hM : 2 ≤ M) {w0 w : World} {X g : Nat} {on : Bool} {v : Value} {rs : List (Scope × Hd)} (h1 : g < w.heap.size) (h2 : w.heap.size < X) (W : World) (h : Fs6 M w0 w X g on v rs W) :
    Calls Try.prog 47 #[.pointer (some ⟨g, 0, none⟩)] W fun e W' => (∃ p : Scope × Hd, e = .returned (.agg #[.int .i64 p.1.kind, .slice p.2.A p.2.n p.2.c, .int .i64 p.1.events]) ∧ ScD M (w.heap.size + 1) W' p ∧ NA (rs ++ [p])) ∧ Fs6 M w0 w X g on v rs W' :=
  (spec_l6Scope w0 g W h.cur).mono (by
    rintro e w' ⟨⟨x, hd, hl, hn, hy, rfl, ho⟩, hc, hg⟩
    have hz := h.below0 h2
    refine ⟨⟨(x, hd), rfl, ⟨own_mono ho (by omega), hl, by show hd.n ≤ M; omega, hy⟩, ?_⟩, h.gb hc hg h1 (by omega)⟩
    exact h.na.snoc (y := (x, hd)) (B := W.heap.size) (fun q hq i hi => ((h.nm q hq).1.lt i hi).2) (fun i hi => (ho.lt i hi).1))
theorem fs6_fin {M : Nat} {w0 w W W' : World} {X g : Nat} {on : Bool} {v : Value} {rs : List (Scope × Hd)} (h : Fs6 M w0 w X g on v rs W) (hgl : g < w.heap.size) (hb : Below w.heap.size W W') : Cur w0 g W' ∧ w.grownBy W' (some g) :=
  ⟨h.cur.belowB hb hgl, gb_belowB h.gr hb (Nat.le_refl _)⟩
/-- A drawn filter. -/
def FiltDrawn (M N base : Nat) (e : Ending) (w' : World) : Prop :=
  ∃ (on : Bool) (A : Option Addr) (c : Nat) (rs : List (Scope × Hd)), e = .returned (.agg #[.bool on, .slice A rs.length c]) ∧ rs.length ≤ N ∧ w'.ownsRow base 32 3 (.slice A rs.length c) rs.length (rs.flatMap encScope) ∧ (∀ p ∈ rs, ScD M base w' p) ∧ NA rs
/-- The answer: the filter's cells copied. -/
theorem fs6_ret {M : Nat} {w0 w W : World} {X g : Nat} {on : Bool} {A : Option Addr} {c : Nat} {rs : List (Scope × Hd)} (h : Fs6 M w0 w X g on (.slice A rs.length c) rs W) (hgl : g < w.heap.size) (h1 : w.heap.size < X) {N : Nat} (hl : rs.length ≤ N) (u0 u1 : Value) :
    FiltDrawn M N w.heap.size (.returned (.agg #[.bool on, .slice A rs.length c])) ((W.setCell ⟨w.heap.size, 0, none⟩ u0).setCell ⟨w.heap.size, 1, none⟩ u1) ∧ Cur w0 g ((W.setCell ⟨w.heap.size, 0, none⟩ u0).setCell ⟨w.heap.size, 1, none⟩ u1) ∧ w.grownBy ((W.setCell ⟨w.heap.size, 0, none⟩ u0).setCell ⟨w.heap.size, 1, none⟩ u1) (some g) := by
  refine ⟨⟨on, A, c, rs, rfl, hl, ?_, fun p hp => ⟨?_, (h.nm p hp).2⟩, h.na⟩, fs6_fin h hgl (by (repeat (with_reducible refine Below.setCell ?_ ?_ _)) <;> first | exact Below.refl _ _ | (simp only []; omega))⟩
  · exact own_mono (own_setCell (own_setCell h.s (p := ⟨w.heap.size, 0, none⟩) (by simp only []; omega) u0) (p := ⟨w.heap.size, 1, none⟩) (by simp only []; omega) u1) (by omega)
  · exact own_mono (own_setCell (own_setCell (h.nm p hp).1 (p := ⟨w.heap.size, 0, none⟩) (by simp only []; omega) u0) (p := ⟨w.heap.size, 1, none⟩) (by simp only []; omega) u1) (by omega)
set_option maxHeartbeats 6400000 in
theorem spec_l6Right (w0 : World) (g : Nat) (w : World) (hc : Cur w0 g w) :
    Calls Try.prog 45 #[.pointer (some ⟨g, 0, none⟩)] w fun e w' => FiltDrawn 2 3 w.heap.size e w' ∧ Cur w0 g w' ∧ w.grownBy w' (some g) := by
  have hgl := hc.lt
  have hal : Below w.heap.size w (w.alloc (.cells #[.bool false, .slice none 0 0] 26)) := (Below.refl _ _).alloc (Nat.le_refl _) _
  have HC0 := Lib.hid (hc.below hal)
  have HG0 := Lib.hid (gb_below (some g) hal)
  have HP := Lib.hid (World.ownsRow_lit (base := w.heap.size) (e := 26) (size := 2) w #[.bool false, .slice none 0 0] 1 (Nat.le_refl _) (by unfold maxLen; omega) rfl)
  clear hc hal
  go_enter Try.func45, Try.ntmps45
  go_wp2_with fail
  refine (spec_l1Once 5 w0 g _ HC0.out (by omega) (by omega)).mono ?_
  rintro e w1 ⟨⟨b, rfl⟩, hc1, hg1⟩
  have hww : w.heap.size < w1.heap.size := by have h1 := hg1.size; simp at h1; omega
  have hal : Below w1.heap.size w1 (w1.alloc (.cells #[.bool (!b), .slice none 0 0] 26)) := (Below.refl _ _).alloc (Nat.le_refl _) _
  have S1 : Fs6 2 w0 w w1.heap.size g (!b) (.slice none 0 0) [] (w1.alloc (.cells #[.bool (!b), .slice none 0 0] 26)) :=
    ⟨hc1.below hal, gb_trans (gb_trans HG0.out hg1) (gb_below _ hal), own_below (own_gb HP.out hg1 hgl.2) hal, World.ownsRow_lit (base := w1.heap.size) (e := 26) (size := 2) w1 #[.bool (!b), .slice none 0 0] 1 (Nat.le_refl _) (by unfold maxLen; omega) rfl, ⟨rfl, .inl ⟨rfl, rfl⟩⟩, by simp, List.Pairwise.nil⟩
  have HS1 := Lib.hid S1
  clear hc1 hg1 HC0 HG0 HP hal S1
  go_wp2_with fail
  generalize w1.alloc (.cells #[.bool (!b), .slice none 0 0] 26) = W1 at *
  generalize w1.heap.size = X at *
  generalize (!b) = on at *
  refine (spec_l1Below 3 w0 g _ HS1.out.cur (by omega) (by omega)).mono ?_
  rintro e w2 ⟨⟨m, hm, _, rfl⟩, hc2, hg2⟩
  have HS2 := Lib.hid (HS1.out.gb hc2 hg2 hgl.2 (by omega))
  clear hc2 hg2 HS1
  go_wp2_with fail
  go_loopw [5] (fun i wr => ∃ (k : Nat) (A : Option Addr) (c : Nat) (rs : List (Scope × Hd)), k ≤ 1 + m ∧ i = .int .i64 k ∧ rs.length ≤ k ∧ Fs6 2 w0 w X g on (.slice A rs.length c) rs wr) (fun i _ => 1 + m - (intOf i).toNat)
  case atStart => exact ⟨0, none, 0, [], by omega, rfl, Nat.le_refl _, HS2.out⟩
  case round =>
    obtain ⟨k, A, c, rs, hk, rfl, hl, hs⟩ := hrel
    clear HS2
    have t0 := hs.t0
    have t1 := hs.t1
    have hXl := hs.lt
    have q0 := hs.q0
    have q1 := hs.q1
    have qf0 := hs.qf 0
    have qf1 := hs.qf 1
    have HS := Lib.hid hs
    clear hs
    by_cases hlt : k < 1 + m
    · have hlti : (k : Int) < 1 + (m : Int) := by omega
      cases on
      · go_wp2
        refine bodyPost_ret (by simp [results, Try.results45, go_sem, q0, q1, hww]; try rfl) rfl ?_
        exact fs6_ret HS.out hgl.2 hww (by omega) _ _
      · clear q0 q1 qf0 qf1
        have HSd := Lib.hid (HS.out.below (Below.refl _ wr).drew)
        have t1d : wr.drew.cell? ⟨X, 1, none⟩ = some (.slice A rs.length c) := t1
        go_wp2_with fail
        go_region_law (first
        | (refine step_appG (enc := encScope) (k := 3) (fun _ => rfl) (fun _ u hu => by simp at hu; rcases hu with rfl | rfl | rfl <;> rfl) (by omega) rfl (.tmp 23) (.tmp 26) 24 32 rfl (.agg #[.int .i64 0, .slice none 0 0, .int .i64 0]) 40 Try.underlying24 (by kernel_rfl) rfl (w.heap.size + 1) (.slice A rs.length c) rs (by simp [Act.eval, Act.put]) (hs3.below ((Below.refl w3.heap.size w3).alloc (Nat.le_refl _) _)).s (some ⟨w3.heap.size, 0, none⟩) 1 1 [p3] (by simp [Act.eval, Act.put]) (Rd.new (enc := encScope) (k := 3) (fun _ => rfl) w3 #[.int .i64 p3.1.kind, .slice p3.2.A p3.2.n p3.2.c, .int .i64 p3.1.events] 32 (n := 1) [p3] (by simp) rfl) (by omega) (by omega) (by simp; omega) ?_; intro v' w4 hown4 hg4 _; obtain ⟨A4, c4, rfl⟩ := own_form hown4
           have hp4 := (hs3.below ((Below.refl w3.heap.size w3).alloc (Nat.le_refl _) _)).push hww hgl.2 (hp3.below ((Below.refl w3.heap.size w3).alloc (Nat.le_refl _) _)) hna3 hown4 hg4; have y1 := hp4.1; have yf1 := hp4.2.1; have hF4 := hp4.2.2; rw [len_snoc] at hF4; have HF4 := Lib.hid hF4; clear hp4 hF4)
        | (refine step_call rfl 47 #[.tmp 24] _ rfl (enters_of Try.func47 (by kernel_rfl) rfl) #[.pointer (some ⟨g, 0, none⟩)] (by simp [Act.eval, Act.put]) (fs6_scope (Nat.le_refl 2) hgl.2 hww _ HSd.out) ?_; rintro e w3 ⟨⟨p3, rfl, hp3, hna3⟩, hs3⟩; refine ⟨_, rfl, ?_⟩; have x1 := hs3.t1; have hX3 := hs3.lt))
        all_goals
          clear y1 yf1 x1 hX3 hs3 hp3 hna3 hown4 hg4 t0 t1 t1d HSd HS
          generalize w4.setCell ⟨X, 1, none⟩ _ = W5 at *
          go_wp2
          go_roundw
          case rel => exact ⟨k + 1, A4, c4, rs ++ [p3], by omega, by go_num, by simp; omega, by rw [len_snoc]; exact HF4.out⟩
          case measure => simp [intOf]; omega
    · have hlti : ¬ (k : Int) < 1 + (m : Int) := by omega
      go_wp2
      refine bodyPost_ret (by simp [results, Try.results45, go_sem, q0, q1, hww]; try rfl) rfl ?_
      exact fs6_ret HS.out hgl.2 hww (by omega) _ _

end Go.Proofs.Ytnphoodoheccoaa
