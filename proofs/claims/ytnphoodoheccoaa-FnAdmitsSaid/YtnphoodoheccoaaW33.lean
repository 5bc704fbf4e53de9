/-
  Walks: what each function returns, and that it leaves what lay in memory as it was.
-/
import Derived.Test.YtnphoodoheccoaaProg
import Derived.Test.YtnphoodoheccoaaPlain
import Derived.Test.YtnphoodoheccoaaBase2
import Derived.Test.YtnphoodoheccoaaOpen2
import Derived.Test.YtnphoodoheccoaaShelf
import Derived.WalkKit
import Derived.WalkSpells
import Derived.WalkLawsBesides
import Derived.Lib.Hide
import Derived.Deep.LoopGhost
import Derived.Deep.QuietTactic
import Derived.BigQuiet
import Derived.Handy
import Derived.Deep.RegionHeld3
import Derived.StillTailTactics
import Derived.OpenShut
import Derived.ChangeSame
import Derived.Laws.StructEq

import Derived.Deep.DrawnRows
import Derived.Deep.Cut
import Derived.Deep.CutBlock

import Derived.Test.YtnphoodoheccoaaPlainT

import Derived.Test.YtnphoodoheccoaaW1

import Derived.Test.YtnphoodoheccoaaW21

import Derived.Test.YtnphoodoheccoaaW24

import Derived.Test.YtnphoodoheccoaaW30

import Derived.Test.YtnphoodoheccoaaW31

import Derived.Test.YtnphoodoheccoaaW32

namespace Go.Proofs.Ytnphoodoheccoaa
open Go.ChangeShapes Go.WideShapes Go.ChangeAt Go.RowKit Go.Deep
set_option linter.unusedVariables false
set_option linter.unusedSimpArgs false

set_option maxRecDepth 20000

attribute [local go_sem ↓] Go.wp_at_zero Go.wp_at_succ
theorem NA.head {p p' : Scope × Hd} {r : List (Scope × Hd)} (h : NA (p :: r)) (e : nameOwn p' = nameOwn p) : NA (p' :: r) := by
  obtain ⟨h1, h2⟩ := List.pairwise_cons.1 h
  exact List.pairwise_cons.2 ⟨fun q hq i hi => h1 q hq i (e ▸ hi), h2⟩
section
variable {M : Nat} {w0 w W : World} {X g b c : Nat} {on : Bool} {p : Scope × Hd} {r : List (Scope × Hd)} (h : Fs6 M w0 w X g on (.slice (some ⟨b, 0, none⟩) (r.length + 1) c) (p :: r) W)
include h
theorem Fs6.s' : W.ownsRow (w.heap.size + 1) 32 3 (.slice (some ⟨b, 0, none⟩) (r.length + 1) c) (r.length + 1) ((p :: r).flatMap encScope) := h.s
theorem Fs6.first0 : W.cell? ⟨b, 0, none⟩ = some (.int .i64 p.1.kind) ∧ W.frozen? ⟨b, 0, none⟩ = false := ⟨h.s'.cellAt 0 (by omega), h.s'.frozenAt 0⟩
theorem Fs6.first1 : W.cell? ⟨b, 1, none⟩ = some (.slice p.2.A p.2.n p.2.c) ∧ W.frozen? ⟨b, 1, none⟩ = false := ⟨h.s'.cellAt 1 (by omega), h.s'.frozenAt 1⟩
theorem Fs6.first2 : W.cell? ⟨b, 2, none⟩ = some (.int .i64 p.1.events) ∧ W.frozen? ⟨b, 2, none⟩ = false := ⟨h.s'.cellAt 2 (by omega), h.s'.frozenAt 2⟩
theorem Fs6.setFirst (h1 : w.heap.size < X) (h3 : g < w.heap.size) {j : Nat} {u : Value} {p' : Scope × Hd} (he : ((p :: r).flatMap encScope).set j u = (p' :: r).flatMap encScope) (hp : p'.2 = p.2) (hn : p'.1.names = p.1.names) : Fs6 M w0 w X g on (.slice (some ⟨b, 0, none⟩) (r.length + 1) c) (p' :: r) (W.setCell ⟨b, j, none⟩ u) := by
  have s := h.s'.stored j u
  have hlt := (h.s.lt b rfl).1
  have hb : Below (w.heap.size + 1) W (W.setCell ⟨b, j, none⟩ u) := (Below.refl _ W).setCell (by simpa using hlt) _
  have hs := s.1
  rw [he] at hs
  refine ⟨h.cur.belowB hb (by omega), gb_belowB h.gr hb (by omega), own_kind_kept h.q h.s (by decide) s.2, own_kind_kept h.t h.s (by decide) s.2, hs, fun q hq => ?_, h.na.head (by unfold nameOwn; rw [hp])⟩
  rcases List.mem_cons.1 hq with rfl | hq
  · have := (h.nm p (List.mem_cons_self ..)).kinds h.s (by decide) s.2
    unfold ScD at this ⊢
    rw [hp, hn]; exact this
  · exact (h.nm q (List.mem_cons_of_mem _ hq)).kinds h.s (by decide) s.2
end
theorem Fs6.names {M : Nat} {w0 w W W' : World} {X g b c : Nat} {on : Bool} {p : Scope × Hd} {r : List (Scope × Hd)} {A4 : Option Addr} {c4 : Nat} {x : Str} (h : Fs6 M w0 w X g on (.slice (some ⟨b, 0, none⟩) (r.length + 1) c) (p :: r) W) (h1 : w.heap.size < X) (h3 : g < w.heap.size)
    (hg : W.grownBy W' (Value.slice p.2.A p.2.n p.2.c).ownBlock) (ho : W'.ownsRow (w.heap.size + 1) 9 1 (.slice A4 (p.1.names.length + 1) c4) (p.1.names.length + 1) ((p.1.names ++ [x]).flatMap encStr)) (hx : x.length ≤ 100)
    (h5 : (Value.slice A4 (p.1.names.length + 1) c4).ownBlock = (Value.slice p.2.A p.2.n p.2.c).ownBlock ∨ (Value.slice A4 (p.1.names.length + 1) c4).ownBlock = some W.heap.size) :
    (W'.cell? ⟨X, 1, none⟩ = some (.slice (some ⟨b, 0, none⟩) (r.length + 1) c) ∧ W'.cell? ⟨b, 1, none⟩ = some (.slice p.2.A p.2.n p.2.c)) ∧ W'.frozen? ⟨b, 1, none⟩ = false ∧ Fs6 (M + 1) w0 w X g on (.slice (some ⟨b, 0, none⟩) (r.length + 1) c) ((⟨p.1.kind, p.1.names ++ [x], p.1.events⟩, ⟨A4, p.1.names.length + 1, c4⟩) :: r) (W'.setCell ⟨b, 1, none⟩ (.slice A4 (p.1.names.length + 1) c4)) := by
  have hp := h.nm p (List.mem_cons_self ..)
  obtain ⟨na1, na2⟩ := List.pairwise_cons.1 h.na
  have hz := h.below0 h1
  have hb : Below (w.heap.size + 1) W W' := gb_to_below hg (by omega) (fun k hk => (hp.1.lt k hk).1)
  have hq := own_kind_kept h.q hp.1 (by decide) hg
  have ht := own_kind_kept h.t hp.1 (by decide) hg
  have hs : W'.ownsRow (w.heap.size + 1) 32 3 (.slice (some ⟨b, 0, none⟩) (r.length + 1) c) (r.length + 1) ((p :: r).flatMap encScope) := own_kind_kept h.s' hp.1 (by decide) hg
  have hr : ∀ q ∈ r, ScD M (w.heap.size + 1) W' q := fun q hq => ⟨(h.nm q (List.mem_cons_of_mem _ hq)).1.kept hg (by
    cases hv : (Value.slice q.2.A q.2.n q.2.c).ownBlock with
    | none => exact .inl rfl
    | some i => exact .inr (fun e => na1 q hq i e.symm hv)), (h.nm q (List.mem_cons_of_mem _ hq)).2⟩
  have st := hs.stored 1 (.slice A4 (p.1.names.length + 1) c4)
  have hlt := (hs.lt b rfl).1
  have hb2 : Below (w.heap.size + 1) W' (W'.setCell ⟨b, 1, none⟩ (.slice A4 (p.1.names.length + 1) c4)) := (Below.refl _ W').setCell (by simpa using hlt) _
  have hb3 := hb.trans hb2
  refine ⟨⟨ht.cellAt 1 (by omega), hs.cellAt 1 (by omega)⟩, hs.frozenAt 1, h.cur.belowB hb3 (by omega), gb_belowB h.gr hb3 (by omega), own_kind_kept hq hs (by decide) st.2, own_kind_kept ht hs (by decide) st.2, st.1, fun q hq => ?_, ?_⟩
  · rcases List.mem_cons.1 hq with rfl | hq
    · refine ⟨own_kind_kept ho hs (by decide) st.2, by simp, ?_, fun y hy => ?_⟩
      · have h1 := hp.2.1
        have h2 := hp.2.2.1
        show p.1.names.length + 1 ≤ M + 1
        omega
      · rcases List.mem_append.1 hy with hy | hy
        · exact hp.2.2.2 y hy
        · rw [List.mem_singleton.1 hy]; exact hx
    · exact ((hr q hq).kinds hs (by decide) st.2).most (by omega)
  · refine List.pairwise_cons.2 ⟨fun q hq i hi e => ?_, na2⟩
    have hi' : (Value.slice A4 (p.1.names.length + 1) c4).ownBlock = some i := hi
    rcases h5 with h5 | h5
    · exact na1 q hq i (by show (Value.slice p.2.A p.2.n p.2.c).ownBlock = some i; rw [← h5]; exact hi') e
    · have h6 := ((h.nm q (List.mem_cons_of_mem _ hq)).1.lt i e).2
      rw [h5] at hi'
      injection hi' with hi'
      omega
theorem Fs6.form {M : Nat} {w0 w W : World} {X g n : Nat} {on : Bool} {A : Option Addr} {c : Nat} {p : Scope × Hd} {r : List (Scope × Hd)} (h : Fs6 M w0 w X g on (.slice A n c) (p :: r) W) : ∃ b, A = some ⟨b, 0, none⟩ := by
  rcases h.s.2 with ⟨_, h0⟩ | ⟨b, cap, cur, hv, _⟩
  · simp at h0
  · injection hv with hA _ _
    exact ⟨b, hA⟩
theorem Fs6.most {M M' : Nat} {w0 w W : World} {X g : Nat} {on : Bool} {v : Value} {rs : List (Scope × Hd)} (h : Fs6 M w0 w X g on v rs W) (hM : M ≤ M') : Fs6 M' w0 w X g on v rs W := ⟨h.cur, h.gr, h.q, h.t, h.s, fun p hp => (h.nm p hp).most hM, h.na⟩
theorem fs6_any {M : Nat} {w0 w : World} {X g : Nat} {on : Bool} {v : Value} {rs : List (Scope × Hd)} (h1 : g < w.heap.size) (h2 : w.heap.size < X) (W : World) (h : Fs6 M w0 w X g on v rs W) :
    Calls Try.prog 48 #[.pointer (some ⟨g, 0, none⟩)] W fun e W' => (∃ s : ByteArray, s.size ≤ 100 ∧ e = .returned (.string s)) ∧ Fs6 M w0 w X g on v rs W' :=
  (spec_l2AnyG w0 g W h.cur).mono (by
    rintro e w' ⟨⟨s, hs, rfl⟩, hc, hg⟩
    exact ⟨⟨s, hs, rfl⟩, h.gb hc hg h1 (by omega)⟩)
theorem fs6_below {M : Nat} {w0 w : World} {X g : Nat} {on : Bool} {v : Value} {rs : List (Scope × Hd)} (h1 : g < w.heap.size) (h2 : w.heap.size < X) (W : World) (h : Fs6 M w0 w X g on v rs W) (n : Int) (hn : n ≤ 1073741824) (hn0 : 0 < n) :
    Calls Try.prog 46 #[.pointer (some ⟨g, 0, none⟩), .int .i64 n] W fun e W' => (∃ m : Nat, (m : Int) < n ∧ e = .returned (.int .i64 m)) ∧ Fs6 M w0 w X g on v rs W' :=
  (spec_l1Below n w0 g W h.cur hn (by omega)).mono (by
    rintro e w' ⟨⟨m, hm, _, rfl⟩, hc, hg⟩
    exact ⟨⟨m, hm hn0, rfl⟩, h.gb hc hg h1 (by omega)⟩)
theorem fs6_pickInt {M : Nat} {w0 w : World} {X g : Nat} {on : Bool} {v : Value} {rs : List (Scope × Hd)} (h1 : g < w.heap.size) (h2 : w.heap.size < X) (W : World) (h : Fs6 M w0 w X g on v rs W) (b n c : Nat) (hb : b ≠ g) (vs : List Value) (hv : Holds W b vs) (hl : vs.length = n) (hn : n ≤ 1000) (hn0 : 0 < n) (hr : ∀ v ∈ vs, ∃ x : Int, True ∧ v = (.int .i64 x : Value)) :
    Calls Try.prog 23 #[.pointer (some ⟨g, 0, none⟩), .slice (some ⟨b, 0, none⟩) n c] W fun e W' => (∃ x : Int, e = .returned (.int .i64 x)) ∧ Fs6 M w0 w X g on v rs W' :=
  (spec_l1PickInt (fun _ => True) b n c w0 g W h.cur hn hn0 hb vs hv hl hr).mono (by
    rintro e w' ⟨⟨m, _, rfl⟩, hc, hg⟩
    exact ⟨⟨m, rfl⟩, h.gb hc hg h1 (by omega)⟩)
set_option maxHeartbeats 51200000 in
theorem spec_l6Bent (w0 : World) (g : Nat) (w : World) (hc : Cur w0 g w) :
    Calls Try.prog 20 #[.pointer (some ⟨g, 0, none⟩)] w fun e w' => FiltDrawn 3 4 w.heap.size e w' ∧ Cur w0 g w' ∧ w.grownBy w' (some g) := by
  have hgl := hc.lt
  have hal : Below w.heap.size w (w.alloc (.cells #[.bool false, .slice none 0 0] 26)) := (Below.refl _ _).alloc (Nat.le_refl _) _
  have HC0 := Lib.hid (hc.below hal)
  have HG0 := Lib.hid (gb_below (some g) hal)
  have HP := Lib.hid (World.ownsRow_lit (base := w.heap.size) (e := 26) (size := 2) w #[.bool false, .slice none 0 0] 1 (Nat.le_refl _) (by unfold maxLen; omega) rfl)
  clear hc hal
  go_enter Try.func20, Try.ntmps20
  go_wp2_with fail
  refine (spec_l6Right w0 g _ HC0.out).mono ?_
  rintro e w1 ⟨⟨on, A, c, rs, rfl, hrl, hos, hnm, hna⟩, hc1, hg1⟩
  have hww : w.heap.size < w1.heap.size := by have h1 := hg1.size; simp at h1; omega
  have hal : Below w1.heap.size w1 (w1.alloc (.cells #[.bool on, .slice A rs.length c] 26)) := (Below.refl _ _).alloc (Nat.le_refl _) _
  have S1 : Fs6 2 w0 w w1.heap.size g on (.slice A rs.length c) rs (w1.alloc (.cells #[.bool on, .slice A rs.length c] 26)) :=
    ⟨hc1.below hal, gb_trans (gb_trans HG0.out hg1) (gb_below _ hal), own_below (own_gb HP.out hg1 hgl.2) hal, World.ownsRow_lit (base := w1.heap.size) (e := 26) (size := 2) w1 #[.bool on, .slice A rs.length c] 1 (Nat.le_refl _) (by unfold maxLen; omega) rfl, own_below (own_mono hos (by simp)) hal, fun p hp => ((hnm p hp).mono (by simp)).below hal, hna⟩
  have HS1 := Lib.hid S1
  clear hc1 hg1 HC0 HG0 HP hal S1 hos hnm hna
  go_wp2_with fail
  generalize w1.alloc (.cells #[.bool on, .slice A rs.length c] 26) = W1 at *
  generalize w1.heap.size = X at *
  refine (spec_l1Below 10 w0 g _ HS1.out.cur (by omega) (by omega)).mono ?_
  rintro e w2 ⟨⟨m, hm, _, rfl⟩, hc2, hg2⟩
  have HS := Lib.hid (HS1.out.gb hc2 hg2 hgl.2 (by omega))
  clear hc2 hg2 HS1
  have hxw : X ≠ w.heap.size := by omega
  have hwx : w.heap.size ≠ X := by omega
  have t0 := HS.out.t0
  have t1 := HS.out.t1
  have tf0 := HS.out.tf 0
  have tf1 := HS.out.tf 1
  have q0 := HS.out.q0
  have q1 := HS.out.q1
  have qf0 := HS.out.qf 0
  have qf1 := HS.out.qf 1
  have hXl := HS.out.lt
  go_upto_block 0 with fail
  go_cut [] from 8 (fun wc => ∃ (on' : Bool) (A' : Option Addr) (c' : Nat) (rs' : List (Scope × Hd)), rs'.length ≤ 4 ∧ Fs6 3 w0 w X g on' (.slice A' rs'.length c') rs' wc)
  case rest =>
    clear t0 t1 tf0 tf1 q0 q1 qf0 qf1 hXl HS hrl
    obtain ⟨on', A', c', rs', hl', hf'⟩ := hcut
    have t0 := hf'.t0
    have t1 := hf'.t1
    have q0 := hf'.q0
    have q1 := hf'.q1
    have qf0 := hf'.qf 0
    have qf1 := hf'.qf 1
    have hXl := hf'.lt
    have HF' := Lib.hid hf'
    clear hf'
    go_wp2
    refine bodyPost_ret (by simp [results, Try.results20, go_sem, q0, q1, hww, hxw, hwx]; try rfl) rfl ?_
    exact fs6_ret HF'.out hgl.2 hww hl' _ _
  case first =>
    clear q0 q1 qf0 qf1
    by_cases h0 : m = 0
    · subst h0
      go_wp2
      go_meet
      case rel => exact ⟨_, _, _, rs, by omega, (HS.out.setOn hww hgl.2 (!on)).most (by omega)⟩
    by_cases h1 : m = 1
    · subst h1
      have HSd := Lib.hid (HS.out.below (Below.refl _ w2).drew)
      have t1d : w2.drew.cell? ⟨X, 1, none⟩ = some (.slice A rs.length c) := t1
      clear t0 tf0 tf1
      go_wp2_with fail
      go_region_law (first
      | (refine step_appG (enc := encScope) (k := 3) (fun _ => rfl) (fun _ u hu => by simp at hu; rcases hu with rfl | rfl | rfl <;> rfl) (by omega) rfl (.tmp 17) (.tmp 20) 24 32 rfl (.agg #[.int .i64 0, .slice none 0 0, .int .i64 0]) 40 Try.underlying24 (by kernel_rfl) rfl (w.heap.size + 1) (.slice A rs.length c) rs (by simp [Act.eval, Act.put]) (hs3.below ((Below.refl w3.heap.size w3).alloc (Nat.le_refl _) _)).s (some ⟨w3.heap.size, 0, none⟩) 1 1 [p3] (by simp [Act.eval, Act.put]) (Rd.new (enc := encScope) (k := 3) (fun _ => rfl) w3 #[.int .i64 p3.1.kind, .slice p3.2.A p3.2.n p3.2.c, .int .i64 p3.1.events] 32 (n := 1) [p3] (by simp) rfl) (by omega) (by omega) (by simp; omega) ?_; intro v' w4 hown4 hg4 _; obtain ⟨A4, c4, rfl⟩ := own_form hown4
         have hp4 := (hs3.below ((Below.refl w3.heap.size w3).alloc (Nat.le_refl _) _)).push hww hgl.2 (hp3.below ((Below.refl w3.heap.size w3).alloc (Nat.le_refl _) _)) hna3 hown4 hg4; have y1 := hp4.1; have yf1 := hp4.2.1; have hF4 := hp4.2.2; rw [len_snoc] at hF4; have HF4 := Lib.hid hF4; clear hp4 hF4)
      | (refine step_call rfl 47 #[.tmp 18] _ rfl (enters_of Try.func47 (by kernel_rfl) rfl) #[.pointer (some ⟨g, 0, none⟩)] (by simp [Act.eval, Act.put]) (fs6_scope (M := 2) (by omega) hgl.2 hww _ HSd.out) ?_; rintro e w3 ⟨⟨p3, rfl, hp3, hna3⟩, hs3⟩; refine ⟨_, rfl, ?_⟩; have x1 := hs3.t1; have hX3 := hs3.lt))
      all_goals
        clear y1 yf1 x1 hX3 hs3 hp3 hna3 hown4 hg4 t1 t1d HSd HS
        generalize w4.setCell ⟨X, 1, none⟩ _ = W5 at *
        go_wp2
        go_meet
        case rel => exact ⟨_, _, _, rs ++ [p3], by rw [len_snoc]; omega, by rw [len_snoc]; exact HF4.out.most (by omega)⟩
    by_cases h2 : m = 2
    · subst h2
      cases rs with
      | nil =>
        go_wp2
        go_meet
        case rel => exact ⟨_, _, _, [], by simp, HS.out.most (by omega)⟩
      | cons p r =>
        obtain ⟨b, rfl⟩ := HS.out.form
        replace HS := Lib.hid (show Fs6 2 w0 w X g on (.slice (some ⟨b, 0, none⟩) (r.length + 1) c) (p :: r) w2 from HS.out)
        replace t1 : w2.cell? ⟨X, 1, none⟩ = some (.slice (some ⟨b, 0, none⟩) (r.length + 1) c) := t1
        have hrl2 : r.length + 1 ≤ 3 := hrl
        have hlen0 : (0 : Int) < (r.length : Int) + 1 := by omega
        have hlen1 : (0 : Int) < ((r.length + 1 : Nat) : Int) := by omega
        have HSd := Lib.hid (HS.out.below (((Below.refl _ w2).drew).alloc (Nat.le_refl _) (.cells #[.int .i64 0, .int .i64 15, .int .i64 16, .int .i64 (-1)] 3)))
        have t1d : w2.drew.cell? ⟨X, 1, none⟩ = some (.slice (some ⟨b, 0, none⟩) (r.length + 1) c) := t1
        clear t0 tf0 tf1 hrl
        go_wp2_with fail
        go_region_law (refine step_call rfl 23 #[.tmp 31, .tmp 32] _ rfl (enters_of Try.func23 (by kernel_rfl) rfl) #[.pointer (some ⟨g, 0, none⟩), .slice (some ⟨w2.heap.size, 0, none⟩) 4 4] (by simp [Act.eval, Act.put]) (fs6_pickInt hgl.2 hww _ HSd.out w2.heap.size 4 4 (by omega) [.int .i64 0, .int .i64 15, .int .i64 16, .int .i64 (-1)] (Holds.new w2.drew _ _) rfl (by omega) (by omega) (by intro v hv; simp at hv; rcases hv with rfl | rfl | rfl | rfl <;> exact ⟨_, trivial, rfl⟩)) ?_; rintro e w3 ⟨⟨x, rfl⟩, hs3⟩; refine ⟨_, rfl, ?_⟩; have x1 := hs3.t1; have hX3 := hs3.lt; have f1 := hs3.first2.1; have f2 := hs3.first2.2; have HS3 := Lib.hid hs3; clear hs3)
        all_goals
          have HF4 := Lib.hid (HS3.out.setFirst hww hgl.2 (j := 2) (u := .int .i64 x) (p' := (⟨p.1.kind, p.1.names, x⟩, p.2)) rfl rfl rfl)
          clear x1 f1 f2 HS3 t1 t1d HSd HS hX3
          generalize w3.setCell ⟨b, 2, none⟩ (.int .i64 x) = W5 at *
          go_wp2
          go_meet
          case rel => exact ⟨_, _, _, (⟨p.1.kind, p.1.names, x⟩, p.2) :: r, by simp; omega, HF4.out.most (by omega)⟩
    by_cases h3 : m = 3
    · subst h3
      cases rs with
      | nil =>
        go_wp2
        go_meet
        case rel => exact ⟨_, _, _, [], by simp, HS.out.most (by omega)⟩
      | cons p r =>
        obtain ⟨b, rfl⟩ := HS.out.form
        replace HS := Lib.hid (show Fs6 2 w0 w X g on (.slice (some ⟨b, 0, none⟩) (r.length + 1) c) (p :: r) w2 from HS.out)
        replace t1 : w2.cell? ⟨X, 1, none⟩ = some (.slice (some ⟨b, 0, none⟩) (r.length + 1) c) := t1
        have hrl2 : r.length + 1 ≤ 3 := hrl
        have hlen0 : (0 : Int) < (r.length : Int) + 1 := by omega
        have hlen1 : (0 : Int) < ((r.length + 1 : Nat) : Int) := by omega
        have HSd := Lib.hid (HS.out.below ((Below.refl _ w2).drew))
        have hS : w2.cell? ⟨X, 1, none⟩ = some (.slice (some ⟨b, 0, none⟩) (r.length + 1) c) ∧ w2.cell? ⟨b, 1, none⟩ = some (.slice p.2.A p.2.n p.2.c) := ⟨t1, HS.out.first1.1⟩
        clear t0 tf0 tf1 hrl
        go_wp2_with fail
        have hpl : p.1.names.length ≤ 2 := by have h1 := (HS.out.nm p (List.mem_cons_self ..)).2.1; have h2 := (HS.out.nm p (List.mem_cons_self ..)).2.2.1; omega
        have t1d : w2.drew.cell? ⟨X, 1, none⟩ = some (.slice (some ⟨b, 0, none⟩) (r.length + 1) c) := hS.1
        have t2d : w2.drew.cell? ⟨b, 1, none⟩ = some (.slice p.2.A p.2.n p.2.c) := hS.2
        clear hS t1 HS hlen1 hxw hwx hXl
        go_region_law (first
            | (refine step_appG (enc := encStr) (k := 1) (fun _ => rfl) (fun _ u hu => by simp at hu; subst hu; rfl) (by omega) rfl (.tmp 48) (.tmp 51) 30 9 rfl (.string ByteArray.empty) 16 Try.underlying30 (by kernel_rfl) rfl (w.heap.size + 1) (.slice p.2.A p.2.n p.2.c) p.1.names (by simp [Act.eval, Act.put]) hpn (some ⟨w3.heap.size, 0, none⟩) 1 1 [s.data.toList] (by simp [Act.eval, Act.put]) (Rd.new (enc := encStr) (k := 1) (fun _ => rfl) w3 #[.string s] 9 (n := 1) [s.data.toList] (by simp) rfl) (by omega) (by omega) (by simp; omega) ?_; intro v' w4 hown4 hg4 h54; obtain ⟨A4, c4, rfl⟩ := own_form hown4; rw [len_snoc] at hown4 h54
               have hp4 := (HS3.out.below ((Below.refl w3.heap.size w3).alloc (Nat.le_refl _) _)).names hww hgl.2 hg4 hown4 (by rw [← size_len]; exact hs) h54; have y1 := hp4.1.1; have y2 := hp4.1.2; have yf := hp4.2.1; have HF4 := Lib.hid hp4.2.2; clear hp4 hown4 hg4 h54 x1 x2 hX3 hb3 hpn HS3)
            | (refine step_call rfl 48 #[.tmp 49] _ rfl (enters_of Try.func48 (by kernel_rfl) rfl) #[.pointer (some ⟨g, 0, none⟩)] (by simp [Act.eval, Act.put]) (fs6_any hgl.2 hww _ HSd.out) ?_; rintro e w3 ⟨⟨s, hs, rfl⟩, hs3⟩; refine ⟨_, rfl, ?_⟩; clear t1d t2d HSd; have x1 := hs3.t1; have x2 := hs3.first1.1; have hX3 := hs3.lt; have hb3 := World.block_lt_of_cell? w3 _ x2; have HS3 := Lib.hid hs3
               have hpn : (w3.alloc (.cells #[.string s] 9)).ownsRow (w.heap.size + 1) 9 1 (.slice p.2.A p.2.n p.2.c) p.1.names.length (p.1.names.flatMap encStr) := by
                 have hq := ((hs3.below ((Below.refl w3.heap.size w3).alloc (Nat.le_refl _) (.cells #[.string s] 9))).nm p (List.mem_cons_self ..))
                 have hq1 := hq.1
                 rw [← hq.2.1] at hq1 ⊢
                 exact hq1
               clear hs3))
        all_goals
          clear y1 y2 yf
          generalize w4.setCell ⟨b, 1, none⟩ _ = W5 at *
          go_wp2
          go_meet
          case rel => exact ⟨_, _, _, (⟨p.1.kind, p.1.names ++ [s.data.toList], p.1.events⟩, ⟨A4, p.1.names.length + 1, c4⟩) :: r, by simp; omega, HF4.out⟩
    by_cases h4 : m = 4
    · subst h4
      cases rs with
      | nil =>
        go_wp2
        go_meet
        case rel => exact ⟨_, _, _, [], by simp, HS.out.most (by omega)⟩
      | cons p r =>
        obtain ⟨b, rfl⟩ := HS.out.form
        replace HS := Lib.hid (show Fs6 2 w0 w X g on (.slice (some ⟨b, 0, none⟩) (r.length + 1) c) (p :: r) w2 from HS.out)
        replace t1 : w2.cell? ⟨X, 1, none⟩ = some (.slice (some ⟨b, 0, none⟩) (r.length + 1) c) := t1
        have hrl2 : r.length + 1 ≤ 3 := hrl
        have hlen0 : (0 : Int) < (r.length : Int) + 1 := by omega
        have hlen1 : (0 : Int) < ((r.length + 1 : Nat) : Int) := by omega
        have HSd := Lib.hid (HS.out.below ((Below.refl _ w2).drew))
        have t1d : w2.drew.cell? ⟨X, 1, none⟩ = some (.slice (some ⟨b, 0, none⟩) (r.length + 1) c) := t1
        clear t0 tf0 tf1 hrl
        go_wp2_with fail
        go_region_law (refine step_call rfl 46 #[.tmp 63, .const (.int .i64 7)] _ rfl (enters_of Try.func46 (by kernel_rfl) rfl) #[.pointer (some ⟨g, 0, none⟩), .int .i64 7] (by simp [Act.eval, Act.put]) (fs6_below hgl.2 hww _ HSd.out 7 (by omega) (by omega)) ?_; rintro e w3 ⟨⟨x, hx, rfl⟩, hs3⟩; refine ⟨_, rfl, ?_⟩; have hxw1 : IntKind.i64.wrap ((x : Int) - 1) = (x : Int) - 1 := IntWalk.i64_in _ (by omega); have x1 := hs3.t1; have hX3 := hs3.lt; have f1 := hs3.first0.1; have f2 := hs3.first0.2; have HS3 := Lib.hid hs3; clear hs3)
        all_goals
          have HF4 := Lib.hid (HS3.out.setFirst hww hgl.2 (j := 0) (u := .int .i64 ((x : Int) - 1)) (p' := (⟨(x : Int) - 1, p.1.names, p.1.events⟩, p.2)) rfl rfl rfl)
          clear x1 f1 f2 HS3 t1 t1d HSd HS hX3
          generalize w3.setCell ⟨b, 0, none⟩ (.int .i64 ((x : Int) - 1)) = W5 at *
          go_wp2
          go_meet
          case rel => exact ⟨_, _, _, (⟨(x : Int) - 1, p.1.names, p.1.events⟩, p.2) :: r, by simp; omega, HF4.out.most (by omega)⟩
    go_wp2
    go_meet
    case rel => exact ⟨_, _, _, rs, by omega, HS.out.most (by omega)⟩

end Go.Proofs.Ytnphoodoheccoaa
