/-
  Walks: what each function returns, and that it leaves what lay in memory as it was.
-/
import Derived.Test.YtjpkceimokkpgaaGreatDoorProg
import Derived.Test.YtjpkceimokkpgaaGreatDoorPlain
import Derived.Test.YtjpkceimokkpgaaGreatDoorBase2
import Derived.Test.YtjpkceimokkpgaaGreatDoorOpen2
import Derived.Test.YtjpkceimokkpgaaGreatDoorShelf
import Derived.WalkKit
import Derived.WalkSpells
import Derived.WalkLawsBesides
import Derived.Lib.Hide
import Derived.Deep.LoopGhost
import Derived.Deep.QuietTactic
import Derived.BigQuiet
import Derived.Handy
import Derived.Deep.RegionHeld3
import Derived.StillTailTactics
import Derived.OpenShut
import Derived.ChangeSame
import Derived.Laws.StructEq

import Derived.Test.YtjpkceimokkpgaaGreatDoorPlainT

import Derived.Test.YtjpkceimokkpgaaGreatDoorBase3

import Derived.Test.YtjpkceimokkpgaaGreatDoorW1

import Derived.Test.YtjpkceimokkpgaaGreatDoorW2

import Derived.Test.YtjpkceimokkpgaaGreatDoorW3

import Derived.Test.YtjpkceimokkpgaaGreatDoorW4

import Derived.Test.YtjpkceimokkpgaaGreatDoorW5

import Derived.Test.YtjpkceimokkpgaaGreatDoorW9

import Derived.Test.YtjpkceimokkpgaaGreatDoorW41

namespace Go.Proofs.YtjpkceimokkpgaaGreatDoor
open Go.ChangeShapes Go.WideShapes Go.ChangeAt Go.RowKit Go.Deep
set_option linter.unusedVariables false
set_option linter.unusedSimpArgs false

set_option maxRecDepth 20000

def flagList : List Str := [[115, 101, 101, 110], [97, 110, 115, 119, 101, 114, 101, 100], [102, 108, 97, 103, 103, 101, 100], [100, 101, 108, 101, 116, 101, 100], [100, 114, 97, 102, 116]]
def hasBit (b : Int) (k : Nat) : Bool := bits .and .i64 (b / 2 ^ k) 1 == 1
def selTo (b : Int) (ws : List Str) (k : Nat) : List Str := ((List.range k).filter (hasBit b)).filterMap (fun j => ws[j]?)
theorem selTo_yes {b : Int} {ws : List Str} {k : Nat} {x : Str} (h : ws[k]? = some x) (hb : hasBit b k = true) : selTo b ws (k + 1) = selTo b ws k ++ [x] := by
  unfold selTo
  rw [List.range_succ, List.filter_append, List.filterMap_append, List.filter_cons_of_pos (by simpa using hb)]
  simp [h]
theorem selTo_no {b : Int} {ws : List Str} {k : Nat} (hb : hasBit b k = false) : selTo b ws (k + 1) = selTo b ws k := by
  unfold selTo
  rw [List.range_succ, List.filter_append, List.filterMap_append, List.filter_cons_of_neg (by simp [hb])]
  simp
theorem selTo_len (b : Int) (ws : List Str) : ∀ k, (selTo b ws k).length ≤ k
  | 0 => by simp [selTo]
  | k + 1 => by
    have ih := selTo_len b ws k
    unfold selTo at ih ⊢
    rw [List.range_succ, List.filter_append, List.filterMap_append, List.length_append]
    have h1 := List.length_filterMap_le (fun j => ws[j]?) (List.filter (hasBit b) [k])
    have h2 := List.length_filter_le (hasBit b) [k]
    simp only [List.length_singleton] at h2
    omega
theorem selTo_mem {b : Int} {ws : List Str} {k : Nat} {x : Str} (h : x ∈ selTo b ws k) : x ∈ ws := by
  unfold selTo at h
  obtain ⟨j, _, hj⟩ := List.mem_filterMap.1 h
  exact List.mem_of_getElem? hj
def flagsText (b : Int) : Str := if inR b 0 31 = true then Lib.join (selTo b flagList 5) [32] else []
theorem flagList_fit : ∀ y ∈ flagList, strFit y := by
  intro y hy
  unfold strFit
  simp [flagList] at hy
  rcases hy with rfl | rfl | rfl | rfl | rfl <;> simp
theorem impl_flagWords (w : World) :
    Calls Tryz.prog 38 #[] w fun e w' => e = .returned (.slice (some ⟨w.heap.size, 0, none⟩) 5 5) ∧ w' = w.alloc (.cells (flagList.map fun l => Value.string ⟨l.toArray⟩).toArray 9) := by
  go_enter Tryz.func38, Tryz.ntmps38
  go_wp2
  go_ret
  exact ⟨rfl, rfl⟩
theorem spec_l5Words (w : World) :
    Calls Tryz.prog 61 #[] w fun e w' => e = .returned (.slice (some ⟨w.heap.size, 0, none⟩) 5 5) ∧ w' = w.alloc (.cells (flagList.map fun l => Value.string ⟨l.toArray⟩).toArray 9) := by
  go_enter Tryz.func61, Tryz.ntmps61
  go_wp2
  go_ret
  exact ⟨rfl, rfl⟩
theorem flagList_rd (w : World) (e : TypeId) : Rd encStr 1 (w.alloc (.cells (flagList.map fun l => Value.string ⟨l.toArray⟩).toArray e)) (some ⟨w.heap.size, 0, none⟩) 5 flagList :=
  Rd.new (enc := encStr) (k := 1) (fun _ => rfl) w _ e (n := 5) flagList (by rfl) rfl

set_option maxHeartbeats 1600000 in
theorem impl_namesOf (A : Option Addr) (n c : Nat) (b : Int) (ws : List Str) (w : World) (hn : n ≤ 64) (h : Rd encStr 1 w A n ws) (hf : ∀ y ∈ ws, strFit y) :
    Calls Tryz.prog 37 #[.slice A n c, .int .i64 b] w (RetOwn encStr 1 9 w (selTo b ws n)) := by
  have HL := Lib.hid h.1
  have H := Lib.hid h
  clear h
  have hnew := World.ownsRow_made (base := w.heap.size) (e := 9) (size := 1) w #[] 0 (Nat.le_refl _) (by unfold maxLen; omega) rfl
  go_enter Tryz.func37, Tryz.ntmps37
  go_wp2_with fail
  go_loopw [5, 11] (fun o i wr => ∃ (k : Nat) (l : List Str), k ≤ n ∧ i = .int .i64 k ∧ l = selTo b ws k ∧ l.length ≤ k ∧ wr.ownsRow w.heap.size 9 1 o l.length (l.flatMap encStr) ∧ Below w.heap.size w wr) (fun _ i _ => n - (intOf i).toNat)
  case atStart => exact ⟨0, [], by omega, rfl, rfl, Nat.le_refl _, hnew, (Below.refl _ _).alloc (Nat.le_refl _) _⟩
  case round =>
    obtain ⟨k, l, hk, rfl, hl, hll, hown, hW⟩ := hrel
    clear hnew
    by_cases hlt : k < n
    · obtain ⟨bk, off, x, rfl, _, hx, hc⟩ := (H.out.below hW).elem hlt
      have g0 : wr.cell? ⟨bk, off + k, none⟩ = some (.string ⟨x.toArray⟩) := by simpa using hc 0 _ rfl
      have hk64 : (k : Int) ≤ 64 := by omega
      cases hb : hasBit b k
      · have hbe : (bits .and .i64 (b / 2 ^ k) 1 == 1) = false := hb
        have HN := Lib.hid (show l = selTo b ws (k + 1) by rw [selTo_no hb, hl])
        have Hown := Lib.hid hown
        have HW := Lib.hid hW
        clear hl hown hW hc hx hb
        go_wp2
        go_roundw
        case rel => exact ⟨k + 1, l, by omega, by go_num, HN.out, by omega, Hown.out, HW.out⟩
        case measure => simp [intOf]; omega
      · have hbe : (bits .and .i64 (b / 2 ^ k) 1 == 1) = true := hb
        have HN := Lib.hid (show l ++ [x] = selTo b ws (k + 1) by rw [selTo_yes hx hb, hl])
        have Hown2 := Lib.hid (hown.alloc (.cells #[.string ⟨x.toArray⟩] 9))
        have Hrd := Lib.hid (Rd.new (enc := encStr) (k := 1) (fun _ => rfl) wr #[.string ⟨x.toArray⟩] 9 (n := 1) [x] rfl rfl)
        have HB := Lib.hid (hW.alloc hW.size (.cells #[.string ⟨x.toArray⟩] 9))
        have hsz := hW.size
        clear hl hown hW hc hx hb
        go_wp2_with (at_builtin; refine wpList_app (enc := encStr) (k := 1) (fun _ => rfl) (fun _ u hu => by simp at hu; subst hu; rfl) (by omega) rfl _ _ 53 9 rfl (.string ByteArray.empty) 16 Tryz.underlying53 (by kernel_rfl) rfl w.heap.size _ l rfl Hown2.out _ _ _ _ rfl Hrd.out (by omega) (by omega) (by simp; omega) ?_; intro v' w' hown' hbel')
        go_roundw
        case rel => exact ⟨k + 1, l ++ [x], by omega, by go_num, HN.out, by simp; omega, hown', HB.out.trans hbel'⟩
        case measure => simp [intOf]; omega
    · have hke : k = n := by omega
      subst hke
      have Hl := Lib.hid hl
      have Hown := Lib.hid hown
      have HB := Lib.hid hW
      clear hl hown hW
      go_wp2
      go_ret
      have ho := Hown.out
      rw [Hl.out] at ho
      exact retOwn_mk ho HB.out
set_option maxHeartbeats 1600000 in
theorem spec_FlagsText (b : Int) (w : World) :
    Calls Tryz.prog 25 #[.int .i64 b] w fun e w' => e = .returned (.string ⟨(flagsText b).toArray⟩) ∧ Below w.heap.size w w' := by
  have hnew := World.ownsRow_made (base := w.heap.size) (e := 9) (size := 1) w #[] 0 (Nat.le_refl _) (by unfold maxLen; omega) rfl
  cases hr : inR b 0 31
  · have HF := Lib.hid (show flagsText b = [] by unfold flagsText; rw [hr]; rfl)
    go_enter Tryz.func25, Tryz.ntmps25
    go_wp2_with fail
    go_loopw [3, 4] (fun o i wr => i = .int .i64 0 ∧ o = .slice (some ⟨w.heap.size, 0, none⟩) 0 0 ∧ Below w.heap.size w wr) (fun _ i _ => 0)
    case atStart => exact ⟨rfl, rfl, (Below.refl _ _).alloc (Nat.le_refl _) _⟩
    case round =>
      obtain ⟨rfl, rfl, hW⟩ := hrel
      have HW := Lib.hid hW
      clear hW hnew
      go_wp2_with (go_at_call 57; refine (spec_FlagsOk _ _).mono ?_; rintro e w' ⟨rfl, rfl⟩; rw [hr])
      refine (spec_Joined _ 0 _ [] ⟨#[32]⟩ _ (by omega) (Rd.none_ _ _ _ _) (fun y hy => by cases hy) (by decide)).mono ?_
      rintro e w3 ⟨rfl, hb3⟩
      have HB3 := Lib.hid (HW.out.trans (hb3.mono HW.out.size))
      clear hb3
      go_wp2
      go_ret
      exact ⟨ret_s (by rw [HF.out]; rfl), HB3.out⟩
  · have HF := Lib.hid (show flagsText b = Lib.join (selTo b flagList 5) [32] by unfold flagsText; rw [hr]; rfl)
    go_enter Tryz.func25, Tryz.ntmps25
    go_wp2_with fail
    go_loopw [3, 4] (fun o i wr => ∃ (k : Nat) (l : List Str), k ≤ 5 ∧ i = .int .i64 k ∧ l = selTo b flagList k ∧ l.length ≤ k ∧ wr.ownsRow w.heap.size 9 1 o l.length (l.flatMap encStr) ∧ Below w.heap.size w wr) (fun _ i _ => 5 - (intOf i).toNat)
    case atStart => exact ⟨0, [], by omega, rfl, rfl, Nat.le_refl _, hnew, (Below.refl _ _).alloc (Nat.le_refl _) _⟩
    case round =>
      obtain ⟨k, l, hk, rfl, hl, hll, hown, hW⟩ := hrel
      clear hnew
      by_cases hlt : k < 5
      · have hki : (k : Int) < 5 := by omega
        have hk64 : (k : Int) ≤ 64 := by omega
        obtain ⟨x, hx⟩ : ∃ x, flagList[k]? = some x := ⟨_, List.getElem?_eq_getElem (show k < flagList.length from hlt)⟩
        cases hb : hasBit b k
        · have hbe : (bits .and .i64 (b / 2 ^ k) 1 == 1) = false := hb
          have HN := Lib.hid (show l = selTo b flagList (k + 1) by rw [selTo_no hb, hl])
          have Hown := Lib.hid hown
          have HW := Lib.hid hW
          clear hl hown hW hx hb
          go_wp2_with (go_at_call 57; refine (spec_FlagsOk _ _).mono ?_; rintro e w' ⟨rfl, rfl⟩; rw [hr])
          go_roundw
          case rel => exact ⟨k + 1, l, by omega, by go_num, HN.out, by omega, Hown.out, HW.out⟩
          case measure => simp [intOf]; omega
        · have hbe : (bits .and .i64 (b / 2 ^ k) 1 == 1) = true := hb
          have HN := Lib.hid (show l ++ [x] = selTo b flagList (k + 1) by rw [selTo_yes hx hb, hl])
          have hcell : (wr.alloc (.cells (flagList.map fun l => Value.string ⟨l.toArray⟩).toArray 9)).cell? ⟨wr.heap.size, k, none⟩ = some (.string ⟨x.toArray⟩) := by
            rw [World.cell?_alloc_mark, List.getElem?_toArray, List.getElem?_map, hx]; rfl
          generalize hw1 : wr.alloc (.cells (flagList.map fun l => Value.string ⟨l.toArray⟩).toArray 9) = w1 at hcell
          have hown1 : w1.ownsRow w.heap.size 9 1 u3 l.length (l.flatMap encStr) := by rw [← hw1]; exact hown.alloc _
          have hW1 : Below w.heap.size w w1 := by rw [← hw1]; exact hW.alloc hW.size _
          have Hown2 := Lib.hid (hown1.alloc (.cells #[.string ⟨x.toArray⟩] 9))
          have Hrd := Lib.hid (Rd.new (enc := encStr) (k := 1) (fun _ => rfl) w1 #[.string ⟨x.toArray⟩] 9 (n := 1) [x] rfl rfl)
          have HB := Lib.hid (hW1.alloc hW1.size (.cells #[.string ⟨x.toArray⟩] 9))
          have hsz := hW1.size
          have HW1 := Lib.hid hw1
          clear hl hown hW hx hb hown1 hW1 hw1
          go_wp2_with (first
            | (go_at_call 57; refine (spec_FlagsOk _ _).mono ?_; rintro e w' ⟨rfl, rfl⟩; rw [hr])
            | (go_at_call 61; refine (spec_l5Words _).mono ?_; rw [HW1.out]; rintro e w' ⟨rfl, rfl⟩)
            | (at_builtin; refine wpList_app (enc := encStr) (k := 1) (fun _ => rfl) (fun _ u hu => by simp at hu; subst hu; rfl) (by omega) rfl _ _ 53 9 rfl (.string ByteArray.empty) 16 Tryz.underlying53 (by kernel_rfl) rfl w.heap.size _ l rfl Hown2.out _ _ _ _ rfl Hrd.out (by omega) (by omega) (by simp; omega) ?_; intro v' w' hown' hbel'))
          go_roundw
          case rel => exact ⟨k + 1, l ++ [x], by omega, by go_num, HN.out, by simp; omega, hown', HB.out.trans hbel'⟩
          case measure => simp [intOf]; omega
      · have hke : k = 5 := by omega
        subst hke
        have Hl := Lib.hid hl
        obtain ⟨A2, c2, rfl⟩ := own_form hown
        have Hrd := Lib.hid (Rd.of_own (enc := encStr) (k := 1) (fun _ => rfl) hown rfl)
        have HB := Lib.hid hW
        clear hl hown hW
        go_wp2_with fail
        refine (spec_Joined _ _ _ l ⟨#[32]⟩ _ (by omega) Hrd.out (fun y hy => flagList_fit y (selTo_mem (by rw [← Hl.out]; exact hy))) (by decide)).mono ?_
        rintro e w3 ⟨rfl, hb3⟩
        have HB3 := Lib.hid (HB.out.trans (hb3.mono HB.out.size))
        clear hb3
        go_wp2
        go_ret
        exact ⟨ret_s (by rw [HF.out, Hl.out]), HB3.out⟩

/-! ### tokens of a filter -/
def tkA (s : Str) : Token := ⟨1, ⟨s.toArray⟩⟩
def tkO : Token := ⟨3, ⟨#[]⟩⟩
def tkC : Token := ⟨4, ⟨#[]⟩⟩
def groupT (ws : List Str) : List Token := (tkO :: ws.map tkA) ++ [tkC]
def scopeList : List Str := [[], [115, 101, 108, 101, 99, 116, 101, 100], [112, 101, 114, 115, 111, 110, 97, 108], [115, 117, 98, 116, 114, 101, 101], [98, 111, 120, 101, 115]]
def eventList : List Str := [[110, 101, 119], [103, 111, 110, 101], [102, 108, 97, 103, 115], [110, 97, 109, 101, 115]]
def scopeHead (s : Scope) : List Token := [tkO, tkA (scopeList.getD s.kind.toNat [])]
def scopeNames (s : Scope) : List Token := if s.kind < 3 then [] else groupT s.names
def scopeT (s : Scope) : List Token := ((scopeHead s ++ scopeNames s) ++ groupT (selTo s.events eventList 4)) ++ [tkC]
def filterT (f : Filter) : List Token := if filterOk f = true then (if f.on = true then tkA [115, 101, 116] :: f.scopes.flatMap scopeT else [tkA [110, 111, 110, 101]]) else []
def toksTo (rs : List (Scope × Hd)) (k : Nat) : List Token := tkA [115, 101, 116] :: (rs.take k).flatMap (fun q => scopeT q.1)
theorem groupT_len (ws : List Str) : (groupT ws).length = ws.length + 2 := by simp [groupT]
theorem scopeOk_kind {s : Scope} (h : scopeOk s = true) : 1 ≤ s.kind ∧ s.kind ≤ 4 := by
  unfold scopeOk inR at h; simp at h; omega
theorem scopeOk_names {s : Scope} (h : scopeOk s = true) : s.names.length ≤ 3 := by
  unfold scopeOk at h
  rw [Bool.and_eq_true, Bool.and_eq_true] at h
  have h3 := h.2.2
  by_cases hk : s.kind < 3
  · rw [if_pos hk] at h3; have := of_decide_eq_true h3; omega
  · rw [if_neg hk, Bool.and_eq_true] at h3
    have := h3.2
    unfold inR at this; simp at this; omega
theorem scopeT_len {s : Scope} (h : scopeOk s = true) : (scopeT s).length ≤ 20 := by
  have h1 := scopeOk_names h
  have h2 := selTo_len s.events eventList 4
  unfold scopeT scopeHead scopeNames
  simp only [List.length_append, groupT_len, List.length_cons, List.length_nil]
  split
  · simp; omega
  · rw [groupT_len]; omega
theorem toksTo_succ {rs : List (Scope × Hd)} {k : Nat} {q : Scope × Hd} (h : rs[k]? = some q) : toksTo rs (k + 1) = toksTo rs k ++ scopeT q.1 := by
  unfold toksTo
  rw [take_snoc h, List.flatMap_append]
  simp
theorem toksTo_all {f : Filter} {rs : List (Scope × Hd)} (hok : filterOk f = true) (hon : f.on = true) (hm : rs.map Prod.fst = f.scopes) : toksTo rs rs.length = filterT f := by
  unfold toksTo filterT
  rw [if_pos hok, if_pos hon, List.take_of_length_le (Nat.le_refl _), ← hm, List.flatMap_map]
theorem filterT_no {f : Filter} (h : filterOk f = false) : filterT f = [] := by unfold filterT; rw [h]; rfl
theorem filterT_off {f : Filter} (h : filterOk f = true) (ho : f.on = false) : filterT f = [tkA [110, 111, 110, 101]] := by unfold filterT; rw [h, ho]; rfl
theorem filterOk_each {f : Filter} {rs : List (Scope × Hd)} (h : filterOk f = true) (hm : rs.map Prod.fst = f.scopes) : ∀ q ∈ rs, scopeOk q.1 = true := by
  intro q hq
  cases hs : scopeOk q.1
  · obtain ⟨k, hk⟩ := List.getElem?_of_mem hq
    rw [filterOk_bad hm hk hs] at h
    cases h
  · rfl
theorem filterOk_few {f : Filter} {rs : List (Scope × Hd)} (h : filterOk f = true) (hm : rs.map Prod.fst = f.scopes) : rs.length ≤ 3 := by
  have hl : rs.length = f.scopes.length := by rw [← hm, List.length_map]
  cases ho : f.on
  · rw [filterOk_off ho] at h; have := of_decide_eq_true h; omega
  · unfold filterOk at h
    rw [if_pos ho, Bool.and_eq_true] at h
    have := h.1
    unfold inR at this; simp at this; omega
theorem flatMap_le {α β : Type} (f : α → List β) (B : Nat) : ∀ (l : List α), (∀ x ∈ l, (f x).length ≤ B) → (l.flatMap f).length ≤ l.length * B
  | [], _ => by simp
  | x :: r, h => by
    rw [List.flatMap_cons, List.length_append, List.length_cons, Nat.add_mul]
    have h1 := h x (List.mem_cons_self ..)
    have h2 := flatMap_le f B r (fun y hy => h y (List.mem_cons_of_mem _ hy))
    omega
theorem filterT_len (f : Filter) : (filterT f).length ≤ 61 := by
  cases h : filterOk f
  · rw [filterT_no h]; simp
  cases ho : f.on
  · rw [filterT_off h ho]; simp
  have hm : (f.scopes.map (fun s => (s, (default : Hd)))).map Prod.fst = f.scopes := by rw [List.map_map]; exact List.map_id'' (fun _ => rfl) _
  have h3 := filterOk_few h hm
  rw [List.length_map] at h3
  have hs := filterOk_each h hm
  unfold filterT
  rw [if_pos h, if_pos ho, List.length_cons]
  have := flatMap_le scopeT 20 f.scopes (fun s hs' => scopeT_len (hs (s, default) (List.mem_map.2 ⟨s, hs', rfl⟩)))
  omega
theorem words_holds {w' : World} {g : Nat} {ws : List Str} (h : Holds w' g (ws.map fun (l : Str) => Value.string ⟨l.toArray⟩)) {k : Nat} (hk : k < ws.length) : w'.cell? ⟨g, k, none⟩ = some (.string ⟨(ws.getD k []).toArray⟩) := by
  refine h.2 k _ ?_
  rw [List.getElem?_map, List.getD_eq_getElem?_getD, List.getElem?_eq_getElem hk]
  rfl
theorem words_rd {w' : World} {g n : Nat} {ws : List Str} (h : Holds w' g (ws.map fun (l : Str) => Value.string ⟨l.toArray⟩)) (hn : ws.length = n) : Rd encStr 1 w' (some ⟨g, 0, none⟩) n ws :=
  ⟨hn, fun _ => ⟨g, 0, rfl, h.1, fun j x hx i v hv => by
    cases i with
    | zero =>
      have h0 : v = Value.string ⟨x.toArray⟩ := by simpa using hv.symm
      subst h0
      have := h.2 j (.string ⟨x.toArray⟩) (by rw [List.getElem?_map, hx]; rfl)
      simpa using this
    | succ i => simp at hv⟩⟩
theorem eventList_fit : ∀ y ∈ eventList, strFit y := by
  intro y hy
  unfold strFit
  simp [eventList] at hy
  rcases hy with rfl | rfl | rfl | rfl <;> simp

theorem own_lit_at {base : Nat} {e : TypeId} {size : Nat} {N : Nat} (W : World) (cs : Array Value) (n : Nat) (hN : W.heap.size = N) (hb : base ≤ W.heap.size) (hm : n ≤ maxLen) (hl : cs.size = n * size) :
    (W.alloc (.cells cs e)).ownsRow base e size (.slice (some ⟨N, 0, none⟩) n n) n cs.toList := by
  subst hN
  exact World.ownsRow_lit W cs n hb hm hl

theorem impl_atom (s : ByteArray) (w : World) :
    Calls Tryz.prog 31 #[.string s] w fun e w' => e = .returned (.agg #[.int .i64 1, .string s]) ∧ Below w.heap.size w w' := by
  go_enter Tryz.func31, Tryz.ntmps31
  go_wp2
  go_returns
  exact ⟨rfl, by go_grown⟩
theorem spec_l6Atom (s : ByteArray) (w : World) :
    Calls Tryz.prog 19 #[.string s] w fun e w' => e = .returned (.agg #[.int .i64 1, .string s]) ∧ Below w.heap.size w w' := by
  go_enter Tryz.func19, Tryz.ntmps19
  go_wp2
  go_returns
  exact ⟨rfl, by go_grown⟩
theorem spec_l6Open (w : World) :
    Calls Tryz.prog 23 #[] w fun e w' => e = .returned (.agg #[.int .i64 3, .string ⟨#[]⟩]) ∧ Below w.heap.size w w' := by
  go_enter Tryz.func23, Tryz.ntmps23
  go_wp2
  go_returns
  exact ⟨rfl, by go_grown⟩
theorem spec_l6Close (w : World) :
    Calls Tryz.prog 26 #[] w fun e w' => e = .returned (.agg #[.int .i64 4, .string ⟨#[]⟩]) ∧ Below w.heap.size w w' := by
  go_enter Tryz.func26, Tryz.ntmps26
  go_wp2
  go_returns
  exact ⟨rfl, by go_grown⟩
theorem impl_scopeWords (w : World) :
    Calls Tryz.prog 81 #[] w fun e w' => (∃ g, e = .returned (.slice (some ⟨g, 0, none⟩) 5 5) ∧ Holds w' g (scopeList.map fun (l : Str) => Value.string ⟨l.toArray⟩)) ∧ Below w.heap.size w w' := by
  go_enter Tryz.func81, Tryz.ntmps81
  go_wp2
  go_ret
  exact ⟨⟨_, rfl, Holds.new w (scopeList.map fun (l : Str) => Value.string ⟨l.toArray⟩) 9⟩, by go_grown⟩
theorem spec_l6Words (w : World) :
    Calls Tryz.prog 62 #[] w fun e w' => (∃ g, e = .returned (.slice (some ⟨g, 0, none⟩) 5 5) ∧ Holds w' g (scopeList.map fun (l : Str) => Value.string ⟨l.toArray⟩)) ∧ Below w.heap.size w w' := by
  go_enter Tryz.func62, Tryz.ntmps62
  go_wp2
  go_ret
  exact ⟨⟨_, rfl, Holds.new w (scopeList.map fun (l : Str) => Value.string ⟨l.toArray⟩) 9⟩, by go_grown⟩
theorem impl_eventWords (w : World) :
    Calls Tryz.prog 83 #[] w fun e w' => (∃ g, e = .returned (.slice (some ⟨g, 0, none⟩) 4 4) ∧ Holds w' g (eventList.map fun (l : Str) => Value.string ⟨l.toArray⟩)) ∧ Below w.heap.size w w' := by
  go_enter Tryz.func83, Tryz.ntmps83
  go_wp2
  go_ret
  exact ⟨⟨_, rfl, Holds.new w (eventList.map fun (l : Str) => Value.string ⟨l.toArray⟩) 9⟩, by go_grown⟩
theorem spec_l6Events (w : World) :
    Calls Tryz.prog 63 #[] w fun e w' => (∃ g, e = .returned (.slice (some ⟨g, 0, none⟩) 4 4) ∧ Holds w' g (eventList.map fun (l : Str) => Value.string ⟨l.toArray⟩)) ∧ Below w.heap.size w w' := by
  go_enter Tryz.func63, Tryz.ntmps63
  go_wp2
  go_ret
  exact ⟨⟨_, rfl, Holds.new w (eventList.map fun (l : Str) => Value.string ⟨l.toArray⟩) 9⟩, by go_grown⟩
set_option maxHeartbeats 1600000 in
theorem impl_group (A : Option Addr) (n c : Nat) (ws : List Str) (w : World) (hn : n ≤ 1048576) (h : Rd encStr 1 w A n ws) :
    Calls Tryz.prog 36 #[.slice A n c] w (RetOwn encToken 2 48 w (groupT ws)) := by
  have HL := Lib.hid h.1
  have H := Lib.hid h
  clear h
  have hnew := own_lit_at (base := w.heap.size) (e := 48) (size := 2) w #[.int .i64 3, .string ⟨#[]⟩] 1 rfl (Nat.le_refl _) (by unfold maxLen; omega) rfl
  go_enter Tryz.func36, Tryz.ntmps36
  go_wp2_with fail
  go_loopw [3, 10] (fun o i wr => ∃ (k : Nat) (l : List Token), k ≤ n ∧ i = .int .i64 k ∧ Hid (l = tkO :: (ws.take k).map tkA) ∧ l.length = k + 1 ∧ wr.ownsRow w.heap.size 48 2 o l.length (l.flatMap encToken) ∧ Below w.heap.size w wr) (fun _ i _ => n - (intOf i).toNat)
  case atStart => exact ⟨0, [tkO], by omega, rfl, rfl, rfl, hnew, (Below.refl _ _).alloc (Nat.le_refl _) _⟩
  case round =>
    obtain ⟨k, l, hk, rfl, hl, hll, hown, hW⟩ := hrel
    clear hnew
    by_cases hlt : k < n
    · obtain ⟨b, off, x, rfl, _, hx, hc⟩ := (H.out.below hW).elem hlt
      have g0 : wr.cell? ⟨b, off + k, none⟩ = some (.string ⟨x.toArray⟩) := by simpa using hc 0 _ rfl
      have HN := Lib.hid (show l ++ [tkA x] = tkO :: (ws.take (k + 1)).map tkA by rw [hl.out, take_snoc hx, List.map_append]; rfl)
      have Hown := Lib.hid hown
      have HW := Lib.hid hW
      have HZ := Lib.hid (show (tkA x).text = ⟨x.toArray⟩ from rfl)
      clear hl hown hW hc hx
      obtain ⟨z, hz⟩ : ∃ z : ByteArray, (⟨x.toArray⟩ : ByteArray) = z := ⟨_, rfl⟩
      rw [hz] at g0
      have HZZ := Lib.hid hz
      clear hz
      go_wp2_with fail
      refine (impl_atom z _).mono ?_
      rintro e w1 ⟨rfl, hb1⟩
      have hown1 := own_below Hown.out hb1
      have hB1 := HW.out.trans (hb1.mono HW.out.size)
      have Hown2 := Lib.hid (hown1.alloc (.cells #[.int .i64 1, .string z] 48))
      have Hrd := Lib.hid (Rd.new (enc := encToken) (k := 2) (fun _ => rfl) w1 #[.int .i64 1, .string z] 48 (n := 1) [tkA x] (by rw [← HZZ.out]; rfl) rfl)
      have HB := Lib.hid (hB1.alloc hB1.size (.cells #[.int .i64 1, .string z] 48))
      have hsz := hB1.size
      clear hown1 hB1 hb1
      go_wp2_with (at_builtin; refine wpList_app (enc := encToken) (k := 2) (fun _ => rfl) (fun _ u hu => by simp at hu; rcases hu with rfl | rfl <;> rfl) (by omega) rfl _ _ 29 48 rfl (.agg #[.int .i64 0, .string ByteArray.empty]) 24 Tryz.underlying29 (by kernel_rfl) rfl w.heap.size _ l rfl Hown2.out _ _ _ _ rfl Hrd.out (by omega) (by omega) (by simp; omega) ?_; intro v' w' hown' hbel')
      go_roundw
      case rel => exact ⟨k + 1, l ++ [tkA x], by omega, by go_num, HN.out, by simp; omega, hown', HB.out.trans hbel'⟩
      case measure => simp [intOf]; omega
    · have hke : k = n := by omega
      subst hke
      have HN := Lib.hid (show l ++ [tkC] = groupT ws by rw [hl.out, List.take_of_length_le (by rw [HL.out]; exact Nat.le_refl _)]; rfl)
      have Hown2 := Lib.hid (hown.alloc (.cells #[.int .i64 4, .string ⟨#[]⟩] 48))
      have Hrd := Lib.hid (Rd.new (enc := encToken) (k := 2) (fun _ => rfl) wr #[.int .i64 4, .string ⟨#[]⟩] 48 (n := 1) [tkC] rfl rfl)
      have HB := Lib.hid (hW.alloc hW.size (.cells #[.int .i64 4, .string ⟨#[]⟩] 48))
      have hsz := hW.size
      clear hl hown hW
      go_wp2_with (at_builtin; refine wpList_app (enc := encToken) (k := 2) (fun _ => rfl) (fun _ u hu => by simp at hu; rcases hu with rfl | rfl <;> rfl) (by omega) rfl _ _ 29 48 rfl (.agg #[.int .i64 0, .string ByteArray.empty]) 24 Tryz.underlying29 (by kernel_rfl) rfl w.heap.size _ l rfl Hown2.out _ _ _ _ rfl Hrd.out (by omega) (by omega) (by simp; omega) ?_; intro v' w' hown' hbel')
      go_ret
      rw [HN.out] at hown'
      exact retOwn_mk hown' (HB.out.trans hbel')

end Go.Proofs.YtjpkceimokkpgaaGreatDoor
