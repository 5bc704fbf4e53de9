/-
  Walks: what each function returns, and that it leaves what lay in memory as it was.
-/
import Derived.Test.YtjpkceimokkpgaaGreatDoorProg
import Derived.Test.YtjpkceimokkpgaaGreatDoorPlain
import Derived.Test.YtjpkceimokkpgaaGreatDoorBase2
import Derived.Test.YtjpkceimokkpgaaGreatDoorOpen2
import Derived.Test.YtjpkceimokkpgaaGreatDoorShelf
import Derived.WalkKit
import Derived.WalkSpells
import Derived.WalkLawsBesides
import Derived.Lib.Hide
import Derived.Deep.LoopGhost
import Derived.Deep.QuietTactic
import Derived.BigQuiet
import Derived.Handy
import Derived.Deep.RegionHeld3
import Derived.StillTailTactics
import Derived.OpenShut
import Derived.ChangeSame
import Derived.Laws.StructEq

import Derived.Test.YtjpkceimokkpgaaGreatDoorPlainT

import Derived.Test.YtjpkceimokkpgaaGreatDoorBase3

import Derived.Lib.ItoaMem
import Derived.Lib.ItoaLen
import Derived.Lib.LaidTab

import Derived.Test.YtjpkceimokkpgaaGreatDoorW1

import Derived.Test.YtjpkceimokkpgaaGreatDoorW3

import Derived.Test.YtjpkceimokkpgaaGreatDoorW14

import Derived.Test.YtjpkceimokkpgaaGreatDoorW40

import Derived.Test.YtjpkceimokkpgaaGreatDoorW41

namespace Go.Proofs.YtjpkceimokkpgaaGreatDoor
open Go.ChangeShapes Go.WideShapes Go.ChangeAt Go.RowKit Go.Deep
set_option linter.unusedVariables false
set_option linter.unusedSimpArgs false

def endText (n : Int) : Str := if n = 0 then [42] else Lib.itoa n
def spanText (x : Span) : Str := if x.2 = x.1 then endText x.1 else endText x.1 ++ (58 :: endText x.2)
def setText (xs : List Span) : Str := if setOk xs = true then Lib.join (xs.map spanText) [44] else []
theorem endText_len {n : Int} (h0 : -9223372036854775808 ≤ n) (h1 : n ≤ 9223372036854775807) : (endText n).length ≤ 21 := by
  unfold endText; split
  · simp
  · exact Lib.itoa_length_le n h0 h1
theorem spanText_len {x : Span} (h : spanOk x = true) : (spanText x).length ≤ 43 := by
  unfold spanOk inR at h
  simp at h
  have h1 := endText_len (n := x.1) (by omega) (by omega)
  have h2 := endText_len (n := x.2) (by omega) (by omega)
  unfold spanText; split
  · omega
  · simp; omega
theorem spanText_fit {xs : List Span} (h : setOk xs = true) : ∀ y ∈ xs.map spanText, strFit y := by
  intro y hy
  obtain ⟨x, hx, rfl⟩ := List.mem_map.1 hy
  unfold setOk at h
  simp only [Bool.and_eq_true, List.all_eq_true] at h
  have := spanText_len (h.1 x hx)
  unfold strFit; omega
theorem setOk_n {xs : List Span} (h : setOk xs = true) : xs.length ≤ 5 := by
  unfold setOk inR at h; simp at h; omega
theorem setOk_at {xs : List Span} {k : Nat} {lo hi : Int} (h : setOk xs = true) (hx : xs[k]? = some (lo, hi)) : (0 ≤ lo ∧ lo ≤ 999999999) ∧ (0 ≤ hi ∧ hi ≤ 999999999) := by
  unfold setOk at h
  simp only [Bool.and_eq_true, List.all_eq_true] at h
  have := h.1 _ (List.mem_of_getElem? hx)
  unfold spanOk inR at this
  simp at this
  omega
theorem take_map {α β : Type} (f : α → β) {l : List α} {k : Nat} {x : α} (h : l[k]? = some x) : (l.map f).take (k + 1) = (l.map f).take k ++ [f x] := take_snoc (by rw [List.getElem?_map, h]; rfl)
theorem take_mem_len {xs : List Span} (h : setOk xs = true) (k : Nat) : ((xs.map spanText).take k).length ≤ 5 := by
  have := setOk_n h
  rw [List.length_take, List.length_map]; omega
theorem cat3 {a b c : Str} {za zc : ByteArray} (ha : (⟨a.toArray⟩ : ByteArray) = za) (hc : (⟨c.toArray⟩ : ByteArray) = zc) (hb : b = [58]) : za ++ { data := #[58] } ++ zc = ⟨(a ++ (58 :: c)).toArray⟩ := by
  subst ha hc; exact str_eq (by simp)
theorem cat3' {a c : Str} {za zc : ByteArray} (ha : (⟨a.toArray⟩ : ByteArray) = za) (hc : (⟨c.toArray⟩ : ByteArray) = zc) : za ++ (({ data := #[58] } : ByteArray) ++ zc) = ⟨(a ++ (58 :: c)).toArray⟩ := by
  subst ha hc; exact str_eq (by simp)
theorem spec_l4Text (n : Int) (w : World) (h0 : 0 ≤ n) (h1 : n ≤ 999999999) :
    Calls Tryz.prog 59 #[.int .i64 n] w fun e w' => e = .returned (.string ⟨(endText n).toArray⟩) ∧ Below w.heap.size w w' := by
  by_cases hz : n = 0
  · subst hz
    have HF := Lib.hid (show endText 0 = [42] from if_pos rfl)
    go_enter Tryz.func59, Tryz.ntmps59
    go_wp2
    go_ret
    exact ⟨ret_s (by rw [HF.out]), Below.refl _ _⟩
  · have HF := Lib.hid (show endText n = Lib.itoa n from if_neg hz)
    have hzb : (n == 0) = false := beq_eq_false_iff_ne.2 hz
    go_enter Tryz.func59, Tryz.ntmps59
    go_wp2_with fail
    refine (spec_Digits n w (by omega) (by omega)).mono ?_
    rintro e w1 ⟨rfl, hb⟩
    have HB := Lib.hid hb
    obtain ⟨D, hD⟩ : ∃ D, (⟨(Lib.itoa n).toArray⟩ : ByteArray) = D := ⟨_, rfl⟩
    have HD := Lib.hid hD
    rw [hD]
    clear hb hD
    go_wp2
    go_ret
    exact ⟨ret_s (by rw [HF.out, HD.out]), HB.out⟩
theorem impl_endText (n : Int) (w : World) (h0 : 0 ≤ n) (h1 : n ≤ 999999999) (htab : Lib.TabIs Tryz.prog w "internal/strconv.uint64pow10" .u64 Lib.pow10Tab) :
    Calls Tryz.prog 78 #[.int .i64 n] w fun e w' => e = .returned (.string ⟨(endText n).toArray⟩) ∧ Below w.heap.size w w' := by
  have HT := Lib.hid htab
  clear htab
  by_cases hz : n = 0
  · subst hz
    have HF := Lib.hid (show endText 0 = [42] from if_pos rfl)
    go_enter Tryz.func78, Tryz.ntmps78
    go_wp2
    go_ret
    exact ⟨ret_s (by rw [HF.out]), Below.refl _ _⟩
  · have HF := Lib.hid (show endText n = Lib.itoa n from if_neg hz)
    have hzb : (n == 0) = false := beq_eq_false_iff_ne.2 hz
    go_enter Tryz.func78, Tryz.ntmps78
    go_wp2_with fail
    refine (impl_Digits n w (by omega) (by omega) HT.out).mono ?_
    rintro e w1 ⟨rfl, hb⟩
    have HB := Lib.hid hb
    obtain ⟨D, hD⟩ : ∃ D, (⟨(Lib.itoa n).toArray⟩ : ByteArray) = D := ⟨_, rfl⟩
    have HD := Lib.hid hD
    rw [hD]
    clear hb hD
    go_wp2
    go_ret
    exact ⟨ret_s (by rw [HF.out, HD.out]), HB.out⟩
set_option maxHeartbeats 3200000 in
set_option maxRecDepth 20000 in
theorem spec_SetText (A : Option Addr) (n c : Nat) (xs : List Span) (w : World) (hn : n ≤ 1048576) (h : Rd encSpan 2 w A n xs) :
    Calls Tryz.prog 21 #[.slice A n c] w fun e w' => e = .returned (.string ⟨(setText xs).toArray⟩) ∧ Below w.heap.size w w' := by
  have HL := Lib.hid h.1
  have HR := Lib.hid h
  clear h
  cases hok : setOk xs
  · have HF := Lib.hid (show setText xs = [] by unfold setText; rw [hok]; rfl)
    go_enter Tryz.func21, Tryz.ntmps21
    go_wp2_with (go_at_call 56; refine (spec_SetOk A n c xs _ (by omega) HR.out).mono ?_; rw [hok]; rintro e w' ⟨rfl, rfl⟩)
    go_ret
    exact ⟨ret_s (by rw [HF.out]), Below.refl _ _⟩
  · have HF := Lib.hid (show setText xs = Lib.join (xs.map spanText) [44] by unfold setText; rw [hok]; rfl)
    have HK := Lib.hid hok
    have hn5 : n ≤ 5 := by have h5 := setOk_n hok; have h6 := HL.out; omega
    go_enter Tryz.func21, Tryz.ntmps21
    go_wp2_with (go_at_call 56; refine (spec_SetOk A n c xs _ (by omega) HR.out).mono ?_; rw [hok]; rintro e w' ⟨rfl, rfl⟩)
    have hnew := World.ownsRow_made (base := w.heap.size) (e := 9) (size := 1) w #[] 0 (Nat.le_refl _) (by unfold maxLen; omega) rfl
    have hb1 : Below w.heap.size w (w.alloc (.cells #[] 9)) := (Below.refl _ _).alloc (Nat.le_refl _) _
    go_loopw [3, 4] (fun o i wr => ∃ (k : Nat) (l : List Str), k ≤ n ∧ i = .int .i64 k ∧ Hid (l = (xs.map spanText).take k) ∧ l.length ≤ 5 ∧ wr.ownsRow w.heap.size 9 1 o l.length (l.flatMap encStr) ∧ Below w.heap.size w wr) (fun _ i _ => n - (intOf i).toNat)
    case atStart => exact ⟨0, [], by omega, rfl, rfl, by simp, hnew, hb1⟩
    case round =>
      obtain ⟨k, l, hk, rfl, hl, hll, hown, hW⟩ := hrel
      clear hnew hb1
      by_cases hlt : k < n
      · obtain ⟨b, off, x, rfl, hbw, hx, hc⟩ := HR.out.elem hlt
        obtain ⟨lo, hi⟩ := x
        have e0 : w.cell? ⟨b, off + k * 2, none⟩ = some (.int .i64 lo) := by simpa using hc 0 _ rfl
        have e1 : w.cell? ⟨b, off + k * 2 + 1, none⟩ = some (.int .i64 hi) := hc 1 _ rfl
        have HC0 := Lib.hid (fun W (hb : Below w.heap.size w W) => (hb.cell (p := ⟨b, off + k * 2, none⟩) hbw).trans e0)
        have HC1 := Lib.hid (fun W (hb : Below w.heap.size w W) => (hb.cell (p := ⟨b, off + k * 2 + 1, none⟩) hbw).trans e1)
        obtain ⟨⟨hlo1, hlo2⟩, hhi1, hhi2⟩ := setOk_at HK.out hx
        have HX := Lib.hid (take_map spanText hx)
        have h5 := take_mem_len HK.out (k + 1)
        have hl1 : l.length + 1 ≤ 5 := by rw [HX.out, ← hl.out, List.length_append] at h5; simpa using h5
        have hel := endText_len (n := lo) (by omega) (by omega)
        have heh := endText_len (n := hi) (by omega) (by omega)
        have HW := Lib.hid hW
        have Hown := Lib.hid hown
        have hkn : (k : Int) < (n : Int) := by omega
        have hk0 : (0 : Int) ≤ (k : Int) := by omega
        have g0 := HC0.out wr hW
        have g1 := HC1.out wr hW
        clear hc hx hW hown e0 e1 h5 HR
        go_wp2_with fail
        refine (spec_l4Text lo wr hlo1 hlo2).mono ?_
        rintro e w1 ⟨rfl, hb1⟩
        obtain ⟨Z1, hZ1⟩ : ∃ Z, (⟨(endText lo).toArray⟩ : ByteArray) = Z := ⟨_, rfl⟩
        have HZ1 := Lib.hid hZ1
        have hZ1s : Z1.size ≤ 21 := by rw [← hZ1]; show (endText lo).toArray.size ≤ _; simpa using hel
        rw [hZ1]
        have HB1 := Lib.hid (HW.out.trans (hb1.mono HW.out.size))
        have Hown1 := Lib.hid (own_below Hown.out hb1)
        clear hb1 hZ1 HW Hown g0 g1
        have g0 := HC0.out w1 HB1.out
        have g1 := HC1.out w1 HB1.out
        have f0 : ∀ u : Later w1, u.at_.cell? ⟨b, off + k * 2, none⟩ = some (.int .i64 lo) := fun u => u.cell g0
        have f1 : ∀ u : Later w1, u.at_.cell? ⟨b, off + k * 2 + 1, none⟩ = some (.int .i64 hi) := fun u => u.cell g1
        by_cases he : hi = lo
        · have heb : (hi != lo) = false := by rw [he]; exact bne_self_eq_false _
          have HE := Lib.hid (show spanText (lo, hi) = endText lo from if_pos he)
          go_wp2
          refine wp_region_calm_lit (by kernel_rfl) (by kernel_rfl) ?_
          repeat (go_big_quiet_step (fail))
          refine wpQuiet_nil ?_
          intro _ hw'
          obtain ⟨u, rfl⟩ := hw'
          have HB2 := Lib.hid (HB1.out.trans (u.bel.mono HB1.out.size))
          have Hown2 := Lib.hid (own_below Hown1.out u.bel)
          generalize u.at_ = w2 at *
          have hsz := HB2.out.size
          have Hown3 := Lib.hid (Hown2.out.alloc (.cells #[.string Z1] 9))
          have hrd := Rd.new (enc := encStr) (k := 1) (fun _ => rfl) w2 #[.string ⟨(endText lo).toArray⟩] 9 (n := 1) [endText lo] rfl rfl
          rw [HZ1.out] at hrd
          have Hrd := Lib.hid hrd
          have HB3 := Lib.hid (HB2.out.alloc hsz (.cells #[.string Z1] 9))
          have HN := Lib.hid (show l ++ [endText lo] = (xs.map spanText).take (k + 1) by rw [HX.out, HE.out, hl.out])
          clear hrd f0 f1 g0 g1 HX
          go_wp2_with (at_builtin; refine wpList_app (enc := encStr) (k := 1) (fun _ => rfl) (fun _ u hu => by simp at hu; subst hu; rfl) (by omega) rfl _ _ 53 9 rfl (.string ByteArray.empty) 16 Tryz.underlying53 (by kernel_rfl) rfl w.heap.size _ l rfl Hown3.out _ _ _ _ rfl Hrd.out (by first | omega | (simp; omega)) (by omega) (by first | omega | (simp; omega)) ?_; intro v' w' hown' hbel')
          go_roundw
          case rel => exact ⟨k + 1, l ++ [endText lo], by omega, by go_num, HN.out, by simp; omega, hown', HB3.out.trans hbel'⟩
          case measure => simp [intOf]; omega
        · have heb : (hi != lo) = true := bne_iff_ne.2 he
          have HE := Lib.hid (show spanText (lo, hi) = endText lo ++ (58 :: endText hi) from if_neg he)
          go_wp2
          refine wp_region_calm_lit (by kernel_rfl) (by kernel_rfl) ?_
          repeat (go_big_quiet_step (fail))
          refine wpQuiet_nil ?_
          intro _ hw'
          obtain ⟨u, rfl⟩ := hw'
          have HB2 := Lib.hid (HB1.out.trans (u.bel.mono HB1.out.size))
          have Hown2 := Lib.hid (own_below Hown1.out u.bel)
          generalize u.at_ = w2 at *
          clear f0 f1 g0 g1
          have g1 := HC1.out w2 HB2.out
          go_wp2_with fail
          refine (spec_l4Text hi w2 hhi1 hhi2).mono ?_
          rintro e w3 ⟨rfl, hb3⟩
          obtain ⟨Z2, hZ2⟩ : ∃ Z, (⟨(endText hi).toArray⟩ : ByteArray) = Z := ⟨_, rfl⟩
          have hZ2s : Z2.size ≤ 21 := by rw [← hZ2]; show (endText hi).toArray.size ≤ _; simpa using heh
          rw [hZ2]
          obtain ⟨Z3, hZ3⟩ : ∃ Z, (⟨(endText lo ++ (58 :: endText hi)).toArray⟩ : ByteArray) = Z := ⟨_, rfl⟩
          have hcat : Z1 ++ { data := #[58] } ++ Z2 = Z3 := by rw [← hZ3]; exact cat3 (b := [58]) HZ1.out hZ2 rfl
          have HB3 := Lib.hid (HB2.out.trans (hb3.mono HB2.out.size))
          have Hown3 := Lib.hid ((own_below Hown2.out hb3).alloc (.cells #[.string Z3] 9))
          have hsz := HB3.out.size
          have hrd := Rd.new (enc := encStr) (k := 1) (fun _ => rfl) w3 #[.string ⟨(endText lo ++ (58 :: endText hi)).toArray⟩] 9 (n := 1) [endText lo ++ (58 :: endText hi)] rfl rfl
          rw [hZ3] at hrd
          have Hrd := Lib.hid hrd
          have HB4 := Lib.hid (HB3.out.alloc hsz (.cells #[.string Z3] 9))
          have HN := Lib.hid (show l ++ [endText lo ++ (58 :: endText hi)] = (xs.map spanText).take (k + 1) by rw [HX.out, HE.out, hl.out])
          clear hrd hZ3 hZ2 hb3 g1 HX
          go_wp2_with (at_builtin; refine wpList_app (enc := encStr) (k := 1) (fun _ => rfl) (fun _ u hu => by simp at hu; subst hu; rfl) (by omega) rfl _ _ 53 9 rfl (.string ByteArray.empty) 16 Tryz.underlying53 (by kernel_rfl) rfl w.heap.size _ l rfl Hown3.out _ _ _ _ rfl Hrd.out (by first | omega | (simp; omega)) (by omega) (by first | omega | (simp; omega)) ?_; intro v' w' hown' hbel')
          go_roundw
          case rel => exact ⟨k + 1, l ++ [endText lo ++ (58 :: endText hi)], by omega, by go_num, HN.out, by simp; omega, hown', HB4.out.trans hbel'⟩
          case measure => simp [intOf]; omega
      · have hke : k = n := by omega
        have HE := Lib.hid (show l = xs.map spanText by rw [hl.out, List.take_of_length_le (by rw [List.length_map, HL.out]; omega)])
        obtain ⟨A2, c2, rfl⟩ := own_form hown
        have hcap := own_cap hown
        have hfit := spanText_fit HK.out
        rw [← HE.out] at hfit
        have Hfit := Lib.hid hfit
        have Hrd := Lib.hid (Rd.of_own (enc := encStr) (k := 1) (fun _ => rfl) hown rfl)
        have HB := Lib.hid hW
        clear hl hown hW hke hfit
        go_wp2_with fail
        refine (spec_Joined _ _ _ l ⟨#[44]⟩ _ (by omega) Hrd.out Hfit.out (by decide)).mono ?_
        rintro e w3 ⟨rfl, hb3⟩
        have HB3 := Lib.hid (HB.out.trans (hb3.mono HB.out.size))
        clear hb3
        go_wp2
        go_ret
        exact ⟨ret_s (by rw [HF.out, ← HE.out]), HB3.out⟩
set_option maxHeartbeats 3200000 in
set_option maxRecDepth 20000 in
theorem impl_SetText (A : Option Addr) (n c : Nat) (xs : List Span) (w : World) (hn : n ≤ 1048576) (h : Rd encSpan 2 w A n xs) (htab : Lib.TabIs Tryz.prog w "internal/strconv.uint64pow10" .u64 Lib.pow10Tab) :
    Calls Tryz.prog 33 #[.slice A n c] w fun e w' => e = .returned (.string ⟨(setText xs).toArray⟩) ∧ Below w.heap.size w w' := by
  have HL := Lib.hid h.1
  have HR := Lib.hid h
  clear h
  have HT := Lib.hid htab
  clear htab
  cases hok : setOk xs
  · have HF := Lib.hid (show setText xs = [] by unfold setText; rw [hok]; rfl)
    go_enter Tryz.func33, Tryz.ntmps33
    go_wp2_with (go_at_call 71; refine (impl_SetOk A n c xs _ (by omega) HR.out).mono ?_; rw [hok]; rintro e w0 ⟨rfl, hb0⟩)
    go_ret
    exact ⟨ret_s (by rw [HF.out]), hb0⟩
  · have HF := Lib.hid (show setText xs = Lib.join (xs.map spanText) [44] by unfold setText; rw [hok]; rfl)
    have HK := Lib.hid hok
    have hn5 : n ≤ 5 := by have h5 := setOk_n hok; have h6 := HL.out; omega
    go_enter Tryz.func33, Tryz.ntmps33
    go_wp2_with (go_at_call 71; refine (impl_SetOk A n c xs _ (by omega) HR.out).mono ?_; rw [hok]; rintro e w0 ⟨rfl, hb0⟩)
    have hnew := World.ownsRow_made (base := w.heap.size) (e := 9) (size := 1) w0 #[] 0 hb0.size (by unfold maxLen; omega) rfl
    have hb1 : Below w.heap.size w (w0.alloc (.cells #[] 9)) := hb0.alloc hb0.size _
    go_loopw [3, 13] (fun o i wr => ∃ (k : Nat) (l : List Str), k ≤ n ∧ i = .int .i64 k ∧ Hid (l = (xs.map spanText).take k) ∧ l.length ≤ 5 ∧ wr.ownsRow w.heap.size 9 1 o l.length (l.flatMap encStr) ∧ Below w.heap.size w wr) (fun _ i _ => n - (intOf i).toNat)
    case atStart => exact ⟨0, [], by omega, rfl, rfl, by simp, hnew, hb1⟩
    case round =>
      obtain ⟨k, l, hk, rfl, hl, hll, hown, hW⟩ := hrel
      clear hnew hb1 hb0
      by_cases hlt : k < n
      · obtain ⟨b, off, x, rfl, hbw, hx, hc⟩ := HR.out.elem hlt
        obtain ⟨lo, hi⟩ := x
        have e0 : w.cell? ⟨b, off + k * 2, none⟩ = some (.int .i64 lo) := by simpa using hc 0 _ rfl
        have e1 : w.cell? ⟨b, off + k * 2 + 1, none⟩ = some (.int .i64 hi) := hc 1 _ rfl
        have HC0 := Lib.hid (fun W (hb : Below w.heap.size w W) => (hb.cell (p := ⟨b, off + k * 2, none⟩) hbw).trans e0)
        have HC1 := Lib.hid (fun W (hb : Below w.heap.size w W) => (hb.cell (p := ⟨b, off + k * 2 + 1, none⟩) hbw).trans e1)
        obtain ⟨⟨hlo1, hlo2⟩, hhi1, hhi2⟩ := setOk_at HK.out hx
        have HX := Lib.hid (take_map spanText hx)
        have h5 := take_mem_len HK.out (k + 1)
        have hl1 : l.length + 1 ≤ 5 := by rw [HX.out, ← hl.out, List.length_append] at h5; simpa using h5
        have hel := endText_len (n := lo) (by omega) (by omega)
        have heh := endText_len (n := hi) (by omega) (by omega)
        have HW := Lib.hid hW
        have Hown := Lib.hid hown
        have hkn : (k : Int) < (n : Int) := by omega
        have hk0 : (0 : Int) ≤ (k : Int) := by omega
        have g0 := HC0.out wr hW
        have g1 := HC1.out wr hW
        clear hc hx hW hown e0 e1 h5 HR
        go_wp2_with fail
        have hA : Below wr.heap.size wr (wr.alloc (.cells #[.int .i64 lo, .int .i64 hi] 75)) := by go_grown
        have hP : Holds (wr.alloc (.cells #[.int .i64 lo, .int .i64 hi] 75)) wr.heap.size [.int .i64 lo, .int .i64 hi] := Holds.new wr _ _
        have HB0 := Lib.hid (HW.out.trans (hA.mono HW.out.size))
        have Hown0 := Lib.hid (own_below Hown.out hA)
        clear hA HW Hown g0 g1
        generalize hG : wr.heap.size = G at *
        generalize wr.alloc (.cells #[.int .i64 lo, .int .i64 hi] 75) = w0 at *
        refine (impl_endText lo w0 hlo1 hlo2 (tab_below HT.out HB0.out)).mono ?_
        rintro e w1 ⟨rfl, hb1⟩
        obtain ⟨Z1, hZ1⟩ : ∃ Z, (⟨(endText lo).toArray⟩ : ByteArray) = Z := ⟨_, rfl⟩
        have HZ1 := Lib.hid hZ1
        have hZ1s : Z1.size ≤ 21 := by rw [← hZ1]; show (endText lo).toArray.size ≤ _; simpa using hel
        rw [hZ1]
        have HB1 := Lib.hid (HB0.out.trans (hb1.mono HB0.out.size))
        have Hown1 := Lib.hid (own_below Hown0.out hb1)
        have hP1 := hP.below hb1
        have q0 := hP1.2 0 (.int .i64 lo) rfl
        have q1 := hP1.2 1 (.int .i64 hi) rfl
        clear hb1 hZ1 hP
        by_cases he : hi = lo
        · subst he
          have HE := Lib.hid (show spanText (hi, hi) = endText hi from if_pos rfl)
          have hsz := HB1.out.size
          have Hown3 := Lib.hid (Hown1.out.alloc (.cells #[.string Z1] 9))
          have hrd := Rd.new (enc := encStr) (k := 1) (fun _ => rfl) w1 #[.string ⟨(endText hi).toArray⟩] 9 (n := 1) [endText hi] rfl rfl
          rw [HZ1.out] at hrd
          have Hrd := Lib.hid hrd
          have HB3 := Lib.hid (HB1.out.alloc hsz (.cells #[.string Z1] 9))
          have HN := Lib.hid (show l ++ [endText hi] = (xs.map spanText).take (k + 1) by rw [HX.out, HE.out, hl.out])
          clear hrd HX hP1
          go_wp2_with (at_builtin; refine wpList_app (enc := encStr) (k := 1) (fun _ => rfl) (fun _ u hu => by simp at hu; subst hu; rfl) (by omega) rfl _ _ 53 9 rfl (.string ByteArray.empty) 16 Tryz.underlying53 (by kernel_rfl) rfl w.heap.size _ l rfl Hown3.out _ _ _ _ rfl Hrd.out (by first | omega | (simp; omega)) (by omega) (by first | omega | (simp; omega)) ?_; intro v' w' hown' hbel')
          go_roundw
          case rel => exact ⟨k + 1, l ++ [endText hi], by omega, by go_num, HN.out, by simp; omega, hown', HB3.out.trans hbel'⟩
          case measure => simp [intOf]; omega
        · have heb : (hi != lo) = true := bne_iff_ne.2 he
          have HE := Lib.hid (show spanText (lo, hi) = endText lo ++ (58 :: endText hi) from if_neg he)
          clear hP1
          go_wp2_with fail
          refine (impl_endText hi w1 hhi1 hhi2 (tab_below HT.out HB1.out)).mono ?_
          rintro e w3 ⟨rfl, hb3⟩
          obtain ⟨Z2, hZ2⟩ : ∃ Z, (⟨(endText hi).toArray⟩ : ByteArray) = Z := ⟨_, rfl⟩
          have hZ2s : Z2.size ≤ 21 := by rw [← hZ2]; show (endText hi).toArray.size ≤ _; simpa using heh
          rw [hZ2]
          obtain ⟨Z3, hZ3⟩ : ∃ Z, (⟨(endText lo ++ (58 :: endText hi)).toArray⟩ : ByteArray) = Z := ⟨_, rfl⟩
          have hcat : Z1 ++ ({ data := #[58] } ++ Z2) = Z3 := by rw [← hZ3]; exact cat3' HZ1.out hZ2
          have hcat2 : Z1 ++ { data := #[58] } ++ Z2 = Z3 := by rw [← hZ3]; exact cat3 (b := [58]) HZ1.out hZ2 rfl
          have HB3 := Lib.hid (HB1.out.trans (hb3.mono HB1.out.size))
          have Hown3 := Lib.hid ((own_below Hown1.out hb3).alloc (.cells #[.string Z3] 9))
          have hsz := HB3.out.size
          have hrd := Rd.new (enc := encStr) (k := 1) (fun _ => rfl) w3 #[.string ⟨(endText lo ++ (58 :: endText hi)).toArray⟩] 9 (n := 1) [endText lo ++ (58 :: endText hi)] rfl rfl
          rw [hZ3] at hrd
          have Hrd := Lib.hid hrd
          have HB4 := Lib.hid (HB3.out.alloc hsz (.cells #[.string Z3] 9))
          have HN := Lib.hid (show l ++ [endText lo ++ (58 :: endText hi)] = (xs.map spanText).take (k + 1) by rw [HX.out, HE.out, hl.out])
          clear hrd hZ3 hZ2 hb3 HX q0 q1
          go_wp2_with (at_builtin; refine wpList_app (enc := encStr) (k := 1) (fun _ => rfl) (fun _ u hu => by simp at hu; subst hu; rfl) (by omega) rfl _ _ 53 9 rfl (.string ByteArray.empty) 16 Tryz.underlying53 (by kernel_rfl) rfl w.heap.size _ l rfl Hown3.out _ _ _ _ rfl Hrd.out (by first | omega | (simp; omega)) (by omega) (by first | omega | (simp; omega)) ?_; intro v' w' hown' hbel')
          go_roundw
          case rel => exact ⟨k + 1, l ++ [endText lo ++ (58 :: endText hi)], by omega, by go_num, HN.out, by simp; omega, hown', HB4.out.trans hbel'⟩
          case measure => simp [intOf]; omega
      · have hke : k = n := by omega
        have HE := Lib.hid (show l = xs.map spanText by rw [hl.out, List.take_of_length_le (by rw [List.length_map, HL.out]; omega)])
        obtain ⟨A2, c2, rfl⟩ := own_form hown
        have hcap := own_cap hown
        have hfit := spanText_fit HK.out
        rw [← HE.out] at hfit
        have Hfit := Lib.hid hfit
        have Hrd := Lib.hid (Rd.of_own (enc := encStr) (k := 1) (fun _ => rfl) hown rfl)
        have HB := Lib.hid hW
        clear hl hown hW hke hfit
        go_wp2_with fail
        refine (impl_Joined _ _ _ l ⟨#[44]⟩ _ (by omega) hcap Hrd.out Hfit.out (by decide)).mono ?_
        rintro e w3 ⟨rfl, hb3⟩
        have HB3 := Lib.hid (HB.out.trans (hb3.mono HB.out.size))
        clear hb3
        go_wp2
        go_ret
        exact ⟨ret_s (by rw [HF.out, ← HE.out]), HB3.out⟩

end Go.Proofs.YtjpkceimokkpgaaGreatDoor
