/- The statement on pages as sectors, walked: it answers true at whatever numbers and bytes, and what there was stands. -/
import Derived.Test.YtecdbfbaclgejaaPages
namespace Go.Proofs.Ytecdbfbaclgejaa
open Go.RowKit

theorem bool_same (r : Bool) : (r != r) = false := by cases r <;> rfl
theorem isSome_if {α : Type} (p : Prop) [Decidable p] (x : α) : (if p then some x else none).isSome = decide p := by by_cases h : p <;> simp [h]

set_option maxRecDepth 100000 in
set_option maxHeartbeats 2000000 in
/-- PagePuts -/
theorem pagePuts_calls {Q Q' : Nat → Prop} {w : World} {v u : Value} {epoch p q : Int} {b s : List UInt8} (h0 : (Lit.int .i64 epoch).wf = true) (h1 : (Lit.int .i64 p).wf = true) (h2 : (Lit.int .i64 q).wf = true) (hx : Rep.byte.list.val Q w v b) (hy : Rep.byte.list.val Q' w u s) :
    Calls Try.prog 9 #[.int .i64 epoch, .int .i64 p, .int .i64 q, v, u] w fun e w' => e = .returned (.bool true) ∧ Below w.heap.size w w' := by
  have HX := Lib.hid (Rep.val_any hx)
  have HY := Lib.hid (Rep.val_any hy)
  obtain ⟨A0, c0, rfl, hc1, hc2, _⟩ := Rep.val_list hx
  obtain ⟨A1, c1, rfl, hd1, hd2, _⟩ := Rep.val_list hy
  unfold maxLen at hc2 hd2
  have H0 := Lib.hid h0
  have H1 := Lib.hid h1
  clear hx hy
  by_cases hb6 : (600 : Int) < b.length
  · go_enter Try.func9, Try.ntmps9
    go_wp2_with (go_at_call 15; refine (live20 _).mono ?_; rintro e w' ⟨rfl, hb⟩)
    go_ret
    exact ⟨rfl, hb⟩
  by_cases hs6 : (600 : Int) < s.length
  · go_enter Try.func9, Try.ntmps9
    go_wp2_with (go_at_call 15; refine (live20 _).mono ?_; rintro e w' ⟨rfl, hb⟩)
    go_ret
    exact ⟨rfl, hb⟩
  obtain ⟨X, hX⟩ : ∃ X, X = pageBytes epoch p b := ⟨_, rfl⟩
  obtain ⟨P, hP⟩ : ∃ P, P = pageGet s q := ⟨_, rfl⟩
  have EX := Lib.hid hX
  have EP := Lib.hid hP
  have HPUT := Lib.hid (show 0 ≤ p → p ≤ 281474976710656 → ∀ q, pageGet X q = if p = q then some (b.take 472) else none from fun h0 h1 q => by rw [hX]; exact pageGet_put epoch p q b h0 h1)
  clear hX hP h0 h1
  go_enter Try.func9, Try.ntmps9
  go_wp2_with fail
  refine (pagePut_calls H0.out H1.out HX.out).mono ?_
  rintro e w1 ⟨u1, rfl, hu, hb⟩
  rw [← EX.out] at hu
  have HU1 := Lib.hid hu
  have HB1 := Lib.hid hb
  clear hu hb
  go_wp2_with fail
  refine (pageGet_calls (Rep.val_below (B := w.heap.size) HY.out HB1.out fun _ h _ => h)).mono ?_
  rintro e w2 ⟨u2, rfl, hu, hb⟩
  rw [← EP.out] at hu ⊢
  have HU2 := Lib.hid hu
  have HC2 := Lib.hid hb
  have HB2 := Lib.hid (HB1.out.trans (hb.mono HB1.out.size))
  clear hu hb
  go_wp2_with fail
  refine (rpageGet_calls (Rep.val_below (B := w.heap.size) HY.out HB2.out fun _ h _ => h)).mono ?_
  rintro e w3 ⟨u3, rfl, hu, hb⟩
  rw [← EP.out] at hu ⊢
  have HU3 := Lib.hid hu
  have HC3 := Lib.hid (HC2.out.trans (hb.mono HC2.out.size))
  have HD3 := Lib.hid hb
  have HB3 := Lib.hid (HB2.out.trans (hb.mono HB2.out.size))
  clear hu hb
  go_wp2_with fail
  refine (rpagePut_calls H0.out H1.out (Rep.val_below (B := w.heap.size) HX.out HB3.out fun _ h _ => h)).mono ?_
  rintro e w4 ⟨u4, rfl, hu, hb⟩
  rw [← EX.out] at hu
  have HC4 := Lib.hid (HC3.out.trans (hb.mono HC3.out.size))
  have HU14 := Lib.hid (Rep.val_below (B := w1.heap.size) (Rep.val_any HU1.out) HC4.out fun _ h _ => h)
  have HU24 := Lib.hid (Rep.val_below (B := w2.heap.size) (Rep.val_any HU2.out) (HD3.out.trans (hb.mono HD3.out.size)) fun _ h _ => h)
  have HU34 := Lib.hid (Rep.val_below (B := w3.heap.size) (Rep.val_any HU3.out) hb fun _ h _ => h)
  have HU4 := Lib.hid hu
  have HB4 := Lib.hid (HB3.out.trans (hb.mono HB3.out.size))
  clear hu hb
  go_wp2_with fail
  refine (sameBytes HU14.out HU4.out).mono ?_
  rintro e w5 ⟨rfl, hw⟩
  have hw2 := hw.symm
  subst hw2
  clear hw
  simp only [decide_true]
  go_wp2_with fail
  refine (sameBytes HU24.out HU34.out).mono ?_
  rintro e w5 ⟨rfl, hw⟩
  have hw2 := hw.symm
  subst hw2
  clear hw
  simp only [decide_true]
  have hbs := bool_same P.isSome
  generalize P.isSome = ps at *
  by_cases hp0 : p < 0
  · go_wp2_with (go_at_call 15; refine (live20 _).mono ?_; rintro e w' ⟨rfl, hb⟩)
    go_ret
    exact ⟨rfl, HB4.out.trans (hb.mono HB4.out.size)⟩
  by_cases hp1 : 281474976710656 < p
  · go_wp2_with (go_at_call 15; refine (live20 _).mono ?_; rintro e w' ⟨rfl, hb⟩)
    go_ret
    exact ⟨rfl, HB4.out.trans (hb.mono HB4.out.size)⟩
  have HP1 := Lib.hid (show pageGet X p = some (b.take 472) by rw [HPUT.out (by omega) (by omega), if_pos rfl])
  have HP2 := Lib.hid (show (pageGet X q).isSome = decide (p = q) by rw [HPUT.out (by omega) (by omega), isSome_if])
  go_wp2_with fail
  refine (pageGet_calls HU14.out).mono ?_
  rintro e w5 ⟨u5, rfl, hu, hb⟩
  rw [HP1.out] at hu ⊢
  simp only [Option.isSome_some, Option.getD_some] at hu ⊢
  have HU5 := Lib.hid hu
  have HB5 := Lib.hid (HB4.out.trans (hb.mono HB4.out.size))
  have HU15 := Lib.hid (Rep.val_below (B := w4.heap.size) (Rep.val_any HU14.out) hb fun _ h _ => h)
  clear hu hb
  go_wp2_with fail
  refine (pageGet_calls HU15.out).mono ?_
  rintro e w6 ⟨u6, rfl, hu, hb⟩
  rw [HP2.out]
  have HU56 := Lib.hid (Rep.val_below (B := w5.heap.size) (Rep.val_any HU5.out) hb fun _ h _ => h)
  have HB6 := Lib.hid (HB5.out.trans (hb.mono HB5.out.size))
  clear hu hb
  have g1 : (decide (p = q) == (p == q)) = true := by by_cases h : p = q <;> simp [h]
  have HG1 := Lib.hid g1
  by_cases h472 : (472 : Int) < b.length
  · go_wp2_with (go_at_call 15; refine (live20 _).mono ?_; rintro e w' ⟨rfl, hb⟩)
    go_ret
    exact ⟨rfl, HB6.out.trans (hb.mono HB6.out.size)⟩
  · have HT := Lib.hid (show b.take 472 = b from List.take_of_length_le (by omega))
    go_wp2_with fail
    refine (sameBytes HU56.out (Rep.val_below (B := w.heap.size) HX.out HB6.out fun _ h _ => h)).mono ?_
    rintro e w7 ⟨rfl, hw⟩
    have hw2 := hw.symm
    subst hw2
    clear hw
    rw [HT.out]
    simp only [decide_true]
    go_wp2_with (go_at_call 15; refine (live20 _).mono ?_; rintro e w' ⟨rfl, hb⟩)
    go_ret
    exact ⟨rfl, HB6.out.trans (hb.mono HB6.out.size)⟩
end Go.Proofs.Ytecdbfbaclgejaa
