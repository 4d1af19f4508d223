/- Texts on which the proofs stand: PartHead, GeomRoom. No condition is laid on any input. -/
import Derived.Test.YteljibjbndpncaaWfCmdGet
import Derived.Test.YteljibjbndpncaaWfGeom
/- Walk of what stands ahead in a piece. Printed by gen_parthead.py. -/
namespace Go.Proofs.Yteljibjbndpncaa
open Go.RowKit

/-- What stands ahead in a piece: its place, how many there are, the number, whether it is one. -/
def pheadOf (p : List UInt8) : Int × Int × Int × Bool :=
  if p.length < 12 ∨ 472 < p.length then (0, 0, 0, false)
  else if natAt p 2 2 = 0 ∨ 1024 < natAt p 2 2 ∨ natAt p 2 2 ≤ natAt p 0 2 ∨ i64of (natAt p 4 8) < 0 ∨ 281474976710656 < i64of (natAt p 4 8) then (0, 0, 0, false)
  else (natAt p 0 2, natAt p 2 2, i64of (natAt p 4 8), true)
theorem results_tmp4 {fn : Func} {t u v z : Tmp} (h : fn.results = #[.tmp t, .tmp u, .tmp v, .tmp z]) (tmps : Array Value) (P : Program) (w : World) :
    (results fn tmps).run P w = .ok (.tuple #[tmps.getD t undef, tmps.getD u undef, tmps.getD v undef, tmps.getD z undef]) w := by
  simp [results, h]
def HeadRes (w : World) (r : Int × Int × Int × Bool) (e : Ending) (w' : World) : Prop := e = .returned (.tuple #[.int .i64 r.1, .int .i64 r.2.1, .int .i64 r.2.2.1, .bool r.2.2.2]) ∧ Below w.heap.size w w'

set_option maxRecDepth 100000 in
set_option maxHeartbeats 2000000 in
/-- part.Head -/
theorem head_calls {Q : Nat → Prop} {w : World} {v : Value} {p : List UInt8} (hx : Rep.byte.list.val Q w v p) :
    Calls Try.prog 99 #[v] w (HeadRes w (pheadOf p)) := by
  have HX := Lib.hid hx
  obtain ⟨A, c, rfl, hc1, hc2, hA⟩ := Rep.val_list hx
  unfold maxLen at hc2
  clear hx hA
  by_cases h1 : (p.length : Int) < 12
  · have HF := Lib.hid (show pheadOf p = (0, 0, 0, false) by unfold pheadOf; rw [if_pos (by omega)])
    go_enter Try.func99, Try.ntmps99
    go_wp2_with fail
    refine bodyPost_ret (results_tmp4 rfl _ _ _) rfl ?_
    rw [HF.out]
    exact ⟨rfl, Below.refl _ _⟩
  by_cases h2 : (472 : Int) < p.length
  · have HF := Lib.hid (show pheadOf p = (0, 0, 0, false) by unfold pheadOf; rw [if_pos (by omega)])
    go_enter Try.func99, Try.ntmps99
    go_wp2_with fail
    refine bodyPost_ret (results_tmp4 rfl _ _ _) rfl ?_
    rw [HF.out]
    exact ⟨rfl, Below.refl _ _⟩
  have HL := Lib.hid (show 12 ≤ p.length ∧ p.length ≤ 472 by omega)
  have k2 := natAt_lt p 2 2
  have k0 := natAt_lt p 0 2
  have HF0 := Lib.hid (show pheadOf p = if (natAt p 2 2 : Int) = 0 ∨ (1024 : Int) < (natAt p 2 2 : Int) ∨ (natAt p 2 2 : Int) ≤ (natAt p 0 2 : Int) ∨ i64of (natAt p 4 8) < 0 ∨ 281474976710656 < i64of (natAt p 4 8) then (0, 0, 0, false) else ((natAt p 0 2 : Int), (natAt p 2 2 : Int), i64of (natAt p 4 8), true) by
    unfold pheadOf; rw [if_neg (by omega)]
    split <;> split <;> first | rfl | (exfalso; omega))
  have HN1 := Lib.hid (show rdNum p 0 false 2 = ((natAt p 0 2 : Int), 2, false) by rw [← i64of_natAt p 0 2 (by decide)]; exact rdNum_at (w := 2) (by decide) (by decide) (by omega))
  have HN2 := Lib.hid (show rdNum p 2 false 2 = ((natAt p 2 2 : Int), 4, false) by rw [← i64of_natAt p 2 2 (by decide)]; exact rdNum_at (w := 2) (by decide) (by decide) (by omega))
  have HN3 := Lib.hid (show rdNum p 4 false 8 = (i64of (natAt p 4 8), 12, false) from rdNum_at (w := 8) (by decide) (by decide) (by omega))
  have hk2 : (natAt p 2 2 : Int) < 65536 := by omega
  have hk0 : (natAt p 0 2 : Int) < 65536 := by omega
  have hj2 : 0 ≤ (natAt p 2 2 : Int) := by omega
  have hj0 : 0 ≤ (natAt p 0 2 : Int) := by omega
  clear k2 k0
  generalize ((natAt p 0 2 : Nat) : Int) = a0 at *
  generalize ((natAt p 2 2 : Nat) : Int) = a1 at *
  generalize i64of (natAt p 4 8) = sq at *
  by_cases c1 : a1 = 0
  · have HF := Lib.hid (show pheadOf p = (0, 0, 0, false) by rw [HF0.out, if_pos (by omega)])
    subst c1
    go_enter Try.func99, Try.ntmps99
    go_wp2_with fail
    refine (read_calls HX.out (by have := HL.out; omega)).mono ?_
    rintro e w2 ⟨r, A2, c2, rfl, hr, hp, hb, _⟩
    have HR := Lib.hid hr
    have HP := Lib.hid hp
    have HB := Lib.hid hb
    clear hr hp hb
    go_wp2_with fail
    refine (rdnum_calls (width := 2) HR.out (by have := HL.out; omega)).mono ?_
    rintro e w3 ⟨rfl, hr, hg⟩
    rw [HN1.out] at hr ⊢
    have HR3 := Lib.hid hr
    have HG3 := Lib.hid hg
    clear hr hg
    go_wp2_with fail
    refine (rdnum_calls (width := 2) HR3.out (by have := HL.out; omega)).mono ?_
    rintro e w4 ⟨rfl, hr, hg⟩
    rw [HN2.out] at hr ⊢
    have HR4 := Lib.hid hr
    have HG4 := Lib.hid (HG3.out.trans hg)
    clear hr hg
    go_wp2_with fail
    refine (rdnum_calls (width := 8) HR4.out (by have := HL.out; omega)).mono ?_
    rintro e w5 ⟨rfl, hr, hg⟩
    rw [HN3.out]
    have HB5 := Lib.hid (HB.out.grown (HG4.out.trans hg) HB.out.size (fun k hk => by have := Option.some.inj hk; have := HP.out; omega))
    clear hr hg
    go_wp2_with fail
    refine bodyPost_ret (results_tmp4 rfl _ _ _) rfl ?_
    rw [HF.out]
    exact ⟨rfl, HB5.out⟩
  have c1' : (a1 == 0) = false := by simpa using c1
  by_cases c2 : (1024 : Int) < a1
  · have HF := Lib.hid (show pheadOf p = (0, 0, 0, false) by rw [HF0.out, if_pos (by omega)])
    go_enter Try.func99, Try.ntmps99
    go_wp2_with fail
    refine (read_calls HX.out (by have := HL.out; omega)).mono ?_
    rintro e w2 ⟨r, A2, c2, rfl, hr, hp, hb, _⟩
    have HR := Lib.hid hr
    have HP := Lib.hid hp
    have HB := Lib.hid hb
    clear hr hp hb
    go_wp2_with fail
    refine (rdnum_calls (width := 2) HR.out (by have := HL.out; omega)).mono ?_
    rintro e w3 ⟨rfl, hr, hg⟩
    rw [HN1.out] at hr ⊢
    have HR3 := Lib.hid hr
    have HG3 := Lib.hid hg
    clear hr hg
    go_wp2_with fail
    refine (rdnum_calls (width := 2) HR3.out (by have := HL.out; omega)).mono ?_
    rintro e w4 ⟨rfl, hr, hg⟩
    rw [HN2.out] at hr ⊢
    have HR4 := Lib.hid hr
    have HG4 := Lib.hid (HG3.out.trans hg)
    clear hr hg
    go_wp2_with fail
    refine (rdnum_calls (width := 8) HR4.out (by have := HL.out; omega)).mono ?_
    rintro e w5 ⟨rfl, hr, hg⟩
    rw [HN3.out]
    have HB5 := Lib.hid (HB.out.grown (HG4.out.trans hg) HB.out.size (fun k hk => by have := Option.some.inj hk; have := HP.out; omega))
    clear hr hg
    go_wp2_with fail
    refine bodyPost_ret (results_tmp4 rfl _ _ _) rfl ?_
    rw [HF.out]
    exact ⟨rfl, HB5.out⟩
  by_cases c3 : a1 ≤ a0
  · have HF := Lib.hid (show pheadOf p = (0, 0, 0, false) by rw [HF0.out, if_pos (by omega)])
    go_enter Try.func99, Try.ntmps99
    go_wp2_with fail
    refine (read_calls HX.out (by have := HL.out; omega)).mono ?_
    rintro e w2 ⟨r, A2, c2, rfl, hr, hp, hb, _⟩
    have HR := Lib.hid hr
    have HP := Lib.hid hp
    have HB := Lib.hid hb
    clear hr hp hb
    go_wp2_with fail
    refine (rdnum_calls (width := 2) HR.out (by have := HL.out; omega)).mono ?_
    rintro e w3 ⟨rfl, hr, hg⟩
    rw [HN1.out] at hr ⊢
    have HR3 := Lib.hid hr
    have HG3 := Lib.hid hg
    clear hr hg
    go_wp2_with fail
    refine (rdnum_calls (width := 2) HR3.out (by have := HL.out; omega)).mono ?_
    rintro e w4 ⟨rfl, hr, hg⟩
    rw [HN2.out] at hr ⊢
    have HR4 := Lib.hid hr
    have HG4 := Lib.hid (HG3.out.trans hg)
    clear hr hg
    go_wp2_with fail
    refine (rdnum_calls (width := 8) HR4.out (by have := HL.out; omega)).mono ?_
    rintro e w5 ⟨rfl, hr, hg⟩
    rw [HN3.out]
    have HB5 := Lib.hid (HB.out.grown (HG4.out.trans hg) HB.out.size (fun k hk => by have := Option.some.inj hk; have := HP.out; omega))
    clear hr hg
    go_wp2_with fail
    refine bodyPost_ret (results_tmp4 rfl _ _ _) rfl ?_
    rw [HF.out]
    exact ⟨rfl, HB5.out⟩
  by_cases c4 : sq < 0
  · have HF := Lib.hid (show pheadOf p = (0, 0, 0, false) by rw [HF0.out, if_pos (by omega)])
    go_enter Try.func99, Try.ntmps99
    go_wp2_with fail
    refine (read_calls HX.out (by have := HL.out; omega)).mono ?_
    rintro e w2 ⟨r, A2, c2, rfl, hr, hp, hb, _⟩
    have HR := Lib.hid hr
    have HP := Lib.hid hp
    have HB := Lib.hid hb
    clear hr hp hb
    go_wp2_with fail
    refine (rdnum_calls (width := 2) HR.out (by have := HL.out; omega)).mono ?_
    rintro e w3 ⟨rfl, hr, hg⟩
    rw [HN1.out] at hr ⊢
    have HR3 := Lib.hid hr
    have HG3 := Lib.hid hg
    clear hr hg
    go_wp2_with fail
    refine (rdnum_calls (width := 2) HR3.out (by have := HL.out; omega)).mono ?_
    rintro e w4 ⟨rfl, hr, hg⟩
    rw [HN2.out] at hr ⊢
    have HR4 := Lib.hid hr
    have HG4 := Lib.hid (HG3.out.trans hg)
    clear hr hg
    go_wp2_with fail
    refine (rdnum_calls (width := 8) HR4.out (by have := HL.out; omega)).mono ?_
    rintro e w5 ⟨rfl, hr, hg⟩
    rw [HN3.out]
    have HB5 := Lib.hid (HB.out.grown (HG4.out.trans hg) HB.out.size (fun k hk => by have := Option.some.inj hk; have := HP.out; omega))
    clear hr hg
    go_wp2_with fail
    refine bodyPost_ret (results_tmp4 rfl _ _ _) rfl ?_
    rw [HF.out]
    exact ⟨rfl, HB5.out⟩
  by_cases c5 : 281474976710656 < sq
  · have HF := Lib.hid (show pheadOf p = (0, 0, 0, false) by rw [HF0.out, if_pos (by omega)])
    go_enter Try.func99, Try.ntmps99
    go_wp2_with fail
    refine (read_calls HX.out (by have := HL.out; omega)).mono ?_
    rintro e w2 ⟨r, A2, c2, rfl, hr, hp, hb, _⟩
    have HR := Lib.hid hr
    have HP := Lib.hid hp
    have HB := Lib.hid hb
    clear hr hp hb
    go_wp2_with fail
    refine (rdnum_calls (width := 2) HR.out (by have := HL.out; omega)).mono ?_
    rintro e w3 ⟨rfl, hr, hg⟩
    rw [HN1.out] at hr ⊢
    have HR3 := Lib.hid hr
    have HG3 := Lib.hid hg
    clear hr hg
    go_wp2_with fail
    refine (rdnum_calls (width := 2) HR3.out (by have := HL.out; omega)).mono ?_
    rintro e w4 ⟨rfl, hr, hg⟩
    rw [HN2.out] at hr ⊢
    have HR4 := Lib.hid hr
    have HG4 := Lib.hid (HG3.out.trans hg)
    clear hr hg
    go_wp2_with fail
    refine (rdnum_calls (width := 8) HR4.out (by have := HL.out; omega)).mono ?_
    rintro e w5 ⟨rfl, hr, hg⟩
    rw [HN3.out]
    have HB5 := Lib.hid (HB.out.grown (HG4.out.trans hg) HB.out.size (fun k hk => by have := Option.some.inj hk; have := HP.out; omega))
    clear hr hg
    go_wp2_with fail
    refine bodyPost_ret (results_tmp4 rfl _ _ _) rfl ?_
    rw [HF.out]
    exact ⟨rfl, HB5.out⟩
  have HF := Lib.hid (show pheadOf p = (a0, a1, sq, true) by rw [HF0.out, if_neg (by omega)])
  go_enter Try.func99, Try.ntmps99
  go_wp2_with fail
  refine (read_calls HX.out (by have := HL.out; omega)).mono ?_
  rintro e w2 ⟨r, A2, c2, rfl, hr, hp, hb, _⟩
  have HR := Lib.hid hr
  have HP := Lib.hid hp
  have HB := Lib.hid hb
  clear hr hp hb
  go_wp2_with fail
  refine (rdnum_calls (width := 2) HR.out (by have := HL.out; omega)).mono ?_
  rintro e w3 ⟨rfl, hr, hg⟩
  rw [HN1.out] at hr ⊢
  have HR3 := Lib.hid hr
  have HG3 := Lib.hid hg
  clear hr hg
  go_wp2_with fail
  refine (rdnum_calls (width := 2) HR3.out (by have := HL.out; omega)).mono ?_
  rintro e w4 ⟨rfl, hr, hg⟩
  rw [HN2.out] at hr ⊢
  have HR4 := Lib.hid hr
  have HG4 := Lib.hid (HG3.out.trans hg)
  clear hr hg
  go_wp2_with fail
  refine (rdnum_calls (width := 8) HR4.out (by have := HL.out; omega)).mono ?_
  rintro e w5 ⟨rfl, hr, hg⟩
  rw [HN3.out]
  have HB5 := Lib.hid (HB.out.grown (HG4.out.trans hg) HB.out.size (fun k hk => by have := Option.some.inj hk; have := HP.out; omega))
  clear hr hg
  go_wp2_with fail
  refine bodyPost_ret (results_tmp4 rfl _ _ _) rfl ?_
  rw [HF.out]
  exact ⟨rfl, HB5.out⟩
end Go.Proofs.Yteljibjbndpncaa
/- Walk of a log's room. -/
namespace Go.Proofs.Yteljibjbndpncaa
open Go.RowKit

theorem wf_bounds {k : Int} (h : (Lit.int .i64 k).wf = true) : -9223372036854775808 ≤ k ∧ k ≤ 9223372036854775807 := by simpa [Lit.wf, IntKind.min, IntKind.max, IntKind.signed, IntKind.bits] using h

set_option maxRecDepth 100000 in
set_option maxHeartbeats 2000000 in
/-- geom.Room -/
theorem geomRoom_calls {Q : Nat → Prop} {w : World} {v : Value} {c : DConf} {hd tl : Int} (hx : rConf.val Q w v c) :
    Calls Try.prog 59 #[v, .int .i64 hd, .int .i64 tl] w fun e w' => e = .returned (.int .i64 (roomOf c hd tl)) ∧ Below w.heap.size w w' := by
  obtain ⟨A, cap, rfl, _⟩ := rConf_val hx
  have hm := InBox.made hx 49
  have hbel : Below w.heap.size w (w.alloc (.cells #[.int .i64 c.log, .int .i64 c.pages, .int .i64 c.entities, .int .i64 c.gens, .slice A c.comps.length cap] 49)) := (Below.refl _ _).alloc (Nat.le_refl _) _
  have hsz : (w.alloc (.cells #[.int .i64 c.log, .int .i64 c.pages, .int .i64 c.entities, .int .i64 c.gens, .slice A c.comps.length cap] 49)).heap.size = w.heap.size + 1 := by simp
  generalize hW1 : w.alloc (.cells #[.int .i64 c.log, .int .i64 c.pages, .int .i64 c.entities, .int .i64 c.gens, .slice A c.comps.length cap] 49) = W1 at *
  have HM := Lib.hid hm
  have HB := Lib.hid hbel
  have HS := Lib.hid hsz
  obtain ⟨a0, a1, a2, a3, a4, _⟩ := hm
  clear hx hbel hsz
  cases hr : confRight c with
  | false =>
    have HR := Lib.hid hr
    have HF := Lib.hid (show roomOf c hd tl = -1 by unfold roomOf; rw [hr]; rfl)
    clear hr
    go_enter Try.func59, Try.ntmps59
    go_wp2_with fail
    refine (geomRight_calls HM.out.val).mono ?_
    rintro e w2 ⟨rfl, hb2⟩
    rw [HR.out]
    obtain ⟨b0, b1, b2, b3, b4, hv2⟩ := HM.out.later (hb2.mono (Nat.le_of_eq HS.out.symm))
    go_wp2_with fail
    go_ret
    exact ⟨by rw [HF.out]; rfl, HB.out.trans (hb2.mono HB.out.size)⟩
  | true =>
    have HR := Lib.hid hr
    have hf := (right_facts hr).1
    obtain ⟨g1, g2, _⟩ := hf
    cases hp : placeB hd with
    | false =>
      have HP := Lib.hid hp
      have HF := Lib.hid (show roomOf c hd tl = -1 by unfold roomOf; rw [hr, hp]; rfl)
      clear hr hp
      go_enter Try.func59, Try.ntmps59
      go_wp2_with fail
      refine (geomRight_calls HM.out.val).mono ?_
      rintro e w2 ⟨rfl, hb2⟩
      rw [HR.out]
      obtain ⟨b0, b1, b2, b3, b4, hv2⟩ := HM.out.later (hb2.mono (Nat.le_of_eq HS.out.symm))
      go_wp2_with fail
      refine (place_calls hd _).mono ?_
      rintro e w3 ⟨rfl, hw⟩
      have hw3 := hw.symm
      subst hw3
      clear hw
      rw [HP.out]
      go_wp2_with fail
      go_ret
      exact ⟨by rw [HF.out]; rfl, HB.out.trans (hb2.mono HB.out.size)⟩
    | true =>
      have HP := Lib.hid hp
      have hp2 : 0 ≤ hd ∧ hd ≤ 281474976710656 := by simp [placeB] at hp; omega
      obtain ⟨p1, p2⟩ := hp2
      cases ht : placeB tl with
      | false =>
        have HT := Lib.hid ht
        have HF := Lib.hid (show roomOf c hd tl = -1 by unfold roomOf; rw [hr, hp, ht]; rfl)
        clear hr hp ht
        go_enter Try.func59, Try.ntmps59
        go_wp2_with fail
        refine (geomRight_calls HM.out.val).mono ?_
        rintro e w2 ⟨rfl, hb2⟩
        rw [HR.out]
        obtain ⟨b0, b1, b2, b3, b4, hv2⟩ := HM.out.later (hb2.mono (Nat.le_of_eq HS.out.symm))
        go_wp2_with fail
        refine (place_calls hd _).mono ?_
        rintro e w3 ⟨rfl, hw⟩
        have hw3 := hw.symm
        subst hw3
        clear hw
        rw [HP.out]
        go_wp2_with fail
        refine (place_calls tl _).mono ?_
        rintro e w4 ⟨rfl, hw⟩
        have hw4 := hw.symm
        subst hw4
        clear hw
        rw [HT.out]
        go_wp2_with fail
        go_ret
        exact ⟨by rw [HF.out]; rfl, HB.out.trans (hb2.mono HB.out.size)⟩
      | true =>
        have HT := Lib.hid ht
        have ht2 : 0 ≤ tl ∧ tl ≤ 281474976710656 := by simp [placeB] at ht; omega
        obtain ⟨q1, q2⟩ := ht2
        rcases dec_split (hd ≤ tl) with t1 | ⟨t1, d1⟩
        · have i1 : IntKind.i64.wrap (tl - hd) = tl - hd := IntWalk.i64_in _ ⟨by omega, by omega⟩
          rcases dec_split (tl - hd ≤ c.log) with t2 | ⟨t2, d2⟩
          · have i2 : IntKind.i64.wrap (c.log - (tl - hd)) = c.log - (tl - hd) := IntWalk.i64_in _ ⟨by omega, by omega⟩
            have HF := Lib.hid (show roomOf c hd tl = c.log - (tl - hd) by unfold roomOf; rw [hr, hp, ht]; simp [t1, t2])
            have s1 : ¬ tl < hd := by omega
            have s2 : ¬ c.log < tl - hd := by omega
            clear hr hp ht
            go_enter Try.func59, Try.ntmps59
            go_wp2_with fail
            refine (geomRight_calls HM.out.val).mono ?_
            rintro e w2 ⟨rfl, hb2⟩
            rw [HR.out]
            obtain ⟨b0, b1, b2, b3, b4, hv2⟩ := HM.out.later (hb2.mono (Nat.le_of_eq HS.out.symm))
            go_wp2_with fail
            refine (place_calls hd _).mono ?_
            rintro e w3 ⟨rfl, hw⟩
            have hw3 := hw.symm
            subst hw3
            clear hw
            rw [HP.out]
            go_wp2_with fail
            refine (place_calls tl _).mono ?_
            rintro e w4 ⟨rfl, hw⟩
            have hw4 := hw.symm
            subst hw4
            clear hw
            rw [HT.out]
            go_wp2_with fail
            go_ret
            exact ⟨by rw [HF.out]; rfl, HB.out.trans (hb2.mono HB.out.size)⟩
          · have HF := Lib.hid (show roomOf c hd tl = -1 by unfold roomOf; rw [hr, hp, ht]; simp [t1, t2])
            have s1 : ¬ tl < hd := by omega
            have s2 : c.log < tl - hd := by omega
            clear hr hp ht t2 d2
            go_enter Try.func59, Try.ntmps59
            go_wp2_with fail
            refine (geomRight_calls HM.out.val).mono ?_
            rintro e w2 ⟨rfl, hb2⟩
            rw [HR.out]
            obtain ⟨b0, b1, b2, b3, b4, hv2⟩ := HM.out.later (hb2.mono (Nat.le_of_eq HS.out.symm))
            go_wp2_with fail
            refine (place_calls hd _).mono ?_
            rintro e w3 ⟨rfl, hw⟩
            have hw3 := hw.symm
            subst hw3
            clear hw
            rw [HP.out]
            go_wp2_with fail
            refine (place_calls tl _).mono ?_
            rintro e w4 ⟨rfl, hw⟩
            have hw4 := hw.symm
            subst hw4
            clear hw
            rw [HT.out]
            go_wp2_with fail
            go_ret
            exact ⟨by rw [HF.out]; rfl, HB.out.trans (hb2.mono HB.out.size)⟩
        · have HF := Lib.hid (show roomOf c hd tl = -1 by unfold roomOf; rw [hr, hp, ht]; simp [t1])
          have s1 : tl < hd := by omega
          clear hr hp ht t1 d1
          go_enter Try.func59, Try.ntmps59
          go_wp2_with fail
          refine (geomRight_calls HM.out.val).mono ?_
          rintro e w2 ⟨rfl, hb2⟩
          rw [HR.out]
          obtain ⟨b0, b1, b2, b3, b4, hv2⟩ := HM.out.later (hb2.mono (Nat.le_of_eq HS.out.symm))
          go_wp2_with fail
          refine (place_calls hd _).mono ?_
          rintro e w3 ⟨rfl, hw⟩
          have hw3 := hw.symm
          subst hw3
          clear hw
          rw [HP.out]
          go_wp2_with fail
          refine (place_calls tl _).mono ?_
          rintro e w4 ⟨rfl, hw⟩
          have hw4 := hw.symm
          subst hw4
          clear hw
          rw [HT.out]
          go_wp2_with fail
          go_ret
          exact ⟨by rw [HF.out]; rfl, HB.out.trans (hb2.mono HB.out.size)⟩
end Go.Proofs.Yteljibjbndpncaa
