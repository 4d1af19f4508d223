/- Walks of whether an entity holds a term, and of those of which all hold. -/
import Derived.Test.YtecdbfbaclgejaaHolds2
namespace Go.Proofs.Ytecdbfbaclgejaa
open Go.RowKit

/-- Two arguments boxed: an entity and a term. -/
structure Boxes (w W2 : World) (x : DEnt) (t : DTerm) (A : Option Addr) (c : Nat) (B : Option Addr) (d : Nat) : Prop where
  bel : Below w.heap.size w W2
  sz : W2.heap.size = w.heap.size + 2
  e0 : W2.cell? ⟨w.heap.size, 0, none⟩ = some (.int .i64 x.id.index)
  e1 : W2.cell? ⟨w.heap.size, 1, none⟩ = some (.int .i64 x.id.gen)
  e2 : W2.cell? ⟨w.heap.size, 2, none⟩ = some (.slice A x.parts.length c)
  t0 : W2.cell? ⟨w.heap.size + 1, 0, none⟩ = some (.int .i64 t.kind)
  t1 : W2.cell? ⟨w.heap.size + 1, 1, none⟩ = some (.int .i64 t.comp)
  t2 : W2.cell? ⟨w.heap.size + 1, 2, none⟩ = some (.slice B t.data.length d)
theorem Boxes.made (w : World) (x : DEnt) (t : DTerm) (A : Option Addr) (c : Nat) (B : Option Addr) (d : Nat) (e1 e2 : Nat) :
    Boxes w ((w.alloc (.cells #[.int .i64 x.id.index, .int .i64 x.id.gen, .slice A x.parts.length c] e1)).alloc (.cells #[.int .i64 t.kind, .int .i64 t.comp, .slice B t.data.length d] e2)) x t A c B d :=
  ⟨((Below.refl _ _).alloc (Nat.le_refl _) _).alloc (by simp) _, by simp, by simp, by simp, by simp, by simp, by simp, by simp⟩
theorem Boxes.later {w W2 W3 : World} {x : DEnt} {t : DTerm} {A : Option Addr} {c : Nat} {B : Option Addr} {d : Nat} (h : Boxes w W2 x t A c B d) (hb : Below W2.heap.size W2 W3) :
    W3.cell? ⟨w.heap.size, 0, none⟩ = some (.int .i64 x.id.index) ∧ W3.cell? ⟨w.heap.size, 1, none⟩ = some (.int .i64 x.id.gen) ∧ W3.cell? ⟨w.heap.size, 2, none⟩ = some (.slice A x.parts.length c) ∧
    W3.cell? ⟨w.heap.size + 1, 0, none⟩ = some (.int .i64 t.kind) ∧ W3.cell? ⟨w.heap.size + 1, 1, none⟩ = some (.int .i64 t.comp) ∧ W3.cell? ⟨w.heap.size + 1, 2, none⟩ = some (.slice B t.data.length d) := by
  have hs := h.sz
  exact ⟨(hb.cell (p := ⟨w.heap.size, 0, none⟩) (show w.heap.size < _ by omega)).trans h.e0, (hb.cell (p := ⟨w.heap.size, 1, none⟩) (show w.heap.size < _ by omega)).trans h.e1, (hb.cell (p := ⟨w.heap.size, 2, none⟩) (show w.heap.size < _ by omega)).trans h.e2,
    (hb.cell (p := ⟨w.heap.size + 1, 0, none⟩) (show w.heap.size + 1 < _ by omega)).trans h.t0, (hb.cell (p := ⟨w.heap.size + 1, 1, none⟩) (show w.heap.size + 1 < _ by omega)).trans h.t1, (hb.cell (p := ⟨w.heap.size + 1, 2, none⟩) (show w.heap.size + 1 < _ by omega)).trans h.t2⟩

set_option maxRecDepth 100000 in
set_option maxHeartbeats 400000 in
/-- view.Holds -/
theorem vholds_calls {Q Q' : Nat → Prop} {w : World} {v u : Value} {x : DEnt} {t : DTerm} (hx : rEnt.val Q w v x) (ht : rTerm.val Q' w u t) :
    Calls Try.prog 30 #[v, u] w fun e w' => e = .returned (.bool (holdsE x t)) ∧ Below w.heap.size w w' := by
  obtain ⟨A, c, rfl, f0, f1, hs⟩ := rEnt_val hx
  obtain ⟨B, d, rfl, k0, k1, hd⟩ := rTerm_val ht
  have hm := Boxes.made w x t A c B d 39 41
  obtain ⟨W2, hW2⟩ : ∃ W2, (w.alloc (.cells #[.int .i64 x.id.index, .int .i64 x.id.gen, .slice A x.parts.length c] 39)).alloc (.cells #[.int .i64 t.kind, .int .i64 t.comp, .slice B t.data.length d] 41) = W2 := ⟨_, rfl⟩
  rw [hW2] at hm
  have HM := Lib.hid hm
  have HX := Lib.hid (Rep.val_below hx hm.bel fun _ _ h => h.lt)
  have HT := Lib.hid (Rep.val_below ht hm.bel fun _ _ h => h.lt)
  have HE := Lib.hid (show holdsE x t = holdsB t (dataPart x.parts t.comp) (hasPart x.parts t.comp) from rfl)
  obtain ⟨e0, e1, e2, t0, t1, t2⟩ := hm.later (Below.refl _ _)
  clear hx ht hs hd f0 f1 k0 k1 hm
  go_enter Try.func30, Try.ntmps30
  go_wp2_with fail
  try rw [hW2]
  clear hW2
  go_wp2_with fail
  refine (entData_calls (k := t.comp) HX.out).mono ?_
  rintro e w1 ⟨u1, rfl, hu1, hb1⟩
  have HU := Lib.hid hu1
  have HT1 := Lib.hid (Rep.val_below HT.out hb1 fun _ _ h => h.lt)
  obtain ⟨d0, d1, d2, y0, y1, y2⟩ := HM.out.later hb1
  have HB1 := Lib.hid (HM.out.bel.trans (hb1.mono HM.out.bel.size))
  generalize hasPart x.parts t.comp = has at *
  generalize dataPart x.parts t.comp = dat at *
  obtain ⟨A5, c5, rfl, _, _, _⟩ := Rep.val_list hu1
  clear hu1 hb1 e0 e1 e2 t0 t1 t2
  go_wp2_with fail
  refine (holdsB_calls has HT1.out HU.out).mono ?_
  rintro e w2 ⟨rfl, hb2⟩
  go_wp2_with fail
  go_ret
  exact ⟨by rw [HE.out]; rfl, HB1.out.trans (hb2.mono HB1.out.size)⟩

set_option maxRecDepth 100000 in
set_option maxHeartbeats 1000000 in
/-- ref35.Holds -/
theorem rholds_calls {Q Q' : Nat → Prop} {w : World} {v u : Value} {x : DEnt} {t : DTerm} (hx : rEnt.val Q w v x) (ht : rTerm.val Q' w u t) :
    Calls Try.prog 31 #[v, u] w fun e w' => e = .returned (.bool (holdsE x t)) ∧ Below w.heap.size w w' := by
  obtain ⟨A, c, rfl, f0, f1, hs⟩ := rEnt_val hx
  obtain ⟨B, d, rfl, k0, k1, hd⟩ := rTerm_val ht
  have hm := Boxes.made w x t A c B d 39 41
  obtain ⟨W2, hW2⟩ : ∃ W2, (w.alloc (.cells #[.int .i64 x.id.index, .int .i64 x.id.gen, .slice A x.parts.length c] 39)).alloc (.cells #[.int .i64 t.kind, .int .i64 t.comp, .slice B t.data.length d] 41) = W2 := ⟨_, rfl⟩
  rw [hW2] at hm
  have HB := Lib.hid hm.bel
  have hsm := hs.2.1
  have hsl := hs.1
  unfold maxLen at hsm
  have HS := Lib.hid (hs.below hm.bel fun _ _ h => h.lt)
  have HD := Lib.hid (hd.below hm.bel fun _ _ h => h.lt)
  have HE := Lib.hid (show holdsE x t = holdsB t (dataPart x.parts t.comp) (hasPart x.parts t.comp) from rfl)
  have HH := Lib.hid (show hasPart x.parts t.comp = decide (0 ≤ partAt x.parts t.comp) from rfl)
  obtain ⟨e0, e1, e2, t0, t1, t2⟩ := hm.later (Below.refl _ _)
  have hcase := partAt_cases x.parts t.comp
  clear hx ht hs hd f0 f1 k0 k1 hm
  generalize hpa : partAt x.parts t.comp = pa at hcase HH
  have HPA := Lib.hid hpa
  clear hpa
  by_cases hk1 : t.kind = 1
  · have F := Lib.hid (show holdsE x t = decide (pa < 0) by rw [HE.out, HH.out]; unfold holdsB; rw [hk1]; simp only [Int.reduceEq, if_false, if_true]; rw [← decide_not, decide_eq_decide]; omega)
    have g1 : (t.kind == 1) = true := by simp [hk1]
    clear hk1 hcase
    go_enter Try.func31, Try.ntmps31
    go_wp2_with fail
    try rw [hW2]
    clear hW2
    go_wp2_with (go_at_call 108; refine (part_calls HS.out.val).mono ?_; rintro e w' ⟨rfl, rfl⟩; rw [HPA.out])
    go_ret
    exact ⟨by rw [F.out]; rfl, HB.out⟩
  · have g1 : (t.kind == 1) = false := by simp [hk1]
    by_cases hbad : pa < 0 ∨ t.kind < 0 ∨ 3 < t.kind
    · have F := Lib.hid (show holdsE x t = false by
        rw [HE.out, HH.out]; unfold holdsB
        by_cases hp : 0 ≤ pa
        · have hk : t.kind < 0 ∨ 3 < t.kind := by omega
          rw [if_neg (by omega), if_neg hk1, if_neg (by omega), if_neg (by omega)]
        · rw [decide_eq_false hp]; simp [hk1])
      clear hk1 hcase
      by_cases h1 : pa < 0
      · clear hbad
        go_enter Try.func31, Try.ntmps31
        go_wp2_with fail
        try rw [hW2]
        clear hW2
        go_wp2_with (go_at_call 108; refine (part_calls HS.out.val).mono ?_; rintro e w' ⟨rfl, rfl⟩; rw [HPA.out])
        go_ret
        exact ⟨by rw [F.out]; rfl, HB.out⟩
      · by_cases h2 : t.kind < 0
        · clear hbad
          go_enter Try.func31, Try.ntmps31
          go_wp2_with fail
          try rw [hW2]
          clear hW2
          go_wp2_with (go_at_call 108; refine (part_calls HS.out.val).mono ?_; rintro e w' ⟨rfl, rfl⟩; rw [HPA.out])
          go_ret
          exact ⟨by rw [F.out]; rfl, HB.out⟩
        · have h3 : 3 < t.kind := by omega
          clear hbad
          go_enter Try.func31, Try.ntmps31
          go_wp2_with fail
          try rw [hW2]
          clear hW2
          go_wp2_with (go_at_call 108; refine (part_calls HS.out.val).mono ?_; rintro e w' ⟨rfl, rfl⟩; rw [HPA.out])
          go_ret
          exact ⟨by rw [F.out]; rfl, HB.out⟩
    · obtain ⟨i, hi, h1, h2⟩ : ∃ (i : Nat) (h : i < x.parts.length), pa = i ∧ dataPart x.parts t.comp = x.parts[i].data := by
        rcases hcase with h | h
        · omega
        · exact h
      have n2 : ¬ t.kind < 0 := by omega
      have n3 : ¬ 3 < t.kind := by omega
      have HD2 := Lib.hid h2
      subst h1
      obtain ⟨b0, o0, A3, c3, rfl, _, q0, q1, _, hsd⟩ := rPart_at HS.out.2.2 (List.getElem?_eq_getElem hi)
      have HSD := Lib.hid hsd
      generalize x.parts[i] = y at *
      have j1 : (i : Int) < x.parts.length := by omega
      have HHT := Lib.hid (show hasPart x.parts t.comp = true by rw [HH.out]; simp)
      clear hcase hbad h2 hsd
      by_cases hk2 : t.kind = 2
      · have F := Lib.hid (show holdsE x t = decide (y.data = t.data) by rw [HE.out, HHT.out, HD2.out]; unfold holdsB; rw [hk2]; simp)
        have g2 : (t.kind == 2) = true := by simp [hk2]
        have HQ := Lib.hid (show ∀ m, Calls Try.prog 19 #[.slice A3 y.data.length c3, .slice B t.data.length d] (W2.drewN m) fun e w' => e = .returned (.bool (decide (y.data = t.data))) ∧ w' = W2.drewN m from
          fun m => sameBytes (HSD.out.drewN m).val (HD.out.drewN m).val)
        generalize decide (y.data = t.data) = r at *
        clear hk2 hk1
        go_enter Try.func31, Try.ntmps31
        go_wp2_with fail
        try rw [hW2]
        clear hW2
        go_wp2_with (go_at_call 108; refine (part_calls HS.out.val).mono ?_; rintro e w' ⟨rfl, rfl⟩; rw [HPA.out])
        go_quiet ((go_at_call 19; exact Calls.quiet_of_same (HQ.out _)))
        go_wp2_with fail
        go_ret
        exact ⟨by rw [F.out]; rfl, below_drewN HB.out nq⟩
      · have g2 : (t.kind == 2) = false := by simp [hk2]
        by_cases hk0 : t.kind = 0
        · have F := Lib.hid (show holdsE x t = true by rw [HE.out, HHT.out, HD2.out]; unfold holdsB; rw [hk0]; simp)
          have g0 : (t.kind == 0) = true := by simp [hk0]
          clear hk2 hk1 hk0
          go_enter Try.func31, Try.ntmps31
          go_wp2_with fail
          try rw [hW2]
          clear hW2
          go_wp2_with (go_at_call 108; refine (part_calls HS.out.val).mono ?_; rintro e w' ⟨rfl, rfl⟩; rw [HPA.out])
          go_quiet (fail)
          go_wp2_with fail
          go_ret
          exact ⟨by rw [F.out]; rfl, below_drewN HB.out nq⟩
        · have g0 : (t.kind == 0) = false := by simp [hk0]
          have F := Lib.hid (show holdsE x t = belowB y.data t.data by rw [HE.out, HHT.out, HD2.out]; unfold holdsB; rw [if_neg hk0, if_neg hk1, if_neg hk2, if_pos (by omega)]; rfl)
          have HQ := Lib.hid (show ∀ m, Calls Try.prog 109 #[.slice A3 y.data.length c3, .slice B t.data.length d] (W2.drewN m) fun e w' => e = .returned (.bool (belowB y.data t.data)) ∧ ∃ n, w' = (W2.drewN m).drewN n from
            fun m => below_calls (HSD.out.drewN m).val (HD.out.drewN m).val)
          generalize belowB y.data t.data = r at *
          clear hk2 hk1 hk0
          go_enter Try.func31, Try.ntmps31
          go_wp2_with fail
          try rw [hW2]
          clear hW2
          go_wp2_with (go_at_call 108; refine (part_calls HS.out.val).mono ?_; rintro e w' ⟨rfl, rfl⟩; rw [HPA.out])
          go_quiet ((go_at_call 109; exact Calls.quiet_of (HQ.out _)))
          go_wp2_with fail
          go_ret
          exact ⟨by rw [F.out]; rfl, below_drewN HB.out nq⟩
end Go.Proofs.Ytecdbfbaclgejaa
