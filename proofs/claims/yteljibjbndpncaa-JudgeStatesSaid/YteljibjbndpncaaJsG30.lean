/- Texts on which the proofs stand: RSame11. No condition is laid on any input. -/
import Derived.Test.YteljibjbndpncaaJsG29
namespace Go.Proofs.Yteljibjbndpncaa
open Go.RowKit

theorem same_first {α : Type} {l r : List α} (hn : l.length = r.length) (h : l.take l.length = r.take l.length) : l = r := by
  rw [List.take_length] at h; rw [h, hn, List.take_length]
theorem same_diff {α : Type} {l r : List α} {k : Nat} {x y : α} (hx : l[k]? = some x) (hy : r[k]? = some y) (h : x ≠ y) : l ≠ r := by
  rintro rfl; rw [hx] at hy; exact h (Option.some.inj hy)
theorem same_next {α : Type} {l r : List α} {k : Nat} {x : α} (hx : l[k]? = some x) (hy : r[k]? = some x) (h : l.take k = r.take k) : l.take (k + 1) = r.take (k + 1) := by
  rw [List.take_add_one, List.take_add_one, h, hx, hy]

set_option maxRecDepth 100000 in
set_option maxHeartbeats 4000000 in
/-- r11.Same -/
theorem rsame11_calls {Q Q' : Nat → Prop} {w : World} {u v : Value} {a b : DState} (hx0 : rState.val Q w u a) (hy0 : rState.val Q' w v b) :
    Calls Try.prog 45 #[u, v] w fun e w' => e = .returned (.bool (decide (a = b))) ∧ Below w.heap.size w w' := by
  obtain ⟨R, hR⟩ : ∃ R : Nat → Prop, R = fun b => b < w.heap.size := ⟨_, rfl⟩
  have hx : rState.val R w u a := by rw [hR]; exact Rep.val_any hx0
  have hy : rState.val R w v b := by rw [hR]; exact Rep.val_any hy0
  clear hx0 hy0 hR
  obtain ⟨A1, c1, A2, c2, A3, c3, rfl, f1, f2, f3⟩ := rState_val hx
  obtain ⟨B1, d1, B2, d2, B3, d3, rfl, g1, g2, g3⟩ := rState_val hy
  have l3 := f3.2.1
  have m3 := f3.1
  have l4 := g3.2.1
  have m4 := g3.1
  unfold maxLen at l3 l4
  have HL := Lib.hid f3
  have HR := Lib.hid g3
  have F1 := Lib.hid f1
  have F2 := Lib.hid f2
  have G1 := Lib.hid g1
  have G2 := Lib.hid g2
  clear hx hy f1 f2 f3 g1 g2 g3
  obtain ⟨W0, hW0⟩ : ∃ W, ((w.alloc (.cells #[.slice A1 a.gens.length c1, .slice A2 a.free.length c2, .slice A3 a.ents.length c3] 75)).alloc (.cells #[.slice B1 b.gens.length d1, .slice B2 b.free.length d2, .slice B3 b.ents.length d3] 75)) = W := ⟨_, rfl⟩
  have hz0 : W0.heap.size = w.heap.size + 2 := by rw [← hW0]; simp
  have hb0 : Below w.heap.size w W0 := by rw [← hW0]; exact ((Below.refl _ _).alloc (Nat.le_refl _) _).alloc (by first | (simp; done) | (simp; omega)) _
  have HZ := Lib.hid hz0
  have HB0 := Lib.hid hb0
  have R0_0 := Lib.hid (show W0.heap[w.heap.size]? = some (.cells #[.slice A1 a.gens.length c1, .slice A2 a.free.length c2, .slice A3 a.ents.length c3] 75 (0, 0)) by rw [← hW0]; exact alloc_old (alloc_at rfl))
  have R1_0 := Lib.hid (show W0.heap[w.heap.size + 1]? = some (.cells #[.slice B1 b.gens.length d1, .slice B2 b.free.length d2, .slice B3 b.ents.length d3] 75 (0, 0)) by rw [← hW0]; exact alloc_at (by simp))
  have O0 := Lib.hid (Only.refl (Box w 2) W0)
  have Vg_0 := Lib.hid (show (Rep.int .i64).list.val (In R w 2) W0 (.slice A1 a.gens.length c1) a.gens from val_in F1.out.val hb0)
  have Vh_0 := Lib.hid (show (Rep.int .i64).list.val (In R w 2) W0 (.slice B1 b.gens.length d1) b.gens from val_in G1.out.val hb0)
  have Vf_0 := Lib.hid (show (Rep.int .i64).list.val (In R w 2) W0 (.slice A2 a.free.length c2) a.free from val_in F2.out.val hb0)
  have Ve_0 := Lib.hid (show (Rep.int .i64).list.val (In R w 2) W0 (.slice B2 b.free.length d2) b.free from val_in G2.out.val hb0)
  have HEA := Lib.hid (show ∀ V, Below W0.heap.size W0 V → rEnt.At (Lo R w) V A3 a.ents from fun V h => (sl_of (val_lo_later (val_lo HL.out.val hb0) h)).2.2)
  have HEB := Lib.hid (show ∀ V, Below W0.heap.size W0 V → rEnt.At (Lo R w) V B3 b.ents from fun V h => (sl_of (val_lo_later (val_lo HR.out.val hb0) h)).2.2)
  by_cases hg : a.gens = b.gens
  case neg =>
    have HG := Lib.hid (show decide (a.gens = b.gens) = false from decide_eq_false hg)
    have HE := Lib.hid (show decide (a = b) = false from decide_eq_false (by rintro rfl; exact hg rfl))
    clear hg
    clear hz0 hb0
    have q0_0 := rw3 R0_0.out
    have q1_0 := rw3 R1_0.out
    go_enter Try.func45, Try.ntmps45
    go_wp2_with fail
    try rw [hW0]
    clear hW0
    try go_wp2_with fail
    clear q0_0 q1_0
    refine (sameList Vg_0.out Vh_0.out).mono ?_
    rintro e w1 ⟨rfl, nn, hw⟩
    have hb : Below W0.heap.size W0 w1 := by rw [hw]; exact below_drewN (Below.refl _ _) nn
    clear hw
    rw [HG.out]
    have S1 := Lib.hid (show Only (Box w 2) W0 w1 from Only.of_below hb)
    have O1 := Lib.hid (O0.out.trans S1.out)
    have R0_1 := Lib.hid (row_call hb R0_0.out)
    have R1_1 := Lib.hid (row_call hb R1_0.out)
    have Vg_1 := Lib.hid (val_only Vg_0.out S1.out)
    have Vh_1 := Lib.hid (val_only Vh_0.out S1.out)
    have Vf_1 := Lib.hid (val_only Vf_0.out S1.out)
    have Ve_1 := Lib.hid (val_only Ve_0.out S1.out)
    clear hb
    have q0_0 := cl3 R0_1.out
    have q1_0 := cl3 R1_1.out
    go_wp2_with fail
    clear q0_0 q1_0
    go_ret
    exact ⟨by rw [HE.out]; rfl, Only.fin HB0.out O1.out⟩
  have HG := Lib.hid (show decide (a.gens = b.gens) = true from decide_eq_true hg)
  have HG0 := Lib.hid hg
  clear hg
  by_cases hf : a.free = b.free
  case neg =>
    have HF := Lib.hid (show decide (a.free = b.free) = false from decide_eq_false hf)
    have HE := Lib.hid (show decide (a = b) = false from decide_eq_false (by rintro rfl; exact hf rfl))
    clear hf
    clear hz0 hb0
    have q0_0 := rw3 R0_0.out
    have q1_0 := rw3 R1_0.out
    go_enter Try.func45, Try.ntmps45
    go_wp2_with fail
    try rw [hW0]
    clear hW0
    try go_wp2_with fail
    clear q0_0 q1_0
    refine (sameList Vg_0.out Vh_0.out).mono ?_
    rintro e w1 ⟨rfl, nn, hw⟩
    have hb : Below W0.heap.size W0 w1 := by rw [hw]; exact below_drewN (Below.refl _ _) nn
    clear hw
    rw [HG.out]
    have S1 := Lib.hid (show Only (Box w 2) W0 w1 from Only.of_below hb)
    have O1 := Lib.hid (O0.out.trans S1.out)
    have R0_1 := Lib.hid (row_call hb R0_0.out)
    have R1_1 := Lib.hid (row_call hb R1_0.out)
    have Vg_1 := Lib.hid (val_only Vg_0.out S1.out)
    have Vh_1 := Lib.hid (val_only Vh_0.out S1.out)
    have Vf_1 := Lib.hid (val_only Vf_0.out S1.out)
    have Ve_1 := Lib.hid (val_only Ve_0.out S1.out)
    clear hb
    have q0_0 := cl3 R0_1.out
    have q1_0 := cl3 R1_1.out
    go_wp2_with fail
    clear q0_0 q1_0
    refine (sameList Vf_1.out Ve_1.out).mono ?_
    rintro e w2 ⟨rfl, nn, hw⟩
    have hb : Below w1.heap.size w1 w2 := by rw [hw]; exact below_drewN (Below.refl _ _) nn
    clear hw
    rw [HF.out]
    have S2 := Lib.hid (show Only (Box w 2) w1 w2 from Only.of_below hb)
    have O2 := Lib.hid (O1.out.trans S2.out)
    have R0_2 := Lib.hid (row_call hb R0_1.out)
    have R1_2 := Lib.hid (row_call hb R1_1.out)
    have Vg_2 := Lib.hid (val_only Vg_1.out S2.out)
    have Vh_2 := Lib.hid (val_only Vh_1.out S2.out)
    have Vf_2 := Lib.hid (val_only Vf_1.out S2.out)
    have Ve_2 := Lib.hid (val_only Ve_1.out S2.out)
    clear hb
    have q0_0 := cl3 R0_2.out
    have q1_0 := cl3 R1_2.out
    go_wp2_with fail
    clear q0_0 q1_0
    go_ret
    exact ⟨by rw [HE.out]; rfl, Only.fin HB0.out O2.out⟩
  have HF := Lib.hid (show decide (a.free = b.free) = true from decide_eq_true hf)
  have HF0 := Lib.hid hf
  clear hf
  by_cases hn : a.ents.length = b.ents.length
  case neg =>
    have hn2 : ((a.ents.length : Int) == b.ents.length) = false := by simp; omega
    have HE := Lib.hid (show decide (a = b) = false from decide_eq_false (by rintro rfl; exact hn rfl))
    clear hn
    clear hz0 hb0
    have q0_0 := rw3 R0_0.out
    have q1_0 := rw3 R1_0.out
    go_enter Try.func45, Try.ntmps45
    go_wp2_with fail
    try rw [hW0]
    clear hW0
    try go_wp2_with fail
    clear q0_0 q1_0
    refine (sameList Vg_0.out Vh_0.out).mono ?_
    rintro e w1 ⟨rfl, nn, hw⟩
    have hb : Below W0.heap.size W0 w1 := by rw [hw]; exact below_drewN (Below.refl _ _) nn
    clear hw
    rw [HG.out]
    have S1 := Lib.hid (show Only (Box w 2) W0 w1 from Only.of_below hb)
    have O1 := Lib.hid (O0.out.trans S1.out)
    have R0_1 := Lib.hid (row_call hb R0_0.out)
    have R1_1 := Lib.hid (row_call hb R1_0.out)
    have Vg_1 := Lib.hid (val_only Vg_0.out S1.out)
    have Vh_1 := Lib.hid (val_only Vh_0.out S1.out)
    have Vf_1 := Lib.hid (val_only Vf_0.out S1.out)
    have Ve_1 := Lib.hid (val_only Ve_0.out S1.out)
    clear hb
    have q0_0 := cl3 R0_1.out
    have q1_0 := cl3 R1_1.out
    go_wp2_with fail
    clear q0_0 q1_0
    refine (sameList Vf_1.out Ve_1.out).mono ?_
    rintro e w2 ⟨rfl, nn, hw⟩
    have hb : Below w1.heap.size w1 w2 := by rw [hw]; exact below_drewN (Below.refl _ _) nn
    clear hw
    rw [HF.out]
    have S2 := Lib.hid (show Only (Box w 2) w1 w2 from Only.of_below hb)
    have O2 := Lib.hid (O1.out.trans S2.out)
    have R0_2 := Lib.hid (row_call hb R0_1.out)
    have R1_2 := Lib.hid (row_call hb R1_1.out)
    have Vg_2 := Lib.hid (val_only Vg_1.out S2.out)
    have Vh_2 := Lib.hid (val_only Vh_1.out S2.out)
    have Vf_2 := Lib.hid (val_only Vf_1.out S2.out)
    have Ve_2 := Lib.hid (val_only Ve_1.out S2.out)
    clear hb
    have q0_0 := cl3 R0_2.out
    have q1_0 := cl3 R1_2.out
    go_wp2_with fail
    clear q0_0 q1_0
    go_ret
    exact ⟨by rw [HE.out]; rfl, Only.fin HB0.out O2.out⟩
  have hn2 : ((a.ents.length : Int) == b.ents.length) = true := by simp; omega
  have hn3 : ((a.ents.length : Int) != b.ents.length) = false := by simp; omega
  have HN := Lib.hid hn
  clear hn
  clear hz0 hb0
  have q0_0 := rw3 R0_0.out
  have q1_0 := rw3 R1_0.out
  go_enter Try.func45, Try.ntmps45
  go_wp2_with fail
  try rw [hW0]
  clear hW0
  try go_wp2_with fail
  clear q0_0 q1_0
  refine (sameList Vg_0.out Vh_0.out).mono ?_
  rintro e w1 ⟨rfl, nn, hw⟩
  have hb : Below W0.heap.size W0 w1 := by rw [hw]; exact below_drewN (Below.refl _ _) nn
  clear hw
  rw [HG.out]
  have S1 := Lib.hid (show Only (Box w 2) W0 w1 from Only.of_below hb)
  have O1 := Lib.hid (O0.out.trans S1.out)
  have R0_1 := Lib.hid (row_call hb R0_0.out)
  have R1_1 := Lib.hid (row_call hb R1_0.out)
  have Vg_1 := Lib.hid (val_only Vg_0.out S1.out)
  have Vh_1 := Lib.hid (val_only Vh_0.out S1.out)
  have Vf_1 := Lib.hid (val_only Vf_0.out S1.out)
  have Ve_1 := Lib.hid (val_only Ve_0.out S1.out)
  clear hb
  have q0_0 := cl3 R0_1.out
  have q1_0 := cl3 R1_1.out
  go_wp2_with fail
  clear q0_0 q1_0
  refine (sameList Vf_1.out Ve_1.out).mono ?_
  rintro e w2 ⟨rfl, nn, hw⟩
  have hb : Below w1.heap.size w1 w2 := by rw [hw]; exact below_drewN (Below.refl _ _) nn
  clear hw
  rw [HF.out]
  have S2 := Lib.hid (show Only (Box w 2) w1 w2 from Only.of_below hb)
  have O2 := Lib.hid (O1.out.trans S2.out)
  have R0_2 := Lib.hid (row_call hb R0_1.out)
  have R1_2 := Lib.hid (row_call hb R1_1.out)
  have Vg_2 := Lib.hid (val_only Vg_1.out S2.out)
  have Vh_2 := Lib.hid (val_only Vh_1.out S2.out)
  have Vf_2 := Lib.hid (val_only Vf_1.out S2.out)
  have Ve_2 := Lib.hid (val_only Ve_1.out S2.out)
  clear hb
  have q0_0 := cl3 R0_2.out
  have q1_0 := cl3 R1_2.out
  go_wp2_with fail
  clear q0_0 q1_0
  clear hn2 hn3
  go_loopw [5] (fun i wr => ∃ k : Nat, i = .int .i64 k ∧ k ≤ a.ents.length ∧ Hid (a.ents.take k = b.ents.take k) ∧ Hid (Below w2.heap.size w2 wr)) (fun i _ => a.ents.length - (intOf i).toNat)
  case atStart => exact ⟨0, rfl, Nat.zero_le _, Lib.hid (by simp), Lib.hid (Below.refl _ _)⟩
  case round =>
    obtain ⟨k, rfl, hk, HT, HBR⟩ := hrel
    have S3 := Lib.hid (show Only (Box w 2) w2 wr from Only.of_below HBR.out)
    have O3 := Lib.hid (O2.out.trans S3.out)
    have R0_3 := Lib.hid (row_call HBR.out R0_2.out)
    have R1_3 := Lib.hid (row_call HBR.out R1_2.out)
    have Vg_3 := Lib.hid (val_only Vg_2.out S3.out)
    have Vh_3 := Lib.hid (val_only Vh_2.out S3.out)
    have Vf_3 := Lib.hid (val_only Vf_2.out S3.out)
    have Ve_3 := Lib.hid (val_only Ve_2.out S3.out)
    skip
    have HAA := Lib.hid (show rEnt.At (Lo R w) wr A3 a.ents from Rep.At.keep (w := W0) (fun b hb _ => ⟨hb, O3.out.block b (by have := hb.2; have := HZ.out; omega) (fun h => by have := hb.2; have := h.1; omega)⟩) (HEA.out W0 (Below.refl _ _)))
    have HAB := Lib.hid (show rEnt.At (Lo R w) wr B3 b.ents from Rep.At.keep (w := W0) (fun b hb _ => ⟨hb, O3.out.block b (by have := hb.2; have := HZ.out; omega) (fun h => by have := hb.2; have := h.1; omega)⟩) (HEB.out W0 (Below.refl _ _)))
    by_cases hlt : (k : Int) < a.ents.length
    · skip
      have hlt2 : (k : Int) < b.ents.length := by have := HN.out; omega
      obtain ⟨x, hx⟩ : ∃ x, a.ents[k]? = some x := ⟨_, List.getElem?_eq_getElem (by omega)⟩
      obtain ⟨y, hy⟩ : ∃ y, b.ents[k]? = some y := ⟨_, List.getElem?_eq_getElem (by omega)⟩
      obtain ⟨xb, xo, XP, xc, hXA, _, x0, x1, x2, _, _, xs⟩ := rEnt_at HAA.out hx
      obtain ⟨yb, yo, YP, yc, hYA, _, y0, y1, y2, _, _, ys⟩ := rEnt_at HAB.out hy
      subst hXA hYA
      have HX := Lib.hid hx
      have HY := Lib.hid hy
      have HXP := Lib.hid xs
      have HYP := Lib.hid ys
      clear hx hy xs ys
      by_cases hid : x.id = y.id
      · skip
        rw [← hid] at y0 y1
        have HID := Lib.hid hid
        clear hid
        by_cases hp : x.parts = y.parts
        · skip
          have HPP := Lib.hid (show decide (x.parts = y.parts) = true from decide_eq_true hp)
          have HNX := Lib.hid (same_next HX.out (by rw [HY.out, DEnt.ext HID.out hp]) HT.out)
          clear hp
          have X0 := Lib.hid x0
          have X1 := Lib.hid x1
          have X2 := Lib.hid x2
          have Y0 := Lib.hid y0
          have Y1 := Lib.hid y1
          have Y2 := Lib.hid y2
          clear x0 x1 x2 y0 y1 y2
          have q0_0 := cl3 R0_3.out
          have q1_0 := cl3 R1_3.out
          go_wp2_with fail
          clear q0_0 q1_0
          refine wp_region_held_drew (S := fun W => Below wr.heap.size wr W) (by kernel_rfl) ((Below.refl _ _).drew) (fun s0 => ?_)
          obtain ⟨v1, hv0⟩ : ∃ V, V = wr.drew := ⟨_, rfl⟩
          rw [← hv0] at s0 ⊢
          have t1 : Below wr.heap.size wr v1 := s0
          clear hv0 s0
          refine tkHV (i := 0) (v := .pointer (some ⟨w.heap.size, 2, none⟩)) rfl t1 ?_
          go_simp
          refine tkH (i := 1) (v := .slice (some ⟨xb, xo, none⟩) a.ents.length c3) rfl (Or.inl ⟨by rfl, fun w' h => by have e := row_call (h : Below wr.heap.size wr w') R0_3.out; have e0 := cell_row e 0; have e1 := cell_row e 1; have e2 := cell_row e 2; go_simp⟩) t1 ?_
          go_simp
          refine tkHV (i := 2) (v := .int .i64 k) rfl t1 ?_
          go_simp
          refine tkHV (i := 3) (v := .pointer (some ⟨xb, xo + k * 3, none⟩)) rfl t1 ?_
          go_simp
          refine tkHV (i := 4) (v := .pointer (some ⟨xb, xo + k * 3, none⟩)) rfl t1 ?_
          go_simp
          refine tkH (i := 5) (v := .agg #[.int .i64 x.id.index, .int .i64 x.id.gen]) rfl (Or.inl ⟨by rfl, fun w' h => by have e0 := cell_call (h : Below wr.heap.size wr w') X0.out; have e1 := cell_call (h : Below wr.heap.size wr w') X1.out; go_simp⟩) t1 ?_
          go_simp
          refine tkHV (i := 6) (v := .pointer (some ⟨w.heap.size + 1, 2, none⟩)) rfl t1 ?_
          go_simp
          refine tkH (i := 7) (v := .slice (some ⟨yb, yo, none⟩) b.ents.length d3) rfl (Or.inl ⟨by rfl, fun w' h => by have e := row_call (h : Below wr.heap.size wr w') R1_3.out; have e0 := cell_row e 0; have e1 := cell_row e 1; have e2 := cell_row e 2; go_simp⟩) t1 ?_
          go_simp
          refine tkHV (i := 8) (v := .int .i64 k) rfl t1 ?_
          go_simp
          refine tkHV (i := 9) (v := .pointer (some ⟨yb, yo + k * 3, none⟩)) rfl t1 ?_
          go_simp
          refine tkHV (i := 10) (v := .pointer (some ⟨yb, yo + k * 3, none⟩)) rfl t1 ?_
          go_simp
          refine tkH (i := 11) (v := .agg #[.int .i64 x.id.index, .int .i64 x.id.gen]) rfl (Or.inl ⟨by rfl, fun w' h => by have e0 := cell_call (h : Below wr.heap.size wr w') Y0.out; have e1 := cell_call (h : Below wr.heap.size wr w') Y1.out; go_simp⟩) t1 ?_
          go_simp
          refine tkHV (i := 12) (v := .bool false) rfl t1 ?_
          go_simp
          refine tkHV (i := 13) (v := .bool false) rfl t1 ?_
          go_simp
          refine tkHV (i := 14) (v := .pointer (some ⟨w.heap.size, 2, none⟩)) rfl t1 ?_
          go_simp
          refine tkH (i := 15) (v := .slice (some ⟨xb, xo, none⟩) a.ents.length c3) rfl (Or.inl ⟨by rfl, fun w' h => by have e := row_call (h : Below wr.heap.size wr w') R0_3.out; have e0 := cell_row e 0; have e1 := cell_row e 1; have e2 := cell_row e 2; go_simp⟩) t1 ?_
          go_simp
          refine tkHV (i := 16) (v := .int .i64 k) rfl t1 ?_
          go_simp
          refine tkHV (i := 17) (v := .pointer (some ⟨xb, xo + k * 3, none⟩)) rfl t1 ?_
          go_simp
          refine tkHV (i := 18) (v := .pointer (some ⟨xb, xo + k * 3 + 2, none⟩)) rfl t1 ?_
          go_simp
          refine tkH (i := 19) (v := .slice XP x.parts.length xc) rfl (Or.inl ⟨by rfl, fun w' h => by have e2 := cell_call (h : Below wr.heap.size wr w') X2.out; go_simp⟩) t1 ?_
          go_simp
          refine tkHV (i := 20) (v := .pointer (some ⟨w.heap.size + 1, 2, none⟩)) rfl t1 ?_
          go_simp
          refine tkH (i := 21) (v := .slice (some ⟨yb, yo, none⟩) b.ents.length d3) rfl (Or.inl ⟨by rfl, fun w' h => by have e := row_call (h : Below wr.heap.size wr w') R1_3.out; have e0 := cell_row e 0; have e1 := cell_row e 1; have e2 := cell_row e 2; go_simp⟩) t1 ?_
          go_simp
          refine tkHV (i := 22) (v := .int .i64 k) rfl t1 ?_
          go_simp
          refine tkHV (i := 23) (v := .pointer (some ⟨yb, yo + k * 3, none⟩)) rfl t1 ?_
          go_simp
          refine tkHV (i := 24) (v := .pointer (some ⟨yb, yo + k * 3 + 2, none⟩)) rfl t1 ?_
          go_simp
          refine tkH (i := 25) (v := .slice YP y.parts.length yc) rfl (Or.inl ⟨by rfl, fun w' h => by have e2 := cell_call (h : Below wr.heap.size wr w') Y2.out; go_simp⟩) t1 ?_
          go_simp
          refine wpAnyH_all (rs := [26]) (by kernel_rfl) (by simp) ?_
          intro i hi
          obtain rfl : i = 26 := by simpa using hi
          clear hi
          refine wpOp_step rfl (fun K hK => ?_)
          go_simp
          refine (rsameParts_calls ((HXP.out.keep fun b hb hl => ⟨hb, (t1).block b hl.lt⟩).val) ((HYP.out.keep fun b hb hl => ⟨hb, (t1).block b hl.lt⟩).val)).mono ?_
          rintro e v2 ⟨rfl, hb⟩
          rw [HPP.out]
          have t2 : Below wr.heap.size wr v2 := Below.trans t1 (hb.mono (Below.size t1))
          refine hK _ _ ⟨t2, ?_⟩
          clear hb
          clear hK K
          refine tkHV (i := 27) (v := .bool false) rfl t2 ?_
          go_simp
          refine tkHV (i := 28) (v := .bool false) rfl t2 ?_
          go_simp
          refine wpAnyH_done (by kernel_rfl) ?_ _
          have S4 := Lib.hid (show Only (Box w 2) wr v2 from Only.of_below t2)
          have O4 := Lib.hid (O3.out.trans S4.out)
          have R0_4 := Lib.hid (row_call t2 R0_3.out)
          have R1_4 := Lib.hid (row_call t2 R1_3.out)
          have Vg_4 := Lib.hid (val_only Vg_3.out S4.out)
          have Vh_4 := Lib.hid (val_only Vh_3.out S4.out)
          have Vf_4 := Lib.hid (val_only Vf_3.out S4.out)
          have Ve_4 := Lib.hid (val_only Ve_3.out S4.out)
          have q0_0 := cl3 R0_4.out
          have q1_0 := cl3 R1_4.out
          go_wp2_with fail
          clear q0_0 q1_0
          exact ⟨⟨k + 1, by go_num, by omega, HNX, Lib.hid (HBR.out.trans ((show Below wr.heap.size wr v2 from t2).mono HBR.out.size))⟩, by simp [intOf]; omega⟩
        · skip
          have HPP := Lib.hid (show decide (x.parts = y.parts) = false from decide_eq_false hp)
          have HE := Lib.hid (show decide (a = b) = false from decide_eq_false (fun h => same_diff HX.out HY.out (fun e => hp (by rw [e])) (by rw [h])))
          clear hp
          have X0 := Lib.hid x0
          have X1 := Lib.hid x1
          have X2 := Lib.hid x2
          have Y0 := Lib.hid y0
          have Y1 := Lib.hid y1
          have Y2 := Lib.hid y2
          clear x0 x1 x2 y0 y1 y2
          have q0_0 := cl3 R0_3.out
          have q1_0 := cl3 R1_3.out
          go_wp2_with fail
          clear q0_0 q1_0
          refine wp_region_held_drew (S := fun W => Below wr.heap.size wr W) (by kernel_rfl) ((Below.refl _ _).drew) (fun s0 => ?_)
          obtain ⟨v1, hv0⟩ : ∃ V, V = wr.drew := ⟨_, rfl⟩
          rw [← hv0] at s0 ⊢
          have t1 : Below wr.heap.size wr v1 := s0
          clear hv0 s0
          refine tkHV (i := 0) (v := .pointer (some ⟨w.heap.size, 2, none⟩)) rfl t1 ?_
          go_simp
          refine tkH (i := 1) (v := .slice (some ⟨xb, xo, none⟩) a.ents.length c3) rfl (Or.inl ⟨by rfl, fun w' h => by have e := row_call (h : Below wr.heap.size wr w') R0_3.out; have e0 := cell_row e 0; have e1 := cell_row e 1; have e2 := cell_row e 2; go_simp⟩) t1 ?_
          go_simp
          refine tkHV (i := 2) (v := .int .i64 k) rfl t1 ?_
          go_simp
          refine tkHV (i := 3) (v := .pointer (some ⟨xb, xo + k * 3, none⟩)) rfl t1 ?_
          go_simp
          refine tkHV (i := 4) (v := .pointer (some ⟨xb, xo + k * 3, none⟩)) rfl t1 ?_
          go_simp
          refine tkH (i := 5) (v := .agg #[.int .i64 x.id.index, .int .i64 x.id.gen]) rfl (Or.inl ⟨by rfl, fun w' h => by have e0 := cell_call (h : Below wr.heap.size wr w') X0.out; have e1 := cell_call (h : Below wr.heap.size wr w') X1.out; go_simp⟩) t1 ?_
          go_simp
          refine tkHV (i := 6) (v := .pointer (some ⟨w.heap.size + 1, 2, none⟩)) rfl t1 ?_
          go_simp
          refine tkH (i := 7) (v := .slice (some ⟨yb, yo, none⟩) b.ents.length d3) rfl (Or.inl ⟨by rfl, fun w' h => by have e := row_call (h : Below wr.heap.size wr w') R1_3.out; have e0 := cell_row e 0; have e1 := cell_row e 1; have e2 := cell_row e 2; go_simp⟩) t1 ?_
          go_simp
          refine tkHV (i := 8) (v := .int .i64 k) rfl t1 ?_
          go_simp
          refine tkHV (i := 9) (v := .pointer (some ⟨yb, yo + k * 3, none⟩)) rfl t1 ?_
          go_simp
          refine tkHV (i := 10) (v := .pointer (some ⟨yb, yo + k * 3, none⟩)) rfl t1 ?_
          go_simp
          refine tkH (i := 11) (v := .agg #[.int .i64 x.id.index, .int .i64 x.id.gen]) rfl (Or.inl ⟨by rfl, fun w' h => by have e0 := cell_call (h : Below wr.heap.size wr w') Y0.out; have e1 := cell_call (h : Below wr.heap.size wr w') Y1.out; go_simp⟩) t1 ?_
          go_simp
          refine tkHV (i := 12) (v := .bool false) rfl t1 ?_
          go_simp
          refine tkHV (i := 13) (v := .bool false) rfl t1 ?_
          go_simp
          refine tkHV (i := 14) (v := .pointer (some ⟨w.heap.size, 2, none⟩)) rfl t1 ?_
          go_simp
          refine tkH (i := 15) (v := .slice (some ⟨xb, xo, none⟩) a.ents.length c3) rfl (Or.inl ⟨by rfl, fun w' h => by have e := row_call (h : Below wr.heap.size wr w') R0_3.out; have e0 := cell_row e 0; have e1 := cell_row e 1; have e2 := cell_row e 2; go_simp⟩) t1 ?_
          go_simp
          refine tkHV (i := 16) (v := .int .i64 k) rfl t1 ?_
          go_simp
          refine tkHV (i := 17) (v := .pointer (some ⟨xb, xo + k * 3, none⟩)) rfl t1 ?_
          go_simp
          refine tkHV (i := 18) (v := .pointer (some ⟨xb, xo + k * 3 + 2, none⟩)) rfl t1 ?_
          go_simp
          refine tkH (i := 19) (v := .slice XP x.parts.length xc) rfl (Or.inl ⟨by rfl, fun w' h => by have e2 := cell_call (h : Below wr.heap.size wr w') X2.out; go_simp⟩) t1 ?_
          go_simp
          refine tkHV (i := 20) (v := .pointer (some ⟨w.heap.size + 1, 2, none⟩)) rfl t1 ?_
          go_simp
          refine tkH (i := 21) (v := .slice (some ⟨yb, yo, none⟩) b.ents.length d3) rfl (Or.inl ⟨by rfl, fun w' h => by have e := row_call (h : Below wr.heap.size wr w') R1_3.out; have e0 := cell_row e 0; have e1 := cell_row e 1; have e2 := cell_row e 2; go_simp⟩) t1 ?_
          go_simp
          refine tkHV (i := 22) (v := .int .i64 k) rfl t1 ?_
          go_simp
          refine tkHV (i := 23) (v := .pointer (some ⟨yb, yo + k * 3, none⟩)) rfl t1 ?_
          go_simp
          refine tkHV (i := 24) (v := .pointer (some ⟨yb, yo + k * 3 + 2, none⟩)) rfl t1 ?_
          go_simp
          refine tkH (i := 25) (v := .slice YP y.parts.length yc) rfl (Or.inl ⟨by rfl, fun w' h => by have e2 := cell_call (h : Below wr.heap.size wr w') Y2.out; go_simp⟩) t1 ?_
          go_simp
          refine wpAnyH_all (rs := [26]) (by kernel_rfl) (by simp) ?_
          intro i hi
          obtain rfl : i = 26 := by simpa using hi
          clear hi
          refine wpOp_step rfl (fun K hK => ?_)
          go_simp
          refine (rsameParts_calls ((HXP.out.keep fun b hb hl => ⟨hb, (t1).block b hl.lt⟩).val) ((HYP.out.keep fun b hb hl => ⟨hb, (t1).block b hl.lt⟩).val)).mono ?_
          rintro e v2 ⟨rfl, hb⟩
          rw [HPP.out]
          have t2 : Below wr.heap.size wr v2 := Below.trans t1 (hb.mono (Below.size t1))
          refine hK _ _ ⟨t2, ?_⟩
          clear hb
          clear hK K
          refine tkHV (i := 27) (v := .bool true) rfl t2 ?_
          go_simp
          refine tkHV (i := 28) (v := .bool true) rfl t2 ?_
          go_simp
          refine wpAnyH_done (by kernel_rfl) ?_ _
          have S4 := Lib.hid (show Only (Box w 2) wr v2 from Only.of_below t2)
          have O4 := Lib.hid (O3.out.trans S4.out)
          have R0_4 := Lib.hid (row_call t2 R0_3.out)
          have R1_4 := Lib.hid (row_call t2 R1_3.out)
          have Vg_4 := Lib.hid (val_only Vg_3.out S4.out)
          have Vh_4 := Lib.hid (val_only Vh_3.out S4.out)
          have Vf_4 := Lib.hid (val_only Vf_3.out S4.out)
          have Ve_4 := Lib.hid (val_only Ve_3.out S4.out)
          have q0_0 := cl3 R0_4.out
          have q1_0 := cl3 R1_4.out
          go_wp2_with fail
          clear q0_0 q1_0
          go_ret
          exact ⟨by rw [HE.out]; rfl, Only.fin HB0.out O4.out⟩
      · skip
        have HE := Lib.hid (show decide (a = b) = false from decide_eq_false (fun h => same_diff HX.out HY.out (fun e => hid (by rw [e])) (by rw [h])))
        by_cases hix : x.id.index = y.id.index
        · skip
          have hi1 : (x.id.index == y.id.index) = true := by simp [hix]
          have hi2 : (x.id.gen == y.id.gen) = false := by simp; exact fun h => hid (DID.ext hix h)
          clear hid hix
          have X0 := Lib.hid x0
          have X1 := Lib.hid x1
          have X2 := Lib.hid x2
          have Y0 := Lib.hid y0
          have Y1 := Lib.hid y1
          have Y2 := Lib.hid y2
          clear x0 x1 x2 y0 y1 y2
          have q0_0 := cl3 R0_3.out
          have q1_0 := cl3 R1_3.out
          go_wp2_with fail
          clear q0_0 q1_0
          refine wp_region_held_drew (S := fun W => Below wr.heap.size wr W) (by kernel_rfl) ((Below.refl _ _).drew) (fun s0 => ?_)
          obtain ⟨v1, hv0⟩ : ∃ V, V = wr.drew := ⟨_, rfl⟩
          rw [← hv0] at s0 ⊢
          have t1 : Below wr.heap.size wr v1 := s0
          clear hv0 s0
          refine tkHV (i := 0) (v := .pointer (some ⟨w.heap.size, 2, none⟩)) rfl t1 ?_
          go_simp
          refine tkH (i := 1) (v := .slice (some ⟨xb, xo, none⟩) a.ents.length c3) rfl (Or.inl ⟨by rfl, fun w' h => by have e := row_call (h : Below wr.heap.size wr w') R0_3.out; have e0 := cell_row e 0; have e1 := cell_row e 1; have e2 := cell_row e 2; go_simp⟩) t1 ?_
          go_simp
          refine tkHV (i := 2) (v := .int .i64 k) rfl t1 ?_
          go_simp
          refine tkHV (i := 3) (v := .pointer (some ⟨xb, xo + k * 3, none⟩)) rfl t1 ?_
          go_simp
          refine tkHV (i := 4) (v := .pointer (some ⟨xb, xo + k * 3, none⟩)) rfl t1 ?_
          go_simp
          refine tkH (i := 5) (v := .agg #[.int .i64 x.id.index, .int .i64 x.id.gen]) rfl (Or.inl ⟨by rfl, fun w' h => by have e0 := cell_call (h : Below wr.heap.size wr w') X0.out; have e1 := cell_call (h : Below wr.heap.size wr w') X1.out; go_simp⟩) t1 ?_
          go_simp
          refine tkHV (i := 6) (v := .pointer (some ⟨w.heap.size + 1, 2, none⟩)) rfl t1 ?_
          go_simp
          refine tkH (i := 7) (v := .slice (some ⟨yb, yo, none⟩) b.ents.length d3) rfl (Or.inl ⟨by rfl, fun w' h => by have e := row_call (h : Below wr.heap.size wr w') R1_3.out; have e0 := cell_row e 0; have e1 := cell_row e 1; have e2 := cell_row e 2; go_simp⟩) t1 ?_
          go_simp
          refine tkHV (i := 8) (v := .int .i64 k) rfl t1 ?_
          go_simp
          refine tkHV (i := 9) (v := .pointer (some ⟨yb, yo + k * 3, none⟩)) rfl t1 ?_
          go_simp
          refine tkHV (i := 10) (v := .pointer (some ⟨yb, yo + k * 3, none⟩)) rfl t1 ?_
          go_simp
          refine tkH (i := 11) (v := .agg #[.int .i64 y.id.index, .int .i64 y.id.gen]) rfl (Or.inl ⟨by rfl, fun w' h => by have e0 := cell_call (h : Below wr.heap.size wr w') Y0.out; have e1 := cell_call (h : Below wr.heap.size wr w') Y1.out; go_simp⟩) t1 ?_
          go_simp
          refine tkHV (i := 12) (v := .bool true) rfl t1 ?_
          go_simp
          refine tkHV (i := 13) (v := .bool true) rfl t1 ?_
          go_simp
          refine tkH (i := 14) (v := undef) rfl (Or.inr ⟨by rfl, rfl⟩) t1 ?_
          go_simp
          refine tkH (i := 15) (v := undef) rfl (Or.inr ⟨by rfl, rfl⟩) t1 ?_
          go_simp
          refine tkH (i := 16) (v := undef) rfl (Or.inr ⟨by rfl, rfl⟩) t1 ?_
          go_simp
          refine tkH (i := 17) (v := undef) rfl (Or.inr ⟨by rfl, rfl⟩) t1 ?_
          go_simp
          refine tkH (i := 18) (v := undef) rfl (Or.inr ⟨by rfl, rfl⟩) t1 ?_
          go_simp
          refine tkH (i := 19) (v := undef) rfl (Or.inr ⟨by rfl, rfl⟩) t1 ?_
          go_simp
          refine tkH (i := 20) (v := undef) rfl (Or.inr ⟨by rfl, rfl⟩) t1 ?_
          go_simp
          refine tkH (i := 21) (v := undef) rfl (Or.inr ⟨by rfl, rfl⟩) t1 ?_
          go_simp
          refine tkH (i := 22) (v := undef) rfl (Or.inr ⟨by rfl, rfl⟩) t1 ?_
          go_simp
          refine tkH (i := 23) (v := undef) rfl (Or.inr ⟨by rfl, rfl⟩) t1 ?_
          go_simp
          refine tkH (i := 24) (v := undef) rfl (Or.inr ⟨by rfl, rfl⟩) t1 ?_
          go_simp
          refine tkH (i := 25) (v := undef) rfl (Or.inr ⟨by rfl, rfl⟩) t1 ?_
          go_simp
          refine tkH (i := 26) (v := undef) rfl (Or.inr ⟨by rfl, rfl⟩) t1 ?_
          go_simp
          refine tkH (i := 27) (v := undef) rfl (Or.inr ⟨by rfl, rfl⟩) t1 ?_
          go_simp
          refine tkHV (i := 28) (v := .bool true) rfl t1 ?_
          go_simp
          refine wpAnyH_done (by kernel_rfl) ?_ _
          have S4 := Lib.hid (show Only (Box w 2) wr v1 from Only.of_below t1)
          have O4 := Lib.hid (O3.out.trans S4.out)
          have R0_4 := Lib.hid (row_call t1 R0_3.out)
          have R1_4 := Lib.hid (row_call t1 R1_3.out)
          have Vg_4 := Lib.hid (val_only Vg_3.out S4.out)
          have Vh_4 := Lib.hid (val_only Vh_3.out S4.out)
          have Vf_4 := Lib.hid (val_only Vf_3.out S4.out)
          have Ve_4 := Lib.hid (val_only Ve_3.out S4.out)
          have q0_0 := cl3 R0_4.out
          have q1_0 := cl3 R1_4.out
          go_wp2_with fail
          clear q0_0 q1_0
          go_ret
          exact ⟨by rw [HE.out]; rfl, Only.fin HB0.out O4.out⟩
        · skip
          have hi1 : (x.id.index == y.id.index) = false := by simp [hix]
          clear hid hix
          have X0 := Lib.hid x0
          have X1 := Lib.hid x1
          have X2 := Lib.hid x2
          have Y0 := Lib.hid y0
          have Y1 := Lib.hid y1
          have Y2 := Lib.hid y2
          clear x0 x1 x2 y0 y1 y2
          have q0_0 := cl3 R0_3.out
          have q1_0 := cl3 R1_3.out
          go_wp2_with fail
          clear q0_0 q1_0
          refine wp_region_held_drew (S := fun W => Below wr.heap.size wr W) (by kernel_rfl) ((Below.refl _ _).drew) (fun s0 => ?_)
          obtain ⟨v1, hv0⟩ : ∃ V, V = wr.drew := ⟨_, rfl⟩
          rw [← hv0] at s0 ⊢
          have t1 : Below wr.heap.size wr v1 := s0
          clear hv0 s0
          refine tkHV (i := 0) (v := .pointer (some ⟨w.heap.size, 2, none⟩)) rfl t1 ?_
          go_simp
          refine tkH (i := 1) (v := .slice (some ⟨xb, xo, none⟩) a.ents.length c3) rfl (Or.inl ⟨by rfl, fun w' h => by have e := row_call (h : Below wr.heap.size wr w') R0_3.out; have e0 := cell_row e 0; have e1 := cell_row e 1; have e2 := cell_row e 2; go_simp⟩) t1 ?_
          go_simp
          refine tkHV (i := 2) (v := .int .i64 k) rfl t1 ?_
          go_simp
          refine tkHV (i := 3) (v := .pointer (some ⟨xb, xo + k * 3, none⟩)) rfl t1 ?_
          go_simp
          refine tkHV (i := 4) (v := .pointer (some ⟨xb, xo + k * 3, none⟩)) rfl t1 ?_
          go_simp
          refine tkH (i := 5) (v := .agg #[.int .i64 x.id.index, .int .i64 x.id.gen]) rfl (Or.inl ⟨by rfl, fun w' h => by have e0 := cell_call (h : Below wr.heap.size wr w') X0.out; have e1 := cell_call (h : Below wr.heap.size wr w') X1.out; go_simp⟩) t1 ?_
          go_simp
          refine tkHV (i := 6) (v := .pointer (some ⟨w.heap.size + 1, 2, none⟩)) rfl t1 ?_
          go_simp
          refine tkH (i := 7) (v := .slice (some ⟨yb, yo, none⟩) b.ents.length d3) rfl (Or.inl ⟨by rfl, fun w' h => by have e := row_call (h : Below wr.heap.size wr w') R1_3.out; have e0 := cell_row e 0; have e1 := cell_row e 1; have e2 := cell_row e 2; go_simp⟩) t1 ?_
          go_simp
          refine tkHV (i := 8) (v := .int .i64 k) rfl t1 ?_
          go_simp
          refine tkHV (i := 9) (v := .pointer (some ⟨yb, yo + k * 3, none⟩)) rfl t1 ?_
          go_simp
          refine tkHV (i := 10) (v := .pointer (some ⟨yb, yo + k * 3, none⟩)) rfl t1 ?_
          go_simp
          refine tkH (i := 11) (v := .agg #[.int .i64 y.id.index, .int .i64 y.id.gen]) rfl (Or.inl ⟨by rfl, fun w' h => by have e0 := cell_call (h : Below wr.heap.size wr w') Y0.out; have e1 := cell_call (h : Below wr.heap.size wr w') Y1.out; go_simp⟩) t1 ?_
          go_simp
          refine tkHV (i := 12) (v := .bool true) rfl t1 ?_
          go_simp
          refine tkHV (i := 13) (v := .bool true) rfl t1 ?_
          go_simp
          refine tkH (i := 14) (v := undef) rfl (Or.inr ⟨by rfl, rfl⟩) t1 ?_
          go_simp
          refine tkH (i := 15) (v := undef) rfl (Or.inr ⟨by rfl, rfl⟩) t1 ?_
          go_simp
          refine tkH (i := 16) (v := undef) rfl (Or.inr ⟨by rfl, rfl⟩) t1 ?_
          go_simp
          refine tkH (i := 17) (v := undef) rfl (Or.inr ⟨by rfl, rfl⟩) t1 ?_
          go_simp
          refine tkH (i := 18) (v := undef) rfl (Or.inr ⟨by rfl, rfl⟩) t1 ?_
          go_simp
          refine tkH (i := 19) (v := undef) rfl (Or.inr ⟨by rfl, rfl⟩) t1 ?_
          go_simp
          refine tkH (i := 20) (v := undef) rfl (Or.inr ⟨by rfl, rfl⟩) t1 ?_
          go_simp
          refine tkH (i := 21) (v := undef) rfl (Or.inr ⟨by rfl, rfl⟩) t1 ?_
          go_simp
          refine tkH (i := 22) (v := undef) rfl (Or.inr ⟨by rfl, rfl⟩) t1 ?_
          go_simp
          refine tkH (i := 23) (v := undef) rfl (Or.inr ⟨by rfl, rfl⟩) t1 ?_
          go_simp
          refine tkH (i := 24) (v := undef) rfl (Or.inr ⟨by rfl, rfl⟩) t1 ?_
          go_simp
          refine tkH (i := 25) (v := undef) rfl (Or.inr ⟨by rfl, rfl⟩) t1 ?_
          go_simp
          refine tkH (i := 26) (v := undef) rfl (Or.inr ⟨by rfl, rfl⟩) t1 ?_
          go_simp
          refine tkH (i := 27) (v := undef) rfl (Or.inr ⟨by rfl, rfl⟩) t1 ?_
          go_simp
          refine tkHV (i := 28) (v := .bool true) rfl t1 ?_
          go_simp
          refine wpAnyH_done (by kernel_rfl) ?_ _
          have S4 := Lib.hid (show Only (Box w 2) wr v1 from Only.of_below t1)
          have O4 := Lib.hid (O3.out.trans S4.out)
          have R0_4 := Lib.hid (row_call t1 R0_3.out)
          have R1_4 := Lib.hid (row_call t1 R1_3.out)
          have Vg_4 := Lib.hid (val_only Vg_3.out S4.out)
          have Vh_4 := Lib.hid (val_only Vh_3.out S4.out)
          have Vf_4 := Lib.hid (val_only Vf_3.out S4.out)
          have Ve_4 := Lib.hid (val_only Ve_3.out S4.out)
          have q0_0 := cl3 R0_4.out
          have q1_0 := cl3 R1_4.out
          go_wp2_with fail
          clear q0_0 q1_0
          go_ret
          exact ⟨by rw [HE.out]; rfl, Only.fin HB0.out O4.out⟩
    · obtain rfl : k = a.ents.length := by omega
      have HE := Lib.hid (show decide (a = b) = true from decide_eq_true (DState.ext HG0.out HF0.out (same_first HN.out HT.out)))
      have q0_0 := cl3 R0_3.out
      have q1_0 := cl3 R1_3.out
      go_wp2_with fail
      clear q0_0 q1_0
      go_ret
      exact ⟨by rw [HE.out]; rfl, Only.fin HB0.out O3.out⟩
end Go.Proofs.Yteljibjbndpncaa
