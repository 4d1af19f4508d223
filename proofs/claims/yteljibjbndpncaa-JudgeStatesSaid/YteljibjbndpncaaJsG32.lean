/- Texts on which the proofs stand: Much12, Load06. No condition is laid on any input. -/
import Derived.Test.YteljibjbndpncaaJsG8
namespace Go.Proofs.Yteljibjbndpncaa
open Go.RowKit

def MuchSt (w : World) (s : DState) (e : Ending) (w' : World) : Prop := ∃ r : Bool, e = .returned (.bool r) ∧ (r = false → s.ents.length ≤ 60 ∧ ∀ e ∈ s.ents, e.parts.length ≤ 40) ∧ Below w.heap.size w w'
theorem MuchSt.yes {w w' : World} {s : DState} (h : Below w.heap.size w w') : MuchSt w s (.returned (.bool true)) w' := ⟨true, rfl, (fun h => (by cases h)), h⟩

set_option maxRecDepth 100000 in
set_option maxHeartbeats 1000000 in
/-- ref12.Much -/
theorem muchSt_calls {Q : Nat → Prop} {w : World} {v : Value} {s : DState} (hx : rState.val Q w v s) :
    Calls Try.prog 38 #[v] w (MuchSt w s) := by
  obtain ⟨A1, c1, A2, c2, A3, c3, rfl, sg, sf, se⟩ := rState_val hx
  obtain ⟨W2, hW2⟩ : ∃ W2, w.alloc (.cells #[.slice A1 s.gens.length c1, .slice A2 s.free.length c2, .slice A3 s.ents.length c3] 75) = W2 := ⟨_, rfl⟩
  have hb2 : Below w.heap.size w W2 := by rw [← hW2]; exact (Below.refl _ _).alloc (Nat.le_refl _) _
  have e0 : W2.cell? ⟨w.heap.size, 0, none⟩ = some (.slice A1 s.gens.length c1) := by rw [← hW2]; simp
  have e1 : W2.cell? ⟨w.heap.size, 1, none⟩ = some (.slice A2 s.free.length c2) := by rw [← hW2]; simp
  have e2 : W2.cell? ⟨w.heap.size, 2, none⟩ = some (.slice A3 s.ents.length c3) := by rw [← hW2]; simp
  have hc3 := se.1
  have hc4 := se.2.1
  have hg1 := sg.1
  have hg2 := sg.2.1
  have hf1 := sf.1
  have hf2 := sf.2.1
  unfold maxLen at hc4 hg2 hf2
  have HS := Lib.hid (se.below hb2 fun _ _ h => h.lt)
  have HB2 := Lib.hid hb2
  clear hx sg sf se hb2
  go_enter Try.func38, Try.ntmps38
  go_wp2_with fail
  try rw [hW2]
  clear hW2
  go_wp2_with fail
  go_loop [3] (fun i => ∃ k : Nat, i = .int .i64 k ∧ k ≤ s.ents.length ∧ k ≤ 70 ∧ Hid (∀ (j : Nat) (x : DEnt), j < k → s.ents[j]? = some x → x.parts.length ≤ 40)) (fun i => s.ents.length - (intOf i).toNat)
  case atStart => exact ⟨0, rfl, by omega, by omega, Lib.hid fun j x hj _ => by omega⟩
  case round =>
    obtain ⟨k, rfl, hk, hk7, HB⟩ := hrel
    by_cases hlt : (k : Int) < s.ents.length
    · by_cases h70 : (k : Int) < 70
      · have hk' : k < s.ents.length := by omega
        obtain ⟨b, off, A6, c6, rfl, _, d0, d1, d2, _, _, sp⟩ := rEnt_at HS.out.2.2 (List.getElem?_eq_getElem hk')
        have hp1 := sp.1
        have hp2 := sp.2.1
        unfold maxLen at hp2
        have HP := Lib.hid sp
        have HX := Lib.hid (show s.ents[k]? = some s.ents[k] from List.getElem?_eq_getElem hk')
        generalize s.ents[k] = x at *
        clear sp
        by_cases h40 : (40 : Int) < x.parts.length
        · go_wp2_with fail
          go_ret
          exact MuchSt.yes HB2.out
        · have HN := Lib.hid (show ∀ (j : Nat) (y : DEnt), j < k + 1 → s.ents[j]? = some y → y.parts.length ≤ 40 from fun j y hj hy => by
            rcases Nat.lt_or_ge j k with h | h
            · exact HB.out j y h hy
            · have : j = k := by omega
              subst this
              have := HX.out
              rw [hy] at this
              rw [Option.some.inj this]
              omega)
          go_wp2_with fail
          go_loop [4] (fun i => ∃ j : Nat, i = .int .i64 j ∧ j ≤ x.parts.length) (fun i => x.parts.length - (intOf i).toNat)
          case atStart => exact ⟨0, rfl, by omega⟩
          case round =>
            obtain ⟨j, rfl, hj⟩ := hrel
            by_cases hlt2 : (j : Int) < x.parts.length
            · have hj' : j < x.parts.length := by omega
              obtain ⟨b', off', A7, c7, rfl, _, q0, q1, _, sd⟩ := rPart_at HP.out.2.2 (List.getElem?_eq_getElem hj')
              have hd1 := sd.1
              have hd2 := sd.2.1
              unfold maxLen at hd2
              generalize x.parts[j] = y at *
              clear sd
              by_cases h200 : (200 : Int) < y.data.length
              · go_wp2_with fail
                go_ret
                exact MuchSt.yes HB2.out
              · go_wp2_with fail
                go_round
                case rel => exact ⟨j + 1, by go_num, by omega⟩
                case measure => simp [intOf]; omega
            · go_wp2_with fail
              exact ⟨⟨k + 1, by go_num, by omega, by omega, HN⟩, by simp [intOf]; omega⟩
      · have h60 : (60 : Int) < s.ents.length := by omega
        by_cases g1 : (60 : Int) < s.gens.length
        · go_wp2_with fail
          go_ret
          exact MuchSt.yes HB2.out
        · by_cases g2 : (60 : Int) < s.free.length
          · go_wp2_with fail
            go_ret
            exact MuchSt.yes HB2.out
          · go_wp2_with fail
            go_ret
            exact MuchSt.yes HB2.out
    · by_cases g1 : (60 : Int) < s.gens.length
      · go_wp2_with fail
        go_ret
        exact MuchSt.yes HB2.out
      · by_cases g2 : (60 : Int) < s.free.length
        · go_wp2_with fail
          go_ret
          exact MuchSt.yes HB2.out
        · by_cases g3 : (60 : Int) < s.ents.length
          · go_wp2_with fail
            go_ret
            exact MuchSt.yes HB2.out
          · go_wp2_with fail
            go_ret
            refine ⟨false, rfl, fun _ => ⟨by omega, fun e he => ?_⟩, HB2.out⟩
            obtain ⟨j, hj, rfl⟩ := List.getElem_of_mem he
            exact HB.out j _ (by omega) (List.getElem?_eq_getElem hj)

end Go.Proofs.Yteljibjbndpncaa
namespace Go.Proofs.Yteljibjbndpncaa
open Go.RowKit

theorem nm_code {P : Program} {c : Code} {Q : Exit → Act → World → Prop} {a : Act} {w : World} (h : ∀ W, W = w → c.wp P Q a W) : c.wp P Q a w := h w rfl
set_option maxRecDepth 100000 in
/-- ref06.near -/
theorem near06_calls {n m : Int} (h1 : 1 ≤ n) (h2 : n ≤ m) (w : World) : Calls Try.prog 128 #[.int .i64 n, .int .i64 m] w fun e w' => e = .returned (.int .i64 n) ∧ w' = w := by
  have g1 : ¬ n < 1 := by omega
  have g2 : ¬ m < n := by omega
  go_enter Try.func128, Try.ntmps128
  go_wp2_with fail
  go_ret
  exact ⟨rfl, rfl⟩

set_option maxRecDepth 100000 in
/-- ref06.New -/
theorem new06_calls {n m : Int} (h1 : 1 ≤ n ∧ n ≤ 1024) (h2 : 1 ≤ m ∧ m ≤ 1073741824) (w : World) : Calls Try.prog 109 #[.int .i64 n, .int .i64 m] w fun e w' => e = .returned (.agg #[.int .i64 n, .int .i64 m, .slice none 0 0, .slice none 0 0]) ∧ Below w.heap.size w w' := by
  have H1 := Lib.hid h1
  have H2 := Lib.hid h2
  have hfr : Try.f109.results = #[.cell 4 142] := rfl
  clear h1 h2
  obtain ⟨W0, hW0⟩ : ∃ W, (w.alloc (.cells #[.int .i64 0, .int .i64 0, .slice none 0 0, .slice none 0 0] 142)) = W := ⟨_, rfl⟩
  have hz0 : W0.heap.size = w.heap.size + 1 := by rw [← hW0]; simp
  have hb0 : Below w.heap.size w W0 := by rw [← hW0]; exact (Below.refl _ _).alloc (Nat.le_refl _) _
  have HZ := Lib.hid hz0
  have HB0 := Lib.hid hb0
  have R0_0 := Lib.hid (show W0.heap[w.heap.size]? = some (.cells #[.int .i64 0, .int .i64 0, .slice none 0 0, .slice none 0 0] 142 (0, 0)) by rw [← hW0]; exact alloc_at rfl)
  have O0 := Lib.hid (Only.refl (Box w 1) W0)
  clear hz0 hb0
  have q0_0 := rw4 R0_0.out
  go_enter Try.func109, Try.ntmps109
  go_wp2_with fail
  try rw [hW0]
  clear hW0
  try go_wp2_with fail
  clear q0_0
  refine (near06_calls H1.out.1 H1.out.2 _).mono ?_
  rintro e w1 ⟨rfl, hw⟩
  obtain rfl := hw.symm
  go_wp2_with fail
  refine (near06_calls H2.out.1 H2.out.2 _).mono ?_
  rintro e w1 ⟨rfl, hw⟩
  obtain rfl := hw.symm
  have q0_0 := rw4 R0_0.out
  go_wp2_with fail
  clear q0_0
  refine nm_post (fun w2 hnm => ?_)
  have S1 := Lib.hid (show Only (Box w 1) W0 w2 from (by rw [hnm]; exact ((((Only.refl (Box w 1) W0).put ⟨by omega, by omega⟩).put ⟨by omega, by omega⟩).put ⟨by omega, by omega⟩).put ⟨by omega, by omega⟩))
  have O1 := Lib.hid (O0.out.trans S1.out)
  have R0_1 := Lib.hid (show w2.heap[w.heap.size]? = some (.cells #[.int .i64 n, .int .i64 m, .slice none 0 0, .slice none 0 0] 142 (0, 0)) from (by rw [hnm]; exact heap_setRow (heap_setRow (heap_setRow (heap_setRow (R0_0.out))))))
  clear hnm
  have q0_0 := cl4 R0_1.out
  refine ⟨rfl, .agg #[.int .i64 n, .int .i64 m, .slice none 0 0, .slice none 0 0], by simp only [results, hfr]; go_simp, ?_⟩
  clear q0_0
  exact ⟨rfl, Only.fin HB0.out O1.out⟩

set_option maxRecDepth 100000 in
set_option maxHeartbeats 2000000 in
/-- ref06.Load -/
theorem load06_calls {Q : Nat → Prop} {w : World} {c : DConf} {s : DState} {A1 A2 : Option Addr} {c1 c2 : Nat} (hg : (Rep.int .i64).list.val Q w (.slice A1 s.gens.length c1) s.gens) (hf : (Rep.int .i64).list.val Q w (.slice A2 s.free.length c2) s.free) (hok : StOk c s) :
    Calls Try.prog 77 #[.int .i64 c.entities, .int .i64 c.gens, .slice A1 s.gens.length c1, .slice A2 s.free.length c2] w fun e w' => e = .returned (.tuple #[.agg #[.int .i64 c.entities, .int .i64 c.gens, .slice A1 s.gens.length c1, .slice A2 s.free.length c2], .int .i64 0]) ∧ Below w.heap.size w w' := by
  have HG := Lib.hid hg
  have HF := Lib.hid hf
  have HOK := Lib.hid hok
  have HSM := Lib.hid hok.small
  have hmany : ¬ c.entities < (s.gens.length : Int) := by have := hok.many; omega
  have l1 := (sl_of hg).2.1
  have l2 := (sl_of hf).2.1
  have m1 := (sl_of hg).1
  have m2 := (sl_of hf).1
  unfold maxLen at l1 l2
  have hfr : Try.f77.results = #[.cell 8 142, .tmp 9] := rfl
  clear hg hf hok
  obtain ⟨W0, hW0⟩ : ∃ W, (w.alloc (.cells #[.int .i64 0, .int .i64 0, .slice none 0 0, .slice none 0 0] 142)) = W := ⟨_, rfl⟩
  have hz0 : W0.heap.size = w.heap.size + 1 := by rw [← hW0]; simp
  have hb0 : Below w.heap.size w W0 := by rw [← hW0]; exact (Below.refl _ _).alloc (Nat.le_refl _) _
  have HZ := Lib.hid hz0
  have HB0 := Lib.hid hb0
  have R0_0 := Lib.hid (show W0.heap[w.heap.size]? = some (.cells #[.int .i64 0, .int .i64 0, .slice none 0 0, .slice none 0 0] 142 (0, 0)) by rw [← hW0]; exact alloc_at rfl)
  have O0 := Lib.hid (Only.refl (Box w 1) W0)
  have HGA := Lib.hid (show ∀ V, Below W0.heap.size W0 V → (Rep.int .i64).At (Lo Q w) V A1 s.gens from fun V h => (sl_of (val_lo_later (val_lo HG.out hb0) h)).2.2)
  have HFA := Lib.hid (show ∀ V, Below W0.heap.size W0 V → (Rep.int .i64).list.val (Lo Q w) V (.slice A2 s.free.length c2) s.free from fun V h => val_lo_later (val_lo HF.out hb0) h)
  clear hz0 hb0
  have q0_0 := rw4 R0_0.out
  go_enter Try.func77, Try.ntmps77
  go_wp2_with fail
  try rw [hW0]
  clear hW0
  try go_wp2_with fail
  clear q0_0
  refine (new06_calls (by have := (right_facts HOK.out.conf).1; omega) (by have := (right_facts HOK.out.conf).1; omega) _).mono ?_
  rintro e w1 ⟨rfl, hb⟩
  have HB1 := Lib.hid hb
  have S1 := Lib.hid (show Only (Box w 1) W0 w1 from Only.of_below hb)
  have O1 := Lib.hid (O0.out.trans S1.out)
  have R0_1 := Lib.hid (row_call hb R0_0.out)
  clear hb
  have k1 : (w1.alloc (.cells #[.int .i64 c.entities, .int .i64 c.gens, .slice none 0 0, .slice none 0 0] 142)).heap[w.heap.size]? = some (.cells #[.int .i64 0, .int .i64 0, .slice none 0 0, .slice none 0 0] 142 (0, 0)) := alloc_old (R0_1.out)
  have k1_0 := rw4 k1
  clear k1
  have k2 : (w1.alloc (.cells #[.int .i64 c.entities, .int .i64 c.gens, .slice none 0 0, .slice none 0 0] 142)).heap[w1.heap.size]? = some (.cells #[.int .i64 c.entities, .int .i64 c.gens, .slice none 0 0, .slice none 0 0] 142 (0, 0)) := alloc_at rfl
  have k2_0 := rw4 k2
  clear k2
  go_wp2_with fail
  clear k1_0 k2_0
  refine nm_code (fun w2 hnm => ?_)
  have HF1 := Lib.hid (show w.heap.size + 1 ≤ w1.heap.size by have := O1.out.size; have := HZ.out; omega)
  have S2 := Lib.hid (show Only (Box w 1) w1 w2 from (by rw [hnm]; exact (Only.refl (Box w 1) w1).alloc _))
  have O2 := Lib.hid (O1.out.trans S2.out)
  have R0_2 := Lib.hid (row_nm hnm (alloc_old (R0_1.out)))
  have Rw1_heap_size_2 := Lib.hid (show w2.heap[w1.heap.size]? = some (.cells #[.int .i64 c.entities, .int .i64 c.gens, .slice none 0 0, .slice none 0 0] 142 (0, 0)) from (by rw [hnm]; exact alloc_at rfl))
  have HB2 := Lib.hid (show Below W0.heap.size W0 w2 by rw [hnm]; exact HB1.out.trans (((Below.refl _ _).alloc (Nat.le_refl _) _).mono HB1.out.size))
  clear hnm
  have HXW := Lib.hid (show w.heap.size + 1 ≤ w1.heap.size by have := HB1.out.size; have := HZ.out; omega)
  go_loopw [11] (fun i wr => ∃ j : Nat, i = .int .i64 j ∧ j ≤ s.gens.length ∧ Hid (Below w2.heap.size w2 wr)) (fun i _ => s.gens.length - (intOf i).toNat)
  case atStart => exact ⟨0, rfl, Nat.zero_le _, Lib.hid (Below.refl _ _)⟩
  case round =>
    obtain ⟨j, rfl, hj, HBR⟩ := hrel
    have HBW := Lib.hid (HB2.out.trans (HBR.out.mono HB2.out.size))
    have S3 := Lib.hid (show Only (Box w 1) w2 wr from Only.of_below HBR.out)
    have O3 := Lib.hid (O2.out.trans S3.out)
    have R0_3 := Lib.hid (row_call HBR.out R0_2.out)
    have Rw1_heap_size_3 := Lib.hid (row_call HBR.out Rw1_heap_size_2.out)
    by_cases hlt : (j : Int) < s.gens.length
    · skip
      obtain ⟨g, hgj⟩ : ∃ g, s.gens[j]? = some g := ⟨_, List.getElem?_eq_getElem (by omega)⟩
      obtain ⟨gb, go, rfl, _, kg, _⟩ := int_at (HGA.out wr HBW.out) hgj
      have hl := HOK.out.lim j g hgj
      have g1 : ¬ g < 0 := by omega
      have g2 : ¬ c.gens < g := by omega
      clear hgj hl
      have q0_0 := cl4 R0_3.out
      have qn0_0 := cl4 Rw1_heap_size_3.out
      go_wp2_with fail
      clear q0_0 qn0_0
      refine wp_region_held_drew (S := fun W => Below wr.heap.size wr W) (by kernel_rfl) ((Below.refl _ _).drew) (fun s0 => ?_)
      obtain ⟨v1, hv0⟩ : ∃ V, V = wr.drew := ⟨_, rfl⟩
      rw [← hv0] at s0 ⊢
      have t1 : Below wr.heap.size wr v1 := s0
      clear hv0 s0
      refine tkHV (i := 0) (v := .slice (some ⟨gb, go, none⟩) s.gens.length c1) rfl t1 ?_
      go_simp
      refine tkHV (i := 1) (v := .int .i64 j) rfl t1 ?_
      go_simp
      refine tkHV (i := 2) (v := .pointer (some ⟨gb, go + j, none⟩)) rfl t1 ?_
      go_simp
      refine tkH (i := 3) (v := .int .i64 g) rfl (Or.inl ⟨by rfl, fun w' h => by have e := cell_call (h : Below wr.heap.size wr w') kg; go_simp⟩) t1 ?_
      go_simp
      refine tkHV (i := 4) (v := .bool false) rfl t1 ?_
      go_simp
      refine tkHV (i := 5) (v := .bool false) rfl t1 ?_
      go_simp
      refine tkHV (i := 6) (v := .slice (some ⟨gb, go, none⟩) s.gens.length c1) rfl t1 ?_
      go_simp
      refine tkHV (i := 7) (v := .int .i64 j) rfl t1 ?_
      go_simp
      refine tkHV (i := 8) (v := .pointer (some ⟨gb, go + j, none⟩)) rfl t1 ?_
      go_simp
      refine tkH (i := 9) (v := .int .i64 g) rfl (Or.inl ⟨by rfl, fun w' h => by have e := cell_call (h : Below wr.heap.size wr w') kg; go_simp⟩) t1 ?_
      go_simp
      refine tkHV (i := 10) (v := .pointer (some ⟨w1.heap.size, 1, none⟩)) rfl t1 ?_
      go_simp
      refine tkH (i := 11) (v := .int .i64 c.gens) rfl (Or.inl ⟨by rfl, fun w' h => by have e := row_call (h : Below wr.heap.size wr w') Rw1_heap_size_3.out; have e0 := cell_row e 0; have e1 := cell_row e 1; have e2 := cell_row e 2; have e3 := cell_row e 3; go_simp⟩) t1 ?_
      go_simp
      refine tkHV (i := 12) (v := .bool false) rfl t1 ?_
      go_simp
      refine tkHV (i := 13) (v := .bool false) rfl t1 ?_
      go_simp
      refine wpAnyH_done (by kernel_rfl) ?_ _
      have S4 := Lib.hid (show Only (Box w 1) wr v1 from Only.of_below t1)
      have O4 := Lib.hid (O3.out.trans S4.out)
      have R0_4 := Lib.hid (row_call t1 R0_3.out)
      have Rw1_heap_size_4 := Lib.hid (row_call t1 Rw1_heap_size_3.out)
      have hv := (show Below wr.heap.size wr v1 from t1)
      have HBV := Lib.hid (HBR.out.trans (hv.mono HBR.out.size))
      clear hv kg g1 g2
      have q0_0 := cl4 R0_4.out
      have qn0_0 := cl4 Rw1_heap_size_4.out
      go_wp2_with fail
      exact ⟨⟨j + 1, by go_num, by omega, HBV⟩, by simp [intOf]; omega⟩
    · obtain rfl : j = s.gens.length := by omega
      clear hlt
      rename World => w5
      have q0_0 := cl4 R0_3.out
      have qn0_0 := cl4 Rw1_heap_size_3.out
      go_wp2_with fail
      clear q0_0 qn0_0
      go_loopw [12, 13] (fun i _ wr => ∃ j : Nat, i = .int .i64 j ∧ j ≤ s.free.length ∧ Hid (Below w5.heap.size w5 wr)) (fun i _ _ => s.free.length - (intOf i).toNat)
      case atStart => exact ⟨0, rfl, Nat.zero_le _, Lib.hid (Below.refl _ _)⟩
      case round =>
        obtain ⟨j, rfl, hj, HBR2⟩ := hrel
        have HBW2 := Lib.hid (HBW.out.trans (HBR2.out.mono HBW.out.size))
        have S4 := Lib.hid (show Only (Box w 1) w5 wr from Only.of_below HBR2.out)
        have O4 := Lib.hid (O3.out.trans S4.out)
        have R0_4 := Lib.hid (row_call HBR2.out R0_3.out)
        have Rw1_heap_size_4 := Lib.hid (row_call HBR2.out Rw1_heap_size_3.out)
        by_cases hlt : (j : Int) < s.free.length
        · skip
          obtain ⟨k, hkj⟩ : ∃ k, s.free[j]? = some k := ⟨_, List.getElem?_eq_getElem (by omega)⟩
          obtain ⟨h0, g, hgk, hg0, hg1⟩ := HOK.out.free k (List.mem_of_getElem? hkj)
          obtain ⟨kn, rfl⟩ : ∃ kn : Nat, k = (kn : Int) := ⟨k.toNat, by omega⟩
          rw [Int.toNat_natCast] at hgk
          have hkl : (kn : Int) < s.gens.length := by have := (List.getElem?_eq_some_iff.1 hgk).1; omega
          obtain ⟨gb, go, rfl, _, kg, _⟩ := int_at (HGA.out wr HBW2.out) hgk
          obtain ⟨fb, fo, rfl, _, kf, _⟩ := int_at (sl_of (HFA.out wr HBW2.out)).2.2 hkj
          have HNO := Lib.hid (show decide ((kn : Int) ∈ s.free.take j) = false from decide_eq_false (fun hm => by
            have hnd := HOK.out.nodup
            obtain ⟨i, hi⟩ := List.getElem?_of_mem hm
            rw [List.getElem?_take] at hi
            split at hi
            · rename_i hij
              have h1 := (List.getElem?_eq_some_iff.1 hi)
              have h2 := (List.getElem?_eq_some_iff.1 hkj)
              obtain ⟨a1, a2⟩ := h1
              obtain ⟨b1, b2⟩ := h2
              exact List.pairwise_iff_getElem.1 hnd i j a1 b1 hij (a2.trans b2.symm)
            · cases hi))
          have HTK := Lib.hid (show ∀ V, Below W0.heap.size W0 V → (Rep.int .i64).list.val (Lo Q w) V (.slice (some ⟨fb, fo, none⟩) j c2) (s.free.take j) from fun V h => Rep.list_val (by rw [List.length_take]; omega) (by omega) (by unfold maxLen; omega) ((sl_of (HFA.out V h)).2.2.take j))
          have hjc : (j : Int) ≤ (c2 : Int) := by omega
          have g3 : ¬ (kn : Int) < 0 := by omega
          have g4 : ¬ (s.gens.length : Int) ≤ (kn : Int) := by omega
          have g5 : (g == 0) = false := beq_eq_false_iff_ne.2 (by omega)
          have g6 : ¬ c.gens ≤ g := by omega
          clear hkj hgk h0 hg0 hg1
          have q0_0 := cl4 R0_4.out
          have qn0_0 := cl4 Rw1_heap_size_4.out
          go_wp2_with fail
          clear kf
          clear q0_0 qn0_0
          refine wp_region_held_drew (S := fun W => Below wr.heap.size wr W) (by kernel_rfl) ((Below.refl _ _).drew) (fun s0 => ?_)
          obtain ⟨v1, hv0⟩ : ∃ V, V = wr.drew := ⟨_, rfl⟩
          rw [← hv0] at s0 ⊢
          have t1 : Below wr.heap.size wr v1 := s0
          clear hv0 s0
          refine tkHV (i := 0) (v := .int .i64 kn) rfl t1 ?_
          go_simp
          refine tkHV (i := 1) (v := .bool false) rfl t1 ?_
          go_simp
          refine tkHV (i := 2) (v := .bool false) rfl t1 ?_
          go_simp
          refine tkHV (i := 3) (v := .int .i64 kn) rfl t1 ?_
          go_simp
          refine tkHV (i := 4) (v := .slice (some ⟨gb, go, none⟩) s.gens.length c1) rfl t1 ?_
          go_simp
          refine tkHV (i := 5) (v := .int .i64 s.gens.length) rfl t1 ?_
          go_simp
          refine tkHV (i := 6) (v := .bool false) rfl t1 ?_
          go_simp
          refine tkHV (i := 7) (v := .bool false) rfl t1 ?_
          go_simp
          refine tkHV (i := 8) (v := .bool false) rfl t1 ?_
          go_simp
          refine tkHV (i := 9) (v := .slice (some ⟨fb, fo, none⟩) s.free.length c2) rfl t1 ?_
          go_simp
          refine tkHV (i := 10) (v := .int .i64 j) rfl t1 ?_
          go_simp
          refine tkHV (i := 11) (v := .slice (some ⟨fb, fo, none⟩) j c2) rfl t1 ?_
          go_simp
          refine tkHV (i := 12) (v := .int .i64 kn) rfl t1 ?_
          go_simp
          refine wpAnyH_all (rs := [13]) (by kernel_rfl) (by simp) ?_
          intro i hi
          obtain rfl : i = 13 := by simpa using hi
          clear hi
          refine wpOp_step rfl (fun K hK => ?_)
          go_simp
          refine (has06_calls (n := (kn : Int)) (HTK.out _ (HBW2.out.trans (Below.mono t1 HBW2.out.size)))).mono ?_
          rintro e v2 ⟨rfl, hw⟩
          have hb : Below v1.heap.size v1 v2 := by rw [hw]; exact Below.refl _ _
          clear hw
          rw [HNO.out]
          have t2 : Below wr.heap.size wr v2 := Below.trans t1 (hb.mono (Below.size t1))
          refine hK _ _ ⟨t2, ?_⟩
          clear hb
          clear hK K
          refine tkHV (i := 14) (v := .bool false) rfl t2 ?_
          go_simp
          refine tkHV (i := 15) (v := .bool false) rfl t2 ?_
          go_simp
          refine tkHV (i := 16) (v := .slice (some ⟨gb, go, none⟩) s.gens.length c1) rfl t2 ?_
          go_simp
          refine tkHV (i := 17) (v := .int .i64 kn) rfl t2 ?_
          go_simp
          refine tkHV (i := 18) (v := .pointer (some ⟨gb, go + kn, none⟩)) rfl t2 ?_
          go_simp
          refine tkH (i := 19) (v := .int .i64 g) rfl (Or.inl ⟨by rfl, fun w' h => by have e := cell_call (h : Below wr.heap.size wr w') kg; go_simp⟩) t2 ?_
          go_simp
          refine tkHV (i := 20) (v := .bool false) rfl t2 ?_
          go_simp
          refine tkHV (i := 21) (v := .bool false) rfl t2 ?_
          go_simp
          refine tkHV (i := 22) (v := .bool false) rfl t2 ?_
          go_simp
          refine tkHV (i := 23) (v := .slice (some ⟨gb, go, none⟩) s.gens.length c1) rfl t2 ?_
          go_simp
          refine tkHV (i := 24) (v := .int .i64 kn) rfl t2 ?_
          go_simp
          refine tkHV (i := 25) (v := .pointer (some ⟨gb, go + kn, none⟩)) rfl t2 ?_
          go_simp
          refine tkH (i := 26) (v := .int .i64 g) rfl (Or.inl ⟨by rfl, fun w' h => by have e := cell_call (h : Below wr.heap.size wr w') kg; go_simp⟩) t2 ?_
          go_simp
          refine tkHV (i := 27) (v := .pointer (some ⟨w1.heap.size, 1, none⟩)) rfl t2 ?_
          go_simp
          refine tkH (i := 28) (v := .int .i64 c.gens) rfl (Or.inl ⟨by rfl, fun w' h => by have e := row_call (h : Below wr.heap.size wr w') Rw1_heap_size_4.out; have e0 := cell_row e 0; have e1 := cell_row e 1; have e2 := cell_row e 2; have e3 := cell_row e 3; go_simp⟩) t2 ?_
          go_simp
          refine tkHV (i := 29) (v := .bool false) rfl t2 ?_
          go_simp
          refine tkHV (i := 30) (v := .bool false) rfl t2 ?_
          go_simp
          refine wpAnyH_done (by kernel_rfl) ?_ _
          have S5 := Lib.hid (show Only (Box w 1) wr v2 from Only.of_below t2)
          have O5 := Lib.hid (O4.out.trans S5.out)
          have R0_5 := Lib.hid (row_call t2 R0_4.out)
          have Rw1_heap_size_5 := Lib.hid (row_call t2 Rw1_heap_size_4.out)
          have hv := (show Below wr.heap.size wr v2 from t2)
          have HBV := Lib.hid (HBR2.out.trans (hv.mono HBR2.out.size))
          clear hv kg g3 g4 g5 g6 hjc
          have q0_0 := cl4 R0_5.out
          have qn0_0 := cl4 Rw1_heap_size_5.out
          go_wp2_with fail
          exact ⟨⟨j + 1, by go_num, by omega, HBV⟩, by simp [intOf]; omega⟩
        · obtain rfl : j = s.free.length := by omega
          have d1 : ¬ w1.heap.size = w.heap.size := by have := HXW.out; omega
          have d2 : ¬ w.heap.size = w1.heap.size := by have := HXW.out; omega
          have q0_0 := rw4 R0_4.out
          have qn0_0 := rw4 Rw1_heap_size_4.out
          go_wp2_with fail
          clear d1 d2
          clear q0_0 qn0_0
          refine nm_post (fun wz hnm => ?_)
          have HBZ := Lib.hid (show Below w.heap.size w wz by rw [hnm]; exact below_put (below_put (below_put (below_put (below_put (below_put (Only.fin HB0.out O4.out) (by have := HXW.out; omega)) (by have := HXW.out; omega)) (by have := HXW.out; omega)) (by have := HXW.out; omega)) (by have := HXW.out; omega)) (by have := HXW.out; omega))
          have R9 := Lib.hid (show wz.heap[w.heap.size]? = some (.cells #[.int .i64 c.entities, .int .i64 c.gens, .slice A1 s.gens.length c1, .slice A2 s.free.length c2] 142 (0, 0)) by rw [hnm]; exact heap_setRow (heap_setRow (heap_setRow (heap_setRow (row_other (row_other R0_4.out (by have := HXW.out; omega)) (by have := HXW.out; omega))))))
          clear hnm
          have q0_0 := cl4 R9.out
          refine ⟨rfl, .tuple #[.agg #[.int .i64 c.entities, .int .i64 c.gens, .slice A1 s.gens.length c1, .slice A2 s.free.length c2], .int .i64 0], by simp only [results, hfr]; go_simp, ?_⟩
          clear q0_0
          exact ⟨rfl, HBZ.out⟩
end Go.Proofs.Yteljibjbndpncaa
