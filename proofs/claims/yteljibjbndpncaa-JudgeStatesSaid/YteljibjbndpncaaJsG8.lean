/- Texts on which the proofs stand: IdsWalk. No condition is laid on any input. -/
import Derived.Test.YteljibjbndpncaaJsG7
namespace Go.Proofs.Yteljibjbndpncaa
open Go.RowKit

def idsOf (c : DConf) (s : DState) : DIds := ⟨c.entities, c.gens, s.gens, s.free⟩


set_option maxRecDepth 100000 in
set_option maxHeartbeats 1000000 in
/-- r11.names -/
theorem names_calls {Q : Nat → Prop} {w : World} {vc v : Value} {c : DConf} {s : DState} (hc : rConf.val Q w vc c) (hx : rState.val Q w v s) :
    Calls Try.prog 151 #[vc, v] w fun e w' => ∃ u, e = .returned u ∧ rIds.val (fun b => Q b ∨ w.heap.size ≤ b) w' u (idsOf c s) ∧ Below w.heap.size w w' := by
  have HC := Lib.hid hc
  have HX := Lib.hid hx
  obtain ⟨A, cap, rfl, _, _, w2, w3, _⟩ := rConf_val hc
  obtain ⟨A1, c1, A2, c2, A3, c3, rfl, f1, f2, _⟩ := rState_val hx
  obtain ⟨W0, hW0⟩ : ∃ W, (((w.alloc (.cells #[.int .i64 c.log, .int .i64 c.pages, .int .i64 c.entities, .int .i64 c.gens, .slice A c.comps.length cap] 49)).alloc (.cells #[.slice A1 s.gens.length c1, .slice A2 s.free.length c2, .slice A3 s.ents.length c3] 75)).alloc (.cells #[.int .i64 0, .int .i64 0, .slice none 0 0, .slice none 0 0] 142)) = W := ⟨_, rfl⟩
  have hz0 : W0.heap.size = w.heap.size + 3 := by rw [← hW0]; simp
  have hb0 : Below w.heap.size w W0 := by rw [← hW0]; exact (((Below.refl _ _).alloc (Nat.le_refl _) _).alloc (by first | (simp; done) | (simp; omega)) _).alloc (by first | (simp; done) | (simp; omega)) _
  have HZ := Lib.hid hz0
  have HB0 := Lib.hid hb0
  have R0_0 := Lib.hid (show W0.heap[w.heap.size]? = some (.cells #[.int .i64 c.log, .int .i64 c.pages, .int .i64 c.entities, .int .i64 c.gens, .slice A c.comps.length cap] 49 (0, 0)) by rw [← hW0]; exact alloc_old (alloc_old (alloc_at rfl)))
  have R1_0 := Lib.hid (show W0.heap[w.heap.size + 1]? = some (.cells #[.slice A1 s.gens.length c1, .slice A2 s.free.length c2, .slice A3 s.ents.length c3] 75 (0, 0)) by rw [← hW0]; exact alloc_old (alloc_at (by simp)))
  have R2_0 := Lib.hid (show W0.heap[w.heap.size + 1 + 1]? = some (.cells #[.int .i64 0, .int .i64 0, .slice none 0 0, .slice none 0 0] 142 (0, 0)) by rw [← hW0]; exact alloc_at (by simp))
  have O0 := Lib.hid (Only.refl (Box w 3) W0)
  have hfr : Try.f151.results = #[.cell 4 142] := rfl
  have HV := Lib.hid (show rIds.val (In Q w 3) W0 (.agg #[.int .i64 c.entities, .int .i64 c.gens, .slice A1 s.gens.length c1, .slice A2 s.free.length c2]) (idsOf c s) from val_in (rIds_agg (x := idsOf c s) w2 w3 f1 f2) hb0)
  clear hz0 hb0 hc hx
  have q0_0 := rw5 R0_0.out
  have q1_0 := rw3 R1_0.out
  have q2_0 := rw4 R2_0.out
  go_enter Try.func151, Try.ntmps151
  go_wp2_with fail
  try rw [hW0]
  clear hW0
  try go_wp2_with fail
  clear q0_0 q1_0 q2_0
  refine nm_post (fun w1 hnm => ?_)
  have S1 := Lib.hid (show Only (Box w 3) W0 w1 from (by rw [hnm]; exact ((((Only.refl (Box w 3) W0).put ⟨by omega, by omega⟩).put ⟨by omega, by omega⟩).put ⟨by omega, by omega⟩).put ⟨by omega, by omega⟩))
  have O1 := Lib.hid (O0.out.trans S1.out)
  have R0_1 := Lib.hid (row_nm hnm (row_other (row_other (row_other (row_other (R0_0.out) (by omega)) (by omega)) (by omega)) (by omega)))
  have R1_1 := Lib.hid (row_nm hnm (row_other (row_other (row_other (row_other (R1_0.out) (by omega)) (by omega)) (by omega)) (by omega)))
  have R2_1 := Lib.hid (show w1.heap[w.heap.size + 1 + 1]? = some (.cells #[.int .i64 c.entities, .int .i64 c.gens, .slice A1 s.gens.length c1, .slice A2 s.free.length c2] 142 (0, 0)) from (by rw [hnm]; exact heap_setRow (heap_setRow (heap_setRow (heap_setRow (R2_0.out))))))
  clear hnm
  have q2_0 := cl4 R2_1.out
  refine ⟨rfl, .agg #[.int .i64 c.entities, .int .i64 c.gens, .slice A1 s.gens.length c1, .slice A2 s.free.length c2], by simp only [results, hfr]; go_simp, ?_⟩
  clear q2_0
  exact ⟨_, rfl, val_out (val_only HV.out O1.out), Only.fin HB0.out O1.out⟩

/-- Who lives at an index. -/
def atI (x : DIds) (i : Int) : Option DID := if 0 ≤ i ∧ i ∉ x.free then match x.gens[i.toNat]? with
    | some g => if g < x.limit then some ⟨i, g⟩ else none
    | none => none
  else none
theorem atI_low {x : DIds} {i : Int} (h : i < 0) : atI x i = none := if_neg (fun h2 => by omega)
theorem atI_high {x : DIds} {i : Int} (h : (x.gens.length : Int) ≤ i) : atI x i = none := by
  unfold atI
  split
  · rw [List.getElem?_eq_none (by omega)]
  · rfl
theorem atI_free {x : DIds} {i : Int} (h : i ∈ x.free) : atI x i = none := if_neg (fun h2 => h2.2 h)
theorem atI_dead {x : DIds} {j : Nat} {g : Int} (h : x.gens[j]? = some g) (hg : x.limit ≤ g) : atI x j = none := by
  unfold atI
  split
  · rw [Int.toNat_natCast, h]; exact if_neg (by omega)
  · rfl
theorem atI_lives {x : DIds} {j : Nat} {g : Int} (h : x.gens[j]? = some g) (hf : (j : Int) ∉ x.free) (hg : g < x.limit) : atI x j = some ⟨j, g⟩ := by
  unfold atI
  rw [if_pos ⟨by omega, hf⟩, Int.toNat_natCast, h]; exact if_pos hg

set_option maxRecDepth 100000 in
set_option maxHeartbeats 1000000 in
/-- r06.At -/
theorem at_calls {Q : Nat → Prop} {w : World} {v : Value} {x : DIds} {i : Int} (hx : rIds.val Q w v x) :
    Calls Try.prog 78 #[v, .int .i64 i] w fun e w' => e = .returned (.tuple #[.agg #[.int .i64 ((atI x i).getD noID).index, .int .i64 ((atI x i).getD noID).gen], .bool (atI x i).isSome]) ∧ Below w.heap.size w w' := by
  obtain ⟨A1, c1, A2, c2, rfl, w0, w1, f1, f2⟩ := rIds_val hx
  have l1 := f1.2.1
  have l2 := f2.2.1
  have HG := Lib.hid f1
  have HF2 := Lib.hid f2
  unfold maxLen at l1 l2
  have hfr : Try.f78.results = #[.cell 4 114, .tmp 5] := rfl
  clear f1 f2 hx
  by_cases h0 : i < 0
  · have HE := Lib.hid (atI_low (x := x) h0)
    obtain ⟨W0, hW0⟩ : ∃ W, ((w.alloc (.cells #[.int .i64 x.entities, .int .i64 x.limit, .slice A1 x.gens.length c1, .slice A2 x.free.length c2] 142)).alloc (.cells #[.int .i64 0, .int .i64 0] 114)) = W := ⟨_, rfl⟩
    have hz0 : W0.heap.size = w.heap.size + 2 := by rw [← hW0]; simp
    have hb0 : Below w.heap.size w W0 := by rw [← hW0]; exact ((Below.refl _ _).alloc (Nat.le_refl _) _).alloc (by first | (simp; done) | (simp; omega)) _
    have HZ := Lib.hid hz0
    have HB0 := Lib.hid hb0
    have R0_0 := Lib.hid (show W0.heap[w.heap.size]? = some (.cells #[.int .i64 x.entities, .int .i64 x.limit, .slice A1 x.gens.length c1, .slice A2 x.free.length c2] 142 (0, 0)) by rw [← hW0]; exact alloc_old (alloc_at rfl))
    have R1_0 := Lib.hid (show W0.heap[w.heap.size + 1]? = some (.cells #[.int .i64 0, .int .i64 0] 114 (0, 0)) by rw [← hW0]; exact alloc_at (by simp))
    have O0 := Lib.hid (Only.refl (Box w 2) W0)
    have Ag_0 := Lib.hid (show (Rep.int .i64).At (In Q w 2) W0 A1 x.gens from at_in HG.out.2.2 hb0)
    have VF := Lib.hid (show ∀ V, Below W0.heap.size W0 V → (Rep.int .i64).list.val (fun _ => True) V (.slice A2 x.free.length c2) x.free from fun V hv => Rep.val_keep (fun b _ hl => ⟨trivial, (hb0.trans (hv.mono hb0.size)).block b hl.lt⟩) HF2.out.val)
    skip
    clear hz0 hb0
    have q0_0 := rw4 R0_0.out
    have q1_0 := rw2 R1_0.out
    go_enter Try.func78, Try.ntmps78
    go_wp2_with fail
    try rw [hW0]
    clear hW0
    try go_wp2_with fail
    clear q0_0 q1_0
    refine wp_region_held_drew (S := fun W => Below W0.heap.size W0 W) (by kernel_rfl) ((Below.refl _ _).drew) (fun s0 => ?_)
    obtain ⟨v1, hv0⟩ : ∃ V, V = W0.drew := ⟨_, rfl⟩
    rw [← hv0] at s0 ⊢
    have t1 : Below W0.heap.size W0 v1 := s0
    clear hv0 s0
    refine tkHV (i := 0) (v := .int .i64 i) rfl t1 ?_
    go_simp
    refine tkHV (i := 1) (v := .bool true) rfl t1 ?_
    go_simp
    refine tkHV (i := 2) (v := .bool true) rfl t1 ?_
    go_simp
    refine tkH (i := 3) (v := undef) rfl (Or.inr ⟨by rfl, rfl⟩) t1 ?_
    go_simp
    refine tkH (i := 4) (v := undef) rfl (Or.inr ⟨by rfl, rfl⟩) t1 ?_
    go_simp
    refine tkH (i := 5) (v := undef) rfl (Or.inr ⟨by rfl, rfl⟩) t1 ?_
    go_simp
    refine tkH (i := 6) (v := undef) rfl (Or.inr ⟨by rfl, rfl⟩) t1 ?_
    go_simp
    refine tkH (i := 7) (v := undef) rfl (Or.inr ⟨by rfl, rfl⟩) t1 ?_
    go_simp
    refine tkHV (i := 8) (v := .bool true) rfl t1 ?_
    go_simp
    refine tkHV (i := 9) (v := .bool true) rfl t1 ?_
    go_simp
    refine tkH (i := 10) (v := undef) rfl (Or.inr ⟨by rfl, rfl⟩) t1 ?_
    go_simp
    refine tkH (i := 11) (v := undef) rfl (Or.inr ⟨by rfl, rfl⟩) t1 ?_
    go_simp
    refine tkH (i := 12) (v := undef) rfl (Or.inr ⟨by rfl, rfl⟩) t1 ?_
    go_simp
    refine tkH (i := 13) (v := undef) rfl (Or.inr ⟨by rfl, rfl⟩) t1 ?_
    go_simp
    refine tkHV (i := 14) (v := .bool true) rfl t1 ?_
    go_simp
    refine tkHV (i := 15) (v := .bool true) rfl t1 ?_
    go_simp
    refine tkH (i := 16) (v := undef) rfl (Or.inr ⟨by rfl, rfl⟩) t1 ?_
    go_simp
    refine tkH (i := 17) (v := undef) rfl (Or.inr ⟨by rfl, rfl⟩) t1 ?_
    go_simp
    refine tkH (i := 18) (v := undef) rfl (Or.inr ⟨by rfl, rfl⟩) t1 ?_
    go_simp
    refine tkH (i := 19) (v := undef) rfl (Or.inr ⟨by rfl, rfl⟩) t1 ?_
    go_simp
    refine tkH (i := 20) (v := undef) rfl (Or.inr ⟨by rfl, rfl⟩) t1 ?_
    go_simp
    refine tkH (i := 21) (v := undef) rfl (Or.inr ⟨by rfl, rfl⟩) t1 ?_
    go_simp
    refine tkH (i := 22) (v := undef) rfl (Or.inr ⟨by rfl, rfl⟩) t1 ?_
    go_simp
    refine tkH (i := 23) (v := undef) rfl (Or.inr ⟨by rfl, rfl⟩) t1 ?_
    go_simp
    refine tkHV (i := 24) (v := .bool true) rfl t1 ?_
    go_simp
    refine wpAnyH_done (by kernel_rfl) ?_ _
    have S1 := Lib.hid (show Only (Box w 2) W0 v1 from Only.of_below t1)
    have O1 := Lib.hid (O0.out.trans S1.out)
    have R0_1 := Lib.hid (row_call t1 R0_0.out)
    have R1_1 := Lib.hid (row_call t1 R1_0.out)
    have Ag_1 := Lib.hid (at_only Ag_0.out S1.out)
    have q0_0 := rw4 R0_1.out
    have q1_0 := rw2 R1_1.out
    go_wp2_with fail
    clear q0_0 q1_0
    refine nm_post (fun wz hnm => ?_)
    have S2 := Lib.hid (show Only (Box w 2) v1 wz from (by rw [hnm]; exact ((Only.refl (Box w 2) v1).put ⟨by omega, by omega⟩).put ⟨by omega, by omega⟩))
    have O2 := Lib.hid (O1.out.trans S2.out)
    have R0_2 := Lib.hid (row_nm hnm (row_other (row_other (R0_1.out) (by omega)) (by omega)))
    have R1_2 := Lib.hid (show wz.heap[w.heap.size + 1]? = some (.cells #[.int .i64 0, .int .i64 0] 114 (0, 0)) from (by rw [hnm]; exact heap_setRow (heap_setRow (R1_1.out))))
    have Ag_2 := Lib.hid (at_only Ag_1.out S2.out)
    clear hnm
    have q1_0 := cl2 R1_2.out
    refine ⟨rfl, .tuple #[.agg #[.int .i64 0, .int .i64 0], .bool false], by simp only [results, hfr]; go_simp, ?_⟩
    clear q1_0
    exact ⟨by rw [HE.out]; rfl, Only.fin HB0.out O2.out⟩
  obtain ⟨j, rfl⟩ : ∃ j : Nat, i = (j : Int) := ⟨i.toNat, by omega⟩
  by_cases h1 : (x.gens.length : Int) ≤ j
  · have HE := Lib.hid (atI_high h1)
    obtain ⟨W0, hW0⟩ : ∃ W, ((w.alloc (.cells #[.int .i64 x.entities, .int .i64 x.limit, .slice A1 x.gens.length c1, .slice A2 x.free.length c2] 142)).alloc (.cells #[.int .i64 0, .int .i64 0] 114)) = W := ⟨_, rfl⟩
    have hz0 : W0.heap.size = w.heap.size + 2 := by rw [← hW0]; simp
    have hb0 : Below w.heap.size w W0 := by rw [← hW0]; exact ((Below.refl _ _).alloc (Nat.le_refl _) _).alloc (by first | (simp; done) | (simp; omega)) _
    have HZ := Lib.hid hz0
    have HB0 := Lib.hid hb0
    have R0_0 := Lib.hid (show W0.heap[w.heap.size]? = some (.cells #[.int .i64 x.entities, .int .i64 x.limit, .slice A1 x.gens.length c1, .slice A2 x.free.length c2] 142 (0, 0)) by rw [← hW0]; exact alloc_old (alloc_at rfl))
    have R1_0 := Lib.hid (show W0.heap[w.heap.size + 1]? = some (.cells #[.int .i64 0, .int .i64 0] 114 (0, 0)) by rw [← hW0]; exact alloc_at (by simp))
    have O0 := Lib.hid (Only.refl (Box w 2) W0)
    have Ag_0 := Lib.hid (show (Rep.int .i64).At (In Q w 2) W0 A1 x.gens from at_in HG.out.2.2 hb0)
    have VF := Lib.hid (show ∀ V, Below W0.heap.size W0 V → (Rep.int .i64).list.val (fun _ => True) V (.slice A2 x.free.length c2) x.free from fun V hv => Rep.val_keep (fun b _ hl => ⟨trivial, (hb0.trans (hv.mono hb0.size)).block b hl.lt⟩) HF2.out.val)
    skip
    clear hz0 hb0
    have q0_0 := rw4 R0_0.out
    have q1_0 := rw2 R1_0.out
    go_enter Try.func78, Try.ntmps78
    go_wp2_with fail
    try rw [hW0]
    clear hW0
    try go_wp2_with fail
    clear q0_0 q1_0
    refine wp_region_held_drew (S := fun W => Below W0.heap.size W0 W) (by kernel_rfl) ((Below.refl _ _).drew) (fun s0 => ?_)
    obtain ⟨v1, hv0⟩ : ∃ V, V = W0.drew := ⟨_, rfl⟩
    rw [← hv0] at s0 ⊢
    have t1 : Below W0.heap.size W0 v1 := s0
    clear hv0 s0
    refine tkHV (i := 0) (v := .int .i64 j) rfl t1 ?_
    go_simp
    refine tkHV (i := 1) (v := .bool false) rfl t1 ?_
    go_simp
    refine tkHV (i := 2) (v := .bool false) rfl t1 ?_
    go_simp
    refine tkHV (i := 3) (v := .int .i64 j) rfl t1 ?_
    go_simp
    refine tkHV (i := 4) (v := .pointer (some ⟨w.heap.size, 2, none⟩)) rfl t1 ?_
    go_simp
    refine tkH (i := 5) (v := .slice A1 x.gens.length c1) rfl (Or.inl ⟨by rfl, fun w' h => by have e := row_call (h : Below W0.heap.size W0 w') R0_0.out; have e0 := cell_row e 0; have e1 := cell_row e 1; have e2 := cell_row e 2; have e3 := cell_row e 3; go_simp⟩) t1 ?_
    go_simp
    refine tkHV (i := 6) (v := .int .i64 x.gens.length) rfl t1 ?_
    go_simp
    refine tkHV (i := 7) (v := .bool true) rfl t1 ?_
    go_simp
    refine tkHV (i := 8) (v := .bool true) rfl t1 ?_
    go_simp
    refine tkHV (i := 9) (v := .bool true) rfl t1 ?_
    go_simp
    refine tkH (i := 10) (v := undef) rfl (Or.inr ⟨by rfl, rfl⟩) t1 ?_
    go_simp
    refine tkH (i := 11) (v := undef) rfl (Or.inr ⟨by rfl, rfl⟩) t1 ?_
    go_simp
    refine tkH (i := 12) (v := undef) rfl (Or.inr ⟨by rfl, rfl⟩) t1 ?_
    go_simp
    refine tkH (i := 13) (v := undef) rfl (Or.inr ⟨by rfl, rfl⟩) t1 ?_
    go_simp
    refine tkHV (i := 14) (v := .bool true) rfl t1 ?_
    go_simp
    refine tkHV (i := 15) (v := .bool true) rfl t1 ?_
    go_simp
    refine tkH (i := 16) (v := undef) rfl (Or.inr ⟨by rfl, rfl⟩) t1 ?_
    go_simp
    refine tkH (i := 17) (v := undef) rfl (Or.inr ⟨by rfl, rfl⟩) t1 ?_
    go_simp
    refine tkH (i := 18) (v := undef) rfl (Or.inr ⟨by rfl, rfl⟩) t1 ?_
    go_simp
    refine tkH (i := 19) (v := undef) rfl (Or.inr ⟨by rfl, rfl⟩) t1 ?_
    go_simp
    refine tkH (i := 20) (v := undef) rfl (Or.inr ⟨by rfl, rfl⟩) t1 ?_
    go_simp
    refine tkH (i := 21) (v := undef) rfl (Or.inr ⟨by rfl, rfl⟩) t1 ?_
    go_simp
    refine tkH (i := 22) (v := undef) rfl (Or.inr ⟨by rfl, rfl⟩) t1 ?_
    go_simp
    refine tkH (i := 23) (v := undef) rfl (Or.inr ⟨by rfl, rfl⟩) t1 ?_
    go_simp
    refine tkHV (i := 24) (v := .bool true) rfl t1 ?_
    go_simp
    refine wpAnyH_done (by kernel_rfl) ?_ _
    have S1 := Lib.hid (show Only (Box w 2) W0 v1 from Only.of_below t1)
    have O1 := Lib.hid (O0.out.trans S1.out)
    have R0_1 := Lib.hid (row_call t1 R0_0.out)
    have R1_1 := Lib.hid (row_call t1 R1_0.out)
    have Ag_1 := Lib.hid (at_only Ag_0.out S1.out)
    have q0_0 := rw4 R0_1.out
    have q1_0 := rw2 R1_1.out
    go_wp2_with fail
    clear q0_0 q1_0
    refine nm_post (fun wz hnm => ?_)
    have S2 := Lib.hid (show Only (Box w 2) v1 wz from (by rw [hnm]; exact ((Only.refl (Box w 2) v1).put ⟨by omega, by omega⟩).put ⟨by omega, by omega⟩))
    have O2 := Lib.hid (O1.out.trans S2.out)
    have R0_2 := Lib.hid (row_nm hnm (row_other (row_other (R0_1.out) (by omega)) (by omega)))
    have R1_2 := Lib.hid (show wz.heap[w.heap.size + 1]? = some (.cells #[.int .i64 0, .int .i64 0] 114 (0, 0)) from (by rw [hnm]; exact heap_setRow (heap_setRow (R1_1.out))))
    have Ag_2 := Lib.hid (at_only Ag_1.out S2.out)
    clear hnm
    have q1_0 := cl2 R1_2.out
    refine ⟨rfl, .tuple #[.agg #[.int .i64 0, .int .i64 0], .bool false], by simp only [results, hfr]; go_simp, ?_⟩
    clear q1_0
    exact ⟨by rw [HE.out]; rfl, Only.fin HB0.out O2.out⟩
  obtain ⟨g, hgj⟩ : ∃ g, x.gens[j]? = some g := ⟨_, List.getElem?_eq_getElem (by omega)⟩
  replace hgj := Lib.hid hgj
  by_cases h2 : (j : Int) ∈ x.free
  · have HE := Lib.hid (atI_free h2)
    have HH := Lib.hid (decide_eq_true h2)
    clear h2
    obtain ⟨W0, hW0⟩ : ∃ W, ((w.alloc (.cells #[.int .i64 x.entities, .int .i64 x.limit, .slice A1 x.gens.length c1, .slice A2 x.free.length c2] 142)).alloc (.cells #[.int .i64 0, .int .i64 0] 114)) = W := ⟨_, rfl⟩
    have hz0 : W0.heap.size = w.heap.size + 2 := by rw [← hW0]; simp
    have hb0 : Below w.heap.size w W0 := by rw [← hW0]; exact ((Below.refl _ _).alloc (Nat.le_refl _) _).alloc (by first | (simp; done) | (simp; omega)) _
    have HZ := Lib.hid hz0
    have HB0 := Lib.hid hb0
    have R0_0 := Lib.hid (show W0.heap[w.heap.size]? = some (.cells #[.int .i64 x.entities, .int .i64 x.limit, .slice A1 x.gens.length c1, .slice A2 x.free.length c2] 142 (0, 0)) by rw [← hW0]; exact alloc_old (alloc_at rfl))
    have R1_0 := Lib.hid (show W0.heap[w.heap.size + 1]? = some (.cells #[.int .i64 0, .int .i64 0] 114 (0, 0)) by rw [← hW0]; exact alloc_at (by simp))
    have O0 := Lib.hid (Only.refl (Box w 2) W0)
    have Ag_0 := Lib.hid (show (Rep.int .i64).At (In Q w 2) W0 A1 x.gens from at_in HG.out.2.2 hb0)
    have VF := Lib.hid (show ∀ V, Below W0.heap.size W0 V → (Rep.int .i64).list.val (fun _ => True) V (.slice A2 x.free.length c2) x.free from fun V hv => Rep.val_keep (fun b _ hl => ⟨trivial, (hb0.trans (hv.mono hb0.size)).block b hl.lt⟩) HF2.out.val)
    skip
    clear hz0 hb0
    have q0_0 := rw4 R0_0.out
    have q1_0 := rw2 R1_0.out
    go_enter Try.func78, Try.ntmps78
    go_wp2_with fail
    try rw [hW0]
    clear hW0
    try go_wp2_with fail
    clear q0_0 q1_0
    refine wp_region_held_drew (S := fun W => Below W0.heap.size W0 W) (by kernel_rfl) ((Below.refl _ _).drew) (fun s0 => ?_)
    obtain ⟨v1, hv0⟩ : ∃ V, V = W0.drew := ⟨_, rfl⟩
    rw [← hv0] at s0 ⊢
    have t1 : Below W0.heap.size W0 v1 := s0
    clear hv0 s0
    refine tkHV (i := 0) (v := .int .i64 j) rfl t1 ?_
    go_simp
    refine tkHV (i := 1) (v := .bool false) rfl t1 ?_
    go_simp
    refine tkHV (i := 2) (v := .bool false) rfl t1 ?_
    go_simp
    refine tkHV (i := 3) (v := .int .i64 j) rfl t1 ?_
    go_simp
    refine tkHV (i := 4) (v := .pointer (some ⟨w.heap.size, 2, none⟩)) rfl t1 ?_
    go_simp
    refine tkH (i := 5) (v := .slice A1 x.gens.length c1) rfl (Or.inl ⟨by rfl, fun w' h => by have e := row_call (h : Below W0.heap.size W0 w') R0_0.out; have e0 := cell_row e 0; have e1 := cell_row e 1; have e2 := cell_row e 2; have e3 := cell_row e 3; go_simp⟩) t1 ?_
    go_simp
    refine tkHV (i := 6) (v := .int .i64 x.gens.length) rfl t1 ?_
    go_simp
    refine tkHV (i := 7) (v := .bool false) rfl t1 ?_
    go_simp
    refine tkHV (i := 8) (v := .bool false) rfl t1 ?_
    go_simp
    refine tkHV (i := 9) (v := .bool false) rfl t1 ?_
    go_simp
    refine tkHV (i := 10) (v := .pointer (some ⟨w.heap.size, 3, none⟩)) rfl t1 ?_
    go_simp
    refine tkH (i := 11) (v := .slice A2 x.free.length c2) rfl (Or.inl ⟨by rfl, fun w' h => by have e := row_call (h : Below W0.heap.size W0 w') R0_0.out; have e0 := cell_row e 0; have e1 := cell_row e 1; have e2 := cell_row e 2; have e3 := cell_row e 3; go_simp⟩) t1 ?_
    go_simp
    refine tkHV (i := 12) (v := .int .i64 j) rfl t1 ?_
    go_simp
    refine wpAnyH_all (rs := [13]) (by kernel_rfl) (by simp) ?_
    intro i hi
    obtain rfl : i = 13 := by simpa using hi
    clear hi
    refine wpOp_step rfl (fun K hK => ?_)
    go_simp
    refine (has06_calls (VF.out _ t1)).mono ?_
    rintro e v2 ⟨rfl, hw⟩
    have hb : Below v1.heap.size v1 v2 := by rw [hw]; exact Below.refl _ _
    rw [HH.out]
    clear hw
    have t2 : Below W0.heap.size W0 v2 := Below.trans t1 (hb.mono (Below.size t1))
    refine hK _ _ ⟨t2, ?_⟩
    clear hb
    clear hK K
    refine tkHV (i := 14) (v := .bool true) rfl t2 ?_
    go_simp
    refine tkHV (i := 15) (v := .bool true) rfl t2 ?_
    go_simp
    refine tkH (i := 16) (v := undef) rfl (Or.inr ⟨by rfl, rfl⟩) t2 ?_
    go_simp
    refine tkH (i := 17) (v := undef) rfl (Or.inr ⟨by rfl, rfl⟩) t2 ?_
    go_simp
    refine tkH (i := 18) (v := undef) rfl (Or.inr ⟨by rfl, rfl⟩) t2 ?_
    go_simp
    refine tkH (i := 19) (v := undef) rfl (Or.inr ⟨by rfl, rfl⟩) t2 ?_
    go_simp
    refine tkH (i := 20) (v := undef) rfl (Or.inr ⟨by rfl, rfl⟩) t2 ?_
    go_simp
    refine tkH (i := 21) (v := undef) rfl (Or.inr ⟨by rfl, rfl⟩) t2 ?_
    go_simp
    refine tkH (i := 22) (v := undef) rfl (Or.inr ⟨by rfl, rfl⟩) t2 ?_
    go_simp
    refine tkH (i := 23) (v := undef) rfl (Or.inr ⟨by rfl, rfl⟩) t2 ?_
    go_simp
    refine tkHV (i := 24) (v := .bool true) rfl t2 ?_
    go_simp
    refine wpAnyH_done (by kernel_rfl) ?_ _
    have S1 := Lib.hid (show Only (Box w 2) W0 v2 from Only.of_below t2)
    have O1 := Lib.hid (O0.out.trans S1.out)
    have R0_1 := Lib.hid (row_call t2 R0_0.out)
    have R1_1 := Lib.hid (row_call t2 R1_0.out)
    have Ag_1 := Lib.hid (at_only Ag_0.out S1.out)
    have q0_0 := rw4 R0_1.out
    have q1_0 := rw2 R1_1.out
    go_wp2_with fail
    clear q0_0 q1_0
    refine nm_post (fun wz hnm => ?_)
    have S2 := Lib.hid (show Only (Box w 2) v2 wz from (by rw [hnm]; exact ((Only.refl (Box w 2) v2).put ⟨by omega, by omega⟩).put ⟨by omega, by omega⟩))
    have O2 := Lib.hid (O1.out.trans S2.out)
    have R0_2 := Lib.hid (row_nm hnm (row_other (row_other (R0_1.out) (by omega)) (by omega)))
    have R1_2 := Lib.hid (show wz.heap[w.heap.size + 1]? = some (.cells #[.int .i64 0, .int .i64 0] 114 (0, 0)) from (by rw [hnm]; exact heap_setRow (heap_setRow (R1_1.out))))
    have Ag_2 := Lib.hid (at_only Ag_1.out S2.out)
    clear hnm
    have q1_0 := cl2 R1_2.out
    refine ⟨rfl, .tuple #[.agg #[.int .i64 0, .int .i64 0], .bool false], by simp only [results, hfr]; go_simp, ?_⟩
    clear q1_0
    exact ⟨by rw [HE.out]; rfl, Only.fin HB0.out O2.out⟩
  have HH := Lib.hid (decide_eq_false h2)
  by_cases h3 : x.limit ≤ g
  · have HE := Lib.hid (atI_dead hgj.out h3)
    clear h2
    obtain ⟨W0, hW0⟩ : ∃ W, ((w.alloc (.cells #[.int .i64 x.entities, .int .i64 x.limit, .slice A1 x.gens.length c1, .slice A2 x.free.length c2] 142)).alloc (.cells #[.int .i64 0, .int .i64 0] 114)) = W := ⟨_, rfl⟩
    have hz0 : W0.heap.size = w.heap.size + 2 := by rw [← hW0]; simp
    have hb0 : Below w.heap.size w W0 := by rw [← hW0]; exact ((Below.refl _ _).alloc (Nat.le_refl _) _).alloc (by first | (simp; done) | (simp; omega)) _
    have HZ := Lib.hid hz0
    have HB0 := Lib.hid hb0
    have R0_0 := Lib.hid (show W0.heap[w.heap.size]? = some (.cells #[.int .i64 x.entities, .int .i64 x.limit, .slice A1 x.gens.length c1, .slice A2 x.free.length c2] 142 (0, 0)) by rw [← hW0]; exact alloc_old (alloc_at rfl))
    have R1_0 := Lib.hid (show W0.heap[w.heap.size + 1]? = some (.cells #[.int .i64 0, .int .i64 0] 114 (0, 0)) by rw [← hW0]; exact alloc_at (by simp))
    have O0 := Lib.hid (Only.refl (Box w 2) W0)
    have Ag_0 := Lib.hid (show (Rep.int .i64).At (In Q w 2) W0 A1 x.gens from at_in HG.out.2.2 hb0)
    have VF := Lib.hid (show ∀ V, Below W0.heap.size W0 V → (Rep.int .i64).list.val (fun _ => True) V (.slice A2 x.free.length c2) x.free from fun V hv => Rep.val_keep (fun b _ hl => ⟨trivial, (hb0.trans (hv.mono hb0.size)).block b hl.lt⟩) HF2.out.val)
    obtain ⟨gb, go, hA1, hgi, hgc, _⟩ := int_at Ag_0.out hgj.out
    have HBG := Lib.hid hgi
    clear hgi
    have HGC := Lib.hid hgc
    subst hA1
    clear hgc
    skip
    clear hz0 hb0
    have q0_0 := rw4 R0_0.out
    have q1_0 := rw2 R1_0.out
    go_enter Try.func78, Try.ntmps78
    go_wp2_with fail
    try rw [hW0]
    clear hW0
    try go_wp2_with fail
    clear q0_0 q1_0
    refine wp_region_held_drew (S := fun W => Below W0.heap.size W0 W) (by kernel_rfl) ((Below.refl _ _).drew) (fun s0 => ?_)
    obtain ⟨v1, hv0⟩ : ∃ V, V = W0.drew := ⟨_, rfl⟩
    rw [← hv0] at s0 ⊢
    have t1 : Below W0.heap.size W0 v1 := s0
    clear hv0 s0
    refine tkHV (i := 0) (v := .int .i64 j) rfl t1 ?_
    go_simp
    refine tkHV (i := 1) (v := .bool false) rfl t1 ?_
    go_simp
    refine tkHV (i := 2) (v := .bool false) rfl t1 ?_
    go_simp
    refine tkHV (i := 3) (v := .int .i64 j) rfl t1 ?_
    go_simp
    refine tkHV (i := 4) (v := .pointer (some ⟨w.heap.size, 2, none⟩)) rfl t1 ?_
    go_simp
    refine tkH (i := 5) (v := .slice (some ⟨gb, go, none⟩) x.gens.length c1) rfl (Or.inl ⟨by rfl, fun w' h => by have e := row_call (h : Below W0.heap.size W0 w') R0_0.out; have e0 := cell_row e 0; have e1 := cell_row e 1; have e2 := cell_row e 2; have e3 := cell_row e 3; go_simp⟩) t1 ?_
    go_simp
    refine tkHV (i := 6) (v := .int .i64 x.gens.length) rfl t1 ?_
    go_simp
    refine tkHV (i := 7) (v := .bool false) rfl t1 ?_
    go_simp
    refine tkHV (i := 8) (v := .bool false) rfl t1 ?_
    go_simp
    refine tkHV (i := 9) (v := .bool false) rfl t1 ?_
    go_simp
    refine tkHV (i := 10) (v := .pointer (some ⟨w.heap.size, 3, none⟩)) rfl t1 ?_
    go_simp
    refine tkH (i := 11) (v := .slice A2 x.free.length c2) rfl (Or.inl ⟨by rfl, fun w' h => by have e := row_call (h : Below W0.heap.size W0 w') R0_0.out; have e0 := cell_row e 0; have e1 := cell_row e 1; have e2 := cell_row e 2; have e3 := cell_row e 3; go_simp⟩) t1 ?_
    go_simp
    refine tkHV (i := 12) (v := .int .i64 j) rfl t1 ?_
    go_simp
    refine wpAnyH_all (rs := [13]) (by kernel_rfl) (by simp) ?_
    intro i hi
    obtain rfl : i = 13 := by simpa using hi
    clear hi
    refine wpOp_step rfl (fun K hK => ?_)
    go_simp
    refine (has06_calls (VF.out _ t1)).mono ?_
    rintro e v2 ⟨rfl, hw⟩
    have hb : Below v1.heap.size v1 v2 := by rw [hw]; exact Below.refl _ _
    rw [HH.out]
    clear hw
    have t2 : Below W0.heap.size W0 v2 := Below.trans t1 (hb.mono (Below.size t1))
    refine hK _ _ ⟨t2, ?_⟩
    clear hb
    clear hK K
    refine tkHV (i := 14) (v := .bool false) rfl t2 ?_
    go_simp
    refine tkHV (i := 15) (v := .bool false) rfl t2 ?_
    go_simp
    refine tkHV (i := 16) (v := .pointer (some ⟨w.heap.size, 2, none⟩)) rfl t2 ?_
    go_simp
    refine tkH (i := 17) (v := .slice (some ⟨gb, go, none⟩) x.gens.length c1) rfl (Or.inl ⟨by rfl, fun w' h => by have e := row_call (h : Below W0.heap.size W0 w') R0_0.out; have e0 := cell_row e 0; have e1 := cell_row e 1; have e2 := cell_row e 2; have e3 := cell_row e 3; go_simp⟩) t2 ?_
    go_simp
    refine tkHV (i := 18) (v := .int .i64 j) rfl t2 ?_
    go_simp
    refine tkHV (i := 19) (v := .pointer (some ⟨gb, go + j, none⟩)) rfl t2 ?_
    go_simp
    refine tkH (i := 20) (v := .int .i64 g) rfl (Or.inl ⟨by rfl, fun w' h => by have e := cell_call (h : Below W0.heap.size W0 w') HGC.out; go_simp⟩) t2 ?_
    go_simp
    refine tkHV (i := 21) (v := .pointer (some ⟨w.heap.size, 1, none⟩)) rfl t2 ?_
    go_simp
    refine tkH (i := 22) (v := .int .i64 x.limit) rfl (Or.inl ⟨by rfl, fun w' h => by have e := row_call (h : Below W0.heap.size W0 w') R0_0.out; have e0 := cell_row e 0; have e1 := cell_row e 1; have e2 := cell_row e 2; have e3 := cell_row e 3; go_simp⟩) t2 ?_
    go_simp
    refine tkHV (i := 23) (v := .bool true) rfl t2 ?_
    go_simp
    refine tkHV (i := 24) (v := .bool true) rfl t2 ?_
    go_simp
    refine wpAnyH_done (by kernel_rfl) ?_ _
    have S1 := Lib.hid (show Only (Box w 2) W0 v2 from Only.of_below t2)
    have O1 := Lib.hid (O0.out.trans S1.out)
    have R0_1 := Lib.hid (row_call t2 R0_0.out)
    have R1_1 := Lib.hid (row_call t2 R1_0.out)
    have Ag_1 := Lib.hid (at_only Ag_0.out S1.out)
    have q0_0 := rw4 R0_1.out
    have q1_0 := rw2 R1_1.out
    skip
    go_wp2_with fail
    clear q0_0 q1_0
    refine nm_post (fun wz hnm => ?_)
    have S2 := Lib.hid (show Only (Box w 2) v2 wz from (by rw [hnm]; exact ((Only.refl (Box w 2) v2).put ⟨by omega, by omega⟩).put ⟨by omega, by omega⟩))
    have O2 := Lib.hid (O1.out.trans S2.out)
    have R0_2 := Lib.hid (row_nm hnm (row_other (row_other (R0_1.out) (by omega)) (by omega)))
    have R1_2 := Lib.hid (show wz.heap[w.heap.size + 1]? = some (.cells #[.int .i64 0, .int .i64 0] 114 (0, 0)) from (by rw [hnm]; exact heap_setRow (heap_setRow (R1_1.out))))
    have Ag_2 := Lib.hid (at_only Ag_1.out S2.out)
    clear hnm
    have q1_0 := cl2 R1_2.out
    refine ⟨rfl, .tuple #[.agg #[.int .i64 0, .int .i64 0], .bool false], by simp only [results, hfr]; go_simp, ?_⟩
    clear q1_0
    exact ⟨by rw [HE.out]; rfl, Only.fin HB0.out O2.out⟩
  · have HE := Lib.hid (atI_lives hgj.out h2 (by omega))
    clear h2
    obtain ⟨W0, hW0⟩ : ∃ W, ((w.alloc (.cells #[.int .i64 x.entities, .int .i64 x.limit, .slice A1 x.gens.length c1, .slice A2 x.free.length c2] 142)).alloc (.cells #[.int .i64 0, .int .i64 0] 114)) = W := ⟨_, rfl⟩
    have hz0 : W0.heap.size = w.heap.size + 2 := by rw [← hW0]; simp
    have hb0 : Below w.heap.size w W0 := by rw [← hW0]; exact ((Below.refl _ _).alloc (Nat.le_refl _) _).alloc (by first | (simp; done) | (simp; omega)) _
    have HZ := Lib.hid hz0
    have HB0 := Lib.hid hb0
    have R0_0 := Lib.hid (show W0.heap[w.heap.size]? = some (.cells #[.int .i64 x.entities, .int .i64 x.limit, .slice A1 x.gens.length c1, .slice A2 x.free.length c2] 142 (0, 0)) by rw [← hW0]; exact alloc_old (alloc_at rfl))
    have R1_0 := Lib.hid (show W0.heap[w.heap.size + 1]? = some (.cells #[.int .i64 0, .int .i64 0] 114 (0, 0)) by rw [← hW0]; exact alloc_at (by simp))
    have O0 := Lib.hid (Only.refl (Box w 2) W0)
    have Ag_0 := Lib.hid (show (Rep.int .i64).At (In Q w 2) W0 A1 x.gens from at_in HG.out.2.2 hb0)
    have VF := Lib.hid (show ∀ V, Below W0.heap.size W0 V → (Rep.int .i64).list.val (fun _ => True) V (.slice A2 x.free.length c2) x.free from fun V hv => Rep.val_keep (fun b _ hl => ⟨trivial, (hb0.trans (hv.mono hb0.size)).block b hl.lt⟩) HF2.out.val)
    obtain ⟨gb, go, hA1, hgi, hgc, _⟩ := int_at Ag_0.out hgj.out
    have HBG := Lib.hid hgi
    clear hgi
    have HGC := Lib.hid hgc
    subst hA1
    clear hgc
    skip
    clear hz0 hb0
    have q0_0 := rw4 R0_0.out
    have q1_0 := rw2 R1_0.out
    go_enter Try.func78, Try.ntmps78
    go_wp2_with fail
    try rw [hW0]
    clear hW0
    try go_wp2_with fail
    clear q0_0 q1_0
    refine wp_region_held_drew (S := fun W => Below W0.heap.size W0 W) (by kernel_rfl) ((Below.refl _ _).drew) (fun s0 => ?_)
    obtain ⟨v1, hv0⟩ : ∃ V, V = W0.drew := ⟨_, rfl⟩
    rw [← hv0] at s0 ⊢
    have t1 : Below W0.heap.size W0 v1 := s0
    clear hv0 s0
    refine tkHV (i := 0) (v := .int .i64 j) rfl t1 ?_
    go_simp
    refine tkHV (i := 1) (v := .bool false) rfl t1 ?_
    go_simp
    refine tkHV (i := 2) (v := .bool false) rfl t1 ?_
    go_simp
    refine tkHV (i := 3) (v := .int .i64 j) rfl t1 ?_
    go_simp
    refine tkHV (i := 4) (v := .pointer (some ⟨w.heap.size, 2, none⟩)) rfl t1 ?_
    go_simp
    refine tkH (i := 5) (v := .slice (some ⟨gb, go, none⟩) x.gens.length c1) rfl (Or.inl ⟨by rfl, fun w' h => by have e := row_call (h : Below W0.heap.size W0 w') R0_0.out; have e0 := cell_row e 0; have e1 := cell_row e 1; have e2 := cell_row e 2; have e3 := cell_row e 3; go_simp⟩) t1 ?_
    go_simp
    refine tkHV (i := 6) (v := .int .i64 x.gens.length) rfl t1 ?_
    go_simp
    refine tkHV (i := 7) (v := .bool false) rfl t1 ?_
    go_simp
    refine tkHV (i := 8) (v := .bool false) rfl t1 ?_
    go_simp
    refine tkHV (i := 9) (v := .bool false) rfl t1 ?_
    go_simp
    refine tkHV (i := 10) (v := .pointer (some ⟨w.heap.size, 3, none⟩)) rfl t1 ?_
    go_simp
    refine tkH (i := 11) (v := .slice A2 x.free.length c2) rfl (Or.inl ⟨by rfl, fun w' h => by have e := row_call (h : Below W0.heap.size W0 w') R0_0.out; have e0 := cell_row e 0; have e1 := cell_row e 1; have e2 := cell_row e 2; have e3 := cell_row e 3; go_simp⟩) t1 ?_
    go_simp
    refine tkHV (i := 12) (v := .int .i64 j) rfl t1 ?_
    go_simp
    refine wpAnyH_all (rs := [13]) (by kernel_rfl) (by simp) ?_
    intro i hi
    obtain rfl : i = 13 := by simpa using hi
    clear hi
    refine wpOp_step rfl (fun K hK => ?_)
    go_simp
    refine (has06_calls (VF.out _ t1)).mono ?_
    rintro e v2 ⟨rfl, hw⟩
    have hb : Below v1.heap.size v1 v2 := by rw [hw]; exact Below.refl _ _
    rw [HH.out]
    clear hw
    have t2 : Below W0.heap.size W0 v2 := Below.trans t1 (hb.mono (Below.size t1))
    refine hK _ _ ⟨t2, ?_⟩
    clear hb
    clear hK K
    refine tkHV (i := 14) (v := .bool false) rfl t2 ?_
    go_simp
    refine tkHV (i := 15) (v := .bool false) rfl t2 ?_
    go_simp
    refine tkHV (i := 16) (v := .pointer (some ⟨w.heap.size, 2, none⟩)) rfl t2 ?_
    go_simp
    refine tkH (i := 17) (v := .slice (some ⟨gb, go, none⟩) x.gens.length c1) rfl (Or.inl ⟨by rfl, fun w' h => by have e := row_call (h : Below W0.heap.size W0 w') R0_0.out; have e0 := cell_row e 0; have e1 := cell_row e 1; have e2 := cell_row e 2; have e3 := cell_row e 3; go_simp⟩) t2 ?_
    go_simp
    refine tkHV (i := 18) (v := .int .i64 j) rfl t2 ?_
    go_simp
    refine tkHV (i := 19) (v := .pointer (some ⟨gb, go + j, none⟩)) rfl t2 ?_
    go_simp
    refine tkH (i := 20) (v := .int .i64 g) rfl (Or.inl ⟨by rfl, fun w' h => by have e := cell_call (h : Below W0.heap.size W0 w') HGC.out; go_simp⟩) t2 ?_
    go_simp
    refine tkHV (i := 21) (v := .pointer (some ⟨w.heap.size, 1, none⟩)) rfl t2 ?_
    go_simp
    refine tkH (i := 22) (v := .int .i64 x.limit) rfl (Or.inl ⟨by rfl, fun w' h => by have e := row_call (h : Below W0.heap.size W0 w') R0_0.out; have e0 := cell_row e 0; have e1 := cell_row e 1; have e2 := cell_row e 2; have e3 := cell_row e 3; go_simp⟩) t2 ?_
    go_simp
    refine tkHV (i := 23) (v := .bool false) rfl t2 ?_
    go_simp
    refine tkHV (i := 24) (v := .bool false) rfl t2 ?_
    go_simp
    refine wpAnyH_done (by kernel_rfl) ?_ _
    have S1 := Lib.hid (show Only (Box w 2) W0 v2 from Only.of_below t2)
    have O1 := Lib.hid (O0.out.trans S1.out)
    have R0_1 := Lib.hid (row_call t2 R0_0.out)
    have R1_1 := Lib.hid (row_call t2 R1_0.out)
    have Ag_1 := Lib.hid (at_only Ag_0.out S1.out)
    have q0_0 := rw4 R0_1.out
    have q1_0 := rw2 R1_1.out
    skip
    have hgc := cell_only O1.out HBG.out.no HGC.out
    go_wp2_with fail
    clear q0_0 q1_0
    refine nm_post (fun wz hnm => ?_)
    have S2 := Lib.hid (show Only (Box w 2) v2 wz from (by rw [hnm]; exact ((Only.refl (Box w 2) v2).put ⟨by omega, by omega⟩).put ⟨by omega, by omega⟩))
    have O2 := Lib.hid (O1.out.trans S2.out)
    have R0_2 := Lib.hid (row_nm hnm (row_other (row_other (R0_1.out) (by omega)) (by omega)))
    have R1_2 := Lib.hid (show wz.heap[w.heap.size + 1]? = some (.cells #[.int .i64 j, .int .i64 g] 114 (0, 0)) from (by rw [hnm]; exact heap_setRow (heap_setRow (R1_1.out))))
    have Ag_2 := Lib.hid (at_only Ag_1.out S2.out)
    clear hnm
    have q1_0 := cl2 R1_2.out
    refine ⟨rfl, .tuple #[.agg #[.int .i64 j, .int .i64 g], .bool true], by simp only [results, hfr]; go_simp, ?_⟩
    clear q1_0
    exact ⟨by rw [HE.out]; rfl, Only.fin HB0.out O2.out⟩

theorem atI_index {x : DIds} {i : Int} {d : DID} (h : atI x i = some d) : d.index = i := by
  unfold atI at h
  split at h
  · split at h
    · split at h
      · rw [← Option.some.inj h]
      · cases h
    · cases h
  · cases h

set_option maxRecDepth 100000 in
set_option maxHeartbeats 1000000 in
/-- r06.Alive -/
theorem alive_calls {Q : Nat → Prop} {w : World} {v : Value} {x : DIds} {d : DID} (hx : rIds.val Q w v x) :
    Calls Try.prog 158 #[v, .agg #[.int .i64 d.index, .int .i64 d.gen]] w fun e w' => e = .returned (.bool (decide (atI x d.index = some d))) ∧ Below w.heap.size w w' := by
  have HX := Lib.hid hx
  obtain ⟨A1, c1, A2, c2, rfl, w0, w1, f1, f2⟩ := rIds_val hx
  clear hx f1 f2
  rcases hat : atI x d.index with _ | y
  · have HA := Lib.hid hat
    have HE := Lib.hid (show decide ((none : Option DID) = some d) = false from rfl)
    clear hat
    skip
    obtain ⟨W0, hW0⟩ : ∃ W, ((w.alloc (.cells #[.int .i64 x.entities, .int .i64 x.limit, .slice A1 x.gens.length c1, .slice A2 x.free.length c2] 142)).alloc (.cells #[.int .i64 d.index, .int .i64 d.gen] 114)) = W := ⟨_, rfl⟩
    have hz0 : W0.heap.size = w.heap.size + 2 := by rw [← hW0]; simp
    have hb0 : Below w.heap.size w W0 := by rw [← hW0]; exact ((Below.refl _ _).alloc (Nat.le_refl _) _).alloc (by first | (simp; done) | (simp; omega)) _
    have HZ := Lib.hid hz0
    have HB0 := Lib.hid hb0
    have R0_0 := Lib.hid (show W0.heap[w.heap.size]? = some (.cells #[.int .i64 x.entities, .int .i64 x.limit, .slice A1 x.gens.length c1, .slice A2 x.free.length c2] 142 (0, 0)) by rw [← hW0]; exact alloc_old (alloc_at rfl))
    have R1_0 := Lib.hid (show W0.heap[w.heap.size + 1]? = some (.cells #[.int .i64 d.index, .int .i64 d.gen] 114 (0, 0)) by rw [← hW0]; exact alloc_at (by simp))
    have O0 := Lib.hid (Only.refl (Box w 2) W0)
    have Vx_0 := Lib.hid (show rIds.val (In Q w 2) W0 (.agg #[.int .i64 x.entities, .int .i64 x.limit, .slice A1 x.gens.length c1, .slice A2 x.free.length c2]) x from val_in HX.out hb0)
    clear hz0 hb0
    have q0_0 := rw4 R0_0.out
    have q1_0 := rw2 R1_0.out
    go_enter Try.func158, Try.ntmps158
    go_wp2_with fail
    try rw [hW0]
    clear hW0
    try go_wp2_with fail
    clear q0_0 q1_0
    refine (at_calls Vx_0.out).mono ?_
    rintro e w1 ⟨rfl, hb⟩
    have S1 := Lib.hid (show Only (Box w 2) W0 w1 from Only.of_below hb)
    have O1 := Lib.hid (O0.out.trans S1.out)
    have R0_1 := Lib.hid (row_call hb R0_0.out)
    have R1_1 := Lib.hid (row_call hb R1_0.out)
    have Vx_1 := Lib.hid (val_only Vx_0.out S1.out)
    clear hb
    rw [HA.out]
    have HF1 := Lib.hid (show w.heap.size + 2 ≤ w1.heap.size by have := O1.out.size; have := HZ.out; omega)
    obtain ⟨w2, hn1⟩ : ∃ W, (w1.alloc (.cells #[.int .i64 0, .int .i64 0] 114)) = W := ⟨_, rfl⟩
    have S2 := Lib.hid (show Only (Box w 2) w1 w2 from (by rw [← hn1]; exact (Only.refl (Box w 2) w1).alloc _))
    have O2 := Lib.hid (O1.out.trans S2.out)
    have R0_2 := Lib.hid (row_nm hn1.symm (alloc_old (R0_1.out)))
    have R1_2 := Lib.hid (row_nm hn1.symm (alloc_old (R1_1.out)))
    have Rw1.heap.size_2 := Lib.hid (show w2.heap[w1.heap.size]? = some (.cells #[.int .i64 0, .int .i64 0] 114 (0, 0)) from (by rw [← hn1]; exact alloc_at rfl))
    have Vx_2 := Lib.hid (val_only Vx_1.out S2.out)
    have y0_0 := rw4 R0_2.out
    have y1_0 := rw2 R1_2.out
    have yn0_0 := rw2 Rw1.heap.size_2.out
    go_wp2_with fail
    try rw [hn1]
    clear hn1
    clear y0_0 y1_0 yn0_0
    go_ret
    exact ⟨by rw [HE.out]; rfl, by first | exact Only.fin HB0.out O2.out | exact below_put (below_put (Only.fin HB0.out O2.out) (by have := HF1.out; omega)) (by have := HF1.out; omega)⟩
  · have HA := Lib.hid hat
    have hy := atI_index hat
    by_cases hg : y.gen = d.gen
    · have HE := Lib.hid (show decide (some y = some d) = true from decide_eq_true (by rw [DID.ext hy hg]))
      have g1 : (y.gen == d.gen) = true := by simp [hg]
      clear hat hg
      clear hy
      obtain ⟨W0, hW0⟩ : ∃ W, ((w.alloc (.cells #[.int .i64 x.entities, .int .i64 x.limit, .slice A1 x.gens.length c1, .slice A2 x.free.length c2] 142)).alloc (.cells #[.int .i64 d.index, .int .i64 d.gen] 114)) = W := ⟨_, rfl⟩
      have hz0 : W0.heap.size = w.heap.size + 2 := by rw [← hW0]; simp
      have hb0 : Below w.heap.size w W0 := by rw [← hW0]; exact ((Below.refl _ _).alloc (Nat.le_refl _) _).alloc (by first | (simp; done) | (simp; omega)) _
      have HZ := Lib.hid hz0
      have HB0 := Lib.hid hb0
      have R0_0 := Lib.hid (show W0.heap[w.heap.size]? = some (.cells #[.int .i64 x.entities, .int .i64 x.limit, .slice A1 x.gens.length c1, .slice A2 x.free.length c2] 142 (0, 0)) by rw [← hW0]; exact alloc_old (alloc_at rfl))
      have R1_0 := Lib.hid (show W0.heap[w.heap.size + 1]? = some (.cells #[.int .i64 d.index, .int .i64 d.gen] 114 (0, 0)) by rw [← hW0]; exact alloc_at (by simp))
      have O0 := Lib.hid (Only.refl (Box w 2) W0)
      have Vx_0 := Lib.hid (show rIds.val (In Q w 2) W0 (.agg #[.int .i64 x.entities, .int .i64 x.limit, .slice A1 x.gens.length c1, .slice A2 x.free.length c2]) x from val_in HX.out hb0)
      clear hz0 hb0
      have q0_0 := rw4 R0_0.out
      have q1_0 := rw2 R1_0.out
      go_enter Try.func158, Try.ntmps158
      go_wp2_with fail
      try rw [hW0]
      clear hW0
      try go_wp2_with fail
      clear q0_0 q1_0
      refine (at_calls Vx_0.out).mono ?_
      rintro e w1 ⟨rfl, hb⟩
      have S1 := Lib.hid (show Only (Box w 2) W0 w1 from Only.of_below hb)
      have O1 := Lib.hid (O0.out.trans S1.out)
      have R0_1 := Lib.hid (row_call hb R0_0.out)
      have R1_1 := Lib.hid (row_call hb R1_0.out)
      have Vx_1 := Lib.hid (val_only Vx_0.out S1.out)
      clear hb
      rw [HA.out]
      have HF1 := Lib.hid (show w.heap.size + 2 ≤ w1.heap.size by have := O1.out.size; have := HZ.out; omega)
      obtain ⟨w2, hn1⟩ : ∃ W, (w1.alloc (.cells #[.int .i64 y.index, .int .i64 y.gen] 114)) = W := ⟨_, rfl⟩
      have S2 := Lib.hid (show Only (Box w 2) w1 w2 from (by rw [← hn1]; exact (Only.refl (Box w 2) w1).alloc _))
      have O2 := Lib.hid (O1.out.trans S2.out)
      have R0_2 := Lib.hid (row_nm hn1.symm (alloc_old (R0_1.out)))
      have R1_2 := Lib.hid (row_nm hn1.symm (alloc_old (R1_1.out)))
      have Rw1.heap.size_2 := Lib.hid (show w2.heap[w1.heap.size]? = some (.cells #[.int .i64 y.index, .int .i64 y.gen] 114 (0, 0)) from (by rw [← hn1]; exact alloc_at rfl))
      have Vx_2 := Lib.hid (val_only Vx_1.out S2.out)
      have y0_0 := rw4 R0_2.out
      have y1_0 := rw2 R1_2.out
      have yn0_0 := rw2 Rw1.heap.size_2.out
      go_wp2_with fail
      try rw [hn1]
      clear hn1
      clear y0_0 y1_0 yn0_0
      go_ret
      exact ⟨by rw [HE.out]; rfl, by first | exact Only.fin HB0.out O2.out | exact below_put (below_put (Only.fin HB0.out O2.out) (by have := HF1.out; omega)) (by have := HF1.out; omega)⟩
    · have HE := Lib.hid (show decide (some y = some d) = false from decide_eq_false (fun h => hg (by rw [Option.some.inj h])))
      have g1 : (y.gen == d.gen) = false := by simp [hg]
      clear hat hg
      clear hy
      obtain ⟨W0, hW0⟩ : ∃ W, ((w.alloc (.cells #[.int .i64 x.entities, .int .i64 x.limit, .slice A1 x.gens.length c1, .slice A2 x.free.length c2] 142)).alloc (.cells #[.int .i64 d.index, .int .i64 d.gen] 114)) = W := ⟨_, rfl⟩
      have hz0 : W0.heap.size = w.heap.size + 2 := by rw [← hW0]; simp
      have hb0 : Below w.heap.size w W0 := by rw [← hW0]; exact ((Below.refl _ _).alloc (Nat.le_refl _) _).alloc (by first | (simp; done) | (simp; omega)) _
      have HZ := Lib.hid hz0
      have HB0 := Lib.hid hb0
      have R0_0 := Lib.hid (show W0.heap[w.heap.size]? = some (.cells #[.int .i64 x.entities, .int .i64 x.limit, .slice A1 x.gens.length c1, .slice A2 x.free.length c2] 142 (0, 0)) by rw [← hW0]; exact alloc_old (alloc_at rfl))
      have R1_0 := Lib.hid (show W0.heap[w.heap.size + 1]? = some (.cells #[.int .i64 d.index, .int .i64 d.gen] 114 (0, 0)) by rw [← hW0]; exact alloc_at (by simp))
      have O0 := Lib.hid (Only.refl (Box w 2) W0)
      have Vx_0 := Lib.hid (show rIds.val (In Q w 2) W0 (.agg #[.int .i64 x.entities, .int .i64 x.limit, .slice A1 x.gens.length c1, .slice A2 x.free.length c2]) x from val_in HX.out hb0)
      clear hz0 hb0
      have q0_0 := rw4 R0_0.out
      have q1_0 := rw2 R1_0.out
      go_enter Try.func158, Try.ntmps158
      go_wp2_with fail
      try rw [hW0]
      clear hW0
      try go_wp2_with fail
      clear q0_0 q1_0
      refine (at_calls Vx_0.out).mono ?_
      rintro e w1 ⟨rfl, hb⟩
      have S1 := Lib.hid (show Only (Box w 2) W0 w1 from Only.of_below hb)
      have O1 := Lib.hid (O0.out.trans S1.out)
      have R0_1 := Lib.hid (row_call hb R0_0.out)
      have R1_1 := Lib.hid (row_call hb R1_0.out)
      have Vx_1 := Lib.hid (val_only Vx_0.out S1.out)
      clear hb
      rw [HA.out]
      have HF1 := Lib.hid (show w.heap.size + 2 ≤ w1.heap.size by have := O1.out.size; have := HZ.out; omega)
      obtain ⟨w2, hn1⟩ : ∃ W, (w1.alloc (.cells #[.int .i64 y.index, .int .i64 y.gen] 114)) = W := ⟨_, rfl⟩
      have S2 := Lib.hid (show Only (Box w 2) w1 w2 from (by rw [← hn1]; exact (Only.refl (Box w 2) w1).alloc _))
      have O2 := Lib.hid (O1.out.trans S2.out)
      have R0_2 := Lib.hid (row_nm hn1.symm (alloc_old (R0_1.out)))
      have R1_2 := Lib.hid (row_nm hn1.symm (alloc_old (R1_1.out)))
      have Rw1.heap.size_2 := Lib.hid (show w2.heap[w1.heap.size]? = some (.cells #[.int .i64 y.index, .int .i64 y.gen] 114 (0, 0)) from (by rw [← hn1]; exact alloc_at rfl))
      have Vx_2 := Lib.hid (val_only Vx_1.out S2.out)
      have y0_0 := rw4 R0_2.out
      have y1_0 := rw2 R1_2.out
      have yn0_0 := rw2 Rw1.heap.size_2.out
      go_wp2_with fail
      try rw [hn1]
      clear hn1
      clear y0_0 y1_0 yn0_0
      go_ret
      exact ⟨by rw [HE.out]; rfl, by first | exact Only.fin HB0.out O2.out | exact below_put (below_put (Only.fin HB0.out O2.out) (by have := HF1.out; omega)) (by have := HF1.out; omega)⟩

/-- An index is taken. -/
def takeI (x : DIds) : DIds × DID × Int :=
  match x.free.getLast? with
  | some k => (⟨x.entities, x.limit, x.gens, x.free.dropLast⟩, ⟨k, x.gens.getD k.toNat 0⟩, 0)
  | none => if (x.gens.length : Int) = x.entities then (x, noID, 9) else (⟨x.entities, x.limit, x.gens ++ [0], x.free⟩, ⟨x.gens.length, 0⟩, 0)
def TakePost (Q : Nat → Prop) (w : World) (r : DIds × DID × Int) (e : Ending) (w' : World) : Prop :=
  ∃ u, e = .returned (.tuple #[u, .agg #[.int .i64 r.2.1.index, .int .i64 r.2.1.gen], .int .i64 r.2.2]) ∧ rIds.val (fun b => Q b ∨ w.heap.size ≤ b) w' u r.1 ∧ Below w.heap.size w w'

set_option maxRecDepth 100000 in
set_option maxHeartbeats 1000000 in
/-- r06.Take -/
theorem take_calls {Q : Nat → Prop} {w : World} {v : Value} {x : DIds} (hx : rIds.val Q w v x) (hf : ∀ k ∈ x.free, 0 ≤ k ∧ k < x.gens.length) (hl : x.gens.length ≤ 100000) :
    Calls Try.prog 154 #[v] w (TakePost Q w (takeI x)) := by
  have HX := Lib.hid hx
  obtain ⟨A1, c1, A2, c2, rfl, w0, w1, f1, f2⟩ := rIds_val hx
  have l1 := f1.2.1
  have l2 := f2.2.1
  have m1 := f1.1
  have m2 := f2.1
  have F1 := Lib.hid f1
  have F2 := Lib.hid f2
  have WE := Lib.hid w0
  have WL := Lib.hid w1
  unfold maxLen at l1 l2
  have hfr : Try.f154.results = #[.cell 2 142, .cell 3 114, .tmp 4] := rfl
  clear hx f1 f2 w0 w1
  rcases hlast : x.free.getLast? with _ | k
  · have hfe : x.free = [] := List.getLast?_eq_none_iff.1 hlast
    have h0 : x.free.length = 0 := by rw [hfe]; rfl
    by_cases he : (x.gens.length : Int) = x.entities
    · have HE := Lib.hid (show takeI x = (x, noID, 9) by unfold takeI; rw [hlast]; exact if_pos he)
      have g1 : ((x.gens.length : Int) == x.entities) = true := by simp [he]
      have HX2 := Lib.hid (show rIds.val Q w (.agg #[.int .i64 x.entities, .int .i64 x.limit, .slice A1 x.gens.length c1, .slice A2 0 c2]) x by have := HX.out; rwa [h0] at this)
      rw [h0]
      clear hfe h0 he hlast hf m2
      obtain ⟨W0, hW0⟩ : ∃ W, (((w.alloc (.cells #[.int .i64 x.entities, .int .i64 x.limit, .slice A1 x.gens.length c1, .slice A2 0 c2] 142)).alloc (.cells #[.int .i64 0, .int .i64 0, .slice none 0 0, .slice none 0 0] 142)).alloc (.cells #[.int .i64 0, .int .i64 0] 114)) = W := ⟨_, rfl⟩
      have hz0 : W0.heap.size = w.heap.size + 3 := by rw [← hW0]; simp
      have hb0 : Below w.heap.size w W0 := by rw [← hW0]; exact (((Below.refl _ _).alloc (Nat.le_refl _) _).alloc (by first | (simp; done) | (simp; omega)) _).alloc (by first | (simp; done) | (simp; omega)) _
      have HZ := Lib.hid hz0
      have HB0 := Lib.hid hb0
      have R0_0 := Lib.hid (show W0.heap[w.heap.size]? = some (.cells #[.int .i64 x.entities, .int .i64 x.limit, .slice A1 x.gens.length c1, .slice A2 0 c2] 142 (0, 0)) by rw [← hW0]; exact alloc_old (alloc_old (alloc_at rfl)))
      have R1_0 := Lib.hid (show W0.heap[w.heap.size + 1]? = some (.cells #[.int .i64 0, .int .i64 0, .slice none 0 0, .slice none 0 0] 142 (0, 0)) by rw [← hW0]; exact alloc_old (alloc_at (by simp)))
      have R2_0 := Lib.hid (show W0.heap[w.heap.size + 1 + 1]? = some (.cells #[.int .i64 0, .int .i64 0] 114 (0, 0)) by rw [← hW0]; exact alloc_at (by simp))
      have O0 := Lib.hid (Only.refl (Box w 3) W0)
      have Vx_0 := Lib.hid (show rIds.val (In Q w 3) W0 (.agg #[.int .i64 x.entities, .int .i64 x.limit, .slice A1 x.gens.length c1, .slice A2 0 c2]) x from val_in HX2.out hb0)
      clear hz0 hb0
      have q0_0 := rw4 R0_0.out
      have q1_0 := rw4 R1_0.out
      have q2_0 := rw2 R2_0.out
      go_enter Try.func154, Try.ntmps154
      go_wp2_with fail
      try rw [hW0]
      clear hW0
      try go_wp2_with fail
      clear q0_0 q1_0 q2_0
      refine nm_post (fun w1 hnm => ?_)
      have S1 := Lib.hid (show Only (Box w 3) W0 w1 from (by rw [hnm]; exact ((((((Only.refl (Box w 3) W0).put ⟨by omega, by omega⟩).put ⟨by omega, by omega⟩).put ⟨by omega, by omega⟩).put ⟨by omega, by omega⟩).put ⟨by omega, by omega⟩).put ⟨by omega, by omega⟩))
      have O1 := Lib.hid (O0.out.trans S1.out)
      have R0_1 := Lib.hid (row_nm hnm (row_other (row_other (row_other (row_other (row_other (row_other (R0_0.out) (by omega)) (by omega)) (by omega)) (by omega)) (by omega)) (by omega)))
      have R1_1 := Lib.hid (show w1.heap[w.heap.size + 1]? = some (.cells #[.int .i64 x.entities, .int .i64 x.limit, .slice A1 x.gens.length c1, .slice A2 0 c2] 142 (0, 0)) from (by rw [hnm]; exact row_other (row_other (heap_setRow (heap_setRow (heap_setRow (heap_setRow (R1_0.out))))) (by omega)) (by omega)))
      have R2_1 := Lib.hid (show w1.heap[w.heap.size + 1 + 1]? = some (.cells #[.int .i64 0, .int .i64 0] 114 (0, 0)) from (by rw [hnm]; exact heap_setRow (heap_setRow (row_other (row_other (row_other (row_other (R2_0.out) (by omega)) (by omega)) (by omega)) (by omega)))))
      have Vx_1 := Lib.hid (val_only Vx_0.out S1.out)
      clear hnm
      have q1_0 := cl4 R1_1.out
      have q2_0 := cl2 R2_1.out
      refine ⟨rfl, .tuple #[.agg #[.int .i64 x.entities, .int .i64 x.limit, .slice A1 x.gens.length c1, .slice A2 0 c2], .agg #[.int .i64 0, .int .i64 0], .int .i64 9], by simp only [results, hfr]; go_simp, ?_⟩
      clear q1_0 q2_0
      rw [HE.out]
      exact ⟨_, rfl, val_out Vx_1.out, Only.fin HB0.out O1.out⟩
    · have HE := Lib.hid (show takeI x = (⟨x.entities, x.limit, x.gens ++ [0], x.free⟩, ⟨x.gens.length, 0⟩, 0) by unfold takeI; rw [hlast]; exact if_neg he)
      have g1 : ((x.gens.length : Int) == x.entities) = false := by simp [he]
      have HFE := Lib.hid hfe
      have HL := Lib.hid hl
      rw [h0]
      clear hfe h0 he hlast hf m2
      obtain ⟨W0, hW0⟩ : ∃ W, (((w.alloc (.cells #[.int .i64 x.entities, .int .i64 x.limit, .slice A1 x.gens.length c1, .slice A2 0 c2] 142)).alloc (.cells #[.int .i64 0, .int .i64 0, .slice none 0 0, .slice none 0 0] 142)).alloc (.cells #[.int .i64 0, .int .i64 0] 114)) = W := ⟨_, rfl⟩
      have hz0 : W0.heap.size = w.heap.size + 3 := by rw [← hW0]; simp
      have hb0 : Below w.heap.size w W0 := by rw [← hW0]; exact (((Below.refl _ _).alloc (Nat.le_refl _) _).alloc (by first | (simp; done) | (simp; omega)) _).alloc (by first | (simp; done) | (simp; omega)) _
      have HZ := Lib.hid hz0
      have HB0 := Lib.hid hb0
      have R0_0 := Lib.hid (show W0.heap[w.heap.size]? = some (.cells #[.int .i64 x.entities, .int .i64 x.limit, .slice A1 x.gens.length c1, .slice A2 0 c2] 142 (0, 0)) by rw [← hW0]; exact alloc_old (alloc_old (alloc_at rfl)))
      have R1_0 := Lib.hid (show W0.heap[w.heap.size + 1]? = some (.cells #[.int .i64 0, .int .i64 0, .slice none 0 0, .slice none 0 0] 142 (0, 0)) by rw [← hW0]; exact alloc_old (alloc_at (by simp)))
      have R2_0 := Lib.hid (show W0.heap[w.heap.size + 1 + 1]? = some (.cells #[.int .i64 0, .int .i64 0] 114 (0, 0)) by rw [← hW0]; exact alloc_at (by simp))
      have O0 := Lib.hid (Only.refl (Box w 3) W0)
      have VG := Lib.hid (show ∀ V, Below W0.heap.size W0 V → (Rep.int .i64).list.val Q V (.slice A1 x.gens.length c1) x.gens from fun V hv => Rep.val_keep (fun b hq hl => ⟨hq, (hb0.trans (hv.mono hb0.size)).block b hl.lt⟩) F1.out.val)
      obtain ⟨w1, hn1⟩ : ∃ W, W0.alloc (.cells #[] 3) = W := ⟨_, rfl⟩
      have HBw1 := Lib.hid (show Below W0.heap.size W0 w1 by rw [← hn1]; exact (Below.refl _ _).alloc (Nat.le_refl _) _)
      have k1 := row_call HBw1.out R0_0.out
      have k1_0 := rw4 k1
      clear k1
      have k2 := row_call HBw1.out R1_0.out
      have k2_0 := rw4 k2
      clear k2
      have k3 := row_call HBw1.out R2_0.out
      have k3_0 := rw2 k3
      clear k3
      have HA1 := Lib.hid (show (Rep.int .i64).acc 3 W0.heap.size (fun _ => False) w1 (.slice (some ⟨W0.heap.size, 0, none⟩) 0 0) [] by rw [← hn1]; exact Rep.acc_made W0 #[] 0 (Nat.le_refl _) (by simp [maxLen]) (by simp))
      have HB1 := HBw1
      clear hz0 hb0
      have q0_0 := rw4 R0_0.out
      have q1_0 := rw4 R1_0.out
      have q2_0 := rw2 R2_0.out
      go_enter Try.func154, Try.ntmps154
      go_wp2_with (with_reducible refine stopApp rfl ?_)
      try refine Lib.hid ?_
      try rw [hW0]
      clear hW0
      try rw [hn1]
      clear hn1
      clear k1_0 k2_0 k3_0 q0_0 q1_0 q2_0
      refine wpList_spread_leaf (e := 3) (base := W0.heap.size) (Q := fun _ => False) (Rep.leaf_int .i64) rfl _ _ 27 rfl (.int .i64 0) 1 8 Try.underlying27 info3 rfl (by decide) rfl _ [] (by exact rfl) HA1.out _ x.gens (by exact rfl) (VG.out _ HB1.out) (by have := HL.out; unfold maxLen; simp; omega) (by have := HL.out; simp; omega) HB1.out.size ?_
      intro v2 w2 hacc2 hgr2 hat2
      rw [List.nil_append] at hacc2
      have HA2 := Lib.hid hacc2
      have HB2 := Lib.hid (Rep.acc_below HA1.out HB1.out hgr2 HB1.out.size)
      clear hacc2 hgr2 hat2
      go_wp2_with (with_reducible refine stopOne rfl ?_)
      refine Lib.hid ?_
      refine wpList_snoc (e := 3) (base := W0.heap.size) (Q := fun _ => False) (r := Rep.int .i64) rfl rfl _ _ 27 _ rfl rfl rfl (.int .i64 0) 1 8 Try.underlying27 info3 rfl (by decide) rfl _ x.gens HA2.out 0 _ (by exact rfl) ⟨_, rfl, rfl, by decide⟩ (by exact rfl) (by exact rfl) (by have := HL.out; unfold maxLen; omega) (by have := HL.out; omega) HB2.out.size ?_
      intro v3 w3 hacc3 hgr3 hat3
      have HB3 := Lib.hid (Rep.acc_below HA2.out HB2.out hgr3 HB2.out.size)
      obtain ⟨A3, c3, rfl, h31, h32⟩ := Rep.acc_form hacc3
      have HA3 := Lib.hid hacc3
      have hln : (x.gens ++ [0]).length = x.gens.length + 1 := by rw [List.length_append]; rfl
      rw [hln] at h31 HA3 ⊢
      clear hacc3 hgr3 hat3 h31 h32 hln
      have S1 := Lib.hid (show Only (Box w 3) W0 w3 from Only.of_below HB3.out)
      have O1 := Lib.hid (O0.out.trans S1.out)
      have R0_1 := Lib.hid (row_call HB3.out R0_0.out)
      have R1_1 := Lib.hid (row_call HB3.out R1_0.out)
      have R2_1 := Lib.hid (row_call HB3.out R2_0.out)
      have Vg_1 := Lib.hid (show (Rep.int .i64).list.val (In Q w 3) w3 (.slice A3 (x.gens.length + 1) c3) (x.gens ++ [0]) from Rep.val_mono (fun b hb _ => .inr (by have := HZ.out; omega)) (Rep.acc_fresh HA3.out))
      have iw : IntKind.i64.wrap (x.gens.length : Int) = x.gens.length := IntWalk.i64_in _ ⟨by omega, by have := HL.out; omega⟩
      have q0_0 := rw4 R0_1.out
      have q1_0 := rw4 R1_1.out
      have q2_0 := rw2 R2_1.out
      go_wp2_with fail
      clear q0_0 q1_0 q2_0
      refine nm_region (fun w4 hnm => ?_)
      have S2 := Lib.hid (show Only (Box w 3) w3 w4 from (by rw [hnm]; exact (Only.refl (Box w 3) w3).put ⟨by omega, by omega⟩))
      have O2 := Lib.hid (O1.out.trans S2.out)
      have R0_2 := Lib.hid (show w4.heap[w.heap.size]? = some (.cells #[.int .i64 x.entities, .int .i64 x.limit, .slice A3 (x.gens.length + 1) c3, .slice A2 0 c2] 142 (0, 0)) from (by rw [hnm]; exact heap_setRow (R0_1.out)))
      have R1_2 := Lib.hid (row_nm hnm (row_other (R1_1.out) (by omega)))
      have R2_2 := Lib.hid (row_nm hnm (row_other (R2_1.out) (by omega)))
      have Vg_2 := Lib.hid (val_only Vg_1.out S2.out)
      clear hnm
      refine wp_region_held_drew (S := fun W => Only (fun b => b = w.heap.size + 1 ∨ b = w.heap.size + 1 + 1) w4 W) (by kernel_rfl) ((Only.refl _ _).drw) (fun s0 => ?_)
      obtain ⟨v1, hv0⟩ : ∃ V, V = w4.drew := ⟨_, rfl⟩
      rw [← hv0] at s0 ⊢
      have t1 : Only (fun b => b = w.heap.size + 1 ∨ b = w.heap.size + 1 + 1) w4 v1 := s0
      have rb1_1 : v1.heap[w.heap.size + 1]? = some (.cells #[.int .i64 0, .int .i64 0, .slice none 0 0, .slice none 0 0] 142 (0, 0)) := by rw [hv0]; exact R1_2.out
      have rb2_1 : v1.heap[w.heap.size + 1 + 1]? = some (.cells #[.int .i64 0, .int .i64 0] 114 (0, 0)) := by rw [hv0]; exact R2_2.out
      clear hv0 s0
      refine tkH (i := 0) (v := .agg #[.int .i64 x.entities, .int .i64 x.limit, .slice A3 (x.gens.length + 1) c3, .slice A2 0 c2]) rfl (Or.inl ⟨by rfl, fun w' h => by have e := row_only (h : Only (fun b => b = w.heap.size + 1 ∨ b = w.heap.size + 1 + 1) w4 w') R0_2.out (by first | omega | (dsimp only; omega)); have e0 := cell_row e 0; have e1 := cell_row e 1; have e2 := cell_row e 2; have e3 := cell_row e 3; go_simp⟩) t1 ?_
      go_simp
      refine tkHV (i := 1) (v := .pointer (some ⟨w.heap.size, 2, none⟩)) rfl t1 ?_
      go_simp
      refine tkH (i := 2) (v := .slice A3 (x.gens.length + 1) c3) rfl (Or.inl ⟨by rfl, fun w' h => by have e := row_only (h : Only (fun b => b = w.heap.size + 1 ∨ b = w.heap.size + 1 + 1) w4 w') R0_2.out (by first | omega | (dsimp only; omega)); have e0 := cell_row e 0; have e1 := cell_row e 1; have e2 := cell_row e 2; have e3 := cell_row e 3; go_simp⟩) t1 ?_
      go_simp
      refine tkHV (i := 3) (v := .int .i64 (x.gens.length + 1)) rfl t1 ?_
      go_simp
      refine tkHV (i := 4) (v := .int .i64 x.gens.length) rfl t1 ?_
      go_simp
      refine tkHV (i := 5) (v := .agg #[.int .i64 x.gens.length, .int .i64 0]) rfl t1 ?_
      go_simp
      refine wpAnyH_all (rs := [6]) (by kernel_rfl) (by simp) ?_
      intro i hi
      obtain rfl : i = 6 := by simpa using hi
      clear hi
      refine wpOp_step rfl (fun K hK => ?_)
      go_simp
      have eb := rb1_1
      have q0 := rw4 eb
      go_simp
      refine hK _ _ ⟨((((t1).put (.inl rfl)).put (.inl rfl)).put (.inl rfl)).put (.inl rfl), ?_⟩
      clear hK K q0
      refine nm_any (fun v2 hnm => ?_)
      have t2 : Only (fun b => b = w.heap.size + 1 ∨ b = w.heap.size + 1 + 1) w4 v2 := by rw [hnm]; exact ((((t1).put (.inl rfl)).put (.inl rfl)).put (.inl rfl)).put (.inl rfl)
      have rb1_2 : v2.heap[w.heap.size + 1]? = some (.cells #[.int .i64 x.entities, .int .i64 x.limit, .slice A3 (x.gens.length + 1) c3, .slice A2 0 c2] 142 (0, 0)) := by rw [hnm]; exact heap_setRow (heap_setRow (heap_setRow (heap_setRow (rb1_1))))
      have rb2_2 : v2.heap[w.heap.size + 1 + 1]? = some (.cells #[.int .i64 0, .int .i64 0] 114 (0, 0)) := by rw [hnm]; exact row_other (row_other (row_other (row_other (rb2_1) (by omega)) (by omega)) (by omega)) (by omega)
      clear hnm eb
      refine wpAnyH_all (rs := [7]) (by kernel_rfl) (by simp) ?_
      intro i hi
      obtain rfl : i = 7 := by simpa using hi
      clear hi
      refine wpOp_step rfl (fun K hK => ?_)
      go_simp
      have eb := rb2_2
      have q0 := rw2 eb
      go_simp
      refine hK _ _ ⟨((t2).put (.inr (rfl))).put (.inr (rfl)), ?_⟩
      clear hK K q0
      refine nm_any (fun v3 hnm => ?_)
      have t3 : Only (fun b => b = w.heap.size + 1 ∨ b = w.heap.size + 1 + 1) w4 v3 := by rw [hnm]; exact ((t2).put (.inr (rfl))).put (.inr (rfl))
      have rb1_3 : v3.heap[w.heap.size + 1]? = some (.cells #[.int .i64 x.entities, .int .i64 x.limit, .slice A3 (x.gens.length + 1) c3, .slice A2 0 c2] 142 (0, 0)) := by rw [hnm]; exact row_other (row_other (rb1_2) (by omega)) (by omega)
      have rb2_3 : v3.heap[w.heap.size + 1 + 1]? = some (.cells #[.int .i64 x.gens.length, .int .i64 0] 114 (0, 0)) := by rw [hnm]; exact heap_setRow (heap_setRow (rb2_2))
      clear hnm eb
      refine tkHV (i := 8) (v := .int .i64 0) rfl t3 ?_
      go_simp
      refine wpAnyH_done (by kernel_rfl) ?_ _
      have S3 := Lib.hid (show Only (Box w 3) w4 v3 from (t3).wid (fun b hb => by first | (unfold Box; omega) | (dsimp only at hb; unfold Box; omega)))
      have O3 := Lib.hid (O2.out.trans S3.out)
      have R0_3 := Lib.hid (row_only t3 R0_2.out (by first | omega | (dsimp only; omega)))
      have R1_3 := Lib.hid (show v3.heap[w.heap.size + 1]? = some (.cells #[.int .i64 x.entities, .int .i64 x.limit, .slice A3 (x.gens.length + 1) c3, .slice A2 0 c2] 142 (0, 0)) from rb1_3)
      have R2_3 := Lib.hid (show v3.heap[w.heap.size + 1 + 1]? = some (.cells #[.int .i64 x.gens.length, .int .i64 0] 114 (0, 0)) from rb2_3)
      have Vg_3 := Lib.hid (val_only Vg_2.out S3.out)
      clear rb1_3 rb2_3
      skip
      have q0_0 := cl4 R0_3.out
      have q1_0 := cl4 R1_3.out
      have q2_0 := cl2 R2_3.out
      try go_wp2_with fail
      refine ⟨rfl, .tuple #[.agg #[.int .i64 x.entities, .int .i64 x.limit, .slice A3 (x.gens.length + 1) c3, .slice A2 0 c2], .agg #[.int .i64 x.gens.length, .int .i64 0], .int .i64 0], by simp only [results, hfr]; go_simp, ?_⟩
      clear q0_0 q1_0 q2_0
      rw [HE.out]
      refine ⟨_, rfl, ?_, Only.fin HB0.out O3.out⟩
      have h := rIds_agg (x := ⟨x.entities, x.limit, x.gens ++ [0], x.free⟩) (Q := fun b => Q b ∨ w.heap.size ≤ b) (w := v3) WE.out WL.out (sl_of (val_out Vg_3.out)) (sl_out F2.out (Only.fin HB0.out O3.out))
      have e1 : (x.gens ++ [0]).length = x.gens.length + 1 := by simp
      have e2 : x.free.length = 0 := by rw [HFE.out]; rfl
      dsimp only at h
      rw [e1, e2] at h
      exact h
  · obtain ⟨hk0, hk1⟩ := hf k (List.mem_of_getLast? hlast)
    obtain ⟨j, rfl⟩ : ∃ j : Nat, k = (j : Int) := ⟨k.toNat, by omega⟩
    obtain ⟨g, hgj⟩ : ∃ g, x.gens[j]? = some g := ⟨_, List.getElem?_eq_getElem (by omega)⟩
    have HE := Lib.hid (show takeI x = (⟨x.entities, x.limit, x.gens, x.free.dropLast⟩, ⟨j, g⟩, 0) by unfold takeI; rw [hlast]; dsimp only; rw [Int.toNat_natCast, List.getD_eq_getElem?_getD, hgj]; rfl)
    have hne : 0 < x.free.length := List.length_pos_of_mem (List.mem_of_getLast? hlast)
    obtain ⟨m, hm⟩ : ∃ m, x.free.length = m + 1 := ⟨x.free.length - 1, by omega⟩
    have hfm : x.free[m]? = some (j : Int) := by rw [List.getLast?_eq_getElem?, hm] at hlast; exact hlast
    have HGJ := Lib.hid hgj
    have HFM := Lib.hid hfm
    have HM := Lib.hid hm
    have HJ := Lib.hid hk1
    rw [hm] at m2
    rw [hm]
    clear hf hlast hne hm hk0 hk1 hgj hfm
    obtain ⟨W0, hW0⟩ : ∃ W, (((w.alloc (.cells #[.int .i64 x.entities, .int .i64 x.limit, .slice A1 x.gens.length c1, .slice A2 (m + 1) c2] 142)).alloc (.cells #[.int .i64 0, .int .i64 0, .slice none 0 0, .slice none 0 0] 142)).alloc (.cells #[.int .i64 0, .int .i64 0] 114)) = W := ⟨_, rfl⟩
    have hz0 : W0.heap.size = w.heap.size + 3 := by rw [← hW0]; simp
    have hb0 : Below w.heap.size w W0 := by rw [← hW0]; exact (((Below.refl _ _).alloc (Nat.le_refl _) _).alloc (by first | (simp; done) | (simp; omega)) _).alloc (by first | (simp; done) | (simp; omega)) _
    have HZ := Lib.hid hz0
    have HB0 := Lib.hid hb0
    have R0_0 := Lib.hid (show W0.heap[w.heap.size]? = some (.cells #[.int .i64 x.entities, .int .i64 x.limit, .slice A1 x.gens.length c1, .slice A2 (m + 1) c2] 142 (0, 0)) by rw [← hW0]; exact alloc_old (alloc_old (alloc_at rfl)))
    have R1_0 := Lib.hid (show W0.heap[w.heap.size + 1]? = some (.cells #[.int .i64 0, .int .i64 0, .slice none 0 0, .slice none 0 0] 142 (0, 0)) by rw [← hW0]; exact alloc_old (alloc_at (by simp)))
    have R2_0 := Lib.hid (show W0.heap[w.heap.size + 1 + 1]? = some (.cells #[.int .i64 0, .int .i64 0] 114 (0, 0)) by rw [← hW0]; exact alloc_at (by simp))
    have O0 := Lib.hid (Only.refl (Box w 3) W0)
    obtain ⟨fb, fo, hA2, hfi, hfc, _⟩ := int_at (at_in (n := 3) F2.out.2.2 hb0) HFM.out
    obtain ⟨gb, go, hA1, hgi, hgc, _⟩ := int_at (at_in (n := 3) F1.out.2.2 hb0) HGJ.out
    subst hA1 hA2
    have HGC := Lib.hid hgc
    have HGI := Lib.hid hgi
    have hj := HJ.out
    clear hgc hfi hgi
    clear hz0 hb0
    have q0_0 := rw4 R0_0.out
    have q1_0 := rw4 R1_0.out
    have q2_0 := rw2 R2_0.out
    go_enter Try.func154, Try.ntmps154
    go_wp2_with fail
    try rw [hW0]
    clear hW0
    try go_wp2_with fail
    clear hfc
    clear q0_0 q1_0 q2_0
    refine nm_region (fun w1 hnm => ?_)
    have S1 := Lib.hid (show Only (Box w 3) W0 w1 from (by rw [hnm]; exact (Only.refl (Box w 3) W0).put ⟨by omega, by omega⟩))
    have O1 := Lib.hid (O0.out.trans S1.out)
    have R0_1 := Lib.hid (show w1.heap[w.heap.size]? = some (.cells #[.int .i64 x.entities, .int .i64 x.limit, .slice (some ⟨gb, go, none⟩) x.gens.length c1, .slice (some ⟨fb, fo, none⟩) m c2] 142 (0, 0)) from (by rw [hnm]; exact heap_setRow (R0_0.out)))
    have R1_1 := Lib.hid (row_nm hnm (row_other (R1_0.out) (by omega)))
    have R2_1 := Lib.hid (row_nm hnm (row_other (R2_0.out) (by omega)))
    clear hnm
    have HGC1 := Lib.hid (cell_only S1.out HGI.out.no HGC.out)
    refine wp_region_held_drew (S := fun W => Only (fun b => b = w.heap.size + 1 ∨ b = w.heap.size + 1 + 1) w1 W) (by kernel_rfl) ((Only.refl _ _).drw) (fun s0 => ?_)
    obtain ⟨v1, hv0⟩ : ∃ V, V = w1.drew := ⟨_, rfl⟩
    rw [← hv0] at s0 ⊢
    have t1 : Only (fun b => b = w.heap.size + 1 ∨ b = w.heap.size + 1 + 1) w1 v1 := s0
    have rb1_1 : v1.heap[w.heap.size + 1]? = some (.cells #[.int .i64 0, .int .i64 0, .slice none 0 0, .slice none 0 0] 142 (0, 0)) := by rw [hv0]; exact R1_1.out
    have rb2_1 : v1.heap[w.heap.size + 1 + 1]? = some (.cells #[.int .i64 0, .int .i64 0] 114 (0, 0)) := by rw [hv0]; exact R2_1.out
    clear hv0 s0
    refine tkH (i := 0) (v := .agg #[.int .i64 x.entities, .int .i64 x.limit, .slice (some ⟨gb, go, none⟩) x.gens.length c1, .slice (some ⟨fb, fo, none⟩) m c2]) rfl (Or.inl ⟨by rfl, fun w' h => by have e := row_only (h : Only (fun b => b = w.heap.size + 1 ∨ b = w.heap.size + 1 + 1) w1 w') R0_1.out (by first | omega | (dsimp only; omega)); have e0 := cell_row e 0; have e1 := cell_row e 1; have e2 := cell_row e 2; have e3 := cell_row e 3; go_simp⟩) t1 ?_
    go_simp
    refine tkHV (i := 1) (v := .int .i64 j) rfl t1 ?_
    go_simp
    refine tkHV (i := 2) (v := .pointer (some ⟨w.heap.size, 2, none⟩)) rfl t1 ?_
    go_simp
    refine tkH (i := 3) (v := .slice (some ⟨gb, go, none⟩) x.gens.length c1) rfl (Or.inl ⟨by rfl, fun w' h => by have e := row_only (h : Only (fun b => b = w.heap.size + 1 ∨ b = w.heap.size + 1 + 1) w1 w') R0_1.out (by first | omega | (dsimp only; omega)); have e0 := cell_row e 0; have e1 := cell_row e 1; have e2 := cell_row e 2; have e3 := cell_row e 3; go_simp⟩) t1 ?_
    go_simp
    refine tkHV (i := 4) (v := .int .i64 j) rfl t1 ?_
    go_simp
    refine tkHV (i := 5) (v := .pointer (some ⟨gb, go + j, none⟩)) rfl t1 ?_
    go_simp
    refine tkH (i := 6) (v := .int .i64 g) rfl (Or.inl ⟨by rfl, fun w' h => by have e := cell_only (h : Only (fun b => b = w.heap.size + 1 ∨ b = w.heap.size + 1 + 1) w1 w') (by have := HGI.out; unfold In at this; first | omega | (dsimp only; omega)) HGC1.out; go_simp⟩) t1 ?_
    go_simp
    refine tkHV (i := 7) (v := .agg #[.int .i64 j, .int .i64 g]) rfl t1 ?_
    go_simp
    refine wpAnyH_all (rs := [8]) (by kernel_rfl) (by simp) ?_
    intro i hi
    obtain rfl : i = 8 := by simpa using hi
    clear hi
    refine wpOp_step rfl (fun K hK => ?_)
    go_simp
    have eb := rb1_1
    have q0 := rw4 eb
    go_simp
    refine hK _ _ ⟨((((t1).put (.inl rfl)).put (.inl rfl)).put (.inl rfl)).put (.inl rfl), ?_⟩
    clear hK K q0
    refine nm_any (fun v2 hnm => ?_)
    have t2 : Only (fun b => b = w.heap.size + 1 ∨ b = w.heap.size + 1 + 1) w1 v2 := by rw [hnm]; exact ((((t1).put (.inl rfl)).put (.inl rfl)).put (.inl rfl)).put (.inl rfl)
    have rb1_2 : v2.heap[w.heap.size + 1]? = some (.cells #[.int .i64 x.entities, .int .i64 x.limit, .slice (some ⟨gb, go, none⟩) x.gens.length c1, .slice (some ⟨fb, fo, none⟩) m c2] 142 (0, 0)) := by rw [hnm]; exact heap_setRow (heap_setRow (heap_setRow (heap_setRow (rb1_1))))
    have rb2_2 : v2.heap[w.heap.size + 1 + 1]? = some (.cells #[.int .i64 0, .int .i64 0] 114 (0, 0)) := by rw [hnm]; exact row_other (row_other (row_other (row_other (rb2_1) (by omega)) (by omega)) (by omega)) (by omega)
    clear hnm eb
    refine wpAnyH_all (rs := [9]) (by kernel_rfl) (by simp) ?_
    intro i hi
    obtain rfl : i = 9 := by simpa using hi
    clear hi
    refine wpOp_step rfl (fun K hK => ?_)
    go_simp
    have eb := rb2_2
    have q0 := rw2 eb
    go_simp
    refine hK _ _ ⟨((t2).put (.inr (rfl))).put (.inr (rfl)), ?_⟩
    clear hK K q0
    refine nm_any (fun v3 hnm => ?_)
    have t3 : Only (fun b => b = w.heap.size + 1 ∨ b = w.heap.size + 1 + 1) w1 v3 := by rw [hnm]; exact ((t2).put (.inr (rfl))).put (.inr (rfl))
    have rb1_3 : v3.heap[w.heap.size + 1]? = some (.cells #[.int .i64 x.entities, .int .i64 x.limit, .slice (some ⟨gb, go, none⟩) x.gens.length c1, .slice (some ⟨fb, fo, none⟩) m c2] 142 (0, 0)) := by rw [hnm]; exact row_other (row_other (rb1_2) (by omega)) (by omega)
    have rb2_3 : v3.heap[w.heap.size + 1 + 1]? = some (.cells #[.int .i64 j, .int .i64 g] 114 (0, 0)) := by rw [hnm]; exact heap_setRow (heap_setRow (rb2_2))
    clear hnm eb
    refine tkHV (i := 10) (v := .int .i64 0) rfl t3 ?_
    go_simp
    refine wpAnyH_done (by kernel_rfl) ?_ _
    have S2 := Lib.hid (show Only (Box w 3) w1 v3 from (t3).wid (fun b hb => by first | (unfold Box; omega) | (dsimp only at hb; unfold Box; omega)))
    have O2 := Lib.hid (O1.out.trans S2.out)
    have R0_2 := Lib.hid (row_only t3 R0_1.out (by first | omega | (dsimp only; omega)))
    have R1_2 := Lib.hid (show v3.heap[w.heap.size + 1]? = some (.cells #[.int .i64 x.entities, .int .i64 x.limit, .slice (some ⟨gb, go, none⟩) x.gens.length c1, .slice (some ⟨fb, fo, none⟩) m c2] 142 (0, 0)) from rb1_3)
    have R2_2 := Lib.hid (show v3.heap[w.heap.size + 1 + 1]? = some (.cells #[.int .i64 j, .int .i64 g] 114 (0, 0)) from rb2_3)
    clear rb1_3 rb2_3
    have q0_0 := cl4 R0_2.out
    have q1_0 := cl4 R1_2.out
    have q2_0 := cl2 R2_2.out
    try go_wp2_with fail
    refine ⟨rfl, .tuple #[.agg #[.int .i64 x.entities, .int .i64 x.limit, .slice (some ⟨gb, go, none⟩) x.gens.length c1, .slice (some ⟨fb, fo, none⟩) m c2], .agg #[.int .i64 j, .int .i64 g], .int .i64 0], by simp only [results, hfr]; go_simp, ?_⟩
    clear q0_0 q1_0 q2_0
    rw [HE.out]
    refine ⟨_, rfl, ?_, Only.fin HB0.out O2.out⟩
    have h := rIds_agg (x := ⟨x.entities, x.limit, x.gens, x.free.dropLast⟩) (Q := fun b => Q b ∨ w.heap.size ≤ b) (w := v3) WE.out WL.out (sl_out F1.out (Only.fin HB0.out O2.out)) (by rw [List.dropLast_eq_take]; exact sl_take (sl_out F2.out (Only.fin HB0.out O2.out)) _)
    have e1 : x.free.dropLast.length = m := by rw [List.length_dropLast, HM.out]; rfl
    dsimp only at h
    rw [e1] at h
    exact h
end Go.Proofs.Yteljibjbndpncaa
