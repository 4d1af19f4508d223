/- Texts on which the proofs stand: Give, IDs, WatchFind, PartsSame. No condition is laid on any input. -/
import Derived.Test.YteljibjbndpncaaJsG9
import Derived.Laws.Externs
import Derived.Lib.Bytealg
namespace Go.Proofs.Yteljibjbndpncaa
open Go.RowKit

theorem infoI : (Try.prog.info? 3).map (fun i => (i.zero, i.size)) = some (some (.int .i64 0), 1) := by kernel_rfl
theorem atI_some {x : DIds} {i : Int} {d : DID} (h : atI x i = some d) : ∃ j : Nat, i = (j : Int) ∧ d.index = (j : Int) ∧ x.gens[j]? = some d.gen ∧ d.gen < x.limit ∧ (j : Int) ∉ x.free := by
  unfold atI at h
  split at h
  · rename_i h0
    split at h
    · rename_i g hg
      split at h
      · rename_i hl
        obtain rfl := Option.some.inj h
        refine ⟨i.toNat, by omega, by dsimp only; omega, hg, hl, ?_⟩
        rw [Int.toNat_of_nonneg h0.1]; exact h0.2
      · cases h
    · cases h
  · cases h
/-- A name is given back. -/
def giveI (x : DIds) (d : DID) : DIds := ⟨x.entities, x.limit, x.gens.set d.index.toNat (d.gen + 1), if d.gen + 1 < x.limit then x.free ++ [d.index] else x.free⟩
def GivePost (Q : Nat → Prop) (w : World) (r : DIds) (e : Ending) (w' : World) : Prop :=
  ∃ u, e = .returned (.tuple #[u, .int .i64 0]) ∧ rIds.val (fun b => Q b ∨ w.heap.size ≤ b) w' u r ∧ Below w.heap.size w w'
theorem share4 {α1 α2 α3 α4 β : Type} {G : Prop} (S : α4 → β → Prop) {Q : α1 → α2 → α3 → α4 → β → Prop} (leaf : (∀ a b c d y, S d y → Q a b c d y) → G) (main : ∀ a b c d y, S d y → Q a b c d y) : G := leaf main

set_option maxRecDepth 100000 in
set_option maxHeartbeats 2000000 in
/-- r06.Give -/
theorem give_calls {Q : Nat → Prop} {w : World} {v : Value} {x : DIds} {d : DID} (hx : rIds.val Q w v x) (ha : atI x d.index = some d) (hl : x.gens.length ≤ 100000) (hf : x.free.length ≤ 100000) (hlim : x.limit ≤ 1073741824) :
    Calls Try.prog 150 #[v, .agg #[.int .i64 d.index, .int .i64 d.gen]] w (GivePost Q w (giveI x d)) := by
  have HX := Lib.hid hx
  obtain ⟨A1, c1, A2, c2, rfl, w0, w1, f1, f2⟩ := rIds_val hx
  have l1 := f1.2.1
  have l2 := f2.2.1
  have m1 := f1.1
  have m2 := f2.1
  have F1 := Lib.hid f1
  have F2 := Lib.hid f2
  have WE := Lib.hid w0
  have WL := Lib.hid w1
  unfold maxLen at l1 l2
  have hfr : Try.f150.results = #[.cell 4 142, .tmp 5] := rfl
  clear hx f1 f2 w0 w1
  have HA := Lib.hid ha
  obtain ⟨j, hj, _, hgj, hgl, hjf⟩ := atI_some ha
  obtain ⟨di, g⟩ := d
  dsimp only at hj hgj hgl HA ⊢
  subst hj
  have hjl : j < x.gens.length := (List.getElem?_eq_some_iff.1 hgj).1
  have hgw : -9223372036854775808 ≤ g ∧ g < 1073741824 := by
    obtain ⟨_, _, _, _, _, hw⟩ := int_at F1.out.2.2 hgj
    have h : IntKind.i64.min ≤ g ∧ g ≤ IntKind.i64.max := by simpa [Lit.wf] using hw
    have h1 : IntKind.i64.min = -9223372036854775808 := rfl
    omega
  have hg1 : (g + 1 : Int) ≤ 1073741824 := by omega
  have iw : IntKind.i64.wrap (g + 1) = g + 1 := IntWalk.i64_in _ ⟨by omega, by omega⟩
  have HGJ := Lib.hid hgj
  have HJL := Lib.hid hjl
  have HL := Lib.hid hl
  have HF := Lib.hid hf
  have HG := Lib.hid hgw
  clear ha hjf hgj hl hf hgw
  obtain ⟨W0, hW0⟩ : ∃ W, (((w.alloc (.cells #[.int .i64 x.entities, .int .i64 x.limit, .slice A1 x.gens.length c1, .slice A2 x.free.length c2] 142)).alloc (.cells #[.int .i64 j, .int .i64 g] 114)).alloc (.cells #[.int .i64 0, .int .i64 0, .slice none 0 0, .slice none 0 0] 142)) = W := ⟨_, rfl⟩
  have hz0 : W0.heap.size = w.heap.size + 3 := by rw [← hW0]; simp
  have hb0 : Below w.heap.size w W0 := by rw [← hW0]; exact (((Below.refl _ _).alloc (Nat.le_refl _) _).alloc (by first | (simp; done) | (simp; omega)) _).alloc (by first | (simp; done) | (simp; omega)) _
  have HZ := Lib.hid hz0
  have HB0 := Lib.hid hb0
  have R0_0 := Lib.hid (show W0.heap[w.heap.size]? = some (.cells #[.int .i64 x.entities, .int .i64 x.limit, .slice A1 x.gens.length c1, .slice A2 x.free.length c2] 142 (0, 0)) by rw [← hW0]; exact alloc_old (alloc_old (alloc_at rfl)))
  have R1_0 := Lib.hid (show W0.heap[w.heap.size + 1]? = some (.cells #[.int .i64 j, .int .i64 g] 114 (0, 0)) by rw [← hW0]; exact alloc_old (alloc_at (by simp)))
  have R2_0 := Lib.hid (show W0.heap[w.heap.size + 1 + 1]? = some (.cells #[.int .i64 0, .int .i64 0, .slice none 0 0, .slice none 0 0] 142 (0, 0)) by rw [← hW0]; exact alloc_at (by simp))
  have O0 := Lib.hid (Only.refl (Box w 3) W0)
  have Vx_0 := Lib.hid (show rIds.val (In Q w 3) W0 (.agg #[.int .i64 x.entities, .int .i64 x.limit, .slice A1 x.gens.length c1, .slice A2 x.free.length c2]) x from val_in HX.out hb0)
  have Vg_0 := Lib.hid (show (Rep.int .i64).list.val (In Q w 3) W0 (.slice A1 x.gens.length c1) x.gens from val_in F1.out.val hb0)
  have Vf_0 := Lib.hid (show (Rep.int .i64).list.val (In Q w 3) W0 (.slice A2 x.free.length c2) x.free from val_in F2.out.val hb0)
  clear hz0 hb0
  have q0_0 := rw4 R0_0.out
  have q1_0 := rw2 R1_0.out
  have q2_0 := rw4 R2_0.out
  go_enter Try.func150, Try.ntmps150
  go_wp2_with fail
  try rw [hW0]
  clear hW0
  try go_wp2_with fail
  clear q0_0 q1_0 q2_0
  refine (alive_calls (d := ⟨j, g⟩) Vx_0.out).mono ?_
  rintro e w1 ⟨rfl, hb⟩
  have S1 := Lib.hid (show Only (Box w 3) W0 w1 from Only.of_below hb)
  have O1 := Lib.hid (O0.out.trans S1.out)
  have R0_1 := Lib.hid (row_call hb R0_0.out)
  have R1_1 := Lib.hid (row_call hb R1_0.out)
  have R2_1 := Lib.hid (row_call hb R2_0.out)
  have Vx_1 := Lib.hid (val_only Vx_0.out S1.out)
  have Vg_1 := Lib.hid (val_only Vg_0.out S1.out)
  have Vf_1 := Lib.hid (val_only Vf_0.out S1.out)
  clear hb
  rw [decide_eq_true HA.out]
  obtain ⟨w2, hn1⟩ : ∃ W, w1.alloc (.cells #[] 3) = W := ⟨_, rfl⟩
  have HBw2 := Lib.hid (show Below w1.heap.size w1 w2 by rw [← hn1]; exact (Below.refl _ _).alloc (Nat.le_refl _) _)
  have k1 := row_call HBw2.out R0_1.out
  have k1_0 := rw4 k1
  clear k1
  have k2 := row_call HBw2.out R1_1.out
  have k2_0 := rw2 k2
  clear k2
  have k3 := row_call HBw2.out R2_1.out
  have k3_0 := rw4 k3
  clear k3
  have HA2 := Lib.hid (show (Rep.int .i64).acc 3 w1.heap.size (fun _ => False) w2 (.slice (some ⟨w1.heap.size, 0, none⟩) 0 0) [] by rw [← hn1]; exact Rep.acc_made w1 #[] 0 (Nat.le_refl _) (by simp [maxLen]) (by simp))
  have HVG := Lib.hid (val_only Vg_1.out (Only.of_below HBw2.out))
  have q0_0 := rw4 R0_1.out
  have q1_0 := rw2 R1_1.out
  have q2_0 := rw4 R2_1.out
  go_wp2_with (with_reducible refine stopApp rfl ?_)
  refine Lib.hid ?_
  try rw [hn1]
  clear hn1
  clear k1_0 k2_0 k3_0 q0_0 q1_0 q2_0
  refine wpList_spread_leaf (e := 3) (base := w1.heap.size) (Q := fun _ => False) (Rep.leaf_int .i64) rfl _ _ 27 rfl (.int .i64 0) 1 8 Try.underlying27 info3 rfl (by decide) rfl _ [] (by exact rfl) HA2.out _ x.gens (by exact rfl) HVG.out (by have := HL.out; unfold maxLen; simp; omega) (by have := HL.out; simp; omega) HBw2.out.size ?_
  intro v3 w3 hacc3 hgr3 hat3
  rw [List.nil_append] at hacc3
  have HB3 := Lib.hid (Rep.acc_below HA2.out HBw2.out hgr3 HBw2.out.size)
  have HA3 := Lib.hid hacc3
  obtain ⟨g3, cap3, es3, rfl, hg3, _, hl3, hc3, hrd3, hce3, hfz3⟩ := acc_get hacc3 HGJ.out
  obtain ⟨rfl, _⟩ := hrd3
  have hcg : w3.cell? ⟨g3, j, none⟩ = some (.int .i64 g) := by simpa [Rep.int] using hce3 0 _ rfl
  have hzg := hfz3 j
  have HG3 := Lib.hid hg3
  have HL3 := Lib.hid (show x.gens.length ≤ cap3 ∧ cap3 ≤ maxLen from ⟨hl3, hc3⟩)
  unfold maxLen at hc3
  have hn0 : ¬ g3 = w.heap.size := by have := O1.out.size; have := HZ.out; omega
  have hn1 : ¬ w.heap.size = g3 := by omega
  clear hacc3 hgr3 hat3 hg3 hce3 hfz3
  have k4 := row_call HB3.out R0_1.out
  have k4_0 := rw4 k4
  clear k4
  have k5 := row_call HB3.out R1_1.out
  have k5_0 := rw2 k5
  clear k5
  have k6 := row_call HB3.out R2_1.out
  have k6_0 := rw4 k6
  clear k6
  go_wp2_with fail
  clear hcg hzg hn0 hn1
  clear k4_0 k5_0 k6_0
  refine nm_region (fun w4 hnm => ?_)
  have S2 := Lib.hid (show Only (Box w 3) w1 w4 from (by rw [hnm]; exact (((Only.of_below HB3.out : Only (Box w 3) w1 w3)).put ⟨by omega, by omega⟩).late (by have := HG3.out; omega)))
  have O2 := Lib.hid (O1.out.trans S2.out)
  have R0_2 := Lib.hid (show w4.heap[w.heap.size]? = some (.cells #[.int .i64 x.entities, .int .i64 x.limit, .slice (some ⟨g3, 0, none⟩) x.gens.length cap3, .slice A2 x.free.length c2] 142 (0, 0)) from (by rw [hnm]; exact row_other (heap_setRow (row_call HB3.out R0_1.out)) (by have := HG3.out; have := O1.out.size; have := HZ.out; omega)))
  have R1_2 := Lib.hid (row_nm hnm (row_other (row_other (row_call HB3.out R1_1.out) (by omega)) (by have := HG3.out; have := O1.out.size; have := HZ.out; omega)))
  have R2_2 := Lib.hid (row_nm hnm (row_other (row_other (row_call HB3.out R2_1.out) (by omega)) (by have := HG3.out; have := O1.out.size; have := HZ.out; omega)))
  have Vx_2 := Lib.hid (val_only Vx_1.out S2.out)
  have Vg_2 := Lib.hid (val_only Vg_1.out S2.out)
  have Vf_2 := Lib.hid (val_only Vf_1.out S2.out)
  have HA4 := Lib.hid (show (Rep.int .i64).acc 3 w1.heap.size (fun _ => False) w4 (.slice (some ⟨g3, 0, none⟩) x.gens.length cap3) (x.gens.set j (g + 1)) by
    rw [hnm]
    have h1 : (Rep.int .i64).acc 3 w1.heap.size (fun _ => False) (w3.setCell ⟨w.heap.size, 2, none⟩ (.slice (some ⟨g3, 0, none⟩) x.gens.length cap3)) (.slice (some ⟨g3, 0, none⟩) x.gens.length cap3) x.gens := Rep.acc_keep (fun b hb _ => Below.heap_setCell _ _ _ _ (fun e => by have e2 : b = w.heap.size := e; rcases hb with hb | hb; (· exact hb); have e3 : g3 = b := Option.some.inj hb; have := HG3.out; have := O1.out.size; have := HZ.out; omega)) (fun _ h _ => h) HA3.out
    have h2 := acc_cell (o := 0) (x' := g + 1) (u := .int .i64 (g + 1)) h1 rfl HGJ.out (by decide) (fun es h => by obtain ⟨rfl, _⟩ := h; exact ⟨rfl, wf_i64 (by have := HG.out; omega) (by omega)⟩)
    simpa [Rep.int] using h2)
  clear hnm
  skip
  have VG_2 := Lib.hid (show (Rep.int .i64).list.val (In Q w 3) w4 (.slice (some ⟨g3, 0, none⟩) x.gens.length cap3) (x.gens.set j (g + 1)) from Rep.val_mono (fun b hb _ => .inr (by have := O1.out.size; have := HZ.out; omega)) (Rep.acc_fresh HA4.out))
  have HC4 := Lib.hid (show w4.cell? ⟨g3, j, none⟩ = some (.int .i64 (g + 1)) by
    obtain ⟨g5, _, es5, he5, _, _, _, _, hrd5, hce5, _⟩ := acc_get HA4.out (List.getElem?_set_self HJL.out)
    obtain ⟨rfl, _⟩ := hrd5
    rw [List.length_set] at he5
    cases he5
    simpa [Rep.int] using hce5 0 _ rfl)
  have HW4 := Lib.hid (show w1.heap.size ≤ w4.heap.size by exact S2.out.size)
  by_cases hlt : g + 1 < x.limit
  · skip
    refine wp_region_held_drew (S := fun W => Below w4.heap.size w4 W) (by kernel_rfl) ((Below.refl _ _).drew) (fun s0 => ?_)
    obtain ⟨v1, hv0⟩ : ∃ V, V = w4.drew := ⟨_, rfl⟩
    rw [← hv0] at s0 ⊢
    have t1 : Below w4.heap.size w4 v1 := s0
    clear hv0 s0
    refine tkHV (i := 0) (v := .pointer (some ⟨w.heap.size, 2, none⟩)) rfl t1 ?_
    go_simp
    refine tkH (i := 1) (v := .slice (some ⟨g3, 0, none⟩) x.gens.length cap3) rfl (Or.inl ⟨by rfl, fun w' h => by have e := row_call (h : Below w4.heap.size w4 w') R0_2.out; have e0 := cell_row e 0; have e1 := cell_row e 1; have e2 := cell_row e 2; have e3 := cell_row e 3; go_simp⟩) t1 ?_
    go_simp
    refine tkHV (i := 2) (v := .pointer (some ⟨w.heap.size + 1, 0, none⟩)) rfl t1 ?_
    go_simp
    refine tkH (i := 3) (v := .int .i64 j) rfl (Or.inl ⟨by rfl, fun w' h => by have e := row_call (h : Below w4.heap.size w4 w') R1_2.out; have e0 := cell_row e 0; have e1 := cell_row e 1; go_simp⟩) t1 ?_
    go_simp
    refine tkHV (i := 4) (v := .pointer (some ⟨g3, 0 + j, none⟩)) rfl t1 ?_
    go_simp
    refine tkH (i := 5) (v := .int .i64 (g + 1)) rfl (Or.inl ⟨by rfl, fun w' h => by have e := cell_call (h : Below w4.heap.size w4 w') HC4.out; go_simp⟩) t1 ?_
    go_simp
    refine tkHV (i := 6) (v := .pointer (some ⟨w.heap.size, 1, none⟩)) rfl t1 ?_
    go_simp
    refine tkH (i := 7) (v := .int .i64 x.limit) rfl (Or.inl ⟨by rfl, fun w' h => by have e := row_call (h : Below w4.heap.size w4 w') R0_2.out; have e0 := cell_row e 0; have e1 := cell_row e 1; have e2 := cell_row e 2; have e3 := cell_row e 3; go_simp⟩) t1 ?_
    go_simp
    refine tkHV (i := 8) (v := .bool true) rfl t1 ?_
    go_simp
    refine wpAnyH_done (by kernel_rfl) ?_ _
    have S3 := Lib.hid (show Only (Box w 3) w4 v1 from Only.of_below t1)
    have O3 := Lib.hid (O2.out.trans S3.out)
    have R0_3 := Lib.hid (row_call t1 R0_2.out)
    have R1_3 := Lib.hid (row_call t1 R1_2.out)
    have R2_3 := Lib.hid (row_call t1 R2_2.out)
    have Vx_3 := Lib.hid (val_only Vx_2.out S3.out)
    have Vg_3 := Lib.hid (val_only Vg_2.out S3.out)
    have Vf_3 := Lib.hid (val_only Vf_2.out S3.out)
    have VG_3 := Lib.hid (val_only VG_2.out S3.out)
    have q0_0 := cl4 R0_3.out
    have q1_0 := cl2 R1_3.out
    have q2_0 := cl4 R2_3.out
    go_wp2_with fail
    clear q0_0 q1_0 q2_0
    refine wp_region_tail (S := fun W => Below v1.heap.size v1 W) (T := [9]) (by kernel_rfl) ((Below.refl _ _).drew) (fun s0 => ?_)
    obtain ⟨u0, hu0⟩ : ∃ V, V = v1.drew := ⟨_, rfl⟩
    rw [← hu0] at s0 ⊢
    have t0 : Below v1.heap.size v1 u0 := s0
    clear hu0 s0
    have HVF := Lib.hid (show ∀ V, Below v1.heap.size v1 V → (Rep.int .i64).list.val (In Q w 3) V (.slice A2 x.free.length c2) x.free from fun V h => val_only Vf_3.out (Only.of_below h))
    have HJW := Lib.hid (show (Lit.int .i64 (j : Int)).wf = true from wf_i64 (by omega) (by have := HJL.out; have := HL.out; omega))
    refine tkTV (i := 1) (v := .pointer (some ⟨w.heap.size, 3, none⟩)) rfl t0 ?_
    go_simp
    refine tkT (i := 2) (v := .slice A2 x.free.length c2) rfl (Or.inl ⟨by rfl, fun w' h => by have e := row_call (h : Below v1.heap.size v1 w') R0_3.out; have e0 := cell_row e 3; go_simp⟩) t0 ?_
    go_simp
    refine tkTV (i := 4) (v := .pointer (some ⟨w.heap.size + 1, 0, none⟩)) rfl t0 ?_
    go_simp
    refine tkT (i := 5) (v := .int .i64 j) rfl (Or.inl ⟨by rfl, fun w' h => by have e := row_call (h : Below v1.heap.size v1 w') R1_3.out; have e0 := cell_row e 0; go_simp⟩) t0 ?_
    go_simp
    apply share4 (α1 := Value) (α2 := Value) (α3 := Nat) (fun (v : Value) (W : World) => (Rep.int .i64).acc 3 v1.heap.size (fun _ => False) W v (x.free ++ [(j : Int)]) ∧ Below v1.heap.size v1 W)
    · intro key
      have KEY := Lib.hid key
      clear key
      refine wpAnyT_all (rs := [0, 6]) (by kernel_rfl) (by simp) ?_
      intro i hi
      have hi2 : i = 0 ∨ i = 6 := by simpa using hi
      clear hi
      rcases hi2 with rfl | rfl
      · skip
        refine wpOp_step rfl (fun K hK => ?_)
        refine step_run rfl (exec_empty rfl Try.underlying27 infoI) ?_
        obtain ⟨u1, hu1⟩ : ∃ V, V = u0.alloc (.cells #[] 3) := ⟨_, rfl⟩
        have t1 : Below v1.heap.size v1 u1 := by rw [hu1]; exact t0.alloc (Below.size t0) _
        have a1 : (Rep.int .i64).acc 3 v1.heap.size (fun _ => False) u1 (.slice (some ⟨u0.heap.size, 0, none⟩) 0 0) [] := by rw [hu1]; exact Rep.acc_made u0 #[] 0 (Below.size t0) (by simp [maxLen]) (by simp)
        obtain ⟨e1, he1⟩ : ∃ v, v = Value.slice (some ⟨u0.heap.size, 0, none⟩) 0 0 := ⟨_, rfl⟩
        rw [← hu1, ← he1]
        rw [← he1] at a1
        clear hu1 he1
        refine hK _ _ ⟨fun _ => t1, ?_⟩
        clear hK K
        go_simp
        refine wpAnyT_all (rs := [3, 6]) (by kernel_rfl) (by simp) ?_
        intro i hi
        have hi2 : i = 3 ∨ i = 6 := by simpa using hi
        clear hi
        rcases hi2 with rfl | rfl
        · skip
          refine wpOp_step rfl (fun K hK => ?_)
          refine step_spread_leaf (e := 3) (base := v1.heap.size) (Q := fun _ => False) (Rep.leaf_int .i64) rfl _ _ 27 rfl (.int .i64 0) 1 8 Try.underlying27 info3 rfl (by decide) rfl _ [] (by exact rfl) a1 _ x.free (by exact rfl) (HVF.out _ t1) (by have := HF.out; unfold maxLen; simp; omega) (by have := HF.out; simp; omega) (Below.size t1) ?_
          intro s2 u2 a2 hgr2 hat2
          rw [List.nil_append] at a2
          have t2 : Below v1.heap.size v1 u2 := Rep.acc_below a1 t1 hgr2 (Below.size t1)
          clear hgr2 hat2
          refine hK _ _ ⟨fun _ => t2, ?_⟩
          clear hK K
          go_simp
          refine wpAnyT_all (rs := [6]) (by kernel_rfl) (by simp) ?_
          intro i hi
          obtain rfl : i = 6 := by simpa using hi
          clear hi
          refine wpOp_step rfl (fun K hK => ?_)
          refine step_run rfl (exec_buildSlice (vy := .int .i64 j) rfl (.int .i64 0) 1 Try.underlying27 infoI rfl rfl (by decide)) ?_
          obtain ⟨u3, hu3⟩ : ∃ V, V = u2.alloc (.cells (Value.cells (.int .i64 j)) 3) := ⟨_, rfl⟩
          have t3 : Below v1.heap.size v1 u3 := by rw [hu3]; exact t2.alloc (Below.size t2) _
          obtain ⟨k3, hk3⟩ : ∃ k, k = u2.heap.size := ⟨_, rfl⟩
          have b3 : u3.heap[k3]? = some (.cells #[.int .i64 j] 3 (0, 0)) := by rw [hu3, hk3]; exact heap_alloc_new _ _
          have a3 := (show (Rep.int .i64).acc 3 v1.heap.size (fun _ => False) u3 _ _ from Rep.acc_later a2 (by rw [hu3]; exact (Below.refl _ _).alloc (Nat.le_refl _) _))
          have ne3 : ∀ k, (s2 : Value).ownBlock = some k → k ≠ k3 := fun k hk e => by have := (Rep.acc_own a2 k hk).2; omega
          rw [← hu3, ← hk3]
          clear hu3 hk3
          refine hK _ _ ⟨fun _ => t3, ?_⟩
          clear hK K
          go_simp
          refine wpAnyT_all (rs := [7]) (by kernel_rfl) (by simp) ?_
          intro i hi
          obtain rfl : i = 7 := by simpa using hi
          clear hi
          refine wpOp_step rfl (fun K hK => ?_)
          refine step_spread_leaf (e := 3) (base := v1.heap.size) (Q := fun _ => False) (Rep.leaf_int .i64) rfl _ _ 27 rfl (.int .i64 0) 1 8 Try.underlying27 info3 rfl (by decide) rfl _ x.free (by exact rfl) a3 _ [(j : Int)] (by exact rfl) (one_int b3 HJW.out) (by have := HF.out; unfold maxLen; simp; omega) (by have := HF.out; simp; omega) (Below.size t3) ?_
          intro s4 u4 a4 hgr4 hat4
          have t4 : Below v1.heap.size v1 u4 := Rep.acc_below a3 t3 hgr4 (Below.size t3)
          refine hK _ _ ⟨fun _ => t4, ?_⟩
          clear hK K
          go_simp
          exact KEY.out e1 s2 k3 s4 u4 ⟨a4, t4⟩
        · skip
          refine wpOp_step rfl (fun K hK => ?_)
          refine step_run rfl (exec_buildSlice (vy := .int .i64 j) rfl (.int .i64 0) 1 Try.underlying27 infoI rfl rfl (by decide)) ?_
          obtain ⟨u5, hu5⟩ : ∃ V, V = u1.alloc (.cells (Value.cells (.int .i64 j)) 3) := ⟨_, rfl⟩
          have t5 : Below v1.heap.size v1 u5 := by rw [hu5]; exact t1.alloc (Below.size t1) _
          obtain ⟨k5, hk5⟩ : ∃ k, k = u1.heap.size := ⟨_, rfl⟩
          have b5 : u5.heap[k5]? = some (.cells #[.int .i64 j] 3 (0, 0)) := by rw [hu5, hk5]; exact heap_alloc_new _ _
          have a5 := (show (Rep.int .i64).acc 3 v1.heap.size (fun _ => False) u5 _ _ from Rep.acc_later a1 (by rw [hu5]; exact (Below.refl _ _).alloc (Nat.le_refl _) _))
          have ne5 : ∀ k, (e1 : Value).ownBlock = some k → k ≠ k5 := fun k hk e => by have := (Rep.acc_own a1 k hk).2; omega
          rw [← hu5, ← hk5]
          clear hu5 hk5
          refine hK _ _ ⟨fun _ => t5, ?_⟩
          clear hK K
          go_simp
          refine wpAnyT_all (rs := [3]) (by kernel_rfl) (by simp) ?_
          intro i hi
          obtain rfl : i = 3 := by simpa using hi
          clear hi
          refine wpOp_step rfl (fun K hK => ?_)
          refine step_spread_leaf (e := 3) (base := v1.heap.size) (Q := fun _ => False) (Rep.leaf_int .i64) rfl _ _ 27 rfl (.int .i64 0) 1 8 Try.underlying27 info3 rfl (by decide) rfl _ [] (by exact rfl) a5 _ x.free (by exact rfl) (HVF.out _ t5) (by have := HF.out; unfold maxLen; simp; omega) (by have := HF.out; simp; omega) (Below.size t5) ?_
          intro s6 u6 a6 hgr6 hat6
          rw [List.nil_append] at a6
          have t6 : Below v1.heap.size v1 u6 := Rep.acc_below a5 t5 hgr6 (Below.size t5)
          have b6 := (hgr6.block k5 (Array.getElem?_eq_some_iff.1 b5).1 (fun e => ne5 _ e.symm rfl)).trans b5
          have ne6 : ∀ k, s6.ownBlock = some k → k ≠ k5 := fun k hk e => by
            rcases hat6 with h | h
            · exact ne5 k (h ▸ hk) e
            · have h1 := Option.some.inj (h.symm.trans hk)
              have := (Array.getElem?_eq_some_iff.1 b5).1
              omega
          clear hgr6 hat6
          refine hK _ _ ⟨fun _ => t6, ?_⟩
          clear hK K
          go_simp
          refine wpAnyT_all (rs := [7]) (by kernel_rfl) (by simp) ?_
          intro i hi
          obtain rfl : i = 7 := by simpa using hi
          clear hi
          refine wpOp_step rfl (fun K hK => ?_)
          refine step_spread_leaf (e := 3) (base := v1.heap.size) (Q := fun _ => False) (Rep.leaf_int .i64) rfl _ _ 27 rfl (.int .i64 0) 1 8 Try.underlying27 info3 rfl (by decide) rfl _ x.free (by exact rfl) a6 _ [(j : Int)] (by exact rfl) (one_int b6 HJW.out) (by have := HF.out; unfold maxLen; simp; omega) (by have := HF.out; simp; omega) (Below.size t6) ?_
          intro s7 u7 a7 hgr7 hat7
          have t7 : Below v1.heap.size v1 u7 := Rep.acc_below a6 t6 hgr7 (Below.size t6)
          refine hK _ _ ⟨fun _ => t7, ?_⟩
          clear hK K
          go_simp
          exact KEY.out e1 s6 k5 s7 u7 ⟨a7, t7⟩
      · skip
        refine wpOp_step rfl (fun K hK => ?_)
        refine step_run rfl (exec_buildSlice (vy := .int .i64 j) rfl (.int .i64 0) 1 Try.underlying27 infoI rfl rfl (by decide)) ?_
        obtain ⟨u8, hu8⟩ : ∃ V, V = u0.alloc (.cells (Value.cells (.int .i64 j)) 3) := ⟨_, rfl⟩
        have t8 : Below v1.heap.size v1 u8 := by rw [hu8]; exact t0.alloc (Below.size t0) _
        obtain ⟨k8, hk8⟩ : ∃ k, k = u0.heap.size := ⟨_, rfl⟩
        have b8 : u8.heap[k8]? = some (.cells #[.int .i64 j] 3 (0, 0)) := by rw [hu8, hk8]; exact heap_alloc_new _ _
        rw [← hu8, ← hk8]
        clear hu8 hk8
        refine hK _ _ ⟨fun _ => t8, ?_⟩
        clear hK K
        go_simp
        refine wpAnyT_all (rs := [0]) (by kernel_rfl) (by simp) ?_
        intro i hi
        obtain rfl : i = 0 := by simpa using hi
        clear hi
        refine wpOp_step rfl (fun K hK => ?_)
        refine step_run rfl (exec_empty rfl Try.underlying27 infoI) ?_
        obtain ⟨u9, hu9⟩ : ∃ V, V = u8.alloc (.cells #[] 3) := ⟨_, rfl⟩
        have t9 : Below v1.heap.size v1 u9 := by rw [hu9]; exact t8.alloc (Below.size t8) _
        have a9 : (Rep.int .i64).acc 3 v1.heap.size (fun _ => False) u9 (.slice (some ⟨u8.heap.size, 0, none⟩) 0 0) [] := by rw [hu9]; exact Rep.acc_made u8 #[] 0 (Below.size t8) (by simp [maxLen]) (by simp)
        have b9 : u9.heap[k8]? = some (.cells #[.int .i64 j] 3 (0, 0)) := by rw [hu9]; exact alloc_old b8
        have ne9 : ∀ k, (Value.slice (some ⟨u8.heap.size, 0, none⟩) 0 0).ownBlock = some k → k ≠ k8 := fun k hk e => by have h1 : u8.heap.size = k := Option.some.inj hk; have := (Array.getElem?_eq_some_iff.1 b8).1; omega
        obtain ⟨e9, he9⟩ : ∃ v, v = Value.slice (some ⟨u8.heap.size, 0, none⟩) 0 0 := ⟨_, rfl⟩
        rw [← hu9, ← he9]
        rw [← he9] at a9 ne9
        clear hu9 he9
        refine hK _ _ ⟨fun _ => t9, ?_⟩
        clear hK K
        go_simp
        refine wpAnyT_all (rs := [3]) (by kernel_rfl) (by simp) ?_
        intro i hi
        obtain rfl : i = 3 := by simpa using hi
        clear hi
        refine wpOp_step rfl (fun K hK => ?_)
        refine step_spread_leaf (e := 3) (base := v1.heap.size) (Q := fun _ => False) (Rep.leaf_int .i64) rfl _ _ 27 rfl (.int .i64 0) 1 8 Try.underlying27 info3 rfl (by decide) rfl _ [] (by exact rfl) a9 _ x.free (by exact rfl) (HVF.out _ t9) (by have := HF.out; unfold maxLen; simp; omega) (by have := HF.out; simp; omega) (Below.size t9) ?_
        intro s10 u10 a10 hgr10 hat10
        rw [List.nil_append] at a10
        have t10 : Below v1.heap.size v1 u10 := Rep.acc_below a9 t9 hgr10 (Below.size t9)
        have b10 := (hgr10.block k8 (Array.getElem?_eq_some_iff.1 b9).1 (fun e => ne9 _ e.symm rfl)).trans b9
        have ne10 : ∀ k, s10.ownBlock = some k → k ≠ k8 := fun k hk e => by
          rcases hat10 with h | h
          · exact ne9 k (h ▸ hk) e
          · have h1 := Option.some.inj (h.symm.trans hk)
            have := (Array.getElem?_eq_some_iff.1 b9).1
            omega
        clear hgr10 hat10
        refine hK _ _ ⟨fun _ => t10, ?_⟩
        clear hK K
        go_simp
        refine wpAnyT_all (rs := [7]) (by kernel_rfl) (by simp) ?_
        intro i hi
        obtain rfl : i = 7 := by simpa using hi
        clear hi
        refine wpOp_step rfl (fun K hK => ?_)
        refine step_spread_leaf (e := 3) (base := v1.heap.size) (Q := fun _ => False) (Rep.leaf_int .i64) rfl _ _ 27 rfl (.int .i64 0) 1 8 Try.underlying27 info3 rfl (by decide) rfl _ x.free (by exact rfl) a10 _ [(j : Int)] (by exact rfl) (one_int b10 HJW.out) (by have := HF.out; unfold maxLen; simp; omega) (by have := HF.out; simp; omega) (Below.size t10) ?_
        intro s11 u11 a11 hgr11 hat11
        have t11 : Below v1.heap.size v1 u11 := Rep.acc_below a10 t10 hgr11 (Below.size t10)
        refine hK _ _ ⟨fun _ => t11, ?_⟩
        clear hK K
        go_simp
        exact KEY.out e9 s10 k8 s11 u11 ⟨a11, t11⟩
    · rintro e1 e2 e3 s6 u6 ⟨hacc6, hb6⟩
      obtain ⟨A6, c6, rfl, _, _⟩ := Rep.acc_form hacc6
      have hln : (x.free ++ [(j : Int)]).length = x.free.length + 1 := by rw [List.length_append]; rfl
      have HA6 := Lib.hid hacc6
      have HB6 := Lib.hid hb6
      rw [hln] at HA6 ⊢
      clear hacc6 hb6 hln
      refine tkTV (i := 8) (v := .pointer (some ⟨w.heap.size, 3, none⟩)) rfl HB6.out ?_
      go_simp
      refine wpAnyT_last (i := 9) rfl (by kernel_rfl) rfl (fun K hK => ?_)
      have eb := row_call HB6.out R0_3.out
      have q3 := cell_row eb 3
      have z3 := frozen_row eb 3
      go_simp
      refine hK _ _ ?_
      clear hK K q3 z3 eb
      refine nm_anyT (fun w5 hnm => ?_)
      have S4 := Lib.hid (show Only (Box w 3) v1 w5 from (by rw [hnm]; exact ((Only.of_below HB6.out : Only (Box w 3) v1 u6)).put ⟨by omega, by omega⟩))
      have O4 := Lib.hid (O3.out.trans S4.out)
      have R0_4 := Lib.hid (show w5.heap[w.heap.size]? = some (.cells #[.int .i64 x.entities, .int .i64 x.limit, .slice (some ⟨g3, 0, none⟩) x.gens.length cap3, .slice A6 (x.free.length + 1) c6] 142 (0, 0)) from (by rw [hnm]; exact heap_setRow (row_call HB6.out R0_3.out)))
      have R1_4 := Lib.hid (row_nm hnm (row_other (row_call HB6.out R1_3.out) (by omega)))
      have R2_4 := Lib.hid (row_nm hnm (row_other (row_call HB6.out R2_3.out) (by omega)))
      have Vx_4 := Lib.hid (val_only Vx_3.out S4.out)
      have Vg_4 := Lib.hid (val_only Vg_3.out S4.out)
      have Vf_4 := Lib.hid (val_only Vf_3.out S4.out)
      have VG_4 := Lib.hid (val_only VG_3.out S4.out)
      have HK5 := Lib.hid (show ∀ b, w.heap.size + 3 ≤ b → w5.heap[b]? = u6.heap[b]? from fun b hb => by rw [hnm]; exact Below.heap_setCell _ _ _ _ (fun e => by have e2 : b = w.heap.size := e; omega))
      clear hnm
      refine wpAnyT_done (by kernel_rfl) ?_ _
      have HZW := Lib.hid (show w.heap.size + 3 ≤ v1.heap.size by have := O3.out.size; have := HZ.out; omega)
      have VF_4 := Lib.hid (show (Rep.int .i64).list.val (In Q w 3) w5 (.slice A6 (x.free.length + 1) c6) (x.free ++ [(j : Int)]) from Rep.val_keep (fun b hb _ => ⟨.inr (Nat.le_trans HZW.out hb), HK5.out b (Nat.le_trans HZW.out hb)⟩) (Rep.acc_fresh HA6.out))
      have q0_0 := rw4 R0_4.out
      have q1_0 := rw2 R1_4.out
      have q2_0 := rw4 R2_4.out
      go_wp2_with fail
      clear q0_0 q1_0 q2_0
      refine nm_post (fun wz hnm => ?_)
      have S5 := Lib.hid (show Only (Box w 3) w5 wz from (by rw [hnm]; exact ((((Only.refl (Box w 3) w5).put ⟨by omega, by omega⟩).put ⟨by omega, by omega⟩).put ⟨by omega, by omega⟩).put ⟨by omega, by omega⟩))
      have O5 := Lib.hid (O4.out.trans S5.out)
      have R0_5 := Lib.hid (row_nm hnm (row_other (row_other (row_other (row_other (R0_4.out) (by omega)) (by omega)) (by omega)) (by omega)))
      have R1_5 := Lib.hid (row_nm hnm (row_other (row_other (row_other (row_other (R1_4.out) (by omega)) (by omega)) (by omega)) (by omega)))
      have R2_5 := Lib.hid (show wz.heap[w.heap.size + 1 + 1]? = some (.cells #[.int .i64 x.entities, .int .i64 x.limit, .slice (some ⟨g3, 0, none⟩) x.gens.length cap3, .slice A6 (x.free.length + 1) c6] 142 (0, 0)) from (by rw [hnm]; exact heap_setRow (heap_setRow (heap_setRow (heap_setRow (R2_4.out))))))
      have Vx_5 := Lib.hid (val_only Vx_4.out S5.out)
      have Vg_5 := Lib.hid (val_only Vg_4.out S5.out)
      have Vf_5 := Lib.hid (val_only Vf_4.out S5.out)
      have VG_5 := Lib.hid (val_only VG_4.out S5.out)
      have VF_5 := Lib.hid (val_only VF_4.out S5.out)
      clear hnm
      have q2_0 := cl4 R2_5.out
      refine ⟨rfl, .tuple #[.agg #[.int .i64 x.entities, .int .i64 x.limit, .slice (some ⟨g3, 0, none⟩) x.gens.length cap3, .slice A6 (x.free.length + 1) c6], .int .i64 0], by simp only [results, hfr]; go_simp, ?_⟩
      clear q2_0
      refine ⟨_, rfl, ?_, Only.fin HB0.out O5.out⟩
      have h := rIds_agg (x := giveI x ⟨j, g⟩) (Q := fun b => Q b ∨ w.heap.size ≤ b) (w := wz) WE.out WL.out (by unfold giveI; dsimp only; rw [Int.toNat_natCast]; exact sl_of (val_out VG_5.out)) (by unfold giveI; dsimp only; rw [if_pos hlt]; exact sl_of (val_out VF_5.out))
      unfold giveI at h ⊢
      dsimp only at h ⊢
      rw [Int.toNat_natCast, if_pos hlt] at *
      rw [List.length_set, List.length_append] at h
      exact h
  · skip
    refine wp_region_held_drew (S := fun W => Below w4.heap.size w4 W) (by kernel_rfl) ((Below.refl _ _).drew) (fun s0 => ?_)
    obtain ⟨v1, hv0⟩ : ∃ V, V = w4.drew := ⟨_, rfl⟩
    rw [← hv0] at s0 ⊢
    have t1 : Below w4.heap.size w4 v1 := s0
    clear hv0 s0
    refine tkHV (i := 0) (v := .pointer (some ⟨w.heap.size, 2, none⟩)) rfl t1 ?_
    go_simp
    refine tkH (i := 1) (v := .slice (some ⟨g3, 0, none⟩) x.gens.length cap3) rfl (Or.inl ⟨by rfl, fun w' h => by have e := row_call (h : Below w4.heap.size w4 w') R0_2.out; have e0 := cell_row e 0; have e1 := cell_row e 1; have e2 := cell_row e 2; have e3 := cell_row e 3; go_simp⟩) t1 ?_
    go_simp
    refine tkHV (i := 2) (v := .pointer (some ⟨w.heap.size + 1, 0, none⟩)) rfl t1 ?_
    go_simp
    refine tkH (i := 3) (v := .int .i64 j) rfl (Or.inl ⟨by rfl, fun w' h => by have e := row_call (h : Below w4.heap.size w4 w') R1_2.out; have e0 := cell_row e 0; have e1 := cell_row e 1; go_simp⟩) t1 ?_
    go_simp
    refine tkHV (i := 4) (v := .pointer (some ⟨g3, 0 + j, none⟩)) rfl t1 ?_
    go_simp
    refine tkH (i := 5) (v := .int .i64 (g + 1)) rfl (Or.inl ⟨by rfl, fun w' h => by have e := cell_call (h : Below w4.heap.size w4 w') HC4.out; go_simp⟩) t1 ?_
    go_simp
    refine tkHV (i := 6) (v := .pointer (some ⟨w.heap.size, 1, none⟩)) rfl t1 ?_
    go_simp
    refine tkH (i := 7) (v := .int .i64 x.limit) rfl (Or.inl ⟨by rfl, fun w' h => by have e := row_call (h : Below w4.heap.size w4 w') R0_2.out; have e0 := cell_row e 0; have e1 := cell_row e 1; have e2 := cell_row e 2; have e3 := cell_row e 3; go_simp⟩) t1 ?_
    go_simp
    refine tkHV (i := 8) (v := .bool false) rfl t1 ?_
    go_simp
    refine wpAnyH_done (by kernel_rfl) ?_ _
    have S3 := Lib.hid (show Only (Box w 3) w4 v1 from Only.of_below t1)
    have O3 := Lib.hid (O2.out.trans S3.out)
    have R0_3 := Lib.hid (row_call t1 R0_2.out)
    have R1_3 := Lib.hid (row_call t1 R1_2.out)
    have R2_3 := Lib.hid (row_call t1 R2_2.out)
    have Vx_3 := Lib.hid (val_only Vx_2.out S3.out)
    have Vg_3 := Lib.hid (val_only Vg_2.out S3.out)
    have Vf_3 := Lib.hid (val_only Vf_2.out S3.out)
    have VG_3 := Lib.hid (val_only VG_2.out S3.out)
    have q0_0 := rw4 R0_3.out
    have q1_0 := rw2 R1_3.out
    have q2_0 := rw4 R2_3.out
    go_wp2_with fail
    clear q0_0 q1_0 q2_0
    refine nm_post (fun wz hnm => ?_)
    have S4 := Lib.hid (show Only (Box w 3) v1 wz from (by rw [hnm]; exact ((((Only.refl (Box w 3) v1).put ⟨by omega, by omega⟩).put ⟨by omega, by omega⟩).put ⟨by omega, by omega⟩).put ⟨by omega, by omega⟩))
    have O4 := Lib.hid (O3.out.trans S4.out)
    have R0_4 := Lib.hid (row_nm hnm (row_other (row_other (row_other (row_other (R0_3.out) (by omega)) (by omega)) (by omega)) (by omega)))
    have R1_4 := Lib.hid (row_nm hnm (row_other (row_other (row_other (row_other (R1_3.out) (by omega)) (by omega)) (by omega)) (by omega)))
    have R2_4 := Lib.hid (show wz.heap[w.heap.size + 1 + 1]? = some (.cells #[.int .i64 x.entities, .int .i64 x.limit, .slice (some ⟨g3, 0, none⟩) x.gens.length cap3, .slice A2 x.free.length c2] 142 (0, 0)) from (by rw [hnm]; exact heap_setRow (heap_setRow (heap_setRow (heap_setRow (R2_3.out))))))
    have Vx_4 := Lib.hid (val_only Vx_3.out S4.out)
    have Vg_4 := Lib.hid (val_only Vg_3.out S4.out)
    have Vf_4 := Lib.hid (val_only Vf_3.out S4.out)
    have VG_4 := Lib.hid (val_only VG_3.out S4.out)
    clear hnm
    have q2_0 := cl4 R2_4.out
    refine ⟨rfl, .tuple #[.agg #[.int .i64 x.entities, .int .i64 x.limit, .slice (some ⟨g3, 0, none⟩) x.gens.length cap3, .slice A2 x.free.length c2], .int .i64 0], by simp only [results, hfr]; go_simp, ?_⟩
    clear q2_0
    refine ⟨_, rfl, ?_, Only.fin HB0.out O4.out⟩
    have h := rIds_agg (x := giveI x ⟨j, g⟩) (Q := fun b => Q b ∨ w.heap.size ≤ b) (w := wz) WE.out WL.out (by unfold giveI; dsimp only; rw [Int.toNat_natCast]; exact sl_of (val_out VG_4.out)) (by unfold giveI; dsimp only; rw [if_neg (Int.not_lt.2 hlt)]; exact sl_of (val_out Vf_4.out))
    unfold giveI at h ⊢
    dsimp only at h ⊢
    rw [Int.toNat_natCast, if_neg (Int.not_lt.2 hlt)] at *
    rw [List.length_set] at h
    exact h
end Go.Proofs.Yteljibjbndpncaa
namespace Go.Proofs.Yteljibjbndpncaa
open Go.RowKit

/-- The place of a component among parts; -1: there is none. -/
def partAt (l : List DPart) (k : Int) : Int := match l.findIdx? (fun p => p.comp == k) with
  | some i => i
  | none => -1
theorem partAt_found {l : List DPart} {k : Int} {j : Nat} (hj : j < l.length) (h : l[j].comp = k) (hb : ∀ p ∈ l.take j, p.comp ≠ k) : partAt l k = j := by
  unfold partAt
  have : l.findIdx? (fun p => p.comp == k) = some j := by
    rw [List.findIdx?_eq_some_iff_getElem]
    refine ⟨hj, by simp [h], fun i hi => ?_⟩
    have := hb l[i] (List.mem_take_iff_getElem.2 ⟨i, by omega, rfl⟩)
    simpa using this
  rw [this]
theorem partAt_none {l : List DPart} {k : Int} (hb : ∀ p ∈ l, p.comp ≠ k) : partAt l k = -1 := by
  unfold partAt
  have : l.findIdx? (fun p => p.comp == k) = none := by
    rw [List.findIdx?_eq_none_iff]
    intro p hp
    have := hb p hp
    simpa using this
  rw [this]
theorem forall_take_succ {α : Type} {P : α → Prop} {l : List α} {k : Nat} (hk : k < l.length) (h : ∀ p ∈ l.take k, P p) (hc : P l[k]) : ∀ p ∈ l.take (k + 1), P p := by
  rw [List.take_succ_eq_append_getElem hk]
  intro p hp
  rcases List.mem_append.1 hp with hp | hp
  · exact h p hp
  · rw [List.mem_singleton.1 hp]; exact hc

set_option maxRecDepth 100000 in
/-- ref11.Part -/
theorem part_calls {Q : Nat → Prop} {w : World} {v : Value} {l : List DPart} {k : Int} (hx : rPart.list.val Q w v l) :
    Calls Try.prog 153 #[v, .int .i64 k] w fun e w' => e = .returned (.int .i64 (partAt l k)) ∧ w' = w := by
  obtain ⟨A, c, rfl, hc1, hc2, hA⟩ := Rep.val_list hx
  unfold maxLen at hc2
  have HA := Lib.hid hA
  clear hx hA
  go_enter Try.func153, Try.ntmps153
  go_wp2_with fail
  go_loop [5] (fun i => ∃ j : Nat, i = .int .i64 j ∧ j ≤ l.length ∧ Hid (∀ p ∈ l.take j, p.comp ≠ k)) (fun i => l.length - (intOf i).toNat)
  case atStart => exact ⟨0, rfl, by omega, Lib.hid (by simp)⟩
  case round =>
    obtain ⟨j, rfl, hj, hb⟩ := hrel
    by_cases hlt : (j : Int) < l.length
    · have hj' : j < l.length := by omega
      obtain ⟨b, off, A2, c2, rfl, _, c0, c1, _, _⟩ := rPart_at HA.out (List.getElem?_eq_getElem hj')
      have F1 := Lib.hid (fun h => partAt_found hj' h hb.out)
      have F2 := Lib.hid (fun h => forall_take_succ (P := fun p : DPart => p.comp ≠ k) hj' hb.out h)
      generalize l[j] = x at *
      by_cases hc : x.comp = k
      · have F := Lib.hid (F1.out hc)
        have g : (x.comp == k) = true := by simp [hc]
        clear hc
        go_wp2_with fail
        go_ret
        exact ⟨by rw [F.out]; rfl, rfl⟩
      · have F := Lib.hid (F2.out hc)
        have g : (x.comp == k) = false := by simp [hc]
        clear hc
        go_wp2_with fail
        go_round
        case rel => exact ⟨j + 1, by go_num, by omega, F⟩
        case measure => simp [intOf]; omega
    · have F := Lib.hid (partAt_none (l := l) (k := k) (by have := hb.out; rwa [List.take_of_length_le (by omega)] at this))
      go_wp2_with fail
      go_ret
      exact ⟨by rw [F.out]; rfl, rfl⟩

/-- bytes.Equal -/
theorem bytesEqual {Q Q' : Nat → Prop} {w : World} {v u : Value} {xs ys : List UInt8} (hx : Rep.byte.list.val Q w v xs) (hy : Rep.byte.list.val Q' w u ys) :
    Calls Try.prog 84 #[v, u] w fun e w' => e = .returned (.bool (decide (xs = ys))) ∧ w' = w := by
  obtain ⟨A, c, rfl, hc1, hc2, hA⟩ := Rep.val_list hx
  obtain ⟨B, d, rfl, hd1, hd2, hB⟩ := Rep.val_list hy
  have h1 := hA.toText (P := Try.prog) Try.underlying33 Try.underlying5 Try.underlying9 c
  have h2 := hB.toText (P := Try.prog) Try.underlying33 Try.underlying5 Try.underlying9 d
  clear hx hy hA hB hc1 hc2 hd1 hd2
  go_enter Try.func84, Try.ntmps84
  go_wp2_with fail
  go_ret
  exact ⟨by simp [Bool.beq_eq_decide_eq], rfl⟩

end Go.Proofs.Yteljibjbndpncaa
namespace Go.Proofs.Yteljibjbndpncaa
open Go.RowKit

/-- The first place of a name; -1: there is none. -/
def placeI (l : List DEnt) (id : DID) : Int := match l.findIdx? (fun e => decide (e.id = id)) with
  | none => -1
  | some i => (i : Int)
theorem placeI_none {l : List DEnt} {id : DID} (h : ∀ e ∈ l, e.id ≠ id) : placeI l id = -1 := by
  unfold placeI
  rw [List.findIdx?_eq_none_iff.2 (fun e he => by simpa using h e he)]
theorem placeI_some {l : List DEnt} {id : DID} {k : Nat} {e : DEnt} (he : l[k]? = some e) (hid : e.id = id) (h : ∀ e ∈ l.take k, e.id ≠ id) : placeI l id = k := by
  obtain ⟨hk, rfl⟩ := List.getElem?_eq_some_iff.1 he
  unfold placeI
  rw [List.findIdx?_eq_some_iff_getElem.2 ⟨hk, by simpa using hid, fun j hj => by
    have := h l[j] (List.mem_take_iff_getElem.2 ⟨j, by omega, rfl⟩)
    simpa using this⟩]
theorem ne_take_succ {l : List DEnt} {id : DID} {k : Nat} {e : DEnt} (he : l[k]? = some e) (hid : ¬ e.id = id) (h : ∀ e ∈ l.take k, e.id ≠ id) : ∀ e ∈ l.take (k + 1), e.id ≠ id := by
  obtain ⟨hk, rfl⟩ := List.getElem?_eq_some_iff.1 he
  intro x hx
  rw [List.take_succ_eq_append_getElem hk, List.mem_append, List.mem_singleton] at hx
  rcases hx with hx | rfl
  · exact h x hx
  · exact hid

end Go.Proofs.Yteljibjbndpncaa
namespace Go.Proofs.Yteljibjbndpncaa
open Go.RowKit

theorem take_eq_succ {α : Type} {l m : List α} {k : Nat} {x y : α} (hx : l[k]? = some x) (hy : m[k]? = some y) (h : l.take k = m.take k) (he : x = y) : l.take (k + 1) = m.take (k + 1) := by
  obtain ⟨h1, rfl⟩ := List.getElem?_eq_some_iff.1 hx
  obtain ⟨h2, rfl⟩ := List.getElem?_eq_some_iff.1 hy
  rw [List.take_succ_eq_append_getElem h1, List.take_succ_eq_append_getElem h2, h, he]
theorem ne_at {α : Type} {l m : List α} {k : Nat} {x y : α} (hx : l[k]? = some x) (hy : m[k]? = some y) (he : x ≠ y) : l ≠ m := by
  rintro rfl
  rw [hx] at hy
  exact he (by injection hy)

end Go.Proofs.Yteljibjbndpncaa
