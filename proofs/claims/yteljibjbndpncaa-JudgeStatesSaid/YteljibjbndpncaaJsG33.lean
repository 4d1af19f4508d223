/- Texts on which the proofs stand: Right12. No condition is laid on any input. -/
import Derived.Test.YteljibjbndpncaaJsG10
import Derived.Test.YteljibjbndpncaaJsG32
namespace Go.Proofs.Yteljibjbndpncaa
open Go.RowKit

theorem v_later {α : Type} {r : Rep α} {Q : Nat → Prop} {W W' : World} {v : Value} {x : α} (h : r.val Q W v x) (hb : Below W.heap.size W W') : r.val Q W' v x := Rep.val_keep (fun b hq hl => ⟨hq, hb.block b hl.lt⟩) h
/-- How many entities stand below an index. -/
def cntE (es : List DEnt) (i : Int) : Nat := (es.takeWhile (belowE i)).length
theorem cnt_here {es : List DEnt} (hu : es.Pairwise fun a b => a.id.index < b.id.index) {p : Nat} {e : DEnt} (he : es[p]? = some e) : cntE es (e.id.index + 1) = p + 1 := by
  unfold cntE
  induction es generalizing p with
  | nil => simp at he
  | cons x r ih =>
    have h2 := List.pairwise_cons.1 hu
    cases p with
    | zero =>
      obtain rfl : x = e := by simpa using he
      rw [List.takeWhile_cons, if_pos (by simp [belowE]; omega), List.length_cons]
      cases r with
      | nil => rfl
      | cons y r =>
        have hy := h2.1 y (by simp)
        rw [List.takeWhile_cons, if_neg (by simp [belowE]; omega)]; rfl
    | succ p =>
      have he : r[p]? = some e := by simpa using he
      have hx := h2.1 e (List.mem_of_getElem? he)
      rw [List.takeWhile_cons, if_pos (by simp [belowE]; omega), List.length_cons, ih h2.2 he]
theorem cnt_none {es : List DEnt} {i : Int} (h : ∀ e ∈ es, e.id.index ≠ i) : cntE es (i + 1) = cntE es i := by
  unfold cntE
  induction es with
  | nil => rfl
  | cons x r ih =>
    have hx := h x (by simp)
    have := ih (fun e he => h e (by simp [he]))
    by_cases hlt : x.id.index < i
    · rw [List.takeWhile_cons, if_pos (by simp [belowE]; omega), List.takeWhile_cons, if_pos (by simpa [belowE] using hlt), List.length_cons, List.length_cons, this]
    · rw [List.takeWhile_cons, if_neg (by simp [belowE]; omega), List.takeWhile_cons, if_neg (by simpa [belowE] using hlt)]
theorem cnt_all {es : List DEnt} {i : Int} (h : ∀ e ∈ es, e.id.index < i) : cntE es i = es.length := by
  unfold cntE
  induction es with
  | nil => rfl
  | cons x r ih =>
    rw [List.takeWhile_cons, if_pos (by simpa [belowE] using h x (by simp)), List.length_cons, ih (fun e he => h e (by simp [he])), List.length_cons]
theorem cnt_zero {es : List DEnt} (h : ∀ e ∈ es, 0 ≤ e.id.index) : cntE es 0 = 0 := by
  unfold cntE
  cases es with
  | nil => rfl
  | cons x r => rw [List.takeWhile_cons, if_neg (by have := h x (by simp); simp [belowE]; omega)]; rfl
theorem alive_at {c : DConf} {s : DState} (h : StOk c s) {j : Nat} {g : Int} (hg : s.gens[j]? = some g) :
    (atI (idsOf c s) j = none ∧ cntE s.ents ((j : Int) + 1) = cntE s.ents j) ∨
    (atI (idsOf c s) j = some ⟨j, g⟩ ∧ cntE s.ents ((j : Int) + 1) = cntE s.ents j + 1 ∧ ∃ e, s.ents[cntE s.ents j]? = some e ∧ e.id = ⟨j, g⟩) := by
  by_cases ha : g < c.gens ∧ (j : Int) ∉ s.free
  · right
    obtain ⟨e, he, hid⟩ := (h.alive j g).2 ⟨hg, ha.1, ha.2⟩
    obtain ⟨p, hp⟩ := List.getElem?_of_mem he
    have h1 := place_pos h.up hp
    have h2 := cnt_here h.up hp
    rw [hid] at h1 h2
    dsimp only at h1 h2
    have h3 : cntE s.ents j = p := h1
    exact ⟨atI_lives hg ha.2 ha.1, by rw [h2, h3], e, by rw [h3]; exact hp, hid⟩
  · left
    refine ⟨?_, cnt_none (fun e he hi => ha ?_)⟩
    · unfold atI
      split
      · rename_i h0
        have hg2 : (idsOf c s).gens[(j : Int).toNat]? = some g := by rw [Int.toNat_natCast]; exact hg
        rw [hg2]
        exact if_neg (fun hl => ha ⟨hl, h0.2⟩)
      · rfl
    · obtain ⟨_, _, h3, h4, h5⟩ := h.idx he
      rw [hi, Int.toNat_natCast, hg] at h3
      rw [hi] at h5
      exact ⟨by rw [Option.some.inj h3]; exact h4, h5⟩

set_option maxRecDepth 100000 in
set_option maxHeartbeats 4000000 in
/-- ref12.Right -/
theorem right12_calls {Q : Nat → Prop} {w : World} {vc v : Value} {c : DConf} {s : DState} (hc : rConf.val Q w vc c) (hx : rState.val Q w v s) (hok : StOk c s) :
    Calls Try.prog 46 #[vc, v] w fun e w' => e = .returned (.bool true) ∧ Below w.heap.size w w' := by
  have HC := Lib.hid hc
  have HX := Lib.hid hx
  have HOK := Lib.hid hok
  have HSM := Lib.hid hok.small
  obtain ⟨A, cap, rfl, _⟩ := rConf_val hc
  obtain ⟨A1, c1, A2, c2, A3, c3, rfl, f1, f2, f3⟩ := rState_val hx
  have l3 := f3.2.1
  have m3 := f3.1
  unfold maxLen at l3
  have HWE := Lib.hid (show (Lit.int .i64 c.entities).wf = true from by have := (right_facts hok.conf).1; exact wf_i64 (by omega) (by omega))
  have HWG := Lib.hid (show (Lit.int .i64 c.gens).wf = true from by have := (right_facts hok.conf).1; exact wf_i64 (by omega) (by omega))
  clear hc hx hok f1 f2 f3
  obtain ⟨W0, hW0⟩ : ∃ W, ((w.alloc (.cells #[.int .i64 c.log, .int .i64 c.pages, .int .i64 c.entities, .int .i64 c.gens, .slice A c.comps.length cap] 49)).alloc (.cells #[.slice A1 s.gens.length c1, .slice A2 s.free.length c2, .slice A3 s.ents.length c3] 75)) = W := ⟨_, rfl⟩
  have hz0 : W0.heap.size = w.heap.size + 2 := by rw [← hW0]; simp
  have hb0 : Below w.heap.size w W0 := by rw [← hW0]; exact ((Below.refl _ _).alloc (Nat.le_refl _) _).alloc (by first | (simp; done) | (simp; omega)) _
  have HZ := Lib.hid hz0
  have HB0 := Lib.hid hb0
  have R0_0 := Lib.hid (show W0.heap[w.heap.size]? = some (.cells #[.int .i64 c.log, .int .i64 c.pages, .int .i64 c.entities, .int .i64 c.gens, .slice A c.comps.length cap] 49 (0, 0)) by rw [← hW0]; exact alloc_old (alloc_at rfl))
  have R1_0 := Lib.hid (show W0.heap[w.heap.size + 1]? = some (.cells #[.slice A1 s.gens.length c1, .slice A2 s.free.length c2, .slice A3 s.ents.length c3] 75 (0, 0)) by rw [← hW0]; exact alloc_at (by simp))
  have O0 := Lib.hid (Only.refl (Box w 2) W0)
  have HVC := Lib.hid (show ∀ V, Below W0.heap.size W0 V → rConf.val (Lo Q w) V (.agg #[.int .i64 c.log, .int .i64 c.pages, .int .i64 c.entities, .int .i64 c.gens, .slice A c.comps.length cap]) c from fun V h => val_lo_later (val_lo HC.out hb0) h)
  have HVS := Lib.hid (show ∀ V, Below W0.heap.size W0 V → rState.val (Lo Q w) V (.agg #[.slice A1 s.gens.length c1, .slice A2 s.free.length c2, .slice A3 s.ents.length c3]) s from fun V h => val_lo_later (val_lo HX.out hb0) h)
  have HVI := Lib.hid (show ∀ V, Below W0.heap.size W0 V → rIds.val (Lo Q w) V (.agg #[.int .i64 c.entities, .int .i64 c.gens, .slice A1 s.gens.length c1, .slice A2 s.free.length c2]) (idsOf c s) from fun V h => by obtain ⟨_, _, _, _, _, _, he, q1, q2, _⟩ := rState_val (HVS.out V h); cases he; exact rIds_agg (x := idsOf c s) HWE.out HWG.out q1 q2)
  clear hz0 hb0
  have q0_0 := rw5 R0_0.out
  have q1_0 := rw3 R1_0.out
  go_enter Try.func46, Try.ntmps46
  go_wp2_with fail
  try rw [hW0]
  clear hW0
  try go_wp2_with fail
  clear q0_0 q1_0
  refine (right_calls (HVC.out _ (Below.refl _ _))).mono ?_
  rintro e w1 ⟨rfl, hb⟩
  rw [HOK.out.conf]
  have HB1 := Lib.hid hb
  have S1 := Lib.hid (show Only (Box w 2) W0 w1 from Only.of_below hb)
  have O1 := Lib.hid (O0.out.trans S1.out)
  have R0_1 := Lib.hid (row_call hb R0_0.out)
  have R1_1 := Lib.hid (row_call hb R1_0.out)
  clear hb
  have q0_0 := cl5 R0_1.out
  have q1_0 := cl3 R1_1.out
  go_wp2_with fail
  clear q0_0 q1_0
  refine (load06_calls (Q := Lo Q w) (by obtain ⟨_, _, _, _, _, _, he, q1, q2, _⟩ := rState_val (HVS.out _ HB1.out); cases he; exact q1.val) (by obtain ⟨_, _, _, _, _, _, he, q1, q2, _⟩ := rState_val (HVS.out _ HB1.out); cases he; exact q2.val) HOK.out).mono ?_
  rintro e w2 ⟨rfl, hb⟩
  have HB2 := Lib.hid (HB1.out.trans (hb.mono HB1.out.size))
  have S2 := Lib.hid (show Only (Box w 2) w1 w2 from Only.of_below hb)
  have O2 := Lib.hid (O1.out.trans S2.out)
  have R0_2 := Lib.hid (row_call hb R0_1.out)
  have R1_2 := Lib.hid (row_call hb R1_1.out)
  clear hb
  have k1 : (w2.alloc (.cells #[.int .i64 c.entities, .int .i64 c.gens, .slice A1 s.gens.length c1, .slice A2 s.free.length c2] 142)).heap[w.heap.size]? = some (.cells #[.int .i64 c.log, .int .i64 c.pages, .int .i64 c.entities, .int .i64 c.gens, .slice A c.comps.length cap] 49 (0, 0)) := alloc_old (R0_2.out)
  have k1_0 := rw5 k1
  clear k1
  have k2 : (w2.alloc (.cells #[.int .i64 c.entities, .int .i64 c.gens, .slice A1 s.gens.length c1, .slice A2 s.free.length c2] 142)).heap[w.heap.size + 1]? = some (.cells #[.slice A1 s.gens.length c1, .slice A2 s.free.length c2, .slice A3 s.ents.length c3] 75 (0, 0)) := alloc_old (R1_2.out)
  have k2_0 := rw3 k2
  clear k2
  have k3 : (w2.alloc (.cells #[.int .i64 c.entities, .int .i64 c.gens, .slice A1 s.gens.length c1, .slice A2 s.free.length c2] 142)).heap[w2.heap.size]? = some (.cells #[.int .i64 c.entities, .int .i64 c.gens, .slice A1 s.gens.length c1, .slice A2 s.free.length c2] 142 (0, 0)) := alloc_at rfl
  have k3_0 := rw4 k3
  clear k3
  go_wp2_with fail
  clear k1_0 k2_0 k3_0
  refine nm_code (fun w3 hnm => ?_)
  have HF1 := Lib.hid (show w.heap.size + 2 ≤ w2.heap.size by have := O2.out.size; have := HZ.out; omega)
  have S3 := Lib.hid (show Only (Box w 2) w2 w3 from (by rw [hnm]; exact (Only.refl (Box w 2) w2).alloc _))
  have O3 := Lib.hid (O2.out.trans S3.out)
  have R0_3 := Lib.hid (row_nm hnm (alloc_old (R0_2.out)))
  have R1_3 := Lib.hid (row_nm hnm (alloc_old (R1_2.out)))
  have Rw2_heap_size_3 := Lib.hid (show w3.heap[w2.heap.size]? = some (.cells #[.int .i64 c.entities, .int .i64 c.gens, .slice A1 s.gens.length c1, .slice A2 s.free.length c2] 142 (0, 0)) from (by rw [hnm]; exact alloc_at rfl))
  have HB3 := Lib.hid (show Below W0.heap.size W0 w3 by rw [hnm]; exact HB2.out.trans (((Below.refl _ _).alloc (Nat.le_refl _) _).mono HB2.out.size))
  clear hnm
  go_loopw [7, 8] (fun u7 i wr => ∃ j : Nat, i = .int .i64 j ∧ u7 = .int .i64 (cntE s.ents j : Nat) ∧ j ≤ s.gens.length ∧ Hid (Below w3.heap.size w3 wr)) (fun _ i _ => s.gens.length - (intOf i).toNat)
  case atStart => exact ⟨0, rfl, by rw [show ((0 : Nat) : Int) = 0 from rfl, cnt_zero HOK.out.nat]; rfl, Nat.zero_le _, Lib.hid (Below.refl _ _)⟩
  case round =>
    obtain ⟨j, rfl, rfl, hj, HBR⟩ := hrel
    have HBW := Lib.hid (HB3.out.trans (HBR.out.mono HB3.out.size))
    obtain ⟨p, hp⟩ : ∃ p, cntE s.ents j = p := ⟨_, rfl⟩
    have HP := Lib.hid hp
    rw [hp]
    clear hp
    have S4 := Lib.hid (show Only (Box w 2) w3 wr from Only.of_below HBR.out)
    have O4 := Lib.hid (O3.out.trans S4.out)
    have R0_4 := Lib.hid (row_call HBR.out R0_3.out)
    have R1_4 := Lib.hid (row_call HBR.out R1_3.out)
    have Rw2_heap_size_4 := Lib.hid (row_call HBR.out Rw2_heap_size_3.out)
    by_cases hlt : (j : Int) < s.gens.length
    · skip
      obtain ⟨g, hgj⟩ : ∃ g, s.gens[j]? = some g := ⟨_, List.getElem?_eq_getElem (by omega)⟩
      have hal := alive_at HOK.out hgj
      rw [HP.out] at hal
      clear hgj
      have q0_0 := cl5 R0_4.out
      have q1_0 := cl3 R1_4.out
      have qn0_0 := cl4 Rw2_heap_size_4.out
      go_wp2_with fail
      clear q0_0 q1_0 qn0_0
      refine (at_calls (i := (j : Int)) (HVI.out _ HBW.out)).mono ?_
      rintro e w4 ⟨rfl, hb⟩
      have HB4 := Lib.hid (HBW.out.trans (hb.mono HBW.out.size))
      have HBR4 := Lib.hid (HBR.out.trans (hb.mono HBR.out.size))
      have S5 := Lib.hid (show Only (Box w 2) wr w4 from Only.of_below hb)
      have O5 := Lib.hid (O4.out.trans S5.out)
      have R0_5 := Lib.hid (row_call hb R0_4.out)
      have R1_5 := Lib.hid (row_call hb R1_4.out)
      have Rw2_heap_size_5 := Lib.hid (row_call hb Rw2_heap_size_4.out)
      clear hb
      rcases hal with ⟨ha, hn⟩ | ⟨ha, hn, e, he, hid⟩
      · skip
        rw [ha]
        have HN := Lib.hid hn
        clear ha hn
        dsimp only [Option.getD_none, Option.isSome_none]
        have hgl := HSM.out
        have iw : IntKind.i64.wrap ((j : Int) + 1) = (j : Int) + 1 := IntWalk.i64_in _ ⟨by omega, by omega⟩
        have q0_0 := cl5 R0_5.out
        have q1_0 := cl3 R1_5.out
        have qn0_0 := cl4 Rw2_heap_size_5.out
        go_wp2_with fail
        clear q0_0 q1_0 qn0_0
        exact ⟨⟨j + 1, by go_num, by rw [show ((j + 1 : Nat) : Int) = (j : Int) + 1 from by omega, HN.out], by omega, Lib.hid (HBR4.out.trans (((Below.refl _ _).alloc (Nat.le_refl _) _).mono HBR4.out.size))⟩, by simp [intOf]; omega⟩
      · skip
        rw [ha]
        have HN := Lib.hid hn
        have HPO := Lib.hid (HOK.out.parts e (List.mem_of_getElem? he))
        have HPK := Lib.hid (show e.parts.length ≤ 32 by have := (HOK.out.parts e (List.mem_of_getElem? he)).len; have := (right_facts HOK.out.conf).1; omega)
        have hpl : (p : Int) < s.ents.length := by have := (List.getElem?_eq_some_iff.1 he).1; omega
        dsimp only [Option.getD_some, Option.isSome_some]
        have HEA := Lib.hid he
        have HID := Lib.hid hid
        clear ha hn he hid
        have HES := Lib.hid (show ∀ V, Below W0.heap.size W0 V → rEnt.At (Lo Q w) V A3 s.ents from fun V h => by obtain ⟨_, _, _, _, _, _, he, _, _, q3⟩ := rState_val (HVS.out V h); cases he; exact q3.2.2)
        obtain ⟨eb, eo, Ap, cp, rfl, _, e0, e1, e2, _, _, hsp⟩ := rEnt_at (HES.out _ HB4.out) HEA.out
        rw [HID.out] at e0 e1
        dsimp only at e0 e1
        have K0 := Lib.hid e0
        have K1 := Lib.hid e1
        have K2 := Lib.hid e2
        have mpp := hsp.1
        have lpp := hsp.2.1
        unfold maxLen at lpp
        have HSP := Lib.hid (v_later hsp.val (Below.refl _ _))
        clear e0 e1 e2 hsp
        have k4 : (w4.alloc (.cells #[.int .i64 j, .int .i64 g] 114)).heap[w.heap.size]? = some (.cells #[.int .i64 c.log, .int .i64 c.pages, .int .i64 c.entities, .int .i64 c.gens, .slice A c.comps.length cap] 49 (0, 0)) := alloc_old (R0_5.out)
        have k4_0 := rw5 k4
        clear k4
        have k5 : (w4.alloc (.cells #[.int .i64 j, .int .i64 g] 114)).heap[w.heap.size + 1]? = some (.cells #[.slice A1 s.gens.length c1, .slice A2 s.free.length c2, .slice (some ⟨eb, eo, none⟩) s.ents.length c3] 75 (0, 0)) := alloc_old (R1_5.out)
        have k5_0 := rw3 k5
        clear k5
        have k6 : (w4.alloc (.cells #[.int .i64 j, .int .i64 g] 114)).heap[w2.heap.size]? = some (.cells #[.int .i64 c.entities, .int .i64 c.gens, .slice A1 s.gens.length c1, .slice A2 s.free.length c2] 142 (0, 0)) := alloc_old (Rw2_heap_size_5.out)
        have k6_0 := rw4 k6
        clear k6
        have k7 : (w4.alloc (.cells #[.int .i64 j, .int .i64 g] 114)).heap[w4.heap.size]? = some (.cells #[.int .i64 j, .int .i64 g] 114 (0, 0)) := alloc_at rfl
        have k7_0 := rw2 k7
        clear k7
        go_wp2_with fail
        clear k4_0 k5_0 k6_0 k7_0
        refine nm_region (fun w5 hnm => ?_)
        have HF2 := Lib.hid (show w.heap.size + 2 ≤ w4.heap.size by have := O5.out.size; have := HZ.out; omega)
        have S6 := Lib.hid (show Only (Box w 2) w4 w5 from (by rw [hnm]; exact (Only.refl (Box w 2) w4).alloc _))
        have O6 := Lib.hid (O5.out.trans S6.out)
        have R0_6 := Lib.hid (row_nm hnm (alloc_old (R0_5.out)))
        have R1_6 := Lib.hid (row_nm hnm (alloc_old (R1_5.out)))
        have Rw2_heap_size_6 := Lib.hid (row_nm hnm (alloc_old (Rw2_heap_size_5.out)))
        have Rw4_heap_size_6 := Lib.hid (show w5.heap[w4.heap.size]? = some (.cells #[.int .i64 j, .int .i64 g] 114 (0, 0)) from (by rw [hnm]; exact alloc_at rfl))
        have HB5 := Lib.hid (show Below W0.heap.size W0 w5 by rw [hnm]; exact HB4.out.trans (((Below.refl _ _).alloc (Nat.le_refl _) _).mono HB4.out.size))
        have HBR5 := Lib.hid (show Below w3.heap.size w3 w5 by rw [hnm]; exact HBR4.out.trans (((Below.refl _ _).alloc (Nat.le_refl _) _).mono HBR4.out.size))
        have HB45 := Lib.hid (show Below w4.heap.size w4 w5 by rw [hnm]; exact (Below.refl _ _).alloc (Nat.le_refl _) _)
        clear hnm
        have K0' := Lib.hid (cell_call HB45.out K0.out)
        have K1' := Lib.hid (cell_call HB45.out K1.out)
        have K2' := Lib.hid (cell_call HB45.out K2.out)
        have hpne : ((p : Int) == (s.ents.length : Int)) = false := beq_eq_false_iff_ne.2 (by omega)
        refine wp_region_held_drew (S := fun W => Below w5.heap.size w5 W) (by kernel_rfl) ((Below.refl _ _).drew) (fun s0 => ?_)
        obtain ⟨v1, hv0⟩ : ∃ V, V = w5.drew := ⟨_, rfl⟩
        rw [← hv0] at s0 ⊢
        have t1 : Below w5.heap.size w5 v1 := s0
        clear hv0 s0
        refine tkHV (i := 0) (v := .int .i64 p) rfl t1 ?_
        go_simp
        refine tkHV (i := 1) (v := .pointer (some ⟨w.heap.size + 1, 2, none⟩)) rfl t1 ?_
        go_simp
        refine tkH (i := 2) (v := .slice (some ⟨eb, eo, none⟩) s.ents.length c3) rfl (Or.inl ⟨by rfl, fun w' h => by have e := row_call (h : Below w5.heap.size w5 w') R1_6.out; have e0 := cell_row e 0; have e1 := cell_row e 1; have e2 := cell_row e 2; go_simp⟩) t1 ?_
        go_simp
        refine tkHV (i := 3) (v := .int .i64 s.ents.length) rfl t1 ?_
        go_simp
        refine tkHV (i := 4) (v := .bool false) rfl t1 ?_
        go_simp
        refine tkHV (i := 5) (v := .bool false) rfl t1 ?_
        go_simp
        refine tkHV (i := 6) (v := .pointer (some ⟨w.heap.size + 1, 2, none⟩)) rfl t1 ?_
        go_simp
        refine tkH (i := 7) (v := .slice (some ⟨eb, eo, none⟩) s.ents.length c3) rfl (Or.inl ⟨by rfl, fun w' h => by have e := row_call (h : Below w5.heap.size w5 w') R1_6.out; have e0 := cell_row e 0; have e1 := cell_row e 1; have e2 := cell_row e 2; go_simp⟩) t1 ?_
        go_simp
        refine tkHV (i := 8) (v := .int .i64 p) rfl t1 ?_
        go_simp
        refine tkHV (i := 9) (v := .pointer (some ⟨eb, eo + p * 3, none⟩)) rfl t1 ?_
        go_simp
        refine tkHV (i := 10) (v := .pointer (some ⟨eb, eo + p * 3, none⟩)) rfl t1 ?_
        go_simp
        refine tkH (i := 11) (v := .agg #[.int .i64 j, .int .i64 g]) rfl (Or.inl ⟨by rfl, fun w' h => by have e0 := cell_call (h : Below w5.heap.size w5 w') K0'.out; have e1 := cell_call (h : Below w5.heap.size w5 w') K1'.out; go_simp⟩) t1 ?_
        go_simp
        refine tkH (i := 12) (v := .agg #[.int .i64 j, .int .i64 g]) rfl (Or.inl ⟨by rfl, fun w' h => by have e := row_call (h : Below w5.heap.size w5 w') Rw4_heap_size_6.out; have e0 := cell_row e 0; have e1 := cell_row e 1; go_simp⟩) t1 ?_
        go_simp
        refine tkHV (i := 13) (v := .bool false) rfl t1 ?_
        go_simp
        refine tkHV (i := 14) (v := .bool false) rfl t1 ?_
        go_simp
        refine wpAnyH_done (by kernel_rfl) ?_ _
        have S7 := Lib.hid (show Only (Box w 2) w5 v1 from Only.of_below t1)
        have O7 := Lib.hid (O6.out.trans S7.out)
        have R0_7 := Lib.hid (row_call t1 R0_6.out)
        have R1_7 := Lib.hid (row_call t1 R1_6.out)
        have Rw2_heap_size_7 := Lib.hid (row_call t1 Rw2_heap_size_6.out)
        have Rw4_heap_size_7 := Lib.hid (row_call t1 Rw4_heap_size_6.out)
        have hv := (show Below w5.heap.size w5 v1 from t1)
        have HBV := Lib.hid (HB5.out.trans (hv.mono HB5.out.size))
        have HBRV := Lib.hid (HBR5.out.trans (hv.mono HBR5.out.size))
        have k2 := cell_call hv K2'.out
        have HSV := Lib.hid (show rPart.list.val (Lo Q w) v1 (.slice Ap e.parts.length cp) e.parts from v_later HSP.out (HB45.out.trans (hv.mono HB45.out.size)))
        clear hv hpne
        have q0_0 := cl5 R0_7.out
        have q1_0 := cl3 R1_7.out
        have qn0_0 := cl4 Rw2_heap_size_7.out
        have qn1_0 := cl2 Rw4_heap_size_7.out
        go_wp2_with fail
        clear k2
        clear q0_0 q1_0 qn0_0 qn1_0
        go_loopw [12, 13, 14] (fun i _ _ wz => ∃ m : Nat, i = .int .i64 m ∧ m ≤ e.parts.length ∧ Hid (Below v1.heap.size v1 wz)) (fun i _ _ _ => e.parts.length - (intOf i).toNat)
        case atStart => exact ⟨0, rfl, Nat.zero_le _, Lib.hid (Below.refl _ _)⟩
        case round =>
          rename World => wz
          obtain ⟨m, rfl, hm, HBZ⟩ := hrel
          have HBZW := Lib.hid (HBV.out.trans (HBZ.out.mono HBV.out.size))
          have S8 := Lib.hid (show Only (Box w 2) v1 wz from Only.of_below HBZ.out)
          have O8 := Lib.hid (O7.out.trans S8.out)
          have R0_8 := Lib.hid (row_call HBZ.out R0_7.out)
          have R1_8 := Lib.hid (row_call HBZ.out R1_7.out)
          have Rw2_heap_size_8 := Lib.hid (row_call HBZ.out Rw2_heap_size_7.out)
          have Rw4_heap_size_8 := Lib.hid (row_call HBZ.out Rw4_heap_size_7.out)
          by_cases hltm : (m : Int) < e.parts.length
          · skip
            obtain ⟨x, hxm⟩ : ∃ x, e.parts[m]? = some x := ⟨_, List.getElem?_eq_getElem (by omega)⟩
            have HXM := Lib.hid hxm
            have HSZ := Lib.hid (HPO.out.size x (List.mem_of_getElem? hxm))
            obtain ⟨pb, po, Ad, cd, rfl, _, d0, d1, _, _⟩ := rPart_at (sl_of (v_later HSV.out HBZ.out)).2.2 hxm
            have D0 := Lib.hid d0
            have D1 := Lib.hid d1
            clear hxm d0 d1
            have q0_0 := cl5 R0_8.out
            have q1_0 := cl3 R1_8.out
            have qn0_0 := cl4 Rw2_heap_size_8.out
            have qn1_0 := cl2 Rw4_heap_size_8.out
            go_wp2_with fail
            clear q0_0 q1_0 qn0_0 qn1_0
            refine wp_region_held_drew (S := fun W => Below wz.heap.size wz W) (by kernel_rfl) ((Below.refl _ _).drew) (fun s0 => ?_)
            obtain ⟨v2, hv0⟩ : ∃ V, V = wz.drew := ⟨_, rfl⟩
            rw [← hv0] at s0 ⊢
            have t2 : Below wz.heap.size wz v2 := s0
            clear hv0 s0
            refine tkH (i := 0) (v := .agg #[.int .i64 c.log, .int .i64 c.pages, .int .i64 c.entities, .int .i64 c.gens, .slice A c.comps.length cap]) rfl (Or.inl ⟨by rfl, fun w' h => by have e := row_call (h : Below wz.heap.size wz w') R0_8.out; have e0 := cell_row e 0; have e1 := cell_row e 1; have e2 := cell_row e 2; have e3 := cell_row e 3; have e4 := cell_row e 4; go_simp⟩) t2 ?_
            go_simp
            refine tkHV (i := 1) (v := .slice (some ⟨pb, po, none⟩) e.parts.length cp) rfl t2 ?_
            go_simp
            refine tkHV (i := 2) (v := .int .i64 m) rfl t2 ?_
            go_simp
            refine tkHV (i := 3) (v := .pointer (some ⟨pb, po + m * 2, none⟩)) rfl t2 ?_
            go_simp
            refine tkHV (i := 4) (v := .pointer (some ⟨pb, po + m * 2, none⟩)) rfl t2 ?_
            go_simp
            refine tkH (i := 5) (v := .int .i64 x.comp) rfl (Or.inl ⟨by rfl, fun w' h => by have e := cell_call (h : Below wz.heap.size wz w') D0.out; go_simp⟩) t2 ?_
            go_simp
            refine wpAnyH_all (rs := [6]) (by kernel_rfl) (by simp) ?_
            intro i hi
            obtain rfl : i = 6 := by simpa using hi
            clear hi
            refine wpOp_step rfl (fun K hK => ?_)
            go_simp
            refine (rsize_calls (k := x.comp) (HVC.out _ (HBZW.out.trans (Below.mono t2 HBZW.out.size)))).mono ?_
            rintro e9 v3 ⟨rfl, hb⟩
            rw [HSZ.out]
            dsimp only [Option.getD_some, Option.isSome_some]
            have t3 : Below wz.heap.size wz v3 := Below.trans t2 (hb.mono (Below.size t2))
            refine hK _ _ ⟨t3, ?_⟩
            clear hb
            clear hK K
            refine tkHV (i := 7) (v := .tuple #[.int .i64 x.data.length, .bool true]) rfl t3 ?_
            go_simp
            refine tkHV (i := 8) (v := .int .i64 x.data.length) rfl t3 ?_
            go_simp
            refine tkHV (i := 9) (v := .bool true) rfl t3 ?_
            go_simp
            refine tkHV (i := 10) (v := .int .i64 x.data.length) rfl t3 ?_
            go_simp
            refine tkHV (i := 11) (v := .bool true) rfl t3 ?_
            go_simp
            refine wpAnyH_done (by kernel_rfl) ?_ _
            have S9 := Lib.hid (show Only (Box w 2) wz v3 from Only.of_below t3)
            have O9 := Lib.hid (O8.out.trans S9.out)
            have R0_9 := Lib.hid (row_call t3 R0_8.out)
            have R1_9 := Lib.hid (row_call t3 R1_8.out)
            have Rw2_heap_size_9 := Lib.hid (row_call t3 Rw2_heap_size_8.out)
            have Rw4_heap_size_9 := Lib.hid (row_call t3 Rw4_heap_size_8.out)
            have hv := (show Below wz.heap.size wz v3 from t3)
            have HBV8 := Lib.hid (HBZ.out.trans (hv.mono HBZ.out.size))
            have D0' := Lib.hid (cell_call hv D0.out)
            have D1' := Lib.hid (cell_call hv D1.out)
            clear hv
            rcases m with _ | mp
            · skip
              have hne0 : ¬ e.parts.length = 0 := by omega
              have q0_0 := cl5 R0_9.out
              have q1_0 := cl3 R1_9.out
              have qn0_0 := cl4 Rw2_heap_size_9.out
              have qn1_0 := cl2 Rw4_heap_size_9.out
              try go_wp2_with fail
              clear q0_0 q1_0 qn0_0 qn1_0
              refine wp_region_held_drew (S := fun W => Below v3.heap.size v3 W) (by kernel_rfl) ((Below.refl _ _).drew) (fun s0 => ?_)
              obtain ⟨v4, hv0⟩ : ∃ V, V = v3.drew := ⟨_, rfl⟩
              rw [← hv0] at s0 ⊢
              have t4 : Below v3.heap.size v3 v4 := s0
              clear hv0 s0
              refine tkHV (i := 0) (v := .bool true) rfl t4 ?_
              go_simp
              refine tkHV (i := 1) (v := .bool false) rfl t4 ?_
              go_simp
              refine tkHV (i := 2) (v := .bool false) rfl t4 ?_
              go_simp
              refine tkHV (i := 3) (v := .int .i64 x.data.length) rfl t4 ?_
              go_simp
              refine tkHV (i := 4) (v := .slice (some ⟨pb, po, none⟩) e.parts.length cp) rfl t4 ?_
              go_simp
              refine tkHV (i := 5) (v := .int .i64 0) rfl t4 ?_
              go_simp
              refine tkHV (i := 6) (v := .pointer (some ⟨pb, po, none⟩)) rfl t4 ?_
              go_simp
              refine tkHV (i := 7) (v := .pointer (some ⟨pb, po + 1, none⟩)) rfl t4 ?_
              go_simp
              refine tkH (i := 8) (v := .slice Ad x.data.length cd) rfl (Or.inl ⟨by rfl, fun w' h => by have e := cell_call (h : Below v3.heap.size v3 w') D1'.out; rw [Nat.zero_mul, Nat.add_zero] at e; go_simp⟩) t4 ?_
              go_simp
              refine tkHV (i := 9) (v := .int .i64 x.data.length) rfl t4 ?_
              go_simp
              refine tkHV (i := 10) (v := .bool false) rfl t4 ?_
              go_simp
              refine tkHV (i := 11) (v := .bool false) rfl t4 ?_
              go_simp
              refine tkHV (i := 12) (v := .bool false) rfl t4 ?_
              go_simp
              refine tkHV (i := 13) (v := .int .i64 0) rfl t4 ?_
              go_simp
              refine tkHV (i := 14) (v := .bool false) rfl t4 ?_
              go_simp
              refine tkHV (i := 15) (v := .bool false) rfl t4 ?_
              go_simp
              refine tkH (i := 16) (v := undef) rfl (Or.inr ⟨by rfl, rfl⟩) t4 ?_
              go_simp
              refine tkH (i := 17) (v := undef) rfl (Or.inr ⟨by rfl, rfl⟩) t4 ?_
              go_simp
              refine tkH (i := 18) (v := undef) rfl (Or.inr ⟨by rfl, rfl⟩) t4 ?_
              go_simp
              refine tkH (i := 19) (v := undef) rfl (Or.inr ⟨by rfl, rfl⟩) t4 ?_
              go_simp
              refine tkH (i := 20) (v := undef) rfl (Or.inr ⟨by rfl, rfl⟩) t4 ?_
              go_simp
              refine tkH (i := 21) (v := undef) rfl (Or.inr ⟨by rfl, rfl⟩) t4 ?_
              go_simp
              refine tkH (i := 22) (v := undef) rfl (Or.inr ⟨by rfl, rfl⟩) t4 ?_
              go_simp
              refine tkH (i := 23) (v := undef) rfl (Or.inr ⟨by rfl, rfl⟩) t4 ?_
              go_simp
              refine tkH (i := 24) (v := undef) rfl (Or.inr ⟨by rfl, rfl⟩) t4 ?_
              go_simp
              refine tkH (i := 25) (v := undef) rfl (Or.inr ⟨by rfl, rfl⟩) t4 ?_
              go_simp
              refine tkH (i := 26) (v := undef) rfl (Or.inr ⟨by rfl, rfl⟩) t4 ?_
              go_simp
              refine tkH (i := 27) (v := undef) rfl (Or.inr ⟨by rfl, rfl⟩) t4 ?_
              go_simp
              refine tkHV (i := 28) (v := .bool false) rfl t4 ?_
              go_simp
              refine tkHV (i := 29) (v := .bool false) rfl t4 ?_
              go_simp
              refine wpAnyH_done (by kernel_rfl) ?_ _
              have S10 := Lib.hid (show Only (Box w 2) v3 v4 from Only.of_below t4)
              have O10 := Lib.hid (O9.out.trans S10.out)
              have R0_10 := Lib.hid (row_call t4 R0_9.out)
              have R1_10 := Lib.hid (row_call t4 R1_9.out)
              have Rw2_heap_size_10 := Lib.hid (row_call t4 Rw2_heap_size_9.out)
              have Rw4_heap_size_10 := Lib.hid (row_call t4 Rw4_heap_size_9.out)
              have hv9 := (show Below v3.heap.size v3 v4 from t4)
              have HBV9 := Lib.hid (HBV8.out.trans (hv9.mono HBV8.out.size))
              clear hv9
              have hpk := HPK.out
              have q0_0 := cl5 R0_10.out
              have q1_0 := cl3 R1_10.out
              have qn0_0 := cl4 Rw2_heap_size_10.out
              have qn1_0 := cl2 Rw4_heap_size_10.out
              go_wp2_with fail
              exact ⟨⟨0 + 1, by go_num, by omega, HBV9⟩, by simp [intOf]; omega⟩
            · skip
              obtain ⟨y, hym⟩ : ∃ y, e.parts[mp]? = some y := ⟨_, List.getElem?_eq_getElem (by omega)⟩
              have hyx : ¬ x.comp ≤ y.comp := by
                have hxm := HXM.out
                obtain ⟨a1, a2⟩ := List.getElem?_eq_some_iff.1 hxm
                obtain ⟨b1, b2⟩ := List.getElem?_eq_some_iff.1 hym
                have := List.pairwise_iff_getElem.1 HPO.out.up mp (mp + 1) b1 a1 (by omega)
                rw [a2, b2] at this
                omega
              obtain ⟨pb2, po2, _, _, hpp, _, d2, _, _, _⟩ := rPart_at (sl_of (v_later HSV.out HBV8.out)).2.2 hym
              obtain ⟨rfl, rfl⟩ : pb = pb2 ∧ po = po2 := by injection hpp with h; injection h with h1 h2; exact ⟨h1, h2⟩
              have D2 := Lib.hid d2
              have iw : IntKind.i64.wrap ((mp : Int) + 1 - 1) = (mp : Int) := by rw [show (mp : Int) + 1 - 1 = (mp : Int) by omega]; exact IntWalk.i64_in _ ⟨by omega, by have := HPK.out; omega⟩
              have iw3 : IntKind.i64.wrap (mp : Int) = (mp : Int) := IntWalk.i64_in _ ⟨by omega, by have := HPK.out; omega⟩
              have hmp1 : (mp : Int) + 1 < e.parts.length := by omega
              have hmp2 : (mp : Int) < e.parts.length := by omega
              clear hym hpp d2
              have q0_0 := cl5 R0_9.out
              have q1_0 := cl3 R1_9.out
              have qn0_0 := cl4 Rw2_heap_size_9.out
              have qn1_0 := cl2 Rw4_heap_size_9.out
              try go_wp2_with fail
              clear q0_0 q1_0 qn0_0 qn1_0
              refine wp_region_held_drew (S := fun W => Below v3.heap.size v3 W) (by kernel_rfl) ((Below.refl _ _).drew) (fun s0 => ?_)
              obtain ⟨v4, hv0⟩ : ∃ V, V = v3.drew := ⟨_, rfl⟩
              rw [← hv0] at s0 ⊢
              have t4 : Below v3.heap.size v3 v4 := s0
              clear hv0 s0
              refine tkHV (i := 0) (v := .bool true) rfl t4 ?_
              go_simp
              refine tkHV (i := 1) (v := .bool false) rfl t4 ?_
              go_simp
              refine tkHV (i := 2) (v := .bool false) rfl t4 ?_
              go_simp
              refine tkHV (i := 3) (v := .int .i64 x.data.length) rfl t4 ?_
              go_simp
              refine tkHV (i := 4) (v := .slice (some ⟨pb, po, none⟩) e.parts.length cp) rfl t4 ?_
              go_simp
              refine tkHV (i := 5) (v := .int .i64 (mp + 1)) rfl t4 ?_
              go_simp
              refine tkHV (i := 6) (v := .pointer (some ⟨pb, po + (mp + 1) * 2, none⟩)) rfl t4 ?_
              go_simp
              refine tkHV (i := 7) (v := .pointer (some ⟨pb, po + (mp + 1) * 2 + 1, none⟩)) rfl t4 ?_
              go_simp
              refine tkH (i := 8) (v := .slice Ad x.data.length cd) rfl (Or.inl ⟨by rfl, fun w' h => by have e := cell_call (h : Below v3.heap.size v3 w') D1'.out; go_simp⟩) t4 ?_
              go_simp
              refine tkHV (i := 9) (v := .int .i64 x.data.length) rfl t4 ?_
              go_simp
              refine tkHV (i := 10) (v := .bool false) rfl t4 ?_
              go_simp
              refine tkHV (i := 11) (v := .bool false) rfl t4 ?_
              go_simp
              refine tkHV (i := 12) (v := .bool false) rfl t4 ?_
              go_simp
              refine tkHV (i := 13) (v := .int .i64 (mp + 1)) rfl t4 ?_
              go_simp
              refine tkHV (i := 14) (v := .bool true) rfl t4 ?_
              go_simp
              refine tkHV (i := 15) (v := .bool true) rfl t4 ?_
              go_simp
              refine tkHV (i := 16) (v := .slice (some ⟨pb, po, none⟩) e.parts.length cp) rfl t4 ?_
              go_simp
              refine tkHV (i := 17) (v := .int .i64 (mp + 1)) rfl t4 ?_
              go_simp
              refine tkHV (i := 18) (v := .pointer (some ⟨pb, po + (mp + 1) * 2, none⟩)) rfl t4 ?_
              go_simp
              refine tkHV (i := 19) (v := .pointer (some ⟨pb, po + (mp + 1) * 2, none⟩)) rfl t4 ?_
              go_simp
              refine tkH (i := 20) (v := .int .i64 x.comp) rfl (Or.inl ⟨by rfl, fun w' h => by have e := cell_call (h : Below v3.heap.size v3 w') D0'.out; go_simp⟩) t4 ?_
              go_simp
              refine tkHV (i := 21) (v := .slice (some ⟨pb, po, none⟩) e.parts.length cp) rfl t4 ?_
              go_simp
              refine tkHV (i := 22) (v := .int .i64 (mp + 1)) rfl t4 ?_
              go_simp
              refine tkHV (i := 23) (v := .int .i64 mp) rfl t4 ?_
              go_simp
              refine tkHV (i := 24) (v := .pointer (some ⟨pb, po + mp * 2, none⟩)) rfl t4 ?_
              go_simp
              refine tkHV (i := 25) (v := .pointer (some ⟨pb, po + mp * 2, none⟩)) rfl t4 ?_
              go_simp
              refine tkH (i := 26) (v := .int .i64 y.comp) rfl (Or.inl ⟨by rfl, fun w' h => by have e := cell_call (h : Below v3.heap.size v3 w') D2.out; go_simp⟩) t4 ?_
              go_simp
              refine tkHV (i := 27) (v := .bool false) rfl t4 ?_
              go_simp
              refine tkHV (i := 28) (v := .bool false) rfl t4 ?_
              go_simp
              refine tkHV (i := 29) (v := .bool false) rfl t4 ?_
              go_simp
              refine wpAnyH_done (by kernel_rfl) ?_ _
              have S10 := Lib.hid (show Only (Box w 2) v3 v4 from Only.of_below t4)
              have O10 := Lib.hid (O9.out.trans S10.out)
              have R0_10 := Lib.hid (row_call t4 R0_9.out)
              have R1_10 := Lib.hid (row_call t4 R1_9.out)
              have Rw2_heap_size_10 := Lib.hid (row_call t4 Rw2_heap_size_9.out)
              have Rw4_heap_size_10 := Lib.hid (row_call t4 Rw4_heap_size_9.out)
              have hv9 := (show Below v3.heap.size v3 v4 from t4)
              have HBV9 := Lib.hid (HBV8.out.trans (hv9.mono HBV8.out.size))
              clear hv9
              have hpk := HPK.out
              have iw2 : IntKind.i64.wrap ((mp : Int) + 1 + 1) = (mp : Int) + 1 + 1 := IntWalk.i64_in _ ⟨by omega, by omega⟩
              have q0_0 := cl5 R0_10.out
              have q1_0 := cl3 R1_10.out
              have qn0_0 := cl4 Rw2_heap_size_10.out
              have qn1_0 := cl2 Rw4_heap_size_10.out
              go_wp2_with fail
              exact ⟨⟨mp + 1 + 1, by go_num, by omega, HBV9⟩, by simp [intOf]; omega⟩
          · obtain rfl : m = e.parts.length := by omega
            have hgl := HSM.out
            have iw : IntKind.i64.wrap ((j : Int) + 1) = (j : Int) + 1 := IntWalk.i64_in _ ⟨by omega, by omega⟩
            have iw2 : IntKind.i64.wrap ((p : Int) + 1) = (p : Int) + 1 := IntWalk.i64_in _ ⟨by omega, by omega⟩
            have HN2 := Lib.hid (show cntE s.ents ((j : Int) + 1) = p + 1 from HN.out)
            have q0_0 := cl5 R0_8.out
            have q1_0 := cl3 R1_8.out
            have qn0_0 := cl4 Rw2_heap_size_8.out
            have qn1_0 := cl2 Rw4_heap_size_8.out
            go_wp2_with fail
            exact ⟨⟨j + 1, by go_num, by rw [show ((j + 1 : Nat) : Int) = (j : Int) + 1 from by omega, HN2.out]; go_num, by omega, Lib.hid (HBRV.out.trans (HBZ.out.mono HBRV.out.size))⟩, by simp [intOf]; omega⟩
    · obtain rfl : j = s.gens.length := by omega
      have HL := Lib.hid (show p = s.ents.length by rw [← HP.out]; exact cnt_all (fun e he => (HOK.out.idx he).2.1))
      obtain rfl := HL.out
      have q0_0 := cl5 R0_4.out
      have q1_0 := cl3 R1_4.out
      have qn0_0 := cl4 Rw2_heap_size_4.out
      go_wp2_with fail
      clear q0_0 q1_0 qn0_0
      go_ret
      exact ⟨rfl, Only.fin HB0.out O4.out⟩
end Go.Proofs.Yteljibjbndpncaa
