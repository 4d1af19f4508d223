/- Walks of the references' words on who is watched. Printed by gen_watchref.py. -/
import Derived.Test.YtfpmkenobphfnaaWePartsSame
namespace Go.Proofs.Ytfpmkenobphfnaa
open Go.RowKit

def idLt (x y : DID) : Prop := x.index < y.index ∨ (x.index = y.index ∧ x.gen < y.gen)
instance (x y : DID) : Decidable (idLt x y) := inferInstanceAs (Decidable (_ ∨ _))

set_option maxRecDepth 100000 in
set_option maxHeartbeats 1000000 in
/-- ref37.before -/
theorem before_calls (x y : DID) (w : World) : Calls Try.prog 198 #[.agg #[.int .i64 x.index, .int .i64 x.gen], .agg #[.int .i64 y.index, .int .i64 y.gen]] w fun e w' => e = .returned (.bool (decide (idLt x y))) ∧ Below w.heap.size w w' := by
  obtain ⟨W1, hW1⟩ : ∃ W1, (w.alloc (.cells #[.int .i64 x.index, .int .i64 x.gen] 175)).alloc (.cells #[.int .i64 y.index, .int .i64 y.gen] 175) = W1 := ⟨_, rfl⟩
  have hz : (w.alloc (.cells #[.int .i64 x.index, .int .i64 x.gen] 175)).heap.size = w.heap.size + 1 := by simp
  have hr0 : W1.heap[w.heap.size]? = some (.cells #[.int .i64 x.index, .int .i64 x.gen] 175 (0, 0)) := by rw [← hW1]; exact (heap_alloc_old _ _ (by rw [hz]; omega)).trans (heap_alloc_new w _)
  have hr1 : W1.heap[w.heap.size + 1]? = some (.cells #[.int .i64 y.index, .int .i64 y.gen] 175 (0, 0)) := by rw [← hW1, ← hz]; exact heap_alloc_new _ _
  have HB := Lib.hid (show Below w.heap.size w W1 by rw [← hW1]; exact ((Below.refl _ _).alloc (Nat.le_refl _) _).alloc (by rw [hz]; omega) _)
  have e0 := cell_row hr0 0
  have e1 := cell_row hr0 1
  have f0 := cell_row hr1 0
  have f1 := cell_row hr1 1
  clear hz hr0 hr1
  by_cases h1 : x.index < y.index
  · have HF := Lib.hid (show decide (idLt x y) = true from decide_eq_true (.inl h1))
    go_enter Try.func198, Try.ntmps198
    go_wp2_with fail
    try rw [hW1]
    clear hW1
    try go_wp2_with fail
    go_ret
    exact ⟨by rw [HF.out]; rfl, HB.out⟩
  by_cases h2 : x.index = y.index
  · have g2 : (x.index == y.index) = true := by simp [h2]
    have HF := Lib.hid (show decide (idLt x y) = decide (x.gen < y.gen) by rw [decide_eq_decide]; unfold idLt; constructor; (· rintro (h | h); (· exact absurd h h1); (· exact h.2)); (· exact fun h => .inr ⟨h2, h⟩))
    clear h2
    go_enter Try.func198, Try.ntmps198
    go_wp2_with fail
    try rw [hW1]
    clear hW1
    try go_wp2_with fail
    go_ret
    exact ⟨by rw [HF.out]; rfl, HB.out⟩
  · have g2 : (x.index == y.index) = false := beq_eq_false_iff_ne.2 h2
    have HF := Lib.hid (show decide (idLt x y) = false from decide_eq_false (by rintro (h | h); (· exact h1 h); (· exact h2 h.1)))
    clear h2
    go_enter Try.func198, Try.ntmps198
    go_wp2_with fail
    try rw [hW1]
    clear hW1
    try go_wp2_with fail
    go_ret
    exact ⟨by rw [HF.out]; rfl, HB.out⟩

set_option maxRecDepth 100000 in
set_option maxHeartbeats 2000000 in
/-- ref11.Place -/
theorem rplace11_calls {Q : Nat → Prop} {w : World} {v : Value} {s : DState} {id : DID} (hx : rState.val Q w v s) :
    Calls Try.prog 144 #[v, .agg #[.int .i64 id.index, .int .i64 id.gen]] w fun en w' => en = .returned (.int .i64 (placeI s.ents id)) ∧ Below w.heap.size w w' := by
  obtain ⟨A1, c1, A2, c2, A3, c3, rfl, _, _, hs⟩ := rState_val hx
  have hpl := hs.1
  have hpm := hs.2.1
  have HSL := Lib.hid hs
  unfold maxLen at hpm
  obtain ⟨W1, hW1⟩ : ∃ W1, (w.alloc (.cells #[.slice A1 s.gens.length c1, .slice A2 s.free.length c2, .slice A3 s.ents.length c3] 109)).alloc (.cells #[.int .i64 id.index, .int .i64 id.gen] 175) = W1 := ⟨_, rfl⟩
  have hz : (w.alloc (.cells #[.slice A1 s.gens.length c1, .slice A2 s.free.length c2, .slice A3 s.ents.length c3] 109)).heap.size = w.heap.size + 1 := by simp
  have hb1 : Below w.heap.size w W1 := by rw [← hW1]; exact ((Below.refl _ _).alloc (Nat.le_refl _) _).alloc (by rw [hz]; omega) _
  have hz1 : W1.heap.size = w.heap.size + 2 := by rw [← hW1]; simp
  have hr0 : W1.heap[w.heap.size]? = some (.cells #[.slice A1 s.gens.length c1, .slice A2 s.free.length c2, .slice A3 s.ents.length c3] 109 (0, 0)) := by rw [← hW1]; exact (heap_alloc_old _ _ (by rw [hz]; omega)).trans (heap_alloc_new w _)
  have hr1 : W1.heap[w.heap.size + 1]? = some (.cells #[.int .i64 id.index, .int .i64 id.gen] 175 (0, 0)) := by rw [← hW1, ← hz]; exact heap_alloc_new _ _
  have KS := Lib.hid (show ∀ W, Below W1.heap.size W1 W → W.cell? ⟨w.heap.size, 0, none⟩ = some (.slice A1 s.gens.length c1) ∧ W.cell? ⟨w.heap.size, 1, none⟩ = some (.slice A2 s.free.length c2) ∧ W.cell? ⟨w.heap.size, 2, none⟩ = some (.slice A3 s.ents.length c3) ∧ W.cell? ⟨w.heap.size + 1, 0, none⟩ = some (.int .i64 id.index) ∧ W.cell? ⟨w.heap.size + 1, 1, none⟩ = some (.int .i64 id.gen) from fun W h => by
    have e := (h.block _ (by omega)).trans hr0
    have f := (h.block _ (by omega)).trans hr1
    exact ⟨cell_row e 0, cell_row e 1, cell_row e 2, cell_row f 0, cell_row f 1⟩)
  have FIN := Lib.hid (show ∀ W, Below W1.heap.size W1 W → Below w.heap.size w W from fun W h => hb1.trans (h.mono hb1.size))
  have KE := Lib.hid (show ∀ W, Below W1.heap.size W1 W → rEnt.At Q W A3 s.ents from fun W h => Rep.At.below HSL.out.2.2 (FIN.out W h) (fun _ _ h => h.lt))
  obtain ⟨q0, q1, q2, q3, q4⟩ := KS.out W1 (Below.refl _ _)
  clear hx hs hz hb1 hz1 hr0 hr1
  go_enter Try.func144, Try.ntmps144
  go_wp2_with fail
  try rw [hW1]
  clear hW1
  try go_wp2_with fail
  clear q0 q1 q2 q3 q4
  go_loopw [5] (fun i wr => ∃ k : Nat, i = .int .i64 k ∧ k ≤ s.ents.length ∧ Hid (∀ e ∈ s.ents.take k, e.id ≠ id) ∧ Hid (Below W1.heap.size W1 wr)) (fun i _ => s.ents.length - (intOf i).toNat)
  case atStart => exact ⟨0, rfl, Nat.zero_le _, Lib.hid (by simp), Lib.hid (Below.refl _ _)⟩
  case round =>
    obtain ⟨k, rfl, hk, HN, HBW⟩ := hrel
    obtain ⟨q0, q1, q2, q3, q4⟩ := KS.out wr HBW.out
    by_cases hlt : (k : Int) < s.ents.length
    · obtain ⟨e, he⟩ : ∃ e, s.ents[k]? = some e := ⟨_, List.getElem?_eq_getElem (by omega)⟩
      obtain ⟨b, off, Ap, cp, rfl, hbc, e0, e1, e2, f0, f1, hs⟩ := rEnt_at (KE.out _ HBW.out) he
      have HE := Lib.hid he
      clear hs he hbc f0 f1
      by_cases hid : e.id = id
      · have HF := Lib.hid (placeI_some HE.out hid HN.out)
        rw [hid] at e0 e1
        clear hid
        go_wp2_with fail
        refine wp_region_held_drew (S := fun W => W = wr.drew) (by kernel_rfl) rfl (fun s0 => ?_)
        refine wpAnyH_take (i := 0) (v := .pointer (some ⟨w.heap.size, 2, none⟩)) rfl (by kernel_rfl) (by kernel_rfl) (by kernel_rfl) (fun _ _ _ h => h) (Or.inl ⟨by rfl, fun w' _ => by go_simp <;> omega⟩) s0 ?_
        go_simp
        refine wpAnyH_take (i := 1) (v := .slice (some ⟨b, off, none⟩) s.ents.length c3) rfl (by kernel_rfl) (by kernel_rfl) (by kernel_rfl) (fun _ _ _ h => h) (Or.inl ⟨by rfl, fun w' h => by have h' : w' = wr.drew := h; subst h'; go_simp⟩) s0 ?_
        go_simp
        refine wpAnyH_take (i := 2) (v := .int .i64 k) rfl (by kernel_rfl) (by kernel_rfl) (by kernel_rfl) (fun _ _ _ h => h) (Or.inl ⟨by rfl, fun w' _ => by go_simp <;> omega⟩) s0 ?_
        go_simp
        refine wpAnyH_take (i := 3) (v := .pointer (some ⟨b, off + k * 3, none⟩)) rfl (by kernel_rfl) (by kernel_rfl) (by kernel_rfl) (fun _ _ _ h => h) (Or.inl ⟨by rfl, fun w' _ => by go_simp <;> omega⟩) s0 ?_
        go_simp
        refine wpAnyH_take (i := 4) (v := .pointer (some ⟨b, off + k * 3, none⟩)) rfl (by kernel_rfl) (by kernel_rfl) (by kernel_rfl) (fun _ _ _ h => h) (Or.inl ⟨by rfl, fun w' _ => by go_simp <;> omega⟩) s0 ?_
        go_simp
        refine wpAnyH_take (i := 5) (v := .agg #[.int .i64 id.index, .int .i64 id.gen]) rfl (by kernel_rfl) (by kernel_rfl) (by kernel_rfl) (fun _ _ _ h => h) (Or.inl ⟨by rfl, fun w' h => by have h' : w' = wr.drew := h; subst h'; go_simp⟩) s0 ?_
        go_simp
        refine wpAnyH_take (i := 6) (v := .agg #[.int .i64 id.index, .int .i64 id.gen]) rfl (by kernel_rfl) (by kernel_rfl) (by kernel_rfl) (fun _ _ _ h => h) (Or.inl ⟨by rfl, fun w' h => by have h' : w' = wr.drew := h; subst h'; go_simp⟩) s0 ?_
        go_simp
        refine wpAnyH_take (i := 7) (v := .bool true) rfl (by kernel_rfl) (by kernel_rfl) (by kernel_rfl) (fun _ _ _ h => h) (Or.inl ⟨by rfl, fun w' _ => by go_simp <;> omega⟩) s0 ?_
        go_simp
        refine wpAnyH_done (by kernel_rfl) ?_ _
        go_wp2_with fail
        go_ret
        exact ⟨by rw [HF.out]; rfl, FIN.out _ HBW.out.drew⟩
      · have HF := Lib.hid (ne_take_succ HE.out hid HN.out)
        by_cases hi : e.id.index = id.index
        · have hg : (e.id.gen == id.gen) = false := beq_eq_false_iff_ne.2 (fun h => hid (DID.ext hi h))
          have hi2 : (e.id.index == id.index) = true := by simp [hi]
          clear hi hid
          go_wp2_with fail
          refine wp_region_held_drew (S := fun W => W = wr.drew) (by kernel_rfl) rfl (fun s0 => ?_)
          refine wpAnyH_take (i := 0) (v := .pointer (some ⟨w.heap.size, 2, none⟩)) rfl (by kernel_rfl) (by kernel_rfl) (by kernel_rfl) (fun _ _ _ h => h) (Or.inl ⟨by rfl, fun w' _ => by go_simp <;> omega⟩) s0 ?_
          go_simp
          refine wpAnyH_take (i := 1) (v := .slice (some ⟨b, off, none⟩) s.ents.length c3) rfl (by kernel_rfl) (by kernel_rfl) (by kernel_rfl) (fun _ _ _ h => h) (Or.inl ⟨by rfl, fun w' h => by have h' : w' = wr.drew := h; subst h'; go_simp⟩) s0 ?_
          go_simp
          refine wpAnyH_take (i := 2) (v := .int .i64 k) rfl (by kernel_rfl) (by kernel_rfl) (by kernel_rfl) (fun _ _ _ h => h) (Or.inl ⟨by rfl, fun w' _ => by go_simp <;> omega⟩) s0 ?_
          go_simp
          refine wpAnyH_take (i := 3) (v := .pointer (some ⟨b, off + k * 3, none⟩)) rfl (by kernel_rfl) (by kernel_rfl) (by kernel_rfl) (fun _ _ _ h => h) (Or.inl ⟨by rfl, fun w' _ => by go_simp <;> omega⟩) s0 ?_
          go_simp
          refine wpAnyH_take (i := 4) (v := .pointer (some ⟨b, off + k * 3, none⟩)) rfl (by kernel_rfl) (by kernel_rfl) (by kernel_rfl) (fun _ _ _ h => h) (Or.inl ⟨by rfl, fun w' _ => by go_simp <;> omega⟩) s0 ?_
          go_simp
          refine wpAnyH_take (i := 5) (v := .agg #[.int .i64 e.id.index, .int .i64 e.id.gen]) rfl (by kernel_rfl) (by kernel_rfl) (by kernel_rfl) (fun _ _ _ h => h) (Or.inl ⟨by rfl, fun w' h => by have h' : w' = wr.drew := h; subst h'; go_simp⟩) s0 ?_
          go_simp
          refine wpAnyH_take (i := 6) (v := .agg #[.int .i64 id.index, .int .i64 id.gen]) rfl (by kernel_rfl) (by kernel_rfl) (by kernel_rfl) (fun _ _ _ h => h) (Or.inl ⟨by rfl, fun w' h => by have h' : w' = wr.drew := h; subst h'; go_simp⟩) s0 ?_
          go_simp
          refine wpAnyH_take (i := 7) (v := .bool false) rfl (by kernel_rfl) (by kernel_rfl) (by kernel_rfl) (fun _ _ _ h => h) (Or.inl ⟨by rfl, fun w' _ => by go_simp <;> omega⟩) s0 ?_
          go_simp
          refine wpAnyH_done (by kernel_rfl) ?_ _
          go_wp2_with fail
          exact ⟨⟨k + 1, by go_num, by omega, HF, Lib.hid HBW.out.drew⟩, by simp [intOf]; omega⟩
        · have hi2 : (e.id.index == id.index) = false := beq_eq_false_iff_ne.2 hi
          clear hi hid
          go_wp2_with fail
          refine wp_region_held_drew (S := fun W => W = wr.drew) (by kernel_rfl) rfl (fun s0 => ?_)
          refine wpAnyH_take (i := 0) (v := .pointer (some ⟨w.heap.size, 2, none⟩)) rfl (by kernel_rfl) (by kernel_rfl) (by kernel_rfl) (fun _ _ _ h => h) (Or.inl ⟨by rfl, fun w' _ => by go_simp <;> omega⟩) s0 ?_
          go_simp
          refine wpAnyH_take (i := 1) (v := .slice (some ⟨b, off, none⟩) s.ents.length c3) rfl (by kernel_rfl) (by kernel_rfl) (by kernel_rfl) (fun _ _ _ h => h) (Or.inl ⟨by rfl, fun w' h => by have h' : w' = wr.drew := h; subst h'; go_simp⟩) s0 ?_
          go_simp
          refine wpAnyH_take (i := 2) (v := .int .i64 k) rfl (by kernel_rfl) (by kernel_rfl) (by kernel_rfl) (fun _ _ _ h => h) (Or.inl ⟨by rfl, fun w' _ => by go_simp <;> omega⟩) s0 ?_
          go_simp
          refine wpAnyH_take (i := 3) (v := .pointer (some ⟨b, off + k * 3, none⟩)) rfl (by kernel_rfl) (by kernel_rfl) (by kernel_rfl) (fun _ _ _ h => h) (Or.inl ⟨by rfl, fun w' _ => by go_simp <;> omega⟩) s0 ?_
          go_simp
          refine wpAnyH_take (i := 4) (v := .pointer (some ⟨b, off + k * 3, none⟩)) rfl (by kernel_rfl) (by kernel_rfl) (by kernel_rfl) (fun _ _ _ h => h) (Or.inl ⟨by rfl, fun w' _ => by go_simp <;> omega⟩) s0 ?_
          go_simp
          refine wpAnyH_take (i := 5) (v := .agg #[.int .i64 e.id.index, .int .i64 e.id.gen]) rfl (by kernel_rfl) (by kernel_rfl) (by kernel_rfl) (fun _ _ _ h => h) (Or.inl ⟨by rfl, fun w' h => by have h' : w' = wr.drew := h; subst h'; go_simp⟩) s0 ?_
          go_simp
          refine wpAnyH_take (i := 6) (v := .agg #[.int .i64 id.index, .int .i64 id.gen]) rfl (by kernel_rfl) (by kernel_rfl) (by kernel_rfl) (fun _ _ _ h => h) (Or.inl ⟨by rfl, fun w' h => by have h' : w' = wr.drew := h; subst h'; go_simp⟩) s0 ?_
          go_simp
          refine wpAnyH_take (i := 7) (v := .bool false) rfl (by kernel_rfl) (by kernel_rfl) (by kernel_rfl) (fun _ _ _ h => h) (Or.inl ⟨by rfl, fun w' _ => by go_simp <;> omega⟩) s0 ?_
          go_simp
          refine wpAnyH_done (by kernel_rfl) ?_ _
          go_wp2_with fail
          exact ⟨⟨k + 1, by go_num, by omega, HF, Lib.hid HBW.out.drew⟩, by simp [intOf]; omega⟩
    · obtain rfl : k = s.ents.length := by omega
      rw [List.take_length] at HN
      have HF := Lib.hid (placeI_none HN.out)
      go_wp2_with fail
      go_ret
      exact ⟨by rw [HF.out]; rfl, FIN.out _ HBW.out⟩

set_option maxRecDepth 100000 in
set_option maxHeartbeats 2000000 in
/-- ref11.Sig -/
theorem sig_calls {Q : Nat → Prop} {w : World} {v : Value} {e : DEnt} (hx : rEnt.val Q w v e) (hn : e.parts.length ≤ 1000000) :
    Calls Try.prog 200 #[v] w fun en w' => en = .returned (.int .u64 ((maskOf (e.parts.map (·.comp)) : Nat) : Int)) ∧ Below w.heap.size w w' := by
  obtain ⟨Ap, cp, rfl, f0, f1, hs⟩ := rEnt_val hx
  obtain ⟨W1, hW1⟩ : ∃ W1, w.alloc (.cells #[.int .i64 e.id.index, .int .i64 e.id.gen, .slice Ap e.parts.length cp] 189) = W1 := ⟨_, rfl⟩
  have hb1 : Below w.heap.size w W1 := by rw [← hW1]; exact (Below.refl _ _).alloc (Nat.le_refl _) _
  have hz1 : W1.heap.size = w.heap.size + 1 := by rw [← hW1]; simp
  have hr0 : W1.heap[w.heap.size]? = some (.cells #[.int .i64 e.id.index, .int .i64 e.id.gen, .slice Ap e.parts.length cp] 189 (0, 0)) := by rw [← hW1]; exact heap_alloc_new w _
  have KS := Lib.hid (show ∀ W, Below W1.heap.size W1 W → W.cell? ⟨w.heap.size, 0, none⟩ = some (.int .i64 e.id.index) ∧ W.cell? ⟨w.heap.size, 1, none⟩ = some (.int .i64 e.id.gen) ∧ W.cell? ⟨w.heap.size, 2, none⟩ = some (.slice Ap e.parts.length cp) from fun W h => by
    have e := (h.block _ (by omega)).trans hr0
    exact ⟨cell_row e 0, cell_row e 1, cell_row e 2⟩)
  have FIN := Lib.hid (show ∀ W, Below W1.heap.size W1 W → Below w.heap.size w W from fun W h => hb1.trans (h.mono hb1.size))
  have KP := Lib.hid (show ∀ W, Below W1.heap.size W1 W → rPart.At Q W Ap e.parts from fun W h => hs.2.2.below (FIN.out W h) (fun _ _ h => h.lt))
  have hpl := hs.1
  have hpm := hs.2.1
  unfold maxLen at hpm
  obtain ⟨q0, q1, q2⟩ := KS.out W1 (Below.refl _ _)
  clear hx hs hb1 hz1 hr0 f0 f1
  go_enter Try.func200, Try.ntmps200
  go_wp2_with fail
  try rw [hW1]
  clear hW1
  try go_wp2_with fail
  clear q0 q1 q2
  go_loopw [3, 4] (fun sv i wr => ∃ k : Nat, i = .int .i64 k ∧ k ≤ e.parts.length ∧ Hid ((Rep.int .i64).acc 3 W1.heap.size (fun _ => False) wr sv ((e.parts.take k).map (·.comp))) ∧ Hid (Below W1.heap.size W1 wr)) (fun _ i _ => e.parts.length - (intOf i).toNat)
  case atStart => exact ⟨0, rfl, Nat.zero_le _, Lib.hid (by simpa using Rep.acc_nil), Lib.hid (Below.refl _ _)⟩
  case round =>
    obtain ⟨k, rfl, hk, HV, HBW⟩ := hrel
    obtain ⟨q0, q1, q2⟩ := KS.out wr HBW.out
    by_cases hlt : (k : Int) < e.parts.length
    · obtain ⟨x, hxp⟩ : ∃ x, e.parts[k]? = some x := ⟨_, List.getElem?_eq_getElem (by omega)⟩
      obtain ⟨pb, po, Ad, cd, rfl, hbc, d0, d1, wc, _⟩ := rPart_at (KP.out _ HBW.out) hxp
      have HT := Lib.hid (show (e.parts.take (k + 1)).map (·.comp) = (e.parts.take k).map (·.comp) ++ [x.comp] by rw [List.take_succ_eq_append_getElem (by omega), List.map_append, (List.getElem?_eq_some_iff.1 hxp).2]; rfl)
      have L := Lib.hid (show ((e.parts.take k).map (·.comp)).length + 1 ≤ maxLen ∧ (((e.parts.take k).map (·.comp)).length + 1) * 8 ≤ 140737488355328 by rw [List.length_map, List.length_take]; unfold maxLen; omega)
      have HWC := Lib.hid wc
      generalize (e.parts.take k).map (·.comp) = q at *
      obtain ⟨A2, c2, rfl, _, _⟩ := Rep.acc_form HV.out
      clear hxp hbc wc
      go_wp2_with (refine wpList_snoc (e := 3) (base := W1.heap.size) (Q := fun _ => False) (r := Rep.int .i64) rfl rfl _ _ 54 _ rfl rfl rfl (.int .i64 0) 1 8 Try.underlying54 info3 rfl (by decide) rfl _ q HV.out x.comp _ (by exact rfl) ⟨_, rfl, rfl, HWC.out⟩ (by exact rfl) (by exact rfl) L.out.1 L.out.2 HBW.out.size ?_; intro v' w' hacc' hgr hat)
      exact ⟨⟨k + 1, by go_num, by omega, Lib.hid (by rw [HT.out]; exact hacc'), Lib.hid (Rep.acc_below HV.out HBW.out hgr HBW.out.size)⟩, by simp [intOf]; omega⟩
    · obtain rfl : k = e.parts.length := by omega
      rw [List.take_length] at HV
      go_wp2_with fail
      refine (maskOf_calls (Rep.acc_val HV.out)).mono ?_
      rintro en w2 ⟨rfl, hw⟩
      subst hw
      go_wp2_with fail
      go_ret
      exact ⟨rfl, FIN.out _ HBW.out⟩

theorem fits_iff {s y n : Nat} (hy : y < 2 ^ 64) (hn : n < 2 ^ 64) : fitsB s y n = true ↔ ∀ i, i < 64 → (y.testBit i = true → s.testBit i = true) ∧ ¬ (n.testBit i = true ∧ s.testBit i = true) := by
  have hlow : ∀ {a : Nat}, a < 2 ^ 64 → ∀ i, a.testBit i = true → i < 64 := fun ha i h => by
    rcases Nat.lt_or_ge i 64 with h1 | h1
    · exact h1
    · rw [Nat.testBit_lt_two_pow (Nat.lt_of_lt_of_le ha (Nat.pow_le_pow_right (by decide) h1))] at h; cases h
  unfold fitsB
  rw [Bool.and_eq_true, decide_eq_true_eq, decide_eq_true_eq]
  constructor
  · rintro ⟨h1, h2⟩ i _
    constructor
    · intro hi
      have := congrArg (fun m => Nat.testBit m i) h1
      simp only [Nat.testBit_and] at this
      rw [hi] at this
      simpa using this
    · rintro ⟨ha, hb⟩
      have := congrArg (fun m => Nat.testBit m i) h2
      simp only [Nat.testBit_and, Nat.zero_testBit] at this
      rw [ha, hb] at this
      cases this
  · intro h
    constructor
    · apply Nat.eq_of_testBit_eq
      intro i
      rw [Nat.testBit_and]
      cases hi : y.testBit i with
      | false => rfl
      | true => rw [(h i (hlow hy i hi)).1 hi]; rfl
    · apply Nat.eq_of_testBit_eq
      intro i
      rw [Nat.testBit_and, Nat.zero_testBit]
      cases hi : n.testBit i with
      | false => rfl
      | true =>
        have := (h i (hlow hn i hi)).2
        cases hs : s.testBit i with
        | false => rfl
        | true => exact absurd ⟨hi, hs⟩ this
theorem hasSig_bit (s k : Nat) (hk : k < 64) : hasSig (s : Int) (k : Int) = s.testBit k := by
  unfold hasSig
  rw [decide_eq_true (show (0 : Int) ≤ k by omega), decide_eq_true (show (k : Int) < 64 by omega)]
  simp

set_option maxRecDepth 100000 in
set_option maxHeartbeats 2000000 in
/-- ref10.Fits -/
theorem fits10_calls {s y n : Nat} (hs : s < 18446744073709551616) (hy : y < 18446744073709551616) (hn : n < 18446744073709551616) (w : World) :
    Calls Try.prog 199 #[.int .u64 (s : Int), .int .u64 (y : Int), .int .u64 (n : Int)] w fun e w' => e = .returned (.bool (fitsB s y n)) ∧ w' = w := by
  have HS := Lib.hid hs
  have HY := Lib.hid hy
  have HN := Lib.hid hn
  have HI := Lib.hid (fits_iff (s := s) (y := y) (n := n) hy hn)
  clear hs hy hn
  go_enter Try.func199, Try.ntmps199
  go_wp2_with fail
  go_loop [7] (fun i => ∃ k : Nat, i = .int .i64 k ∧ k ≤ 64 ∧ Hid (∀ i, i < k → (y.testBit i = true → s.testBit i = true) ∧ ¬ (n.testBit i = true ∧ s.testBit i = true))) (fun i => 64 - (intOf i).toNat)
  case atStart => exact ⟨0, rfl, by omega, Lib.hid (fun i h => by omega)⟩
  case round =>
    obtain ⟨k, rfl, hk, HK⟩ := hrel
    by_cases hlt : (k : Int) < 64
    · have HNO := Lib.hid (show ((y.testBit k = true ∧ s.testBit k = false) ∨ (n.testBit k = true ∧ s.testBit k = true)) → fitsB s y n = false from fun h => by
        rw [← Bool.not_eq_true, HI.out]
        intro h2
        obtain ⟨h3, h4⟩ := h2 k (by omega)
        rcases h with ⟨ha, hb⟩ | h
        · rw [h3 ha] at hb; cases hb
        · exact h4 h)
      have HYES := Lib.hid (show (y.testBit k = true → s.testBit k = true) → ¬ (n.testBit k = true ∧ s.testBit k = true) → ∀ i, i < k + 1 → (y.testBit i = true → s.testBit i = true) ∧ ¬ (n.testBit i = true ∧ s.testBit i = true) from fun h1 h2 i hi => by
        rcases Nat.lt_or_ge i k with h | h
        · exact HK.out i h
        · rw [show i = k by omega]; exact ⟨h1, h2⟩)
      have HBY := Lib.hid (hasSig_bit y k (by omega))
      have HBS := Lib.hid (hasSig_bit s k (by omega))
      have HBN := Lib.hid (hasSig_bit n k (by omega))
      generalize y.testBit k = by0 at *
      generalize s.testBit k = bs at *
      generalize n.testBit k = bn at *
      go_wp2_with fail
      refine (rhas_calls HY.out k _).mono ?_
      rintro e w' ⟨rfl, hw⟩
      subst hw
      rw [HBY.out]
      cases by0 with
      | true =>
        go_wp2_with fail
        refine (rhas_calls HS.out k _).mono ?_
        rintro e w' ⟨rfl, hw⟩
        subst hw
        rw [HBS.out]
        cases bs with
        | false =>
          have HF := Lib.hid (HNO.out (by simp))
          go_wp2_with fail
          go_ret
          exact ⟨by rw [HF.out]; rfl, rfl⟩
        | true =>
          go_wp2_with fail
          refine (rhas_calls HN.out k _).mono ?_
          rintro e w' ⟨rfl, hw⟩
          subst hw
          rw [HBN.out]
          cases bn with
          | true =>
            have HF := Lib.hid (HNO.out (by simp))
            go_wp2_with fail
            refine (rhas_calls HS.out k _).mono ?_
            rintro e w' ⟨rfl, hw⟩
            subst hw
            rw [HBS.out]
            go_wp2_with fail
            go_ret
            exact ⟨by rw [HF.out]; rfl, rfl⟩
          | false =>
            have HF := Lib.hid (HYES.out (by simp) (by simp))
            go_wp2_with fail
            exact ⟨⟨k + 1, by go_num, by omega, HF⟩, by simp [intOf]; omega⟩
      | false =>
        go_wp2_with fail
        refine (rhas_calls HN.out k _).mono ?_
        rintro e w' ⟨rfl, hw⟩
        subst hw
        rw [HBN.out]
        cases bn with
        | true =>
          go_wp2_with fail
          refine (rhas_calls HS.out k _).mono ?_
          rintro e w' ⟨rfl, hw⟩
          subst hw
          rw [HBS.out]
          cases bs with
          | true =>
            have HF := Lib.hid (HNO.out (by simp))
            go_wp2_with fail
            go_ret
            exact ⟨by rw [HF.out]; rfl, rfl⟩
          | false =>
            have HF := Lib.hid (HYES.out (by simp) (by simp))
            go_wp2_with fail
            exact ⟨⟨k + 1, by go_num, by omega, HF⟩, by simp [intOf]; omega⟩
        | false =>
          have HF := Lib.hid (HYES.out (by simp) (by simp))
          go_wp2_with fail
          exact ⟨⟨k + 1, by go_num, by omega, HF⟩, by simp [intOf]; omega⟩
    · obtain rfl : k = 64 := by omega
      have HF := Lib.hid (HI.out.2 HK.out)
      go_wp2_with fail
      go_ret
      exact ⟨by rw [HF.out]; rfl, rfl⟩
end Go.Proofs.Ytfpmkenobphfnaa
