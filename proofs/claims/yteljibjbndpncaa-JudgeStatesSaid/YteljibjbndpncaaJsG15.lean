/- Texts on which the proofs stand: RWatch, ConcatEnts. No condition is laid on any input. -/
import Derived.Test.YteljibjbndpncaaJsG14
import Derived.Maps.OwnOps
namespace Go.Proofs.Yteljibjbndpncaa
open Go.RowKit

def idLt (x y : DID) : Prop := x.index < y.index ∨ (x.index = y.index ∧ x.gen < y.gen)
instance (x y : DID) : Decidable (idLt x y) := inferInstanceAs (Decidable (_ ∨ _))

set_option maxRecDepth 100000 in
set_option maxHeartbeats 2000000 in
/-- ref11.Place -/
theorem rplace11_calls {Q : Nat → Prop} {w : World} {v : Value} {s : DState} {id : DID} (hx : rState.val Q w v s) :
    Calls Try.prog 149 #[v, .agg #[.int .i64 id.index, .int .i64 id.gen]] w fun en w' => en = .returned (.int .i64 (placeI s.ents id)) ∧ Below w.heap.size w w' := by
  obtain ⟨A1, c1, A2, c2, A3, c3, rfl, _, _, hs⟩ := rState_val hx
  have hpl := hs.1
  have hpm := hs.2.1
  have HSL := Lib.hid hs
  unfold maxLen at hpm
  obtain ⟨W1, hW1⟩ : ∃ W1, (w.alloc (.cells #[.slice A1 s.gens.length c1, .slice A2 s.free.length c2, .slice A3 s.ents.length c3] 75)).alloc (.cells #[.int .i64 id.index, .int .i64 id.gen] 114) = W1 := ⟨_, rfl⟩
  have hz : (w.alloc (.cells #[.slice A1 s.gens.length c1, .slice A2 s.free.length c2, .slice A3 s.ents.length c3] 75)).heap.size = w.heap.size + 1 := by simp
  have hb1 : Below w.heap.size w W1 := by rw [← hW1]; exact ((Below.refl _ _).alloc (Nat.le_refl _) _).alloc (by rw [hz]; omega) _
  have hz1 : W1.heap.size = w.heap.size + 2 := by rw [← hW1]; simp
  have hr0 : W1.heap[w.heap.size]? = some (.cells #[.slice A1 s.gens.length c1, .slice A2 s.free.length c2, .slice A3 s.ents.length c3] 75 (0, 0)) := by rw [← hW1]; exact (heap_alloc_old _ _ (by rw [hz]; omega)).trans (heap_alloc_new w _)
  have hr1 : W1.heap[w.heap.size + 1]? = some (.cells #[.int .i64 id.index, .int .i64 id.gen] 114 (0, 0)) := by rw [← hW1, ← hz]; exact heap_alloc_new _ _
  have KS := Lib.hid (show ∀ W, Below W1.heap.size W1 W → W.cell? ⟨w.heap.size, 0, none⟩ = some (.slice A1 s.gens.length c1) ∧ W.cell? ⟨w.heap.size, 1, none⟩ = some (.slice A2 s.free.length c2) ∧ W.cell? ⟨w.heap.size, 2, none⟩ = some (.slice A3 s.ents.length c3) ∧ W.cell? ⟨w.heap.size + 1, 0, none⟩ = some (.int .i64 id.index) ∧ W.cell? ⟨w.heap.size + 1, 1, none⟩ = some (.int .i64 id.gen) from fun W h => by
    have e := (h.block _ (by omega)).trans hr0
    have f := (h.block _ (by omega)).trans hr1
    exact ⟨cell_row e 0, cell_row e 1, cell_row e 2, cell_row f 0, cell_row f 1⟩)
  have FIN := Lib.hid (show ∀ W, Below W1.heap.size W1 W → Below w.heap.size w W from fun W h => hb1.trans (h.mono hb1.size))
  have KE := Lib.hid (show ∀ W, Below W1.heap.size W1 W → rEnt.At Q W A3 s.ents from fun W h => Rep.At.below HSL.out.2.2 (FIN.out W h) (fun _ _ h => h.lt))
  obtain ⟨q0, q1, q2, q3, q4⟩ := KS.out W1 (Below.refl _ _)
  clear hx hs hz hb1 hz1 hr0 hr1
  go_enter Try.func149, Try.ntmps149
  go_wp2_with fail
  try rw [hW1]
  clear hW1
  try go_wp2_with fail
  clear q0 q1 q2 q3 q4
  go_loopw [5] (fun i wr => ∃ k : Nat, i = .int .i64 k ∧ k ≤ s.ents.length ∧ Hid (∀ e ∈ s.ents.take k, e.id ≠ id) ∧ Hid (Below W1.heap.size W1 wr)) (fun i _ => s.ents.length - (intOf i).toNat)
  case atStart => exact ⟨0, rfl, Nat.zero_le _, Lib.hid (by simp), Lib.hid (Below.refl _ _)⟩
  case round =>
    obtain ⟨k, rfl, hk, HN, HBW⟩ := hrel
    obtain ⟨q0, q1, q2, q3, q4⟩ := KS.out wr HBW.out
    by_cases hlt : (k : Int) < s.ents.length
    · obtain ⟨e, he⟩ : ∃ e, s.ents[k]? = some e := ⟨_, List.getElem?_eq_getElem (by omega)⟩
      obtain ⟨b, off, Ap, cp, rfl, hbc, e0, e1, e2, f0, f1, hs⟩ := rEnt_at (KE.out _ HBW.out) he
      have HE := Lib.hid he
      clear hs he hbc f0 f1
      by_cases hid : e.id = id
      · have HF := Lib.hid (placeI_some HE.out hid HN.out)
        rw [hid] at e0 e1
        clear hid
        go_wp2_with fail
        refine wp_region_held_drew (S := fun W => W = wr.drew) (by kernel_rfl) rfl (fun s0 => ?_)
        refine wpAnyH_take (i := 0) (v := .pointer (some ⟨w.heap.size, 2, none⟩)) rfl (by kernel_rfl) (by kernel_rfl) (by kernel_rfl) (fun _ _ _ h => h) (Or.inl ⟨by rfl, fun w' _ => by go_simp <;> omega⟩) s0 ?_
        go_simp
        refine wpAnyH_take (i := 1) (v := .slice (some ⟨b, off, none⟩) s.ents.length c3) rfl (by kernel_rfl) (by kernel_rfl) (by kernel_rfl) (fun _ _ _ h => h) (Or.inl ⟨by rfl, fun w' h => by have h' : w' = wr.drew := h; subst h'; go_simp⟩) s0 ?_
        go_simp
        refine wpAnyH_take (i := 2) (v := .int .i64 k) rfl (by kernel_rfl) (by kernel_rfl) (by kernel_rfl) (fun _ _ _ h => h) (Or.inl ⟨by rfl, fun w' _ => by go_simp <;> omega⟩) s0 ?_
        go_simp
        refine wpAnyH_take (i := 3) (v := .pointer (some ⟨b, off + k * 3, none⟩)) rfl (by kernel_rfl) (by kernel_rfl) (by kernel_rfl) (fun _ _ _ h => h) (Or.inl ⟨by rfl, fun w' _ => by go_simp <;> omega⟩) s0 ?_
        go_simp
        refine wpAnyH_take (i := 4) (v := .pointer (some ⟨b, off + k * 3, none⟩)) rfl (by kernel_rfl) (by kernel_rfl) (by kernel_rfl) (fun _ _ _ h => h) (Or.inl ⟨by rfl, fun w' _ => by go_simp <;> omega⟩) s0 ?_
        go_simp
        refine wpAnyH_take (i := 5) (v := .agg #[.int .i64 id.index, .int .i64 id.gen]) rfl (by kernel_rfl) (by kernel_rfl) (by kernel_rfl) (fun _ _ _ h => h) (Or.inl ⟨by rfl, fun w' h => by have h' : w' = wr.drew := h; subst h'; go_simp⟩) s0 ?_
        go_simp
        refine wpAnyH_take (i := 6) (v := .agg #[.int .i64 id.index, .int .i64 id.gen]) rfl (by kernel_rfl) (by kernel_rfl) (by kernel_rfl) (fun _ _ _ h => h) (Or.inl ⟨by rfl, fun w' h => by have h' : w' = wr.drew := h; subst h'; go_simp⟩) s0 ?_
        go_simp
        refine wpAnyH_take (i := 7) (v := .bool true) rfl (by kernel_rfl) (by kernel_rfl) (by kernel_rfl) (fun _ _ _ h => h) (Or.inl ⟨by rfl, fun w' _ => by go_simp <;> omega⟩) s0 ?_
        go_simp
        refine wpAnyH_done (by kernel_rfl) ?_ _
        go_wp2_with fail
        go_ret
        exact ⟨by rw [HF.out]; rfl, FIN.out _ HBW.out.drew⟩
      · have HF := Lib.hid (ne_take_succ HE.out hid HN.out)
        by_cases hi : e.id.index = id.index
        · have hg : (e.id.gen == id.gen) = false := beq_eq_false_iff_ne.2 (fun h => hid (DID.ext hi h))
          have hi2 : (e.id.index == id.index) = true := by simp [hi]
          clear hi hid
          go_wp2_with fail
          refine wp_region_held_drew (S := fun W => W = wr.drew) (by kernel_rfl) rfl (fun s0 => ?_)
          refine wpAnyH_take (i := 0) (v := .pointer (some ⟨w.heap.size, 2, none⟩)) rfl (by kernel_rfl) (by kernel_rfl) (by kernel_rfl) (fun _ _ _ h => h) (Or.inl ⟨by rfl, fun w' _ => by go_simp <;> omega⟩) s0 ?_
          go_simp
          refine wpAnyH_take (i := 1) (v := .slice (some ⟨b, off, none⟩) s.ents.length c3) rfl (by kernel_rfl) (by kernel_rfl) (by kernel_rfl) (fun _ _ _ h => h) (Or.inl ⟨by rfl, fun w' h => by have h' : w' = wr.drew := h; subst h'; go_simp⟩) s0 ?_
          go_simp
          refine wpAnyH_take (i := 2) (v := .int .i64 k) rfl (by kernel_rfl) (by kernel_rfl) (by kernel_rfl) (fun _ _ _ h => h) (Or.inl ⟨by rfl, fun w' _ => by go_simp <;> omega⟩) s0 ?_
          go_simp
          refine wpAnyH_take (i := 3) (v := .pointer (some ⟨b, off + k * 3, none⟩)) rfl (by kernel_rfl) (by kernel_rfl) (by kernel_rfl) (fun _ _ _ h => h) (Or.inl ⟨by rfl, fun w' _ => by go_simp <;> omega⟩) s0 ?_
          go_simp
          refine wpAnyH_take (i := 4) (v := .pointer (some ⟨b, off + k * 3, none⟩)) rfl (by kernel_rfl) (by kernel_rfl) (by kernel_rfl) (fun _ _ _ h => h) (Or.inl ⟨by rfl, fun w' _ => by go_simp <;> omega⟩) s0 ?_
          go_simp
          refine wpAnyH_take (i := 5) (v := .agg #[.int .i64 e.id.index, .int .i64 e.id.gen]) rfl (by kernel_rfl) (by kernel_rfl) (by kernel_rfl) (fun _ _ _ h => h) (Or.inl ⟨by rfl, fun w' h => by have h' : w' = wr.drew := h; subst h'; go_simp⟩) s0 ?_
          go_simp
          refine wpAnyH_take (i := 6) (v := .agg #[.int .i64 id.index, .int .i64 id.gen]) rfl (by kernel_rfl) (by kernel_rfl) (by kernel_rfl) (fun _ _ _ h => h) (Or.inl ⟨by rfl, fun w' h => by have h' : w' = wr.drew := h; subst h'; go_simp⟩) s0 ?_
          go_simp
          refine wpAnyH_take (i := 7) (v := .bool false) rfl (by kernel_rfl) (by kernel_rfl) (by kernel_rfl) (fun _ _ _ h => h) (Or.inl ⟨by rfl, fun w' _ => by go_simp <;> omega⟩) s0 ?_
          go_simp
          refine wpAnyH_done (by kernel_rfl) ?_ _
          go_wp2_with fail
          exact ⟨⟨k + 1, by go_num, by omega, HF, Lib.hid HBW.out.drew⟩, by simp [intOf]; omega⟩
        · have hi2 : (e.id.index == id.index) = false := beq_eq_false_iff_ne.2 hi
          clear hi hid
          go_wp2_with fail
          refine wp_region_held_drew (S := fun W => W = wr.drew) (by kernel_rfl) rfl (fun s0 => ?_)
          refine wpAnyH_take (i := 0) (v := .pointer (some ⟨w.heap.size, 2, none⟩)) rfl (by kernel_rfl) (by kernel_rfl) (by kernel_rfl) (fun _ _ _ h => h) (Or.inl ⟨by rfl, fun w' _ => by go_simp <;> omega⟩) s0 ?_
          go_simp
          refine wpAnyH_take (i := 1) (v := .slice (some ⟨b, off, none⟩) s.ents.length c3) rfl (by kernel_rfl) (by kernel_rfl) (by kernel_rfl) (fun _ _ _ h => h) (Or.inl ⟨by rfl, fun w' h => by have h' : w' = wr.drew := h; subst h'; go_simp⟩) s0 ?_
          go_simp
          refine wpAnyH_take (i := 2) (v := .int .i64 k) rfl (by kernel_rfl) (by kernel_rfl) (by kernel_rfl) (fun _ _ _ h => h) (Or.inl ⟨by rfl, fun w' _ => by go_simp <;> omega⟩) s0 ?_
          go_simp
          refine wpAnyH_take (i := 3) (v := .pointer (some ⟨b, off + k * 3, none⟩)) rfl (by kernel_rfl) (by kernel_rfl) (by kernel_rfl) (fun _ _ _ h => h) (Or.inl ⟨by rfl, fun w' _ => by go_simp <;> omega⟩) s0 ?_
          go_simp
          refine wpAnyH_take (i := 4) (v := .pointer (some ⟨b, off + k * 3, none⟩)) rfl (by kernel_rfl) (by kernel_rfl) (by kernel_rfl) (fun _ _ _ h => h) (Or.inl ⟨by rfl, fun w' _ => by go_simp <;> omega⟩) s0 ?_
          go_simp
          refine wpAnyH_take (i := 5) (v := .agg #[.int .i64 e.id.index, .int .i64 e.id.gen]) rfl (by kernel_rfl) (by kernel_rfl) (by kernel_rfl) (fun _ _ _ h => h) (Or.inl ⟨by rfl, fun w' h => by have h' : w' = wr.drew := h; subst h'; go_simp⟩) s0 ?_
          go_simp
          refine wpAnyH_take (i := 6) (v := .agg #[.int .i64 id.index, .int .i64 id.gen]) rfl (by kernel_rfl) (by kernel_rfl) (by kernel_rfl) (fun _ _ _ h => h) (Or.inl ⟨by rfl, fun w' h => by have h' : w' = wr.drew := h; subst h'; go_simp⟩) s0 ?_
          go_simp
          refine wpAnyH_take (i := 7) (v := .bool false) rfl (by kernel_rfl) (by kernel_rfl) (by kernel_rfl) (fun _ _ _ h => h) (Or.inl ⟨by rfl, fun w' _ => by go_simp <;> omega⟩) s0 ?_
          go_simp
          refine wpAnyH_done (by kernel_rfl) ?_ _
          go_wp2_with fail
          exact ⟨⟨k + 1, by go_num, by omega, HF, Lib.hid HBW.out.drew⟩, by simp [intOf]; omega⟩
    · obtain rfl : k = s.ents.length := by omega
      rw [List.take_length] at HN
      have HF := Lib.hid (placeI_none HN.out)
      go_wp2_with fail
      go_ret
      exact ⟨by rw [HF.out]; rfl, FIN.out _ HBW.out⟩

end Go.Proofs.Yteljibjbndpncaa
namespace Go.Proofs.Yteljibjbndpncaa
open Go.RowKit

theorem infoEnt : (Try.prog.info? 133).map (fun i => (i.zero, i.size, i.bytes)) = some (some (.agg #[.int .i64 0, .int .i64 0, .slice none 0 0]), 3, 40) := by kernel_rfl
def entsLen (ls : List (List DEnt)) (k : Nat) : Nat := ((ls.take k).flatten).length
end Go.Proofs.Yteljibjbndpncaa
