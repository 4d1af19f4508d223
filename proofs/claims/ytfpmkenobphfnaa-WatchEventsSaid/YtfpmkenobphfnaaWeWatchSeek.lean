/- Walk of watch.find. Printed by gen_watchfind.py. -/
import Derived.Test.YtfpmkenobphfnaaWeG12
namespace Go.Proofs.Ytfpmkenobphfnaa
open Go.RowKit

def fitsB (sig yes no : Nat) : Bool := decide (yes &&& sig = yes) && decide (no &&& sig = 0)
/-- An entity's parts, and whether it is watched. -/
def findSt (s : DState) (id : DID) (yes no : Nat) : List DPart × Bool := match s.ents.find? (fun e => decide (e.id = id)) with
  | none => ([], false)
  | some e => (e.parts, fitsB (maskOf (e.parts.map (·.comp))) yes no)
theorem find_place {l : List DEnt} {id : DID} : (placeI l id = -1 ∧ l.find? (fun e => decide (e.id = id)) = none) ∨ ∃ (k : Nat) (e : DEnt), placeI l id = k ∧ l[k]? = some e ∧ l.find? (fun e => decide (e.id = id)) = some e := by
  unfold placeI
  cases h : l.findIdx? (fun e => decide (e.id = id)) with
  | none =>
    left
    refine ⟨rfl, ?_⟩
    rw [List.findIdx?_eq_none_iff] at h
    exact List.find?_eq_none.2 fun x hx => by rw [h x hx]; simp
  | some k =>
    right
    obtain ⟨hk, h1, h2⟩ := List.findIdx?_eq_some_iff_getElem.1 h
    refine ⟨k, l[k], rfl, List.getElem?_eq_getElem hk, ?_⟩
    rw [List.find?_eq_some_iff_append]
    refine ⟨h1, l.take k, l.drop (k + 1), by rw [List.getElem_cons_drop, List.take_append_drop], fun a ha => ?_⟩
    obtain ⟨j, hj, rfl⟩ := List.mem_take_iff_getElem.1 ha
    have := h2 j (by omega)
    simpa using this
def FindPost (Q : Nat → Prop) (w : World) (r : List DPart × Bool) (e : Ending) (w' : World) : Prop :=
  ∃ u, e = .returned (.tuple #[u, .bool r.2]) ∧ rPart.list.val Q w' u r.1 ∧ Below w.heap.size w w'

set_option maxRecDepth 100000 in
set_option maxHeartbeats 2000000 in
/-- watch.find -/
theorem wfind_calls {Q : Nat → Prop} {w : World} {v : Value} {s : DState} {id : DID} {yes no : Nat} (hx : rState.val Q w v s) (hy : yes < 18446744073709551616) (hn : no < 18446744073709551616) :
    Calls Try.prog 139 #[v, .agg #[.int .i64 id.index, .int .i64 id.gen], .int .u64 (yes : Int), .int .u64 (no : Int)] w (FindPost Q w (findSt s id yes no)) := by
  obtain ⟨A1, c1, A2, c2, A3, c3, rfl, _, _, hs⟩ := rState_val hx
  have HYN := Lib.hid (show yes < 18446744073709551616 ∧ no < 18446744073709551616 from ⟨hy, hn⟩)
  have hpl := hs.1
  have hpm := hs.2.1
  have HSL := Lib.hid hs
  have HPM := Lib.hid (show s.ents.length ≤ maxLen from Nat.le_trans hpl hpm)
  unfold maxLen at hpm
  obtain ⟨W1, hW1⟩ : ∃ W1, (w.alloc (.cells #[.slice A1 s.gens.length c1, .slice A2 s.free.length c2, .slice A3 s.ents.length c3] 109)).alloc (.cells #[.int .i64 id.index, .int .i64 id.gen] 175) = W1 := ⟨_, rfl⟩
  have hz : (w.alloc (.cells #[.slice A1 s.gens.length c1, .slice A2 s.free.length c2, .slice A3 s.ents.length c3] 109)).heap.size = w.heap.size + 1 := by simp
  have hb1 : Below w.heap.size w W1 := by rw [← hW1]; exact ((Below.refl _ _).alloc (Nat.le_refl _) _).alloc (by rw [hz]; omega) _
  have hz1 : W1.heap.size = w.heap.size + 2 := by rw [← hW1]; simp
  have hr0 : W1.heap[w.heap.size]? = some (.cells #[.slice A1 s.gens.length c1, .slice A2 s.free.length c2, .slice A3 s.ents.length c3] 109 (0, 0)) := by rw [← hW1]; exact (heap_alloc_old _ _ (by rw [hz]; omega)).trans (heap_alloc_new w _)
  have hr1 : W1.heap[w.heap.size + 1]? = some (.cells #[.int .i64 id.index, .int .i64 id.gen] 175 (0, 0)) := by rw [← hW1, ← hz]; exact heap_alloc_new _ _
  have KS := Lib.hid (show ∀ W, Below W1.heap.size W1 W → W.cell? ⟨w.heap.size, 0, none⟩ = some (.slice A1 s.gens.length c1) ∧ W.cell? ⟨w.heap.size, 1, none⟩ = some (.slice A2 s.free.length c2) ∧ W.cell? ⟨w.heap.size, 2, none⟩ = some (.slice A3 s.ents.length c3) ∧ W.cell? ⟨w.heap.size + 1, 0, none⟩ = some (.int .i64 id.index) ∧ W.cell? ⟨w.heap.size + 1, 1, none⟩ = some (.int .i64 id.gen) from fun W h => by
    have e := (h.block _ (by omega)).trans hr0
    have f := (h.block _ (by omega)).trans hr1
    exact ⟨cell_row e 0, cell_row e 1, cell_row e 2, cell_row f 0, cell_row f 1⟩)
  have FIN := Lib.hid (show ∀ W, Below W1.heap.size W1 W → Below w.heap.size w W from fun W h => hb1.trans (h.mono hb1.size))
  have KE := Lib.hid (show ∀ W, Below W1.heap.size W1 W → rEnt.At Q W A3 s.ents from fun W h => Rep.At.below HSL.out.2.2 (FIN.out W h) (fun _ _ h => h.lt))
  have HZ := Lib.hid hz1
  obtain ⟨q0, q1, q2, q3, q4⟩ := KS.out W1 (Below.refl _ _)
  clear hx hy hn hs hz hb1 hz1 hr0 hr1
  go_enter Try.func139, Try.ntmps139
  go_wp2_with fail
  try rw [hW1]
  clear hW1
  try go_wp2_with fail
  refine (entIndex_calls (KE.out W1 (Below.refl _ _)) HPM.out q3 q4 (by have := HZ.out; omega)).mono ?_
  rintro en w2 ⟨rfl, hb2⟩
  have HB2 := Lib.hid hb2
  clear q0 q1 q2 q3 q4 hb2
  rcases find_place (l := s.ents) (id := id) with ⟨hp, hf⟩ | ⟨k, e, hp, he, hf⟩
  · have HF := Lib.hid (show findSt s id yes no = ([], false) by unfold findSt; rw [hf])
    rw [hp]
    clear hp hf
    go_wp2_with fail
    go_ret2
    exact ⟨_, by rw [HF.out]; rfl, by rw [HF.out]; exact Rep.val_nil (by simp [maxLen]), FIN.out _ HB2.out⟩
  have HF0 := Lib.hid (show findSt s id yes no = (e.parts, fitsB (maskOf (e.parts.map (·.comp))) yes no) by unfold findSt; rw [hf])
  rw [hp]
  have hkl : (k : Int) < s.ents.length := by have := (List.getElem?_eq_some_iff.1 he).1; omega
  obtain ⟨b, off, Ap, cp, hA3, hbc, _, _, d2, _, _, hpt⟩ := rEnt_at (KE.out W1 (Below.refl _ _)) he
  subst hA3
  have hpl2 := hpt.1
  have hpm2 := hpt.2.1
  unfold maxLen at hpm2
  have KP := Lib.hid (show ∀ W, Below W1.heap.size W1 W → W.cell? ⟨b, off + k * 3 + 2, none⟩ = some (.slice Ap e.parts.length cp) from fun W h => (h.cell (p := ⟨b, off + k * 3 + 2, none⟩) hbc.lt).trans d2)
  have KV := Lib.hid (show ∀ W, Below W1.heap.size W1 W → rPart.list.val Q W (.slice Ap e.parts.length cp) e.parts from fun W h => (hpt.below h (fun _ _ h => h.lt)).val)
  have KPA := Lib.hid (show ∀ W, Below W1.heap.size W1 W → rPart.At Q W Ap e.parts from fun W h => hpt.2.2.below h (fun _ _ h => h.lt))
  obtain ⟨q0, q1, q2, q3, q4⟩ := KS.out w2 HB2.out
  have q5 := KP.out w2 HB2.out
  clear hp he hf hbc d2 hpt
  go_wp2_with fail
  clear q0 q1 q2 q3 q4 q5
  go_loopw [11, 27] (fun sg i wr => ∃ (j m : Nat), i = .int .i64 j ∧ j ≤ e.parts.length ∧ sg = .int .u64 m ∧ Hid (m = maskOf ((e.parts.take j).map (·.comp))) ∧ Hid (Below W1.heap.size W1 wr)) (fun _ i _ => e.parts.length - (intOf i).toNat)
  case atStart => exact ⟨0, 0, rfl, Nat.zero_le _, rfl, Lib.hid (by rw [List.take_zero]; rfl), HB2⟩
  case round =>
    obtain ⟨j, m, rfl, hj, rfl, HM, HBW⟩ := hrel
    have HMB := Lib.hid (show m < 18446744073709551616 by rw [HM.out]; exact maskOf_lt _)
    by_cases hlt : (j : Int) < e.parts.length
    · obtain ⟨x, hxp⟩ : ∃ x, e.parts[j]? = some x := ⟨_, List.getElem?_eq_getElem (by omega)⟩
      obtain ⟨pb, po, Ad, cd, rfl, hbc, d0, d1, _, _⟩ := rPart_at (KPA.out _ HBW.out) hxp
      have HMN := Lib.hid (show m ||| bitOf x.comp = maskOf ((e.parts.take (j + 1)).map (·.comp)) by
        rw [List.take_succ_eq_append_getElem (by omega), List.map_append, (List.getElem?_eq_some_iff.1 hxp).2, HM.out]
        exact (maskOf_snoc _ _).symm)
      obtain ⟨m2, hm2⟩ : ∃ m2, m ||| bitOf x.comp = m2 := ⟨_, rfl⟩
      rw [hm2] at HMN
      have HM2 := Lib.hid hm2
      clear hm2
      obtain ⟨W3, hW3⟩ : ∃ W3, wr.alloc (.cells #[.int .i64 x.comp, .slice Ad x.data.length cd] 191) = W3 := ⟨_, rfl⟩
      have hb3 : Below wr.heap.size wr W3 := by rw [← hW3]; exact (Below.refl _ _).alloc (Nat.le_refl _) _
      have hn3 : W3.heap[wr.heap.size]? = some (.cells #[.int .i64 x.comp, .slice Ad x.data.length cd] 191 (0, 0)) := by rw [← hW3]; exact heap_alloc_new _ _
      have HB3 := Lib.hid (HBW.out.trans (hb3.mono HBW.out.size))
      have y0 := cell_row hn3 0
      have y1 := cell_row hn3 1
      clear hxp hbc hb3 hn3
      go_wp2_with fail
      try rw [hW3]
      clear hW3
      try go_wp2_with fail
      refine (with_calls HMB.out x.comp _).mono ?_
      rintro en w4 ⟨rfl, hw4⟩
      subst hw4
      rw [HM2.out]
      go_wp2_with fail
      exact ⟨⟨j + 1, m2, by go_num, by omega, rfl, HMN, HB3⟩, by simp [intOf]; omega⟩
    · obtain rfl : j = e.parts.length := by omega
      rw [List.take_length] at HM
      rw [← HM.out] at HF0
      clear hpl2
      go_wp2_with fail
      by_cases hwi : yes &&& m = yes
      · have HWI := Lib.hid (show decide (yes &&& m = yes) = true from decide_eq_true hwi)
        clear hwi
        by_cases hap : no &&& m = 0
        · have HAP := Lib.hid (show decide (no &&& m = 0) = true from decide_eq_true hap)
          have HF := Lib.hid (show findSt s id yes no = (e.parts, true) by rw [HF0.out]; unfold fitsB; rw [HWI.out, HAP.out]; rfl)
          clear hap
          refine wp_region_held_drew (S := fun W => Below W1.heap.size W1 W) (by kernel_rfl) (HBW.out.drew) (fun s0 => ?_)
          refine wpAnyH_take (i := 0) (v := .pointer (some ⟨w.heap.size, 2, none⟩)) rfl (by kernel_rfl) (by kernel_rfl) (by kernel_rfl) (fun _ _ _ h => h) (Or.inl ⟨by rfl, fun w' _ => by go_simp <;> omega⟩) s0 ?_
          go_simp
          refine wpAnyH_take (i := 1) (v := .slice (some ⟨b, off, none⟩) s.ents.length c3) rfl (by kernel_rfl) (by kernel_rfl) (by kernel_rfl) (fun _ _ _ h => h) (Or.inl ⟨by rfl, fun w' h => by obtain ⟨q0, q1, q2, q3, q4⟩ := KS.out _ (h : Below W1.heap.size W1 w'); have q5 := KP.out _ (h : Below W1.heap.size W1 w'); go_simp⟩) s0 ?_
          go_simp
          refine wpAnyH_take (i := 2) (v := .int .i64 k) rfl (by kernel_rfl) (by kernel_rfl) (by kernel_rfl) (fun _ _ _ h => h) (Or.inl ⟨by rfl, fun w' _ => by go_simp <;> omega⟩) s0 ?_
          go_simp
          refine wpAnyH_take (i := 3) (v := .pointer (some ⟨b, off + k * 3, none⟩)) rfl (by kernel_rfl) (by kernel_rfl) (by kernel_rfl) (fun _ _ _ h => h) (Or.inl ⟨by rfl, fun w' _ => by go_simp <;> omega⟩) s0 ?_
          go_simp
          refine wpAnyH_take (i := 4) (v := .pointer (some ⟨b, off + k * 3 + 2, none⟩)) rfl (by kernel_rfl) (by kernel_rfl) (by kernel_rfl) (fun _ _ _ h => h) (Or.inl ⟨by rfl, fun w' _ => by go_simp <;> omega⟩) s0 ?_
          go_simp
          refine wpAnyH_take (i := 5) (v := .slice Ap e.parts.length cp) rfl (by kernel_rfl) (by kernel_rfl) (by kernel_rfl) (fun _ _ _ h => h) (Or.inl ⟨by rfl, fun w' h => by obtain ⟨q0, q1, q2, q3, q4⟩ := KS.out _ (h : Below W1.heap.size W1 w'); have q5 := KP.out _ (h : Below W1.heap.size W1 w'); go_simp⟩) s0 ?_
          go_simp
          refine wpAnyH_take (i := 6) (v := .int .u64 yes) rfl (by kernel_rfl) (by kernel_rfl) (by kernel_rfl) (fun _ _ _ h => h) (Or.inl ⟨by rfl, fun w' _ => by go_simp <;> omega⟩) s0 ?_
          go_simp
          refine wpAnyH_take (i := 7) (v := .int .u64 m) rfl (by kernel_rfl) (by kernel_rfl) (by kernel_rfl) (fun _ _ _ h => h) (Or.inl ⟨by rfl, fun w' _ => by go_simp <;> omega⟩) s0 ?_
          go_simp
          refine wpAnyH_all (rs := [8]) (by kernel_rfl) (by simp) ?_
          intro i hi
          obtain rfl : i = 8 := by simpa using hi
          clear hi
          refine wpOp_step rfl (fun K hK => ?_)
          go_simp
          refine (bwithin_calls HYN.out.1 HMB.out _).mono ?_
          rintro en w' ⟨rfl, rfl⟩
          rw [HWI.out]
          refine hK _ _ ⟨s0, ?_⟩
          clear hK K
          refine wpAnyH_take (i := 9) (v := .bool true) rfl (by kernel_rfl) (by kernel_rfl) (by kernel_rfl) (fun _ _ _ h => h) (Or.inl ⟨by rfl, fun w' _ => by go_simp <;> omega⟩) s0 ?_
          go_simp
          refine wpAnyH_take (i := 10) (v := .int .u64 no) rfl (by kernel_rfl) (by kernel_rfl) (by kernel_rfl) (fun _ _ _ h => h) (Or.inl ⟨by rfl, fun w' _ => by go_simp <;> omega⟩) s0 ?_
          go_simp
          refine wpAnyH_take (i := 11) (v := .int .u64 m) rfl (by kernel_rfl) (by kernel_rfl) (by kernel_rfl) (fun _ _ _ h => h) (Or.inl ⟨by rfl, fun w' _ => by go_simp <;> omega⟩) s0 ?_
          go_simp
          refine wpAnyH_all (rs := [12]) (by kernel_rfl) (by simp) ?_
          intro i hi
          obtain rfl : i = 12 := by simpa using hi
          clear hi
          refine wpOp_step rfl (fun K hK => ?_)
          go_simp
          refine (bapart_calls HYN.out.2 HMB.out _).mono ?_
          rintro en w' ⟨rfl, rfl⟩
          rw [HAP.out]
          refine hK _ _ ⟨s0, ?_⟩
          clear hK K
          refine wpAnyH_take (i := 13) (v := .bool true) rfl (by kernel_rfl) (by kernel_rfl) (by kernel_rfl) (fun _ _ _ h => h) (Or.inl ⟨by rfl, fun w' _ => by go_simp <;> omega⟩) s0 ?_
          go_simp
          refine wpAnyH_take (i := 14) (v := .slice Ap e.parts.length cp) rfl (by kernel_rfl) (by kernel_rfl) (by kernel_rfl) (fun _ _ _ h => h) (Or.inl ⟨by rfl, fun w' _ => by go_simp <;> omega⟩) s0 ?_
          go_simp
          refine wpAnyH_take (i := 15) (v := .bool true) rfl (by kernel_rfl) (by kernel_rfl) (by kernel_rfl) (fun _ _ _ h => h) (Or.inl ⟨by rfl, fun w' _ => by go_simp <;> omega⟩) s0 ?_
          go_simp
          refine wpAnyH_done (by kernel_rfl) ?_ _
          go_wp2_with fail
          go_ret2
          exact ⟨_, by rw [HF.out]; rfl, by rw [HF.out]; exact KV.out _ s0, FIN.out _ s0⟩
        · have HAP := Lib.hid (show decide (no &&& m = 0) = false from decide_eq_false hap)
          have HF := Lib.hid (show findSt s id yes no = (e.parts, false) by rw [HF0.out]; unfold fitsB; rw [HWI.out, HAP.out]; rfl)
          clear hap
          refine wp_region_held_drew (S := fun W => Below W1.heap.size W1 W) (by kernel_rfl) (HBW.out.drew) (fun s0 => ?_)
          refine wpAnyH_take (i := 0) (v := .pointer (some ⟨w.heap.size, 2, none⟩)) rfl (by kernel_rfl) (by kernel_rfl) (by kernel_rfl) (fun _ _ _ h => h) (Or.inl ⟨by rfl, fun w' _ => by go_simp <;> omega⟩) s0 ?_
          go_simp
          refine wpAnyH_take (i := 1) (v := .slice (some ⟨b, off, none⟩) s.ents.length c3) rfl (by kernel_rfl) (by kernel_rfl) (by kernel_rfl) (fun _ _ _ h => h) (Or.inl ⟨by rfl, fun w' h => by obtain ⟨q0, q1, q2, q3, q4⟩ := KS.out _ (h : Below W1.heap.size W1 w'); have q5 := KP.out _ (h : Below W1.heap.size W1 w'); go_simp⟩) s0 ?_
          go_simp
          refine wpAnyH_take (i := 2) (v := .int .i64 k) rfl (by kernel_rfl) (by kernel_rfl) (by kernel_rfl) (fun _ _ _ h => h) (Or.inl ⟨by rfl, fun w' _ => by go_simp <;> omega⟩) s0 ?_
          go_simp
          refine wpAnyH_take (i := 3) (v := .pointer (some ⟨b, off + k * 3, none⟩)) rfl (by kernel_rfl) (by kernel_rfl) (by kernel_rfl) (fun _ _ _ h => h) (Or.inl ⟨by rfl, fun w' _ => by go_simp <;> omega⟩) s0 ?_
          go_simp
          refine wpAnyH_take (i := 4) (v := .pointer (some ⟨b, off + k * 3 + 2, none⟩)) rfl (by kernel_rfl) (by kernel_rfl) (by kernel_rfl) (fun _ _ _ h => h) (Or.inl ⟨by rfl, fun w' _ => by go_simp <;> omega⟩) s0 ?_
          go_simp
          refine wpAnyH_take (i := 5) (v := .slice Ap e.parts.length cp) rfl (by kernel_rfl) (by kernel_rfl) (by kernel_rfl) (fun _ _ _ h => h) (Or.inl ⟨by rfl, fun w' h => by obtain ⟨q0, q1, q2, q3, q4⟩ := KS.out _ (h : Below W1.heap.size W1 w'); have q5 := KP.out _ (h : Below W1.heap.size W1 w'); go_simp⟩) s0 ?_
          go_simp
          refine wpAnyH_take (i := 6) (v := .int .u64 yes) rfl (by kernel_rfl) (by kernel_rfl) (by kernel_rfl) (fun _ _ _ h => h) (Or.inl ⟨by rfl, fun w' _ => by go_simp <;> omega⟩) s0 ?_
          go_simp
          refine wpAnyH_take (i := 7) (v := .int .u64 m) rfl (by kernel_rfl) (by kernel_rfl) (by kernel_rfl) (fun _ _ _ h => h) (Or.inl ⟨by rfl, fun w' _ => by go_simp <;> omega⟩) s0 ?_
          go_simp
          refine wpAnyH_all (rs := [8]) (by kernel_rfl) (by simp) ?_
          intro i hi
          obtain rfl : i = 8 := by simpa using hi
          clear hi
          refine wpOp_step rfl (fun K hK => ?_)
          go_simp
          refine (bwithin_calls HYN.out.1 HMB.out _).mono ?_
          rintro en w' ⟨rfl, rfl⟩
          rw [HWI.out]
          refine hK _ _ ⟨s0, ?_⟩
          clear hK K
          refine wpAnyH_take (i := 9) (v := .bool true) rfl (by kernel_rfl) (by kernel_rfl) (by kernel_rfl) (fun _ _ _ h => h) (Or.inl ⟨by rfl, fun w' _ => by go_simp <;> omega⟩) s0 ?_
          go_simp
          refine wpAnyH_take (i := 10) (v := .int .u64 no) rfl (by kernel_rfl) (by kernel_rfl) (by kernel_rfl) (fun _ _ _ h => h) (Or.inl ⟨by rfl, fun w' _ => by go_simp <;> omega⟩) s0 ?_
          go_simp
          refine wpAnyH_take (i := 11) (v := .int .u64 m) rfl (by kernel_rfl) (by kernel_rfl) (by kernel_rfl) (fun _ _ _ h => h) (Or.inl ⟨by rfl, fun w' _ => by go_simp <;> omega⟩) s0 ?_
          go_simp
          refine wpAnyH_all (rs := [12]) (by kernel_rfl) (by simp) ?_
          intro i hi
          obtain rfl : i = 12 := by simpa using hi
          clear hi
          refine wpOp_step rfl (fun K hK => ?_)
          go_simp
          refine (bapart_calls HYN.out.2 HMB.out _).mono ?_
          rintro en w' ⟨rfl, rfl⟩
          rw [HAP.out]
          refine hK _ _ ⟨s0, ?_⟩
          clear hK K
          refine wpAnyH_take (i := 13) (v := .bool false) rfl (by kernel_rfl) (by kernel_rfl) (by kernel_rfl) (fun _ _ _ h => h) (Or.inl ⟨by rfl, fun w' _ => by go_simp <;> omega⟩) s0 ?_
          go_simp
          refine wpAnyH_take (i := 14) (v := .slice Ap e.parts.length cp) rfl (by kernel_rfl) (by kernel_rfl) (by kernel_rfl) (fun _ _ _ h => h) (Or.inl ⟨by rfl, fun w' _ => by go_simp <;> omega⟩) s0 ?_
          go_simp
          refine wpAnyH_take (i := 15) (v := .bool false) rfl (by kernel_rfl) (by kernel_rfl) (by kernel_rfl) (fun _ _ _ h => h) (Or.inl ⟨by rfl, fun w' _ => by go_simp <;> omega⟩) s0 ?_
          go_simp
          refine wpAnyH_done (by kernel_rfl) ?_ _
          go_wp2_with fail
          go_ret2
          exact ⟨_, by rw [HF.out]; rfl, by rw [HF.out]; exact KV.out _ s0, FIN.out _ s0⟩
      · have HWI := Lib.hid (show decide (yes &&& m = yes) = false from decide_eq_false hwi)
        have HF := Lib.hid (show findSt s id yes no = (e.parts, false) by rw [HF0.out]; unfold fitsB; rw [HWI.out]; rfl)
        clear hwi
        refine wp_region_held_drew (S := fun W => Below W1.heap.size W1 W) (by kernel_rfl) (HBW.out.drew) (fun s0 => ?_)
        refine wpAnyH_take (i := 0) (v := .pointer (some ⟨w.heap.size, 2, none⟩)) rfl (by kernel_rfl) (by kernel_rfl) (by kernel_rfl) (fun _ _ _ h => h) (Or.inl ⟨by rfl, fun w' _ => by go_simp <;> omega⟩) s0 ?_
        go_simp
        refine wpAnyH_take (i := 1) (v := .slice (some ⟨b, off, none⟩) s.ents.length c3) rfl (by kernel_rfl) (by kernel_rfl) (by kernel_rfl) (fun _ _ _ h => h) (Or.inl ⟨by rfl, fun w' h => by obtain ⟨q0, q1, q2, q3, q4⟩ := KS.out _ (h : Below W1.heap.size W1 w'); have q5 := KP.out _ (h : Below W1.heap.size W1 w'); go_simp⟩) s0 ?_
        go_simp
        refine wpAnyH_take (i := 2) (v := .int .i64 k) rfl (by kernel_rfl) (by kernel_rfl) (by kernel_rfl) (fun _ _ _ h => h) (Or.inl ⟨by rfl, fun w' _ => by go_simp <;> omega⟩) s0 ?_
        go_simp
        refine wpAnyH_take (i := 3) (v := .pointer (some ⟨b, off + k * 3, none⟩)) rfl (by kernel_rfl) (by kernel_rfl) (by kernel_rfl) (fun _ _ _ h => h) (Or.inl ⟨by rfl, fun w' _ => by go_simp <;> omega⟩) s0 ?_
        go_simp
        refine wpAnyH_take (i := 4) (v := .pointer (some ⟨b, off + k * 3 + 2, none⟩)) rfl (by kernel_rfl) (by kernel_rfl) (by kernel_rfl) (fun _ _ _ h => h) (Or.inl ⟨by rfl, fun w' _ => by go_simp <;> omega⟩) s0 ?_
        go_simp
        refine wpAnyH_take (i := 5) (v := .slice Ap e.parts.length cp) rfl (by kernel_rfl) (by kernel_rfl) (by kernel_rfl) (fun _ _ _ h => h) (Or.inl ⟨by rfl, fun w' h => by obtain ⟨q0, q1, q2, q3, q4⟩ := KS.out _ (h : Below W1.heap.size W1 w'); have q5 := KP.out _ (h : Below W1.heap.size W1 w'); go_simp⟩) s0 ?_
        go_simp
        refine wpAnyH_take (i := 6) (v := .int .u64 yes) rfl (by kernel_rfl) (by kernel_rfl) (by kernel_rfl) (fun _ _ _ h => h) (Or.inl ⟨by rfl, fun w' _ => by go_simp <;> omega⟩) s0 ?_
        go_simp
        refine wpAnyH_take (i := 7) (v := .int .u64 m) rfl (by kernel_rfl) (by kernel_rfl) (by kernel_rfl) (fun _ _ _ h => h) (Or.inl ⟨by rfl, fun w' _ => by go_simp <;> omega⟩) s0 ?_
        go_simp
        refine wpAnyH_all (rs := [8]) (by kernel_rfl) (by simp) ?_
        intro i hi
        obtain rfl : i = 8 := by simpa using hi
        clear hi
        refine wpOp_step rfl (fun K hK => ?_)
        go_simp
        refine (bwithin_calls HYN.out.1 HMB.out _).mono ?_
        rintro en w' ⟨rfl, rfl⟩
        rw [HWI.out]
        refine hK _ _ ⟨s0, ?_⟩
        clear hK K
        refine wpAnyH_take (i := 9) (v := .bool false) rfl (by kernel_rfl) (by kernel_rfl) (by kernel_rfl) (fun _ _ _ h => h) (Or.inl ⟨by rfl, fun w' _ => by go_simp <;> omega⟩) s0 ?_
        go_simp
        refine wpAnyH_take (i := 10) (v := undef) rfl (by kernel_rfl) (by kernel_rfl) (by kernel_rfl) (fun _ _ _ h => h) (Or.inr ⟨by rfl, rfl⟩) s0 ?_
        go_simp
        refine wpAnyH_take (i := 11) (v := undef) rfl (by kernel_rfl) (by kernel_rfl) (by kernel_rfl) (fun _ _ _ h => h) (Or.inr ⟨by rfl, rfl⟩) s0 ?_
        go_simp
        refine wpAnyH_take (i := 12) (v := undef) rfl (by kernel_rfl) (by kernel_rfl) (by kernel_rfl) (fun _ _ _ h => h) (Or.inr ⟨by rfl, rfl⟩) s0 ?_
        go_simp
        refine wpAnyH_take (i := 13) (v := .bool false) rfl (by kernel_rfl) (by kernel_rfl) (by kernel_rfl) (fun _ _ _ h => h) (Or.inl ⟨by rfl, fun w' _ => by go_simp <;> omega⟩) s0 ?_
        go_simp
        refine wpAnyH_take (i := 14) (v := .slice Ap e.parts.length cp) rfl (by kernel_rfl) (by kernel_rfl) (by kernel_rfl) (fun _ _ _ h => h) (Or.inl ⟨by rfl, fun w' _ => by go_simp <;> omega⟩) s0 ?_
        go_simp
        refine wpAnyH_take (i := 15) (v := .bool false) rfl (by kernel_rfl) (by kernel_rfl) (by kernel_rfl) (fun _ _ _ h => h) (Or.inl ⟨by rfl, fun w' _ => by go_simp <;> omega⟩) s0 ?_
        go_simp
        refine wpAnyH_done (by kernel_rfl) ?_ _
        go_wp2_with fail
        go_ret2
        exact ⟨_, by rw [HF.out]; rfl, by rw [HF.out]; exact KV.out _ s0, FIN.out _ s0⟩
end Go.Proofs.Ytfpmkenobphfnaa
