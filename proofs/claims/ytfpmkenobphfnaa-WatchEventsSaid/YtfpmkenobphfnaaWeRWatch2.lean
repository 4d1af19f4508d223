/- Walks of the references' words on who is watched, continued. Printed by gen_watchref2.py. -/
import Derived.Test.YtfpmkenobphfnaaWeRWatch
namespace Go.Proofs.Ytfpmkenobphfnaa
open Go.RowKit

set_option maxRecDepth 100000 in
set_option maxHeartbeats 2000000 in
/-- ref37.watched -/
theorem watched_calls {Q : Nat → Prop} {w : World} {v : Value} {s : DState} {id : DID} {yes no : Nat} (hx : rState.val Q w v s) (hy : yes < 18446744073709551616) (hn : no < 18446744073709551616) (hp : ∀ e ∈ s.ents, e.parts.length ≤ 1000000) :
    Calls Try.prog 143 #[v, .agg #[.int .i64 id.index, .int .i64 id.gen], .int .u64 (yes : Int), .int .u64 (no : Int)] w fun en w' => en = .returned (.bool (findSt s id yes no).2) ∧ Below w.heap.size w w' := by
  have HV := Lib.hid (Rep.val_any hx)
  obtain ⟨A1, c1, A2, c2, A3, c3, rfl, _, _, hs⟩ := rState_val hx
  have HYN := Lib.hid (show yes < 18446744073709551616 ∧ no < 18446744073709551616 from ⟨hy, hn⟩)
  have HP := Lib.hid hp
  have hpl := hs.1
  have hpm := hs.2.1
  have HSL := Lib.hid hs
  unfold maxLen at hpm
  obtain ⟨W1, hW1⟩ : ∃ W1, (w.alloc (.cells #[.slice A1 s.gens.length c1, .slice A2 s.free.length c2, .slice A3 s.ents.length c3] 109)).alloc (.cells #[.int .i64 id.index, .int .i64 id.gen] 175) = W1 := ⟨_, rfl⟩
  have hz : (w.alloc (.cells #[.slice A1 s.gens.length c1, .slice A2 s.free.length c2, .slice A3 s.ents.length c3] 109)).heap.size = w.heap.size + 1 := by simp
  have hb1 : Below w.heap.size w W1 := by rw [← hW1]; exact ((Below.refl _ _).alloc (Nat.le_refl _) _).alloc (by rw [hz]; omega) _
  have hz1 : W1.heap.size = w.heap.size + 2 := by rw [← hW1]; simp
  have hr0 : W1.heap[w.heap.size]? = some (.cells #[.slice A1 s.gens.length c1, .slice A2 s.free.length c2, .slice A3 s.ents.length c3] 109 (0, 0)) := by rw [← hW1]; exact (heap_alloc_old _ _ (by rw [hz]; omega)).trans (heap_alloc_new w _)
  have hr1 : W1.heap[w.heap.size + 1]? = some (.cells #[.int .i64 id.index, .int .i64 id.gen] 175 (0, 0)) := by rw [← hW1, ← hz]; exact heap_alloc_new _ _
  have KS := Lib.hid (show ∀ W, Below W1.heap.size W1 W → W.cell? ⟨w.heap.size, 0, none⟩ = some (.slice A1 s.gens.length c1) ∧ W.cell? ⟨w.heap.size, 1, none⟩ = some (.slice A2 s.free.length c2) ∧ W.cell? ⟨w.heap.size, 2, none⟩ = some (.slice A3 s.ents.length c3) ∧ W.cell? ⟨w.heap.size + 1, 0, none⟩ = some (.int .i64 id.index) ∧ W.cell? ⟨w.heap.size + 1, 1, none⟩ = some (.int .i64 id.gen) from fun W h => by
    have e := (h.block _ (by omega)).trans hr0
    have f := (h.block _ (by omega)).trans hr1
    exact ⟨cell_row e 0, cell_row e 1, cell_row e 2, cell_row f 0, cell_row f 1⟩)
  have FIN := Lib.hid (show ∀ W, Below W1.heap.size W1 W → Below w.heap.size w W from fun W h => hb1.trans (h.mono hb1.size))
  have KE := Lib.hid (show ∀ W, Below W1.heap.size W1 W → rEnt.At Q W A3 s.ents from fun W h => Rep.At.below HSL.out.2.2 (FIN.out W h) (fun _ _ h => h.lt))
  have KV := Lib.hid (show ∀ W, Below W1.heap.size W1 W → rState.val (fun b => b < w.heap.size) W (.agg #[.slice A1 s.gens.length c1, .slice A2 s.free.length c2, .slice A3 s.ents.length c3]) s from fun W h => Rep.val_below HV.out (FIN.out W h) (fun _ _ h => h.lt))
  obtain ⟨q0, q1, q2, q3, q4⟩ := KS.out W1 (Below.refl _ _)
  clear hx hs hz hb1 hz1 hr0 hr1 hy hn hp
  go_enter Try.func143, Try.ntmps143
  go_wp2_with fail
  try rw [hW1]
  clear hW1
  try go_wp2_with fail
  refine (rplace11_calls (KV.out W1 (Below.refl _ _))).mono ?_
  rintro en w2 ⟨rfl, hb2⟩
  have HB2 := Lib.hid hb2
  clear q0 q1 q2 q3 q4 hb2
  rcases find_place (l := s.ents) (id := id) with ⟨hp, hf⟩ | ⟨k, e, hp, he, hf⟩
  · have HF := Lib.hid (show findSt s id yes no = ([], false) by unfold findSt; rw [hf])
    rw [hp]
    clear hp hf
    go_wp2_with fail
    go_ret
    exact ⟨by rw [HF.out]; rfl, FIN.out _ HB2.out⟩
  have HF0 := Lib.hid (show findSt s id yes no = (e.parts, fitsB (maskOf (e.parts.map (·.comp))) yes no) by unfold findSt; rw [hf])
  rw [hp]
  have hkl : (k : Int) < s.ents.length := by have := (List.getElem?_eq_some_iff.1 he).1; omega
  have HPE := Lib.hid (HP.out e (List.mem_of_getElem? he))
  obtain ⟨b, off, Ap, cp, hA3, hbc, d0, d1, d2, f0, f1, hpt⟩ := rEnt_at (KE.out w2 HB2.out) he
  subst hA3
  have HEV := Lib.hid (rEnt_agg (x := e) f0 f1 hpt)
  have HML := Lib.hid (maskOf_lt (e.parts.map (·.comp)))
  obtain ⟨q0, q1, q2, q3, q4⟩ := KS.out w2 HB2.out
  clear hp he hf hbc hpt f0 f1
  go_wp2_with fail
  refine (sig_calls HEV.out HPE.out).mono ?_
  rintro en w3 ⟨rfl, hb3⟩
  have HB3 := Lib.hid (HB2.out.trans (hb3.mono HB2.out.size))
  generalize maskOf (e.parts.map (·.comp)) = m at *
  clear hb3 d0 d1 d2 q0 q1 q2 q3 q4
  go_wp2_with fail
  refine (fits10_calls HML.out HYN.out.1 HYN.out.2 _).mono ?_
  rintro en w4 ⟨rfl, hw⟩
  subst hw
  have HF := Lib.hid (show (findSt s id yes no).2 = fitsB m yes no by rw [HF0.out])
  generalize fitsB m yes no = r at *
  clear HF0
  go_wp2_with fail
  go_ret
  exact ⟨by rw [HF.out]; rfl, FIN.out _ HB3.out⟩

set_option maxRecDepth 100000 in
set_option maxHeartbeats 2000000 in
/-- ref09.SameParts -/
theorem rsameParts_calls {Q Q' : Nat → Prop} {w : World} {u v : Value} {xs ys : List DPart} (hx : rPart.list.val Q w u xs) (hy : rPart.list.val Q' w v ys) :
    Calls Try.prog 134 #[u, v] w fun en w' => en = .returned (.bool (decide (xs = ys))) ∧ Below w.heap.size w w' := by
  obtain ⟨A, c, rfl, hc1, hc2, hA⟩ := Rep.val_list hx
  obtain ⟨B, d, rfl, hd1, hd2, hB⟩ := Rep.val_list hy
  unfold maxLen at hc2 hd2
  have HA := Lib.hid hA
  have HB := Lib.hid hB
  clear hx hy hA hB
  by_cases hlen : xs.length = ys.length
  · have hne : ((xs.length : Int) != (ys.length : Int)) = false := by simp [hlen]
    have HLN := Lib.hid hlen
    clear hlen
    go_enter Try.func134, Try.ntmps134
    go_wp2_with fail
    clear hne
    go_loopw [5] (fun i wr => ∃ k : Nat, i = .int .i64 k ∧ k ≤ xs.length ∧ Hid (xs.take k = ys.take k) ∧ Hid (Below w.heap.size w wr)) (fun i _ => xs.length - (intOf i).toNat)
    case atStart => exact ⟨0, rfl, Nat.zero_le _, Lib.hid (by simp), Lib.hid (Below.refl _ _)⟩
    case round =>
      obtain ⟨k, rfl, hk, HT, HW⟩ := hrel
      by_cases hlt : (k : Int) < xs.length
      · have hlt2 : (k : Int) < ys.length := by have := HLN.out; omega
        obtain ⟨x, hx⟩ : ∃ x, xs[k]? = some x := ⟨_, List.getElem?_eq_getElem (by omega)⟩
        obtain ⟨y, hy⟩ : ∃ y, ys[k]? = some y := ⟨_, List.getElem?_eq_getElem (by omega)⟩
        obtain ⟨b, off, Ad, cd, rfl, hbc, e0, e1, f0, hs⟩ := rPart_at (HA.out.below HW.out (fun _ _ h => h.lt)) hx
        obtain ⟨b', off', Ad', cd', rfl, hbc', e0', e1', f0', hs'⟩ := rPart_at (HB.out.below HW.out (fun _ _ h => h.lt)) hy
        have HEQ := Lib.hid (fun h : x = y => take_eq_succ hx hy HT.out h)
        have HNE := Lib.hid (fun h : x ≠ y => ne_at hx hy h)
        have HD1 := Lib.hid (show Rep.byte.list.val Q wr.drew (.slice Ad x.data.length cd) x.data from Rep.val_drewN hs.val 1)
        have HD2 := Lib.hid (show Rep.byte.list.val Q' wr.drew (.slice Ad' y.data.length cd') y.data from Rep.val_drewN hs'.val 1)
        clear hx hy hbc hbc' f0 f0' hs hs'
        by_cases hcm : x.comp = y.comp
        · have hcb : (x.comp != y.comp) = false := by simp [hcm]
          by_cases hdt : x.data = y.data
          · have HS := Lib.hid (show decide (x.data = y.data) = true from decide_eq_true hdt)
            have HE := Lib.hid (HEQ.out (DPart.ext hcm hdt))
            clear hcm hdt
            go_wp2_with fail
            refine wp_region_held_drew (S := fun W => W = wr.drew) (by kernel_rfl) rfl (fun s0 => ?_)
            refine wpAnyH_take (i := 0) (v := .slice (some ⟨b, off, none⟩) xs.length c) rfl (by kernel_rfl) (by kernel_rfl) (by kernel_rfl) (fun _ _ _ h => h) (Or.inl ⟨by rfl, fun w' _ => by go_simp <;> omega⟩) s0 ?_
            go_simp
            refine wpAnyH_take (i := 1) (v := .int .i64 k) rfl (by kernel_rfl) (by kernel_rfl) (by kernel_rfl) (fun _ _ _ h => h) (Or.inl ⟨by rfl, fun w' _ => by go_simp <;> omega⟩) s0 ?_
            go_simp
            refine wpAnyH_take (i := 2) (v := .pointer (some ⟨b, off + k * 2, none⟩)) rfl (by kernel_rfl) (by kernel_rfl) (by kernel_rfl) (fun _ _ _ h => h) (Or.inl ⟨by rfl, fun w' _ => by go_simp <;> omega⟩) s0 ?_
            go_simp
            refine wpAnyH_take (i := 3) (v := .pointer (some ⟨b, off + k * 2, none⟩)) rfl (by kernel_rfl) (by kernel_rfl) (by kernel_rfl) (fun _ _ _ h => h) (Or.inl ⟨by rfl, fun w' _ => by go_simp <;> omega⟩) s0 ?_
            go_simp
            refine wpAnyH_take (i := 4) (v := .int .i64 x.comp) rfl (by kernel_rfl) (by kernel_rfl) (by kernel_rfl) (fun _ _ _ h => h) (Or.inl ⟨by rfl, fun w' h => by have h' : w' = wr.drew := h; subst h'; go_simp⟩) s0 ?_
            go_simp
            refine wpAnyH_take (i := 5) (v := .slice (some ⟨b', off', none⟩) ys.length d) rfl (by kernel_rfl) (by kernel_rfl) (by kernel_rfl) (fun _ _ _ h => h) (Or.inl ⟨by rfl, fun w' _ => by go_simp <;> omega⟩) s0 ?_
            go_simp
            refine wpAnyH_take (i := 6) (v := .int .i64 k) rfl (by kernel_rfl) (by kernel_rfl) (by kernel_rfl) (fun _ _ _ h => h) (Or.inl ⟨by rfl, fun w' _ => by go_simp <;> omega⟩) s0 ?_
            go_simp
            refine wpAnyH_take (i := 7) (v := .pointer (some ⟨b', off' + k * 2, none⟩)) rfl (by kernel_rfl) (by kernel_rfl) (by kernel_rfl) (fun _ _ _ h => h) (Or.inl ⟨by rfl, fun w' _ => by go_simp <;> omega⟩) s0 ?_
            go_simp
            refine wpAnyH_take (i := 8) (v := .pointer (some ⟨b', off' + k * 2, none⟩)) rfl (by kernel_rfl) (by kernel_rfl) (by kernel_rfl) (fun _ _ _ h => h) (Or.inl ⟨by rfl, fun w' _ => by go_simp <;> omega⟩) s0 ?_
            go_simp
            refine wpAnyH_take (i := 9) (v := .int .i64 y.comp) rfl (by kernel_rfl) (by kernel_rfl) (by kernel_rfl) (fun _ _ _ h => h) (Or.inl ⟨by rfl, fun w' h => by have h' : w' = wr.drew := h; subst h'; go_simp⟩) s0 ?_
            go_simp
            refine wpAnyH_take (i := 10) (v := .bool false) rfl (by kernel_rfl) (by kernel_rfl) (by kernel_rfl) (fun _ _ _ h => h) (Or.inl ⟨by rfl, fun w' _ => by go_simp <;> omega⟩) s0 ?_
            go_simp
            refine wpAnyH_take (i := 11) (v := .bool false) rfl (by kernel_rfl) (by kernel_rfl) (by kernel_rfl) (fun _ _ _ h => h) (Or.inl ⟨by rfl, fun w' _ => by go_simp <;> omega⟩) s0 ?_
            go_simp
            refine wpAnyH_take (i := 12) (v := .slice (some ⟨b, off, none⟩) xs.length c) rfl (by kernel_rfl) (by kernel_rfl) (by kernel_rfl) (fun _ _ _ h => h) (Or.inl ⟨by rfl, fun w' _ => by go_simp <;> omega⟩) s0 ?_
            go_simp
            refine wpAnyH_take (i := 13) (v := .int .i64 k) rfl (by kernel_rfl) (by kernel_rfl) (by kernel_rfl) (fun _ _ _ h => h) (Or.inl ⟨by rfl, fun w' _ => by go_simp <;> omega⟩) s0 ?_
            go_simp
            refine wpAnyH_take (i := 14) (v := .pointer (some ⟨b, off + k * 2, none⟩)) rfl (by kernel_rfl) (by kernel_rfl) (by kernel_rfl) (fun _ _ _ h => h) (Or.inl ⟨by rfl, fun w' _ => by go_simp <;> omega⟩) s0 ?_
            go_simp
            refine wpAnyH_take (i := 15) (v := .pointer (some ⟨b, off + k * 2 + 1, none⟩)) rfl (by kernel_rfl) (by kernel_rfl) (by kernel_rfl) (fun _ _ _ h => h) (Or.inl ⟨by rfl, fun w' _ => by go_simp <;> omega⟩) s0 ?_
            go_simp
            refine wpAnyH_take (i := 16) (v := .slice Ad x.data.length cd) rfl (by kernel_rfl) (by kernel_rfl) (by kernel_rfl) (fun _ _ _ h => h) (Or.inl ⟨by rfl, fun w' h => by have h' : w' = wr.drew := h; subst h'; go_simp⟩) s0 ?_
            go_simp
            refine wpAnyH_take (i := 17) (v := .slice (some ⟨b', off', none⟩) ys.length d) rfl (by kernel_rfl) (by kernel_rfl) (by kernel_rfl) (fun _ _ _ h => h) (Or.inl ⟨by rfl, fun w' _ => by go_simp <;> omega⟩) s0 ?_
            go_simp
            refine wpAnyH_take (i := 18) (v := .int .i64 k) rfl (by kernel_rfl) (by kernel_rfl) (by kernel_rfl) (fun _ _ _ h => h) (Or.inl ⟨by rfl, fun w' _ => by go_simp <;> omega⟩) s0 ?_
            go_simp
            refine wpAnyH_take (i := 19) (v := .pointer (some ⟨b', off' + k * 2, none⟩)) rfl (by kernel_rfl) (by kernel_rfl) (by kernel_rfl) (fun _ _ _ h => h) (Or.inl ⟨by rfl, fun w' _ => by go_simp <;> omega⟩) s0 ?_
            go_simp
            refine wpAnyH_take (i := 20) (v := .pointer (some ⟨b', off' + k * 2 + 1, none⟩)) rfl (by kernel_rfl) (by kernel_rfl) (by kernel_rfl) (fun _ _ _ h => h) (Or.inl ⟨by rfl, fun w' _ => by go_simp <;> omega⟩) s0 ?_
            go_simp
            refine wpAnyH_take (i := 21) (v := .slice Ad' y.data.length cd') rfl (by kernel_rfl) (by kernel_rfl) (by kernel_rfl) (fun _ _ _ h => h) (Or.inl ⟨by rfl, fun w' h => by have h' : w' = wr.drew := h; subst h'; go_simp⟩) s0 ?_
            go_simp
            refine wpAnyH_all (rs := [22]) (by kernel_rfl) (by simp) ?_
            intro i hi
            obtain rfl : i = 22 := by simpa using hi
            clear hi
            refine wpOp_step rfl (fun K hK => ?_)
            go_simp
            refine (sameBytes HD1.out HD2.out).mono ?_
            rintro en w' ⟨rfl, rfl⟩
            rw [HS.out]
            refine hK _ _ ⟨rfl, ?_⟩
            clear hK K
            refine wpAnyH_take (i := 23) (v := .bool false) rfl (by kernel_rfl) (by kernel_rfl) (by kernel_rfl) (fun _ _ _ h => h) (Or.inl ⟨by rfl, fun w' _ => by go_simp <;> omega⟩) s0 ?_
            go_simp
            refine wpAnyH_take (i := 24) (v := .bool false) rfl (by kernel_rfl) (by kernel_rfl) (by kernel_rfl) (fun _ _ _ h => h) (Or.inl ⟨by rfl, fun w' _ => by go_simp <;> omega⟩) s0 ?_
            go_simp
            refine wpAnyH_done (by kernel_rfl) ?_ _
            go_wp2_with fail
            exact ⟨⟨k + 1, by go_num, by omega, HE, Lib.hid HW.out.drew⟩, by simp [intOf]; omega⟩
          · have HS := Lib.hid (show decide (x.data = y.data) = false from decide_eq_false hdt)
            have HE := Lib.hid (show decide (xs = ys) = false from decide_eq_false (HNE.out (fun h => hdt (by rw [h]))))
            clear hcm hdt
            go_wp2_with fail
            refine wp_region_held_drew (S := fun W => W = wr.drew) (by kernel_rfl) rfl (fun s0 => ?_)
            refine wpAnyH_take (i := 0) (v := .slice (some ⟨b, off, none⟩) xs.length c) rfl (by kernel_rfl) (by kernel_rfl) (by kernel_rfl) (fun _ _ _ h => h) (Or.inl ⟨by rfl, fun w' _ => by go_simp <;> omega⟩) s0 ?_
            go_simp
            refine wpAnyH_take (i := 1) (v := .int .i64 k) rfl (by kernel_rfl) (by kernel_rfl) (by kernel_rfl) (fun _ _ _ h => h) (Or.inl ⟨by rfl, fun w' _ => by go_simp <;> omega⟩) s0 ?_
            go_simp
            refine wpAnyH_take (i := 2) (v := .pointer (some ⟨b, off + k * 2, none⟩)) rfl (by kernel_rfl) (by kernel_rfl) (by kernel_rfl) (fun _ _ _ h => h) (Or.inl ⟨by rfl, fun w' _ => by go_simp <;> omega⟩) s0 ?_
            go_simp
            refine wpAnyH_take (i := 3) (v := .pointer (some ⟨b, off + k * 2, none⟩)) rfl (by kernel_rfl) (by kernel_rfl) (by kernel_rfl) (fun _ _ _ h => h) (Or.inl ⟨by rfl, fun w' _ => by go_simp <;> omega⟩) s0 ?_
            go_simp
            refine wpAnyH_take (i := 4) (v := .int .i64 x.comp) rfl (by kernel_rfl) (by kernel_rfl) (by kernel_rfl) (fun _ _ _ h => h) (Or.inl ⟨by rfl, fun w' h => by have h' : w' = wr.drew := h; subst h'; go_simp⟩) s0 ?_
            go_simp
            refine wpAnyH_take (i := 5) (v := .slice (some ⟨b', off', none⟩) ys.length d) rfl (by kernel_rfl) (by kernel_rfl) (by kernel_rfl) (fun _ _ _ h => h) (Or.inl ⟨by rfl, fun w' _ => by go_simp <;> omega⟩) s0 ?_
            go_simp
            refine wpAnyH_take (i := 6) (v := .int .i64 k) rfl (by kernel_rfl) (by kernel_rfl) (by kernel_rfl) (fun _ _ _ h => h) (Or.inl ⟨by rfl, fun w' _ => by go_simp <;> omega⟩) s0 ?_
            go_simp
            refine wpAnyH_take (i := 7) (v := .pointer (some ⟨b', off' + k * 2, none⟩)) rfl (by kernel_rfl) (by kernel_rfl) (by kernel_rfl) (fun _ _ _ h => h) (Or.inl ⟨by rfl, fun w' _ => by go_simp <;> omega⟩) s0 ?_
            go_simp
            refine wpAnyH_take (i := 8) (v := .pointer (some ⟨b', off' + k * 2, none⟩)) rfl (by kernel_rfl) (by kernel_rfl) (by kernel_rfl) (fun _ _ _ h => h) (Or.inl ⟨by rfl, fun w' _ => by go_simp <;> omega⟩) s0 ?_
            go_simp
            refine wpAnyH_take (i := 9) (v := .int .i64 y.comp) rfl (by kernel_rfl) (by kernel_rfl) (by kernel_rfl) (fun _ _ _ h => h) (Or.inl ⟨by rfl, fun w' h => by have h' : w' = wr.drew := h; subst h'; go_simp⟩) s0 ?_
            go_simp
            refine wpAnyH_take (i := 10) (v := .bool false) rfl (by kernel_rfl) (by kernel_rfl) (by kernel_rfl) (fun _ _ _ h => h) (Or.inl ⟨by rfl, fun w' _ => by go_simp <;> omega⟩) s0 ?_
            go_simp
            refine wpAnyH_take (i := 11) (v := .bool false) rfl (by kernel_rfl) (by kernel_rfl) (by kernel_rfl) (fun _ _ _ h => h) (Or.inl ⟨by rfl, fun w' _ => by go_simp <;> omega⟩) s0 ?_
            go_simp
            refine wpAnyH_take (i := 12) (v := .slice (some ⟨b, off, none⟩) xs.length c) rfl (by kernel_rfl) (by kernel_rfl) (by kernel_rfl) (fun _ _ _ h => h) (Or.inl ⟨by rfl, fun w' _ => by go_simp <;> omega⟩) s0 ?_
            go_simp
            refine wpAnyH_take (i := 13) (v := .int .i64 k) rfl (by kernel_rfl) (by kernel_rfl) (by kernel_rfl) (fun _ _ _ h => h) (Or.inl ⟨by rfl, fun w' _ => by go_simp <;> omega⟩) s0 ?_
            go_simp
            refine wpAnyH_take (i := 14) (v := .pointer (some ⟨b, off + k * 2, none⟩)) rfl (by kernel_rfl) (by kernel_rfl) (by kernel_rfl) (fun _ _ _ h => h) (Or.inl ⟨by rfl, fun w' _ => by go_simp <;> omega⟩) s0 ?_
            go_simp
            refine wpAnyH_take (i := 15) (v := .pointer (some ⟨b, off + k * 2 + 1, none⟩)) rfl (by kernel_rfl) (by kernel_rfl) (by kernel_rfl) (fun _ _ _ h => h) (Or.inl ⟨by rfl, fun w' _ => by go_simp <;> omega⟩) s0 ?_
            go_simp
            refine wpAnyH_take (i := 16) (v := .slice Ad x.data.length cd) rfl (by kernel_rfl) (by kernel_rfl) (by kernel_rfl) (fun _ _ _ h => h) (Or.inl ⟨by rfl, fun w' h => by have h' : w' = wr.drew := h; subst h'; go_simp⟩) s0 ?_
            go_simp
            refine wpAnyH_take (i := 17) (v := .slice (some ⟨b', off', none⟩) ys.length d) rfl (by kernel_rfl) (by kernel_rfl) (by kernel_rfl) (fun _ _ _ h => h) (Or.inl ⟨by rfl, fun w' _ => by go_simp <;> omega⟩) s0 ?_
            go_simp
            refine wpAnyH_take (i := 18) (v := .int .i64 k) rfl (by kernel_rfl) (by kernel_rfl) (by kernel_rfl) (fun _ _ _ h => h) (Or.inl ⟨by rfl, fun w' _ => by go_simp <;> omega⟩) s0 ?_
            go_simp
            refine wpAnyH_take (i := 19) (v := .pointer (some ⟨b', off' + k * 2, none⟩)) rfl (by kernel_rfl) (by kernel_rfl) (by kernel_rfl) (fun _ _ _ h => h) (Or.inl ⟨by rfl, fun w' _ => by go_simp <;> omega⟩) s0 ?_
            go_simp
            refine wpAnyH_take (i := 20) (v := .pointer (some ⟨b', off' + k * 2 + 1, none⟩)) rfl (by kernel_rfl) (by kernel_rfl) (by kernel_rfl) (fun _ _ _ h => h) (Or.inl ⟨by rfl, fun w' _ => by go_simp <;> omega⟩) s0 ?_
            go_simp
            refine wpAnyH_take (i := 21) (v := .slice Ad' y.data.length cd') rfl (by kernel_rfl) (by kernel_rfl) (by kernel_rfl) (fun _ _ _ h => h) (Or.inl ⟨by rfl, fun w' h => by have h' : w' = wr.drew := h; subst h'; go_simp⟩) s0 ?_
            go_simp
            refine wpAnyH_all (rs := [22]) (by kernel_rfl) (by simp) ?_
            intro i hi
            obtain rfl : i = 22 := by simpa using hi
            clear hi
            refine wpOp_step rfl (fun K hK => ?_)
            go_simp
            refine (sameBytes HD1.out HD2.out).mono ?_
            rintro en w' ⟨rfl, rfl⟩
            rw [HS.out]
            refine hK _ _ ⟨rfl, ?_⟩
            clear hK K
            refine wpAnyH_take (i := 23) (v := .bool true) rfl (by kernel_rfl) (by kernel_rfl) (by kernel_rfl) (fun _ _ _ h => h) (Or.inl ⟨by rfl, fun w' _ => by go_simp <;> omega⟩) s0 ?_
            go_simp
            refine wpAnyH_take (i := 24) (v := .bool true) rfl (by kernel_rfl) (by kernel_rfl) (by kernel_rfl) (fun _ _ _ h => h) (Or.inl ⟨by rfl, fun w' _ => by go_simp <;> omega⟩) s0 ?_
            go_simp
            refine wpAnyH_done (by kernel_rfl) ?_ _
            go_wp2_with fail
            go_ret
            exact ⟨by rw [HE.out]; rfl, HW.out.drew⟩
        · have hcb : (x.comp != y.comp) = true := by simpa using hcm
          have HE := Lib.hid (show decide (xs = ys) = false from decide_eq_false (HNE.out (fun h => hcm (by rw [h]))))
          clear hcm
          go_wp2_with fail
          refine wp_region_held_drew (S := fun W => W = wr.drew) (by kernel_rfl) rfl (fun s0 => ?_)
          refine wpAnyH_take (i := 0) (v := .slice (some ⟨b, off, none⟩) xs.length c) rfl (by kernel_rfl) (by kernel_rfl) (by kernel_rfl) (fun _ _ _ h => h) (Or.inl ⟨by rfl, fun w' _ => by go_simp <;> omega⟩) s0 ?_
          go_simp
          refine wpAnyH_take (i := 1) (v := .int .i64 k) rfl (by kernel_rfl) (by kernel_rfl) (by kernel_rfl) (fun _ _ _ h => h) (Or.inl ⟨by rfl, fun w' _ => by go_simp <;> omega⟩) s0 ?_
          go_simp
          refine wpAnyH_take (i := 2) (v := .pointer (some ⟨b, off + k * 2, none⟩)) rfl (by kernel_rfl) (by kernel_rfl) (by kernel_rfl) (fun _ _ _ h => h) (Or.inl ⟨by rfl, fun w' _ => by go_simp <;> omega⟩) s0 ?_
          go_simp
          refine wpAnyH_take (i := 3) (v := .pointer (some ⟨b, off + k * 2, none⟩)) rfl (by kernel_rfl) (by kernel_rfl) (by kernel_rfl) (fun _ _ _ h => h) (Or.inl ⟨by rfl, fun w' _ => by go_simp <;> omega⟩) s0 ?_
          go_simp
          refine wpAnyH_take (i := 4) (v := .int .i64 x.comp) rfl (by kernel_rfl) (by kernel_rfl) (by kernel_rfl) (fun _ _ _ h => h) (Or.inl ⟨by rfl, fun w' h => by have h' : w' = wr.drew := h; subst h'; go_simp⟩) s0 ?_
          go_simp
          refine wpAnyH_take (i := 5) (v := .slice (some ⟨b', off', none⟩) ys.length d) rfl (by kernel_rfl) (by kernel_rfl) (by kernel_rfl) (fun _ _ _ h => h) (Or.inl ⟨by rfl, fun w' _ => by go_simp <;> omega⟩) s0 ?_
          go_simp
          refine wpAnyH_take (i := 6) (v := .int .i64 k) rfl (by kernel_rfl) (by kernel_rfl) (by kernel_rfl) (fun _ _ _ h => h) (Or.inl ⟨by rfl, fun w' _ => by go_simp <;> omega⟩) s0 ?_
          go_simp
          refine wpAnyH_take (i := 7) (v := .pointer (some ⟨b', off' + k * 2, none⟩)) rfl (by kernel_rfl) (by kernel_rfl) (by kernel_rfl) (fun _ _ _ h => h) (Or.inl ⟨by rfl, fun w' _ => by go_simp <;> omega⟩) s0 ?_
          go_simp
          refine wpAnyH_take (i := 8) (v := .pointer (some ⟨b', off' + k * 2, none⟩)) rfl (by kernel_rfl) (by kernel_rfl) (by kernel_rfl) (fun _ _ _ h => h) (Or.inl ⟨by rfl, fun w' _ => by go_simp <;> omega⟩) s0 ?_
          go_simp
          refine wpAnyH_take (i := 9) (v := .int .i64 y.comp) rfl (by kernel_rfl) (by kernel_rfl) (by kernel_rfl) (fun _ _ _ h => h) (Or.inl ⟨by rfl, fun w' h => by have h' : w' = wr.drew := h; subst h'; go_simp⟩) s0 ?_
          go_simp
          refine wpAnyH_take (i := 10) (v := .bool true) rfl (by kernel_rfl) (by kernel_rfl) (by kernel_rfl) (fun _ _ _ h => h) (Or.inl ⟨by rfl, fun w' _ => by go_simp <;> omega⟩) s0 ?_
          go_simp
          refine wpAnyH_take (i := 11) (v := .bool true) rfl (by kernel_rfl) (by kernel_rfl) (by kernel_rfl) (fun _ _ _ h => h) (Or.inl ⟨by rfl, fun w' _ => by go_simp <;> omega⟩) s0 ?_
          go_simp
          refine wpAnyH_take (i := 12) (v := undef) rfl (by kernel_rfl) (by kernel_rfl) (by kernel_rfl) (fun _ _ _ h => h) (Or.inr ⟨by rfl, rfl⟩) s0 ?_
          go_simp
          refine wpAnyH_take (i := 13) (v := undef) rfl (by kernel_rfl) (by kernel_rfl) (by kernel_rfl) (fun _ _ _ h => h) (Or.inr ⟨by rfl, rfl⟩) s0 ?_
          go_simp
          refine wpAnyH_take (i := 14) (v := undef) rfl (by kernel_rfl) (by kernel_rfl) (by kernel_rfl) (fun _ _ _ h => h) (Or.inr ⟨by rfl, rfl⟩) s0 ?_
          go_simp
          refine wpAnyH_take (i := 15) (v := undef) rfl (by kernel_rfl) (by kernel_rfl) (by kernel_rfl) (fun _ _ _ h => h) (Or.inr ⟨by rfl, rfl⟩) s0 ?_
          go_simp
          refine wpAnyH_take (i := 16) (v := undef) rfl (by kernel_rfl) (by kernel_rfl) (by kernel_rfl) (fun _ _ _ h => h) (Or.inr ⟨by rfl, rfl⟩) s0 ?_
          go_simp
          refine wpAnyH_take (i := 17) (v := undef) rfl (by kernel_rfl) (by kernel_rfl) (by kernel_rfl) (fun _ _ _ h => h) (Or.inr ⟨by rfl, rfl⟩) s0 ?_
          go_simp
          refine wpAnyH_take (i := 18) (v := undef) rfl (by kernel_rfl) (by kernel_rfl) (by kernel_rfl) (fun _ _ _ h => h) (Or.inr ⟨by rfl, rfl⟩) s0 ?_
          go_simp
          refine wpAnyH_take (i := 19) (v := undef) rfl (by kernel_rfl) (by kernel_rfl) (by kernel_rfl) (fun _ _ _ h => h) (Or.inr ⟨by rfl, rfl⟩) s0 ?_
          go_simp
          refine wpAnyH_take (i := 20) (v := undef) rfl (by kernel_rfl) (by kernel_rfl) (by kernel_rfl) (fun _ _ _ h => h) (Or.inr ⟨by rfl, rfl⟩) s0 ?_
          go_simp
          refine wpAnyH_take (i := 21) (v := undef) rfl (by kernel_rfl) (by kernel_rfl) (by kernel_rfl) (fun _ _ _ h => h) (Or.inr ⟨by rfl, rfl⟩) s0 ?_
          go_simp
          refine wpAnyH_take (i := 22) (v := undef) rfl (by kernel_rfl) (by kernel_rfl) (by kernel_rfl) (fun _ _ _ h => h) (Or.inr ⟨by rfl, rfl⟩) s0 ?_
          go_simp
          refine wpAnyH_take (i := 23) (v := undef) rfl (by kernel_rfl) (by kernel_rfl) (by kernel_rfl) (fun _ _ _ h => h) (Or.inr ⟨by rfl, rfl⟩) s0 ?_
          go_simp
          refine wpAnyH_take (i := 24) (v := .bool true) rfl (by kernel_rfl) (by kernel_rfl) (by kernel_rfl) (fun _ _ _ h => h) (Or.inl ⟨by rfl, fun w' _ => by go_simp <;> omega⟩) s0 ?_
          go_simp
          refine wpAnyH_done (by kernel_rfl) ?_ _
          go_wp2_with fail
          go_ret
          exact ⟨by rw [HE.out]; rfl, HW.out.drew⟩
      · obtain rfl : k = xs.length := by omega
        have HE := Lib.hid (show decide (xs = ys) = true by
          apply decide_eq_true
          have := HT.out
          rwa [List.take_length, HLN.out, List.take_length] at this)
        go_wp2_with fail
        go_ret
        exact ⟨by rw [HE.out]; rfl, HW.out⟩
  · have hne : ((xs.length : Int) != (ys.length : Int)) = true := by simp; omega
    have HE := Lib.hid (show decide (xs = ys) = false from decide_eq_false (fun h => hlen (by rw [h])))
    clear hlen
    go_enter Try.func134, Try.ntmps134
    go_wp2_with fail
    go_ret
    exact ⟨by rw [HE.out]; rfl, Below.refl _ _⟩
end Go.Proofs.Ytfpmkenobphfnaa
