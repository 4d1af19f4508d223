/- Walk of ref37.Events. Printed by gen_revents.py. -/
import Derived.Test.YtfpmkenobphfnaaWeG19
import Derived.Test.YtfpmkenobphfnaaWeRWatch2
namespace Go.Proofs.Ytfpmkenobphfnaa
open Go.RowKit

/-- Names, sorted, in a slice that the call has made. -/
def Ids (W1 W : World) (v : Value) (l : List DID) (m : List DID) : Prop :=
  rID.list.val (fun b => W1.heap.size ≤ b) W v l ∧ (l = [] → v = .slice none 0 0) ∧ l.Pairwise idLt ∧ (∀ x, x ∈ l ↔ x ∈ m) ∧ l.length ≤ m.length ∧ Below W1.heap.size W1 W
theorem ids_add {W1 W W' : World} {u : Value} {l' l m : List DID} {v : Value} {id : DID} (h : Ids W1 W v l m) (hu : rID.list.val (fun b => W1.heap.size ≤ b ∨ W.heap.size ≤ b) W' u l') (h1 : l' ≠ []) (h2 : l'.Pairwise idLt) (h3 : ∀ x, x ∈ l' ↔ x ∈ l ∨ x = id) (h4 : l'.length ≤ l.length + 1) (hb : Below W.heap.size W W') : Ids W1 W' u l' (m ++ [id]) := by
  obtain ⟨a1, a2, a3, a4, a5, a6⟩ := h
  refine ⟨Rep.val_mono (fun b hb _ => hb.elim (fun h => h) (Nat.le_trans a6.size)) hu, fun e => absurd e h1, h2, fun x => ?_, by rw [List.length_append, List.length_singleton]; omega, a6.trans (hb.mono a6.size)⟩
  rw [h3, a4, List.mem_append, List.mem_singleton]
theorem findSt_true {s : DState} {id : DID} {yes no : Nat} {p : List DPart} (h : findSt s id yes no = (p, true)) : ∃ (k : Nat) (e : DEnt), placeI s.ents id = k ∧ s.ents[k]? = some e ∧ e.parts = p := by
  rcases find_place (l := s.ents) (id := id) with ⟨_, hf⟩ | ⟨k, e, hp, he, hf⟩
  · unfold findSt at h; rw [hf] at h; cases h
  · unfold findSt at h; rw [hf] at h
    exact ⟨k, e, hp, he, (Prod.mk.inj h).1⟩
theorem ents_id_wf {s : DState} {Q : Nat → Prop} {W : World} {A : Option Addr} (h : rEnt.At Q W A s.ents) : ∀ x ∈ s.ents.map (·.id), IDwf x := fun x hx => by
  obtain ⟨e, he, rfl⟩ := List.mem_map.1 hx
  obtain ⟨i, hi, rfl⟩ := List.getElem_of_mem he
  obtain ⟨_, _, _, _, _, _, _, _, _, f0, f1, _⟩ := rEnt_at h (List.getElem?_eq_getElem hi)
  exact ⟨f0, f1⟩

set_option maxRecDepth 100000 in
set_option maxHeartbeats 2000000 in
/-- ref37.Events -/
theorem revents_calls {Q : Nat → Prop} {w : World} {va vb : Value} {a b : DState} {yes no : Nat} {f : Int} (hva : rState.val Q w va a) (hvb : rState.val Q w vb b) (hy : yes < 18446744073709551616) (hn : no < 18446744073709551616) (hf : (Lit.int .i64 f).wf = true)
    (hla : a.ents.length ≤ 60 ∧ ∀ e ∈ a.ents, e.parts.length ≤ 40) (hlb : b.ents.length ≤ 60 ∧ ∀ e ∈ b.ents, e.parts.length ≤ 40) :
    Calls Try.prog 81 #[va, vb, .int .u64 (yes : Int), .int .u64 (no : Int), .int .i64 f] w (EventsPost w a b yes no f) := by
  have HVA := Lib.hid (Rep.val_any hva)
  have HVB := Lib.hid (Rep.val_any hvb)
  have HYN := Lib.hid (show yes < 18446744073709551616 ∧ no < 18446744073709551616 from ⟨hy, hn⟩)
  have HF := Lib.hid hf
  have HLA := Lib.hid hla
  have HLB := Lib.hid hlb
  have HK := Lib.hid (show (Lit.int .i64 0).wf = true ∧ (Lit.int .i64 1).wf = true ∧ (Lit.int .i64 2).wf = true by decide)
  obtain ⟨A1, c1, A2, c2, A3, c3, rfl, _, _, _⟩ := rState_val hva
  obtain ⟨B1, d1, B2, d2, B3, d3, rfl, _, _, _⟩ := rState_val hvb
  obtain ⟨W1, hW1⟩ : ∃ W1, (w.alloc (.cells #[.slice A1 a.gens.length c1, .slice A2 a.free.length c2, .slice A3 a.ents.length c3] 109)).alloc (.cells #[.slice B1 b.gens.length d1, .slice B2 b.free.length d2, .slice B3 b.ents.length d3] 109) = W1 := ⟨_, rfl⟩
  have hz : (w.alloc (.cells #[.slice A1 a.gens.length c1, .slice A2 a.free.length c2, .slice A3 a.ents.length c3] 109)).heap.size = w.heap.size + 1 := by simp
  have hb1 : Below w.heap.size w W1 := by rw [← hW1]; exact ((Below.refl _ _).alloc (Nat.le_refl _) _).alloc (by rw [hz]; omega) _
  have hz1 : W1.heap.size = w.heap.size + 2 := by rw [← hW1]; simp
  have hr0 : W1.heap[w.heap.size]? = some (.cells #[.slice A1 a.gens.length c1, .slice A2 a.free.length c2, .slice A3 a.ents.length c3] 109 (0, 0)) := by rw [← hW1]; exact (heap_alloc_old _ _ (by rw [hz]; omega)).trans (heap_alloc_new w _)
  have hr1 : W1.heap[w.heap.size + 1]? = some (.cells #[.slice B1 b.gens.length d1, .slice B2 b.free.length d2, .slice B3 b.ents.length d3] 109 (0, 0)) := by rw [← hW1, ← hz]; exact heap_alloc_new _ _
  have KS := Lib.hid (show ∀ W, Below W1.heap.size W1 W → (W.cell? ⟨w.heap.size, 0, none⟩ = some (.slice A1 a.gens.length c1) ∧ W.cell? ⟨w.heap.size, 1, none⟩ = some (.slice A2 a.free.length c2) ∧ W.cell? ⟨w.heap.size, 2, none⟩ = some (.slice A3 a.ents.length c3)) ∧ W.cell? ⟨w.heap.size + 1, 0, none⟩ = some (.slice B1 b.gens.length d1) ∧ W.cell? ⟨w.heap.size + 1, 1, none⟩ = some (.slice B2 b.free.length d2) ∧ W.cell? ⟨w.heap.size + 1, 2, none⟩ = some (.slice B3 b.ents.length d3) from fun W h => by
    have e := (h.block _ (by omega)).trans hr0
    have f := (h.block _ (by omega)).trans hr1
    exact ⟨⟨cell_row e 0, cell_row e 1, cell_row e 2⟩, cell_row f 0, cell_row f 1, cell_row f 2⟩)
  have FIN := Lib.hid (show ∀ W, Below W1.heap.size W1 W → Below w.heap.size w W from fun W h => hb1.trans (h.mono hb1.size))
  have KA := Lib.hid (show ∀ W, Below W1.heap.size W1 W → rState.val (fun b => b < w.heap.size) W (.agg #[.slice A1 a.gens.length c1, .slice A2 a.free.length c2, .slice A3 a.ents.length c3]) a from fun W h => Rep.val_below HVA.out (FIN.out W h) (fun _ hb _ => hb))
  have KB := Lib.hid (show ∀ W, Below W1.heap.size W1 W → rState.val (fun b => b < w.heap.size) W (.agg #[.slice B1 b.gens.length d1, .slice B2 b.free.length d2, .slice B3 b.ents.length d3]) b from fun W h => Rep.val_below HVB.out (FIN.out W h) (fun _ hb _ => hb))
  have HZ := Lib.hid hz1
  obtain ⟨⟨q0, q1, q2⟩, q3, q4, q5⟩ := KS.out W1 (Below.refl _ _)
  clear hva hvb hy hn hf hla hlb hz hb1 hz1 hr0 hr1
  have KEA := Lib.hid (show ∀ W, Below W1.heap.size W1 W → rEnt.At (fun b => b < w.heap.size) W A3 a.ents ∧ a.ents.length ≤ c3 ∧ c3 ≤ maxLen from fun W h => by
    obtain ⟨_, _, _, _, A3', c3', e, _, _, hs⟩ := rState_val (KA.out W h)
    injection e with e; injection e with e; simp only [List.cons.injEq, Value.slice.injEq, true_and, and_true] at e
    obtain ⟨_, _, rfl, rfl⟩ := e
    exact ⟨hs.2.2, hs.1, hs.2.1⟩)
  have KEB := Lib.hid (show ∀ W, Below W1.heap.size W1 W → rEnt.At (fun b => b < w.heap.size) W B3 b.ents ∧ b.ents.length ≤ d3 ∧ d3 ≤ maxLen from fun W h => by
    obtain ⟨_, _, _, _, A3', c3', e, _, _, hs⟩ := rState_val (KB.out W h)
    injection e with e; injection e with e; simp only [List.cons.injEq, Value.slice.injEq, true_and, and_true] at e
    obtain ⟨_, _, rfl, rfl⟩ := e
    exact ⟨hs.2.2, hs.1, hs.2.1⟩)
  go_enter Try.func81, Try.ntmps81
  go_wp2_with fail
  try rw [hW1]
  clear hW1 q0 q1 q2 q3 q4 q5
  try go_wp2_with fail
  go_loopw [11, 12] (fun v i wr => ∃ (k : Nat) (l : List DID), i = .int .i64 k ∧ k ≤ a.ents.length ∧ Ids W1 wr v l ((a.ents.take k).map (·.id))) (fun _ i _ => a.ents.length - (intOf i).toNat)
  case atStart => exact ⟨0, [], rfl, Nat.zero_le _, Rep.val_nil (by simp [maxLen]), fun _ => rfl, List.Pairwise.nil, fun _ => by simp, Nat.le_refl _, Below.refl _ _⟩
  case round =>
    obtain ⟨k, l, rfl, hk, hids⟩ := hrel
    have HIDS := Lib.hid hids
    have HB := Lib.hid hids.2.2.2.2.2
    have HLEN := Lib.hid (show l.length ≤ 1000000000 by have h := hids.2.2.2.2.1; simp only [List.length_map, List.length_take] at h; have := HLA.out.1; have := HLB.out.1; omega)
    obtain ⟨⟨_, _, q2⟩, _, _, q5⟩ := KS.out wr HB.out
    obtain ⟨hat, hpl, hpm⟩ := KEA.out wr HB.out
    have HPL := Lib.hid hpl
    unfold maxLen at hpm
    clear hids
    by_cases hlt : (k : Int) < a.ents.length
    · obtain ⟨e, he⟩ : ∃ e, a.ents[k]? = some e := ⟨_, List.getElem?_eq_getElem (by omega)⟩
      obtain ⟨bb, off, Ap, cp, hA3, _, e0, e1, _, f0, f1, _⟩ := rEnt_at hat he
      subst hA3
      have HT := Lib.hid (show (a.ents.take (k + 1)).map (·.id) = (a.ents.take k).map (·.id) ++ [e.id] by
        rw [List.take_succ_eq_append_getElem (by omega), List.map_append, (List.getElem?_eq_some_iff.1 he).2]; rfl)
      have HG := Lib.hid (show IDwf e.id from ⟨f0, f1⟩)
      clear hat he f0 f1
      go_wp2_with fail
      refine (radd_calls HIDS.out.1 HIDS.out.2.1 HIDS.out.2.2.1 HG.out HLEN.out).mono ?_
      rintro en w4 ⟨u4, l4, rfl, hu4, hn4, hp4, hm4, hl4, hb4⟩
      have H4 := ids_add HIDS.out hu4 hn4 hp4 hm4 hl4 hb4
      rw [← HT.out] at H4
      have HH4 := Lib.hid H4
      clear H4 hu4 hn4 hp4 hm4 hl4 hb4 e0 e1 q2 q5
      go_wp2_with fail
      exact ⟨⟨k + 1, l4, by go_num, by omega, HH4.out⟩, by simp [intOf]; omega⟩
    · obtain rfl : k = a.ents.length := by omega
      rw [List.take_length] at HIDS
      clear hat
      go_wp2_with fail
      have HIDA := Lib.hid HIDS.out
      clear q2 q5 hpl hpm HPL HB HLEN hlt hk
      rename World => wA
      go_loopw [11, 13] (fun v i wr => ∃ (k : Nat) (l : List DID), i = .int .i64 k ∧ k ≤ b.ents.length ∧ Ids W1 wr v l (a.ents.map (·.id) ++ (b.ents.take k).map (·.id))) (fun _ i _ => b.ents.length - (intOf i).toNat)
      case atStart => exact ⟨0, l, rfl, Nat.zero_le _, by rw [List.take_zero, List.map_nil, List.append_nil]; exact HIDA.out⟩
      case round =>
        obtain ⟨k, l, rfl, hk, hids⟩ := hrel
        have HIDS := Lib.hid hids
        have HB := Lib.hid hids.2.2.2.2.2
        have HLEN := Lib.hid (show l.length ≤ 1000000000 by have h := hids.2.2.2.2.1; simp only [List.length_append, List.length_map, List.length_take] at h; have := HLA.out.1; have := HLB.out.1; omega)
        obtain ⟨⟨_, _, q2⟩, _, _, q5⟩ := KS.out wr HB.out
        obtain ⟨hat, hpl, hpm⟩ := KEB.out wr HB.out
        have HPL := Lib.hid hpl
        unfold maxLen at hpm
        clear hids
        by_cases hlt : (k : Int) < b.ents.length
        · obtain ⟨e, he⟩ : ∃ e, b.ents[k]? = some e := ⟨_, List.getElem?_eq_getElem (by omega)⟩
          obtain ⟨bb, off, Ap, cp, hA3, _, e0, e1, _, f0, f1, _⟩ := rEnt_at hat he
          subst hA3
          have HT := Lib.hid (show (b.ents.take (k + 1)).map (·.id) = (b.ents.take k).map (·.id) ++ [e.id] by
            rw [List.take_succ_eq_append_getElem (by omega), List.map_append, (List.getElem?_eq_some_iff.1 he).2]; rfl)
          have HG := Lib.hid (show IDwf e.id from ⟨f0, f1⟩)
          clear hat he f0 f1
          go_wp2_with fail
          refine (radd_calls HIDS.out.1 HIDS.out.2.1 HIDS.out.2.2.1 HG.out HLEN.out).mono ?_
          rintro en w4 ⟨u4, l4, rfl, hu4, hn4, hp4, hm4, hl4, hb4⟩
          have H4 := ids_add HIDS.out hu4 hn4 hp4 hm4 hl4 hb4
          rw [List.append_assoc, ← HT.out] at H4
          have HH4 := Lib.hid H4
          clear H4 hu4 hn4 hp4 hm4 hl4 hb4 e0 e1 q2 q5
          go_wp2_with fail
          exact ⟨⟨k + 1, l4, by go_num, by omega, HH4.out⟩, by simp [intOf]; omega⟩
        · obtain rfl : k = b.ents.length := by omega
          rw [List.take_length] at HIDS
          clear hat
          go_wp2_with fail
          have HIDN := Lib.hid HIDS.out
          have HB2 := Lib.hid HB.out
          rename World => w2
          obtain ⟨An, cn, rfl, hn1, hn2, hnat⟩ := Rep.val_list HIDN.out.1
          have HPW := Lib.hid HIDN.out.2.2.1
          have HMEM := Lib.hid (show ∀ x, x ∈ l ↔ x ∈ (a.ents ++ b.ents).map (·.id) from fun x => by rw [HIDN.out.2.2.2.1, List.map_append])
          have HNL := Lib.hid (show l.length ≤ 120 by have h := HIDN.out.2.2.2.2.1; simp only [List.length_append, List.length_map] at h; have := HLA.out.1; have := HLB.out.1; omega)
          have KN := Lib.hid (show ∀ W', Below w2.heap.size w2 W' → rID.At (fun b => b < w2.heap.size) W' An l from fun W' hb => Rep.At.keep (w := w2) (fun b _ hl => ⟨hl.lt, hb.block b hl.lt⟩) hnat)
          have HSZ := Lib.hid (show w.heap.size ≤ w2.heap.size by have := HB2.out.size; have := HZ.out; omega)
          unfold maxLen at hn2
          clear q2 q5 hpl hpm HPL HLEN hlt hk hnat HIDN HIDA HIDS HB
          go_loopw [14, 15] (fun s i wr => ∃ k : Nat, i = .int .i64 k ∧ k ≤ l.length ∧ rEvent.acc 205 w2.heap.size (fun _ => False) wr s (eventsOf a b yes no f (l.take k)) ∧ Below w2.heap.size w2 wr) (fun _ i _ => l.length - (intOf i).toNat)
          case atStart => exact ⟨0, rfl, Nat.zero_le _, by rw [List.take_zero]; exact Rep.acc_nil, Below.refl _ _⟩
          case round =>
            obtain ⟨k, rfl, hk, hv, hbel⟩ := hrel
            have HBW := Lib.hid hbel
            by_cases hlt : (k : Int) < l.length
            · obtain ⟨x, hx⟩ : ∃ x, l[k]? = some x := ⟨_, List.getElem?_eq_getElem (by omega)⟩
              obtain ⟨bb, off, hAn, _, _, _, f0, f1⟩ := rID_at (KN.out _ hbel) hx
              subst hAn
              have HX := Lib.hid hx
              have HT := Lib.hid (eventsOf_succ (s := a) (t := b) (yes := yes) (no := no) (f := f) hx)
              have hql : (eventsOf a b yes no f (l.take k)).length ≤ k := Nat.le_trans (eventsOf_len ..) (by simp; omega)
              obtain ⟨q, hq⟩ : ∃ q, eventsOf a b yes no f (l.take k) = q := ⟨_, rfl⟩
              rw [hq] at hv HT hql
              obtain ⟨A6, c6, rfl, _, _⟩ := Rep.acc_form hv
              have HV := Lib.hid hv
              have L := Lib.hid (show q.length + 1 ≤ maxLen ∧ (q.length + 1) * 32 ≤ 140737488355328 by unfold maxLen; have := HNL.out; omega)
              have FW := Lib.hid (show ∀ W, Below wr.heap.size wr W → Below W1.heap.size W1 W from fun W h => HB2.out.trans ((HBW.out.trans (h.mono HBW.out.size)).mono HB2.out.size))
              have F2 := Lib.hid (show ∀ W, Below wr.heap.size wr W → Below w2.heap.size w2 W from fun W h => HBW.out.trans (h.mono HBW.out.size))
              have KC := Lib.hid (show ∀ W, Below wr.heap.size wr W → (W.cell? ⟨bb, off + k * 2, none⟩ = some (.int .i64 x.index) ∧ W.cell? ⟨bb, off + k * 2 + 1, none⟩ = some (.int .i64 x.gen)) ∧ (W.cell? ⟨w.heap.size, 0, none⟩ = some (.slice A1 a.gens.length c1) ∧ W.cell? ⟨w.heap.size, 1, none⟩ = some (.slice A2 a.free.length c2) ∧ W.cell? ⟨w.heap.size, 2, none⟩ = some (.slice A3 a.ents.length c3)) ∧ W.cell? ⟨w.heap.size + 1, 0, none⟩ = some (.slice B1 b.gens.length d1) ∧ W.cell? ⟨w.heap.size + 1, 1, none⟩ = some (.slice B2 b.free.length d2) ∧ W.cell? ⟨w.heap.size + 1, 2, none⟩ = some (.slice B3 b.ents.length d3) from fun W h => by
                obtain ⟨b', off', hA, _, e0, e1, _, _⟩ := rID_at (KN.out W (F2.out W h)) HX.out
                cases hA
                exact ⟨⟨e0, e1⟩, KS.out W (FW.out W h)⟩)
              have HG := Lib.hid (And.intro f0 f1)
              obtain ⟨⟨p1, p2⟩, hp⟩ : ∃ pr, findSt a x yes no = pr := ⟨_, rfl⟩
              obtain ⟨⟨r1, r2⟩, hr⟩ : ∃ pr, findSt b x yes no = pr := ⟨_, rfl⟩
              have HPF := Lib.hid hp
              have HRF := Lib.hid hr
              have HP2 := Lib.hid (show (findSt a x yes no).2 = p2 by rw [hp])
              have HR2 := Lib.hid (show (findSt b x yes no).2 = r2 by rw [hr])
              clear hv hbel hx hql hq f0 f1 hp hr
              cases p2 with
              | false =>
                cases r2 with
                | true =>
                  have HEV := Lib.hid (show evOf a b yes no f x = [⟨0, x, f⟩] by unfold evOf; rw [HPF.out, HRF.out]; simp)
                  go_wp2_with fail
                  refine wp_region_held_drew (S := fun W => Below wr.heap.size wr W) (by kernel_rfl) (Below.refl _ _).drew (fun s0 => ?_)
                  refine wpAnyH_take (i := 0) (v := .agg #[.slice A1 a.gens.length c1, .slice A2 a.free.length c2, .slice A3 a.ents.length c3]) rfl (by kernel_rfl) (by kernel_rfl) (by kernel_rfl) (fun _ _ _ h => h) (Or.inl ⟨by rfl, fun w' h => by obtain ⟨⟨e0, e1⟩, ⟨z0, z1, z2⟩, y0, y1, y2⟩ := KC.out w' h; go_simp⟩) s0 ?_
                  go_simp
                  refine wpAnyH_take (i := 1) (v := .slice (some ⟨bb, off, none⟩) l.length cn) rfl (by kernel_rfl) (by kernel_rfl) (by kernel_rfl) (fun _ _ _ h => h) (Or.inl ⟨by rfl, fun w' _ => by go_simp <;> omega⟩) s0 ?_
                  go_simp
                  refine wpAnyH_take (i := 2) (v := .int .i64 k) rfl (by kernel_rfl) (by kernel_rfl) (by kernel_rfl) (fun _ _ _ h => h) (Or.inl ⟨by rfl, fun w' _ => by go_simp <;> omega⟩) s0 ?_
                  go_simp
                  refine wpAnyH_take (i := 3) (v := .pointer (some ⟨bb, off + k * 2, none⟩)) rfl (by kernel_rfl) (by kernel_rfl) (by kernel_rfl) (fun _ _ _ h => h) (Or.inl ⟨by rfl, fun w' _ => by go_simp <;> omega⟩) s0 ?_
                  go_simp
                  refine wpAnyH_take (i := 4) (v := .agg #[.int .i64 x.index, .int .i64 x.gen]) rfl (by kernel_rfl) (by kernel_rfl) (by kernel_rfl) (fun _ _ _ h => h) (Or.inl ⟨by rfl, fun w' h => by obtain ⟨⟨e0, e1⟩, ⟨z0, z1, z2⟩, y0, y1, y2⟩ := KC.out w' h; go_simp⟩) s0 ?_
                  go_simp
                  refine wpAnyH_take (i := 5) (v := .int .u64 yes) rfl (by kernel_rfl) (by kernel_rfl) (by kernel_rfl) (fun _ _ _ h => h) (Or.inl ⟨by rfl, fun w' _ => by go_simp <;> omega⟩) s0 ?_
                  go_simp
                  refine wpAnyH_take (i := 6) (v := .int .u64 no) rfl (by kernel_rfl) (by kernel_rfl) (by kernel_rfl) (fun _ _ _ h => h) (Or.inl ⟨by rfl, fun w' _ => by go_simp <;> omega⟩) s0 ?_
                  go_simp
                  refine wpAnyH_take (i := 8) (v := .agg #[.slice B1 b.gens.length d1, .slice B2 b.free.length d2, .slice B3 b.ents.length d3]) rfl (by kernel_rfl) (by kernel_rfl) (by kernel_rfl) (fun _ _ _ h => h) (Or.inl ⟨by rfl, fun w' h => by obtain ⟨⟨e0, e1⟩, ⟨z0, z1, z2⟩, y0, y1, y2⟩ := KC.out w' h; go_simp⟩) s0 ?_
                  go_simp
                  refine wpAnyH_take (i := 9) (v := .slice (some ⟨bb, off, none⟩) l.length cn) rfl (by kernel_rfl) (by kernel_rfl) (by kernel_rfl) (fun _ _ _ h => h) (Or.inl ⟨by rfl, fun w' _ => by go_simp <;> omega⟩) s0 ?_
                  go_simp
                  refine wpAnyH_take (i := 10) (v := .int .i64 k) rfl (by kernel_rfl) (by kernel_rfl) (by kernel_rfl) (fun _ _ _ h => h) (Or.inl ⟨by rfl, fun w' _ => by go_simp <;> omega⟩) s0 ?_
                  go_simp
                  refine wpAnyH_take (i := 11) (v := .pointer (some ⟨bb, off + k * 2, none⟩)) rfl (by kernel_rfl) (by kernel_rfl) (by kernel_rfl) (fun _ _ _ h => h) (Or.inl ⟨by rfl, fun w' _ => by go_simp <;> omega⟩) s0 ?_
                  go_simp
                  refine wpAnyH_take (i := 12) (v := .agg #[.int .i64 x.index, .int .i64 x.gen]) rfl (by kernel_rfl) (by kernel_rfl) (by kernel_rfl) (fun _ _ _ h => h) (Or.inl ⟨by rfl, fun w' h => by obtain ⟨⟨e0, e1⟩, ⟨z0, z1, z2⟩, y0, y1, y2⟩ := KC.out w' h; go_simp⟩) s0 ?_
                  go_simp
                  refine wpAnyH_take (i := 13) (v := .int .u64 yes) rfl (by kernel_rfl) (by kernel_rfl) (by kernel_rfl) (fun _ _ _ h => h) (Or.inl ⟨by rfl, fun w' _ => by go_simp <;> omega⟩) s0 ?_
                  go_simp
                  refine wpAnyH_take (i := 14) (v := .int .u64 no) rfl (by kernel_rfl) (by kernel_rfl) (by kernel_rfl) (fun _ _ _ h => h) (Or.inl ⟨by rfl, fun w' _ => by go_simp <;> omega⟩) s0 ?_
                  go_simp
                  refine wpAnyH_all (rs := [7]) (by kernel_rfl) (by simp) ?_
                  intro i hi
                  obtain rfl : i = 7 := by simpa using hi
                  clear hi
                  refine wpOp_step rfl (fun K hK => ?_)
                  go_simp
                  refine (watched_calls (KA.out _ (FW.out _ s0)) HYN.out.1 HYN.out.2 (fun e he => Nat.le_trans (HLA.out.2 e he) (by decide))).mono ?_
                  rintro en w7 ⟨rfl, hb7⟩
                  rw [HP2.out]
                  have s1 : Below wr.heap.size wr w7 := s0.trans (hb7.mono s0.size)
                  clear hb7
                  refine hK _ _ ⟨s1, ?_⟩
                  clear hK K
                  refine wpAnyH_all (rs := [15]) (by kernel_rfl) (by simp) ?_
                  intro i hi
                  obtain rfl : i = 15 := by simpa using hi
                  clear hi
                  refine wpOp_step rfl (fun K hK => ?_)
                  go_simp
                  refine (watched_calls (KB.out _ (FW.out _ s1)) HYN.out.1 HYN.out.2 (fun e he => Nat.le_trans (HLB.out.2 e he) (by decide))).mono ?_
                  rintro en w8 ⟨rfl, hb7⟩
                  rw [HR2.out]
                  have s2 : Below wr.heap.size wr w8 := s1.trans (hb7.mono s1.size)
                  clear hb7
                  refine hK _ _ ⟨s2, ?_⟩
                  clear hK K
                  refine wpAnyH_take (i := 16) (v := .bool false) rfl (by kernel_rfl) (by kernel_rfl) (by kernel_rfl) (fun _ _ _ h => h) (Or.inl ⟨by rfl, fun w' _ => by go_simp <;> omega⟩) s2 ?_
                  go_simp
                  refine wpAnyH_take (i := 17) (v := .bool true) rfl (by kernel_rfl) (by kernel_rfl) (by kernel_rfl) (fun _ _ _ h => h) (Or.inl ⟨by rfl, fun w' _ => by go_simp <;> omega⟩) s2 ?_
                  go_simp
                  refine wpAnyH_done (by kernel_rfl) ?_ _
                  have HV8 := Lib.hid (Rep.acc_later HV.out s2)
                  have HB8 := Lib.hid (F2.out _ s2)
                  obtain ⟨⟨e0, e1⟩, ⟨z0, z1, z2⟩, y0, y1, y2⟩ := KC.out w8 s2
                  clear s0 s1
                  go_wp2_with (refine wpList_snoc (e := 205) (base := w2.heap.size) (Q := fun _ => False) (r := rEvent) rfl rfl _ _ 123 _ rfl rfl rfl (.agg #[.int .i64 0, .int .i64 0, .int .i64 0, .int .i64 0]) 4 32 Try.underlying123 infoEvent rfl (by decide) rfl _ q HV8.out ⟨0, x, f⟩ _ (by exact rfl) (rEvent_agg HK.out.1 HG.out.1 HG.out.2 HF.out) (by exact rfl) (by exact rfl) L.out.1 L.out.2 (HB8).out.size ?_; intro v9 w9 hacc9 hgr9 hat9; have HA9 := Lib.hid hacc9; have HB9 := Lib.hid (Rep.acc_below HV8.out HB8.out hgr9 HB8.out.size); clear hacc9 hgr9 hat9)
                  refine wp_region_held_drew (S := fun W => W = w9.drew) (by kernel_rfl) rfl (fun s0 => ?_)
                  refine wpAnyH_take (i := 0) (v := .bool false) rfl (by kernel_rfl) (by kernel_rfl) (by kernel_rfl) (fun _ _ _ h => h) (Or.inl ⟨by rfl, fun w' _ => by go_simp <;> omega⟩) s0 ?_
                  go_simp
                  refine wpAnyH_take (i := 1) (v := .bool false) rfl (by kernel_rfl) (by kernel_rfl) (by kernel_rfl) (fun _ _ _ h => h) (Or.inl ⟨by rfl, fun w' _ => by go_simp <;> omega⟩) s0 ?_
                  go_simp
                  refine wpAnyH_take (i := 2) (v := undef) rfl (by kernel_rfl) (by kernel_rfl) (by kernel_rfl) (fun _ _ _ h => h) (Or.inr ⟨by rfl, rfl⟩) s0 ?_
                  go_simp
                  refine wpAnyH_take (i := 3) (v := .bool false) rfl (by kernel_rfl) (by kernel_rfl) (by kernel_rfl) (fun _ _ _ h => h) (Or.inl ⟨by rfl, fun w' _ => by go_simp <;> omega⟩) s0 ?_
                  go_simp
                  refine wpAnyH_take (i := 4) (v := .bool false) rfl (by kernel_rfl) (by kernel_rfl) (by kernel_rfl) (fun _ _ _ h => h) (Or.inl ⟨by rfl, fun w' _ => by go_simp <;> omega⟩) s0 ?_
                  go_simp
                  refine wpAnyH_take (i := 5) (v := undef) rfl (by kernel_rfl) (by kernel_rfl) (by kernel_rfl) (fun _ _ _ h => h) (Or.inr ⟨by rfl, rfl⟩) s0 ?_
                  go_simp
                  refine wpAnyH_take (i := 6) (v := undef) rfl (by kernel_rfl) (by kernel_rfl) (by kernel_rfl) (fun _ _ _ h => h) (Or.inr ⟨by rfl, rfl⟩) s0 ?_
                  go_simp
                  refine wpAnyH_take (i := 7) (v := undef) rfl (by kernel_rfl) (by kernel_rfl) (by kernel_rfl) (fun _ _ _ h => h) (Or.inr ⟨by rfl, rfl⟩) s0 ?_
                  go_simp
                  refine wpAnyH_take (i := 8) (v := undef) rfl (by kernel_rfl) (by kernel_rfl) (by kernel_rfl) (fun _ _ _ h => h) (Or.inr ⟨by rfl, rfl⟩) s0 ?_
                  go_simp
                  refine wpAnyH_take (i := 9) (v := undef) rfl (by kernel_rfl) (by kernel_rfl) (by kernel_rfl) (fun _ _ _ h => h) (Or.inr ⟨by rfl, rfl⟩) s0 ?_
                  go_simp
                  refine wpAnyH_take (i := 10) (v := undef) rfl (by kernel_rfl) (by kernel_rfl) (by kernel_rfl) (fun _ _ _ h => h) (Or.inr ⟨by rfl, rfl⟩) s0 ?_
                  go_simp
                  refine wpAnyH_take (i := 11) (v := undef) rfl (by kernel_rfl) (by kernel_rfl) (by kernel_rfl) (fun _ _ _ h => h) (Or.inr ⟨by rfl, rfl⟩) s0 ?_
                  go_simp
                  refine wpAnyH_take (i := 12) (v := undef) rfl (by kernel_rfl) (by kernel_rfl) (by kernel_rfl) (fun _ _ _ h => h) (Or.inr ⟨by rfl, rfl⟩) s0 ?_
                  go_simp
                  refine wpAnyH_take (i := 13) (v := undef) rfl (by kernel_rfl) (by kernel_rfl) (by kernel_rfl) (fun _ _ _ h => h) (Or.inr ⟨by rfl, rfl⟩) s0 ?_
                  go_simp
                  refine wpAnyH_take (i := 14) (v := undef) rfl (by kernel_rfl) (by kernel_rfl) (by kernel_rfl) (fun _ _ _ h => h) (Or.inr ⟨by rfl, rfl⟩) s0 ?_
                  go_simp
                  refine wpAnyH_take (i := 15) (v := undef) rfl (by kernel_rfl) (by kernel_rfl) (by kernel_rfl) (fun _ _ _ h => h) (Or.inr ⟨by rfl, rfl⟩) s0 ?_
                  go_simp
                  refine wpAnyH_take (i := 16) (v := undef) rfl (by kernel_rfl) (by kernel_rfl) (by kernel_rfl) (fun _ _ _ h => h) (Or.inr ⟨by rfl, rfl⟩) s0 ?_
                  go_simp
                  refine wpAnyH_take (i := 17) (v := undef) rfl (by kernel_rfl) (by kernel_rfl) (by kernel_rfl) (fun _ _ _ h => h) (Or.inr ⟨by rfl, rfl⟩) s0 ?_
                  go_simp
                  refine wpAnyH_take (i := 18) (v := undef) rfl (by kernel_rfl) (by kernel_rfl) (by kernel_rfl) (fun _ _ _ h => h) (Or.inr ⟨by rfl, rfl⟩) s0 ?_
                  go_simp
                  refine wpAnyH_take (i := 19) (v := undef) rfl (by kernel_rfl) (by kernel_rfl) (by kernel_rfl) (fun _ _ _ h => h) (Or.inr ⟨by rfl, rfl⟩) s0 ?_
                  go_simp
                  refine wpAnyH_take (i := 20) (v := undef) rfl (by kernel_rfl) (by kernel_rfl) (by kernel_rfl) (fun _ _ _ h => h) (Or.inr ⟨by rfl, rfl⟩) s0 ?_
                  go_simp
                  refine wpAnyH_take (i := 21) (v := undef) rfl (by kernel_rfl) (by kernel_rfl) (by kernel_rfl) (fun _ _ _ h => h) (Or.inr ⟨by rfl, rfl⟩) s0 ?_
                  go_simp
                  refine wpAnyH_take (i := 22) (v := undef) rfl (by kernel_rfl) (by kernel_rfl) (by kernel_rfl) (fun _ _ _ h => h) (Or.inr ⟨by rfl, rfl⟩) s0 ?_
                  go_simp
                  refine wpAnyH_take (i := 23) (v := undef) rfl (by kernel_rfl) (by kernel_rfl) (by kernel_rfl) (fun _ _ _ h => h) (Or.inr ⟨by rfl, rfl⟩) s0 ?_
                  go_simp
                  refine wpAnyH_take (i := 24) (v := undef) rfl (by kernel_rfl) (by kernel_rfl) (by kernel_rfl) (fun _ _ _ h => h) (Or.inr ⟨by rfl, rfl⟩) s0 ?_
                  go_simp
                  refine wpAnyH_take (i := 25) (v := undef) rfl (by kernel_rfl) (by kernel_rfl) (by kernel_rfl) (fun _ _ _ h => h) (Or.inr ⟨by rfl, rfl⟩) s0 ?_
                  go_simp
                  refine wpAnyH_take (i := 26) (v := undef) rfl (by kernel_rfl) (by kernel_rfl) (by kernel_rfl) (fun _ _ _ h => h) (Or.inr ⟨by rfl, rfl⟩) s0 ?_
                  go_simp
                  refine wpAnyH_take (i := 27) (v := undef) rfl (by kernel_rfl) (by kernel_rfl) (by kernel_rfl) (fun _ _ _ h => h) (Or.inr ⟨by rfl, rfl⟩) s0 ?_
                  go_simp
                  refine wpAnyH_take (i := 28) (v := undef) rfl (by kernel_rfl) (by kernel_rfl) (by kernel_rfl) (fun _ _ _ h => h) (Or.inr ⟨by rfl, rfl⟩) s0 ?_
                  go_simp
                  refine wpAnyH_take (i := 29) (v := .bool false) rfl (by kernel_rfl) (by kernel_rfl) (by kernel_rfl) (fun _ _ _ h => h) (Or.inl ⟨by rfl, fun w' _ => by go_simp <;> omega⟩) s0 ?_
                  go_simp
                  refine wpAnyH_done (by kernel_rfl) ?_ _
                  go_wp2_with fail
                  exact ⟨⟨k + 1, by go_num, by omega, by rw [HT.out, HEV.out]; exact Rep.acc_later HA9.out (Below.refl _ _).drew, HB9.out.drew⟩, by simp [intOf]; omega⟩
                | false =>
                  have HEV := Lib.hid (show evOf a b yes no f x = [] by unfold evOf; rw [HPF.out, HRF.out]; simp)
                  go_wp2_with fail
                  refine wp_region_held_drew (S := fun W => Below wr.heap.size wr W) (by kernel_rfl) (Below.refl _ _).drew (fun s0 => ?_)
                  refine wpAnyH_take (i := 0) (v := .agg #[.slice A1 a.gens.length c1, .slice A2 a.free.length c2, .slice A3 a.ents.length c3]) rfl (by kernel_rfl) (by kernel_rfl) (by kernel_rfl) (fun _ _ _ h => h) (Or.inl ⟨by rfl, fun w' h => by obtain ⟨⟨e0, e1⟩, ⟨z0, z1, z2⟩, y0, y1, y2⟩ := KC.out w' h; go_simp⟩) s0 ?_
                  go_simp
                  refine wpAnyH_take (i := 1) (v := .slice (some ⟨bb, off, none⟩) l.length cn) rfl (by kernel_rfl) (by kernel_rfl) (by kernel_rfl) (fun _ _ _ h => h) (Or.inl ⟨by rfl, fun w' _ => by go_simp <;> omega⟩) s0 ?_
                  go_simp
                  refine wpAnyH_take (i := 2) (v := .int .i64 k) rfl (by kernel_rfl) (by kernel_rfl) (by kernel_rfl) (fun _ _ _ h => h) (Or.inl ⟨by rfl, fun w' _ => by go_simp <;> omega⟩) s0 ?_
                  go_simp
                  refine wpAnyH_take (i := 3) (v := .pointer (some ⟨bb, off + k * 2, none⟩)) rfl (by kernel_rfl) (by kernel_rfl) (by kernel_rfl) (fun _ _ _ h => h) (Or.inl ⟨by rfl, fun w' _ => by go_simp <;> omega⟩) s0 ?_
                  go_simp
                  refine wpAnyH_take (i := 4) (v := .agg #[.int .i64 x.index, .int .i64 x.gen]) rfl (by kernel_rfl) (by kernel_rfl) (by kernel_rfl) (fun _ _ _ h => h) (Or.inl ⟨by rfl, fun w' h => by obtain ⟨⟨e0, e1⟩, ⟨z0, z1, z2⟩, y0, y1, y2⟩ := KC.out w' h; go_simp⟩) s0 ?_
                  go_simp
                  refine wpAnyH_take (i := 5) (v := .int .u64 yes) rfl (by kernel_rfl) (by kernel_rfl) (by kernel_rfl) (fun _ _ _ h => h) (Or.inl ⟨by rfl, fun w' _ => by go_simp <;> omega⟩) s0 ?_
                  go_simp
                  refine wpAnyH_take (i := 6) (v := .int .u64 no) rfl (by kernel_rfl) (by kernel_rfl) (by kernel_rfl) (fun _ _ _ h => h) (Or.inl ⟨by rfl, fun w' _ => by go_simp <;> omega⟩) s0 ?_
                  go_simp
                  refine wpAnyH_take (i := 8) (v := .agg #[.slice B1 b.gens.length d1, .slice B2 b.free.length d2, .slice B3 b.ents.length d3]) rfl (by kernel_rfl) (by kernel_rfl) (by kernel_rfl) (fun _ _ _ h => h) (Or.inl ⟨by rfl, fun w' h => by obtain ⟨⟨e0, e1⟩, ⟨z0, z1, z2⟩, y0, y1, y2⟩ := KC.out w' h; go_simp⟩) s0 ?_
                  go_simp
                  refine wpAnyH_take (i := 9) (v := .slice (some ⟨bb, off, none⟩) l.length cn) rfl (by kernel_rfl) (by kernel_rfl) (by kernel_rfl) (fun _ _ _ h => h) (Or.inl ⟨by rfl, fun w' _ => by go_simp <;> omega⟩) s0 ?_
                  go_simp
                  refine wpAnyH_take (i := 10) (v := .int .i64 k) rfl (by kernel_rfl) (by kernel_rfl) (by kernel_rfl) (fun _ _ _ h => h) (Or.inl ⟨by rfl, fun w' _ => by go_simp <;> omega⟩) s0 ?_
                  go_simp
                  refine wpAnyH_take (i := 11) (v := .pointer (some ⟨bb, off + k * 2, none⟩)) rfl (by kernel_rfl) (by kernel_rfl) (by kernel_rfl) (fun _ _ _ h => h) (Or.inl ⟨by rfl, fun w' _ => by go_simp <;> omega⟩) s0 ?_
                  go_simp
                  refine wpAnyH_take (i := 12) (v := .agg #[.int .i64 x.index, .int .i64 x.gen]) rfl (by kernel_rfl) (by kernel_rfl) (by kernel_rfl) (fun _ _ _ h => h) (Or.inl ⟨by rfl, fun w' h => by obtain ⟨⟨e0, e1⟩, ⟨z0, z1, z2⟩, y0, y1, y2⟩ := KC.out w' h; go_simp⟩) s0 ?_
                  go_simp
                  refine wpAnyH_take (i := 13) (v := .int .u64 yes) rfl (by kernel_rfl) (by kernel_rfl) (by kernel_rfl) (fun _ _ _ h => h) (Or.inl ⟨by rfl, fun w' _ => by go_simp <;> omega⟩) s0 ?_
                  go_simp
                  refine wpAnyH_take (i := 14) (v := .int .u64 no) rfl (by kernel_rfl) (by kernel_rfl) (by kernel_rfl) (fun _ _ _ h => h) (Or.inl ⟨by rfl, fun w' _ => by go_simp <;> omega⟩) s0 ?_
                  go_simp
                  refine wpAnyH_all (rs := [7]) (by kernel_rfl) (by simp) ?_
                  intro i hi
                  obtain rfl : i = 7 := by simpa using hi
                  clear hi
                  refine wpOp_step rfl (fun K hK => ?_)
                  go_simp
                  refine (watched_calls (KA.out _ (FW.out _ s0)) HYN.out.1 HYN.out.2 (fun e he => Nat.le_trans (HLA.out.2 e he) (by decide))).mono ?_
                  rintro en w7 ⟨rfl, hb7⟩
                  rw [HP2.out]
                  have s1 : Below wr.heap.size wr w7 := s0.trans (hb7.mono s0.size)
                  clear hb7
                  refine hK _ _ ⟨s1, ?_⟩
                  clear hK K
                  refine wpAnyH_all (rs := [15]) (by kernel_rfl) (by simp) ?_
                  intro i hi
                  obtain rfl : i = 15 := by simpa using hi
                  clear hi
                  refine wpOp_step rfl (fun K hK => ?_)
                  go_simp
                  refine (watched_calls (KB.out _ (FW.out _ s1)) HYN.out.1 HYN.out.2 (fun e he => Nat.le_trans (HLB.out.2 e he) (by decide))).mono ?_
                  rintro en w8 ⟨rfl, hb7⟩
                  rw [HR2.out]
                  have s2 : Below wr.heap.size wr w8 := s1.trans (hb7.mono s1.size)
                  clear hb7
                  refine hK _ _ ⟨s2, ?_⟩
                  clear hK K
                  refine wpAnyH_take (i := 16) (v := .bool false) rfl (by kernel_rfl) (by kernel_rfl) (by kernel_rfl) (fun _ _ _ h => h) (Or.inl ⟨by rfl, fun w' _ => by go_simp <;> omega⟩) s2 ?_
                  go_simp
                  refine wpAnyH_take (i := 17) (v := .bool false) rfl (by kernel_rfl) (by kernel_rfl) (by kernel_rfl) (fun _ _ _ h => h) (Or.inl ⟨by rfl, fun w' _ => by go_simp <;> omega⟩) s2 ?_
                  go_simp
                  refine wpAnyH_done (by kernel_rfl) ?_ _
                  have HV8 := Lib.hid (Rep.acc_later HV.out s2)
                  have HB8 := Lib.hid (F2.out _ s2)
                  obtain ⟨⟨e0, e1⟩, ⟨z0, z1, z2⟩, y0, y1, y2⟩ := KC.out w8 s2
                  clear s0 s1
                  go_wp2_with fail
                  refine wp_region_held_drew (S := fun W => W = w8.drew) (by kernel_rfl) rfl (fun s0 => ?_)
                  refine wpAnyH_take (i := 0) (v := .bool false) rfl (by kernel_rfl) (by kernel_rfl) (by kernel_rfl) (fun _ _ _ h => h) (Or.inl ⟨by rfl, fun w' _ => by go_simp <;> omega⟩) s0 ?_
                  go_simp
                  refine wpAnyH_take (i := 1) (v := .bool false) rfl (by kernel_rfl) (by kernel_rfl) (by kernel_rfl) (fun _ _ _ h => h) (Or.inl ⟨by rfl, fun w' _ => by go_simp <;> omega⟩) s0 ?_
                  go_simp
                  refine wpAnyH_take (i := 2) (v := undef) rfl (by kernel_rfl) (by kernel_rfl) (by kernel_rfl) (fun _ _ _ h => h) (Or.inr ⟨by rfl, rfl⟩) s0 ?_
                  go_simp
                  refine wpAnyH_take (i := 3) (v := .bool false) rfl (by kernel_rfl) (by kernel_rfl) (by kernel_rfl) (fun _ _ _ h => h) (Or.inl ⟨by rfl, fun w' _ => by go_simp <;> omega⟩) s0 ?_
                  go_simp
                  refine wpAnyH_take (i := 4) (v := .bool false) rfl (by kernel_rfl) (by kernel_rfl) (by kernel_rfl) (fun _ _ _ h => h) (Or.inl ⟨by rfl, fun w' _ => by go_simp <;> omega⟩) s0 ?_
                  go_simp
                  refine wpAnyH_take (i := 5) (v := undef) rfl (by kernel_rfl) (by kernel_rfl) (by kernel_rfl) (fun _ _ _ h => h) (Or.inr ⟨by rfl, rfl⟩) s0 ?_
                  go_simp
                  refine wpAnyH_take (i := 6) (v := undef) rfl (by kernel_rfl) (by kernel_rfl) (by kernel_rfl) (fun _ _ _ h => h) (Or.inr ⟨by rfl, rfl⟩) s0 ?_
                  go_simp
                  refine wpAnyH_take (i := 7) (v := undef) rfl (by kernel_rfl) (by kernel_rfl) (by kernel_rfl) (fun _ _ _ h => h) (Or.inr ⟨by rfl, rfl⟩) s0 ?_
                  go_simp
                  refine wpAnyH_take (i := 8) (v := undef) rfl (by kernel_rfl) (by kernel_rfl) (by kernel_rfl) (fun _ _ _ h => h) (Or.inr ⟨by rfl, rfl⟩) s0 ?_
                  go_simp
                  refine wpAnyH_take (i := 9) (v := undef) rfl (by kernel_rfl) (by kernel_rfl) (by kernel_rfl) (fun _ _ _ h => h) (Or.inr ⟨by rfl, rfl⟩) s0 ?_
                  go_simp
                  refine wpAnyH_take (i := 10) (v := undef) rfl (by kernel_rfl) (by kernel_rfl) (by kernel_rfl) (fun _ _ _ h => h) (Or.inr ⟨by rfl, rfl⟩) s0 ?_
                  go_simp
                  refine wpAnyH_take (i := 11) (v := undef) rfl (by kernel_rfl) (by kernel_rfl) (by kernel_rfl) (fun _ _ _ h => h) (Or.inr ⟨by rfl, rfl⟩) s0 ?_
                  go_simp
                  refine wpAnyH_take (i := 12) (v := undef) rfl (by kernel_rfl) (by kernel_rfl) (by kernel_rfl) (fun _ _ _ h => h) (Or.inr ⟨by rfl, rfl⟩) s0 ?_
                  go_simp
                  refine wpAnyH_take (i := 13) (v := undef) rfl (by kernel_rfl) (by kernel_rfl) (by kernel_rfl) (fun _ _ _ h => h) (Or.inr ⟨by rfl, rfl⟩) s0 ?_
                  go_simp
                  refine wpAnyH_take (i := 14) (v := undef) rfl (by kernel_rfl) (by kernel_rfl) (by kernel_rfl) (fun _ _ _ h => h) (Or.inr ⟨by rfl, rfl⟩) s0 ?_
                  go_simp
                  refine wpAnyH_take (i := 15) (v := undef) rfl (by kernel_rfl) (by kernel_rfl) (by kernel_rfl) (fun _ _ _ h => h) (Or.inr ⟨by rfl, rfl⟩) s0 ?_
                  go_simp
                  refine wpAnyH_take (i := 16) (v := undef) rfl (by kernel_rfl) (by kernel_rfl) (by kernel_rfl) (fun _ _ _ h => h) (Or.inr ⟨by rfl, rfl⟩) s0 ?_
                  go_simp
                  refine wpAnyH_take (i := 17) (v := undef) rfl (by kernel_rfl) (by kernel_rfl) (by kernel_rfl) (fun _ _ _ h => h) (Or.inr ⟨by rfl, rfl⟩) s0 ?_
                  go_simp
                  refine wpAnyH_take (i := 18) (v := undef) rfl (by kernel_rfl) (by kernel_rfl) (by kernel_rfl) (fun _ _ _ h => h) (Or.inr ⟨by rfl, rfl⟩) s0 ?_
                  go_simp
                  refine wpAnyH_take (i := 19) (v := undef) rfl (by kernel_rfl) (by kernel_rfl) (by kernel_rfl) (fun _ _ _ h => h) (Or.inr ⟨by rfl, rfl⟩) s0 ?_
                  go_simp
                  refine wpAnyH_take (i := 20) (v := undef) rfl (by kernel_rfl) (by kernel_rfl) (by kernel_rfl) (fun _ _ _ h => h) (Or.inr ⟨by rfl, rfl⟩) s0 ?_
                  go_simp
                  refine wpAnyH_take (i := 21) (v := undef) rfl (by kernel_rfl) (by kernel_rfl) (by kernel_rfl) (fun _ _ _ h => h) (Or.inr ⟨by rfl, rfl⟩) s0 ?_
                  go_simp
                  refine wpAnyH_take (i := 22) (v := undef) rfl (by kernel_rfl) (by kernel_rfl) (by kernel_rfl) (fun _ _ _ h => h) (Or.inr ⟨by rfl, rfl⟩) s0 ?_
                  go_simp
                  refine wpAnyH_take (i := 23) (v := undef) rfl (by kernel_rfl) (by kernel_rfl) (by kernel_rfl) (fun _ _ _ h => h) (Or.inr ⟨by rfl, rfl⟩) s0 ?_
                  go_simp
                  refine wpAnyH_take (i := 24) (v := undef) rfl (by kernel_rfl) (by kernel_rfl) (by kernel_rfl) (fun _ _ _ h => h) (Or.inr ⟨by rfl, rfl⟩) s0 ?_
                  go_simp
                  refine wpAnyH_take (i := 25) (v := undef) rfl (by kernel_rfl) (by kernel_rfl) (by kernel_rfl) (fun _ _ _ h => h) (Or.inr ⟨by rfl, rfl⟩) s0 ?_
                  go_simp
                  refine wpAnyH_take (i := 26) (v := undef) rfl (by kernel_rfl) (by kernel_rfl) (by kernel_rfl) (fun _ _ _ h => h) (Or.inr ⟨by rfl, rfl⟩) s0 ?_
                  go_simp
                  refine wpAnyH_take (i := 27) (v := undef) rfl (by kernel_rfl) (by kernel_rfl) (by kernel_rfl) (fun _ _ _ h => h) (Or.inr ⟨by rfl, rfl⟩) s0 ?_
                  go_simp
                  refine wpAnyH_take (i := 28) (v := undef) rfl (by kernel_rfl) (by kernel_rfl) (by kernel_rfl) (fun _ _ _ h => h) (Or.inr ⟨by rfl, rfl⟩) s0 ?_
                  go_simp
                  refine wpAnyH_take (i := 29) (v := .bool false) rfl (by kernel_rfl) (by kernel_rfl) (by kernel_rfl) (fun _ _ _ h => h) (Or.inl ⟨by rfl, fun w' _ => by go_simp <;> omega⟩) s0 ?_
                  go_simp
                  refine wpAnyH_done (by kernel_rfl) ?_ _
                  go_wp2_with fail
                  exact ⟨⟨k + 1, by go_num, by omega, by rw [HT.out, HEV.out, List.append_nil]; exact Rep.acc_later HV8.out (Below.refl _ _).drew, HB8.out.drew⟩, by simp [intOf]; omega⟩
              | true =>
                cases r2 with
                | false =>
                  have HEV := Lib.hid (show evOf a b yes no f x = [⟨1, x, f⟩] by unfold evOf; rw [HPF.out, HRF.out]; simp)
                  go_wp2_with fail
                  refine wp_region_held_drew (S := fun W => Below wr.heap.size wr W) (by kernel_rfl) (Below.refl _ _).drew (fun s0 => ?_)
                  refine wpAnyH_take (i := 0) (v := .agg #[.slice A1 a.gens.length c1, .slice A2 a.free.length c2, .slice A3 a.ents.length c3]) rfl (by kernel_rfl) (by kernel_rfl) (by kernel_rfl) (fun _ _ _ h => h) (Or.inl ⟨by rfl, fun w' h => by obtain ⟨⟨e0, e1⟩, ⟨z0, z1, z2⟩, y0, y1, y2⟩ := KC.out w' h; go_simp⟩) s0 ?_
                  go_simp
                  refine wpAnyH_take (i := 1) (v := .slice (some ⟨bb, off, none⟩) l.length cn) rfl (by kernel_rfl) (by kernel_rfl) (by kernel_rfl) (fun _ _ _ h => h) (Or.inl ⟨by rfl, fun w' _ => by go_simp <;> omega⟩) s0 ?_
                  go_simp
                  refine wpAnyH_take (i := 2) (v := .int .i64 k) rfl (by kernel_rfl) (by kernel_rfl) (by kernel_rfl) (fun _ _ _ h => h) (Or.inl ⟨by rfl, fun w' _ => by go_simp <;> omega⟩) s0 ?_
                  go_simp
                  refine wpAnyH_take (i := 3) (v := .pointer (some ⟨bb, off + k * 2, none⟩)) rfl (by kernel_rfl) (by kernel_rfl) (by kernel_rfl) (fun _ _ _ h => h) (Or.inl ⟨by rfl, fun w' _ => by go_simp <;> omega⟩) s0 ?_
                  go_simp
                  refine wpAnyH_take (i := 4) (v := .agg #[.int .i64 x.index, .int .i64 x.gen]) rfl (by kernel_rfl) (by kernel_rfl) (by kernel_rfl) (fun _ _ _ h => h) (Or.inl ⟨by rfl, fun w' h => by obtain ⟨⟨e0, e1⟩, ⟨z0, z1, z2⟩, y0, y1, y2⟩ := KC.out w' h; go_simp⟩) s0 ?_
                  go_simp
                  refine wpAnyH_take (i := 5) (v := .int .u64 yes) rfl (by kernel_rfl) (by kernel_rfl) (by kernel_rfl) (fun _ _ _ h => h) (Or.inl ⟨by rfl, fun w' _ => by go_simp <;> omega⟩) s0 ?_
                  go_simp
                  refine wpAnyH_take (i := 6) (v := .int .u64 no) rfl (by kernel_rfl) (by kernel_rfl) (by kernel_rfl) (fun _ _ _ h => h) (Or.inl ⟨by rfl, fun w' _ => by go_simp <;> omega⟩) s0 ?_
                  go_simp
                  refine wpAnyH_take (i := 8) (v := .agg #[.slice B1 b.gens.length d1, .slice B2 b.free.length d2, .slice B3 b.ents.length d3]) rfl (by kernel_rfl) (by kernel_rfl) (by kernel_rfl) (fun _ _ _ h => h) (Or.inl ⟨by rfl, fun w' h => by obtain ⟨⟨e0, e1⟩, ⟨z0, z1, z2⟩, y0, y1, y2⟩ := KC.out w' h; go_simp⟩) s0 ?_
                  go_simp
                  refine wpAnyH_take (i := 9) (v := .slice (some ⟨bb, off, none⟩) l.length cn) rfl (by kernel_rfl) (by kernel_rfl) (by kernel_rfl) (fun _ _ _ h => h) (Or.inl ⟨by rfl, fun w' _ => by go_simp <;> omega⟩) s0 ?_
                  go_simp
                  refine wpAnyH_take (i := 10) (v := .int .i64 k) rfl (by kernel_rfl) (by kernel_rfl) (by kernel_rfl) (fun _ _ _ h => h) (Or.inl ⟨by rfl, fun w' _ => by go_simp <;> omega⟩) s0 ?_
                  go_simp
                  refine wpAnyH_take (i := 11) (v := .pointer (some ⟨bb, off + k * 2, none⟩)) rfl (by kernel_rfl) (by kernel_rfl) (by kernel_rfl) (fun _ _ _ h => h) (Or.inl ⟨by rfl, fun w' _ => by go_simp <;> omega⟩) s0 ?_
                  go_simp
                  refine wpAnyH_take (i := 12) (v := .agg #[.int .i64 x.index, .int .i64 x.gen]) rfl (by kernel_rfl) (by kernel_rfl) (by kernel_rfl) (fun _ _ _ h => h) (Or.inl ⟨by rfl, fun w' h => by obtain ⟨⟨e0, e1⟩, ⟨z0, z1, z2⟩, y0, y1, y2⟩ := KC.out w' h; go_simp⟩) s0 ?_
                  go_simp
                  refine wpAnyH_take (i := 13) (v := .int .u64 yes) rfl (by kernel_rfl) (by kernel_rfl) (by kernel_rfl) (fun _ _ _ h => h) (Or.inl ⟨by rfl, fun w' _ => by go_simp <;> omega⟩) s0 ?_
                  go_simp
                  refine wpAnyH_take (i := 14) (v := .int .u64 no) rfl (by kernel_rfl) (by kernel_rfl) (by kernel_rfl) (fun _ _ _ h => h) (Or.inl ⟨by rfl, fun w' _ => by go_simp <;> omega⟩) s0 ?_
                  go_simp
                  refine wpAnyH_all (rs := [7]) (by kernel_rfl) (by simp) ?_
                  intro i hi
                  obtain rfl : i = 7 := by simpa using hi
                  clear hi
                  refine wpOp_step rfl (fun K hK => ?_)
                  go_simp
                  refine (watched_calls (KA.out _ (FW.out _ s0)) HYN.out.1 HYN.out.2 (fun e he => Nat.le_trans (HLA.out.2 e he) (by decide))).mono ?_
                  rintro en w7 ⟨rfl, hb7⟩
                  rw [HP2.out]
                  have s1 : Below wr.heap.size wr w7 := s0.trans (hb7.mono s0.size)
                  clear hb7
                  refine hK _ _ ⟨s1, ?_⟩
                  clear hK K
                  refine wpAnyH_all (rs := [15]) (by kernel_rfl) (by simp) ?_
                  intro i hi
                  obtain rfl : i = 15 := by simpa using hi
                  clear hi
                  refine wpOp_step rfl (fun K hK => ?_)
                  go_simp
                  refine (watched_calls (KB.out _ (FW.out _ s1)) HYN.out.1 HYN.out.2 (fun e he => Nat.le_trans (HLB.out.2 e he) (by decide))).mono ?_
                  rintro en w8 ⟨rfl, hb7⟩
                  rw [HR2.out]
                  have s2 : Below wr.heap.size wr w8 := s1.trans (hb7.mono s1.size)
                  clear hb7
                  refine hK _ _ ⟨s2, ?_⟩
                  clear hK K
                  refine wpAnyH_take (i := 16) (v := .bool true) rfl (by kernel_rfl) (by kernel_rfl) (by kernel_rfl) (fun _ _ _ h => h) (Or.inl ⟨by rfl, fun w' _ => by go_simp <;> omega⟩) s2 ?_
                  go_simp
                  refine wpAnyH_take (i := 17) (v := .bool false) rfl (by kernel_rfl) (by kernel_rfl) (by kernel_rfl) (fun _ _ _ h => h) (Or.inl ⟨by rfl, fun w' _ => by go_simp <;> omega⟩) s2 ?_
                  go_simp
                  refine wpAnyH_done (by kernel_rfl) ?_ _
                  have HV8 := Lib.hid (Rep.acc_later HV.out s2)
                  have HB8 := Lib.hid (F2.out _ s2)
                  obtain ⟨⟨e0, e1⟩, ⟨z0, z1, z2⟩, y0, y1, y2⟩ := KC.out w8 s2
                  clear s0 s1
                  go_wp2_with (refine wpList_snoc (e := 205) (base := w2.heap.size) (Q := fun _ => False) (r := rEvent) rfl rfl _ _ 123 _ rfl rfl rfl (.agg #[.int .i64 0, .int .i64 0, .int .i64 0, .int .i64 0]) 4 32 Try.underlying123 infoEvent rfl (by decide) rfl _ q HV8.out ⟨1, x, f⟩ _ (by exact rfl) (rEvent_agg HK.out.2.1 HG.out.1 HG.out.2 HF.out) (by exact rfl) (by exact rfl) L.out.1 L.out.2 (HB8).out.size ?_; intro v9 w9 hacc9 hgr9 hat9; have HA9 := Lib.hid hacc9; have HB9 := Lib.hid (Rep.acc_below HV8.out HB8.out hgr9 HB8.out.size); clear hacc9 hgr9 hat9)
                  refine wp_region_held_drew (S := fun W => W = w9.drew) (by kernel_rfl) rfl (fun s0 => ?_)
                  refine wpAnyH_take (i := 0) (v := .bool true) rfl (by kernel_rfl) (by kernel_rfl) (by kernel_rfl) (fun _ _ _ h => h) (Or.inl ⟨by rfl, fun w' _ => by go_simp <;> omega⟩) s0 ?_
                  go_simp
                  refine wpAnyH_take (i := 1) (v := .bool true) rfl (by kernel_rfl) (by kernel_rfl) (by kernel_rfl) (fun _ _ _ h => h) (Or.inl ⟨by rfl, fun w' _ => by go_simp <;> omega⟩) s0 ?_
                  go_simp
                  refine wpAnyH_take (i := 2) (v := .bool false) rfl (by kernel_rfl) (by kernel_rfl) (by kernel_rfl) (fun _ _ _ h => h) (Or.inl ⟨by rfl, fun w' _ => by go_simp <;> omega⟩) s0 ?_
                  go_simp
                  refine wpAnyH_take (i := 3) (v := .bool false) rfl (by kernel_rfl) (by kernel_rfl) (by kernel_rfl) (fun _ _ _ h => h) (Or.inl ⟨by rfl, fun w' _ => by go_simp <;> omega⟩) s0 ?_
                  go_simp
                  refine wpAnyH_take (i := 4) (v := .bool false) rfl (by kernel_rfl) (by kernel_rfl) (by kernel_rfl) (fun _ _ _ h => h) (Or.inl ⟨by rfl, fun w' _ => by go_simp <;> omega⟩) s0 ?_
                  go_simp
                  refine wpAnyH_take (i := 5) (v := undef) rfl (by kernel_rfl) (by kernel_rfl) (by kernel_rfl) (fun _ _ _ h => h) (Or.inr ⟨by rfl, rfl⟩) s0 ?_
                  go_simp
                  refine wpAnyH_take (i := 6) (v := undef) rfl (by kernel_rfl) (by kernel_rfl) (by kernel_rfl) (fun _ _ _ h => h) (Or.inr ⟨by rfl, rfl⟩) s0 ?_
                  go_simp
                  refine wpAnyH_take (i := 7) (v := undef) rfl (by kernel_rfl) (by kernel_rfl) (by kernel_rfl) (fun _ _ _ h => h) (Or.inr ⟨by rfl, rfl⟩) s0 ?_
                  go_simp
                  refine wpAnyH_take (i := 8) (v := undef) rfl (by kernel_rfl) (by kernel_rfl) (by kernel_rfl) (fun _ _ _ h => h) (Or.inr ⟨by rfl, rfl⟩) s0 ?_
                  go_simp
                  refine wpAnyH_take (i := 9) (v := undef) rfl (by kernel_rfl) (by kernel_rfl) (by kernel_rfl) (fun _ _ _ h => h) (Or.inr ⟨by rfl, rfl⟩) s0 ?_
                  go_simp
                  refine wpAnyH_take (i := 10) (v := undef) rfl (by kernel_rfl) (by kernel_rfl) (by kernel_rfl) (fun _ _ _ h => h) (Or.inr ⟨by rfl, rfl⟩) s0 ?_
                  go_simp
                  refine wpAnyH_take (i := 11) (v := undef) rfl (by kernel_rfl) (by kernel_rfl) (by kernel_rfl) (fun _ _ _ h => h) (Or.inr ⟨by rfl, rfl⟩) s0 ?_
                  go_simp
                  refine wpAnyH_take (i := 12) (v := undef) rfl (by kernel_rfl) (by kernel_rfl) (by kernel_rfl) (fun _ _ _ h => h) (Or.inr ⟨by rfl, rfl⟩) s0 ?_
                  go_simp
                  refine wpAnyH_take (i := 13) (v := undef) rfl (by kernel_rfl) (by kernel_rfl) (by kernel_rfl) (fun _ _ _ h => h) (Or.inr ⟨by rfl, rfl⟩) s0 ?_
                  go_simp
                  refine wpAnyH_take (i := 14) (v := undef) rfl (by kernel_rfl) (by kernel_rfl) (by kernel_rfl) (fun _ _ _ h => h) (Or.inr ⟨by rfl, rfl⟩) s0 ?_
                  go_simp
                  refine wpAnyH_take (i := 15) (v := undef) rfl (by kernel_rfl) (by kernel_rfl) (by kernel_rfl) (fun _ _ _ h => h) (Or.inr ⟨by rfl, rfl⟩) s0 ?_
                  go_simp
                  refine wpAnyH_take (i := 16) (v := undef) rfl (by kernel_rfl) (by kernel_rfl) (by kernel_rfl) (fun _ _ _ h => h) (Or.inr ⟨by rfl, rfl⟩) s0 ?_
                  go_simp
                  refine wpAnyH_take (i := 17) (v := undef) rfl (by kernel_rfl) (by kernel_rfl) (by kernel_rfl) (fun _ _ _ h => h) (Or.inr ⟨by rfl, rfl⟩) s0 ?_
                  go_simp
                  refine wpAnyH_take (i := 18) (v := undef) rfl (by kernel_rfl) (by kernel_rfl) (by kernel_rfl) (fun _ _ _ h => h) (Or.inr ⟨by rfl, rfl⟩) s0 ?_
                  go_simp
                  refine wpAnyH_take (i := 19) (v := undef) rfl (by kernel_rfl) (by kernel_rfl) (by kernel_rfl) (fun _ _ _ h => h) (Or.inr ⟨by rfl, rfl⟩) s0 ?_
                  go_simp
                  refine wpAnyH_take (i := 20) (v := undef) rfl (by kernel_rfl) (by kernel_rfl) (by kernel_rfl) (fun _ _ _ h => h) (Or.inr ⟨by rfl, rfl⟩) s0 ?_
                  go_simp
                  refine wpAnyH_take (i := 21) (v := undef) rfl (by kernel_rfl) (by kernel_rfl) (by kernel_rfl) (fun _ _ _ h => h) (Or.inr ⟨by rfl, rfl⟩) s0 ?_
                  go_simp
                  refine wpAnyH_take (i := 22) (v := undef) rfl (by kernel_rfl) (by kernel_rfl) (by kernel_rfl) (fun _ _ _ h => h) (Or.inr ⟨by rfl, rfl⟩) s0 ?_
                  go_simp
                  refine wpAnyH_take (i := 23) (v := undef) rfl (by kernel_rfl) (by kernel_rfl) (by kernel_rfl) (fun _ _ _ h => h) (Or.inr ⟨by rfl, rfl⟩) s0 ?_
                  go_simp
                  refine wpAnyH_take (i := 24) (v := undef) rfl (by kernel_rfl) (by kernel_rfl) (by kernel_rfl) (fun _ _ _ h => h) (Or.inr ⟨by rfl, rfl⟩) s0 ?_
                  go_simp
                  refine wpAnyH_take (i := 25) (v := undef) rfl (by kernel_rfl) (by kernel_rfl) (by kernel_rfl) (fun _ _ _ h => h) (Or.inr ⟨by rfl, rfl⟩) s0 ?_
                  go_simp
                  refine wpAnyH_take (i := 26) (v := undef) rfl (by kernel_rfl) (by kernel_rfl) (by kernel_rfl) (fun _ _ _ h => h) (Or.inr ⟨by rfl, rfl⟩) s0 ?_
                  go_simp
                  refine wpAnyH_take (i := 27) (v := undef) rfl (by kernel_rfl) (by kernel_rfl) (by kernel_rfl) (fun _ _ _ h => h) (Or.inr ⟨by rfl, rfl⟩) s0 ?_
                  go_simp
                  refine wpAnyH_take (i := 28) (v := undef) rfl (by kernel_rfl) (by kernel_rfl) (by kernel_rfl) (fun _ _ _ h => h) (Or.inr ⟨by rfl, rfl⟩) s0 ?_
                  go_simp
                  refine wpAnyH_take (i := 29) (v := .bool false) rfl (by kernel_rfl) (by kernel_rfl) (by kernel_rfl) (fun _ _ _ h => h) (Or.inl ⟨by rfl, fun w' _ => by go_simp <;> omega⟩) s0 ?_
                  go_simp
                  refine wpAnyH_done (by kernel_rfl) ?_ _
                  go_wp2_with fail
                  exact ⟨⟨k + 1, by go_num, by omega, by rw [HT.out, HEV.out]; exact Rep.acc_later HA9.out (Below.refl _ _).drew, HB9.out.drew⟩, by simp [intOf]; omega⟩
                | true =>
                  obtain ⟨i1, ea, hpl1, hea, hpa⟩ := findSt_true HPF.out
                  obtain ⟨i2, eb, hpl2, heb, hpb⟩ := findSt_true HRF.out
                  have HPL1 := Lib.hid hpl1
                  have HPL2 := Lib.hid hpl2
                  have HEA := Lib.hid hea
                  have HEB := Lib.hid heb
                  have hi1 : (i1 : Int) < a.ents.length := by have := (List.getElem?_eq_some_iff.1 hea).1; omega
                  have hi2 : (i2 : Int) < b.ents.length := by have := (List.getElem?_eq_some_iff.1 heb).1; omega
                  obtain ⟨b7, o7, Ap, cp, hA3, hbc7, _, _, d7, _, _, hpt⟩ := rEnt_at (KEA.out wr (FW.out _ (Below.refl _ _))).1 hea
                  subst hA3
                  obtain ⟨b8, o8, Bp, dp, hB3, hbc8, _, _, d8, _, _, hpt'⟩ := rEnt_at (KEB.out wr (FW.out _ (Below.refl _ _))).1 heb
                  subst hB3
                  have KPA := Lib.hid (show ∀ W, Below wr.heap.size wr W → W.cell? ⟨b7, o7 + i1 * 3 + 2, none⟩ = some (.slice Ap ea.parts.length cp) ∧ rPart.list.val (fun b => b < w.heap.size) W (.slice Ap ea.parts.length cp) ea.parts from fun W h => ⟨(h.cell (p := ⟨b7, o7 + i1 * 3 + 2, none⟩) hbc7.lt).trans d7, (hpt.below h (fun _ _ h => h.lt)).val⟩)
                  have KPB := Lib.hid (show ∀ W, Below wr.heap.size wr W → W.cell? ⟨b8, o8 + i2 * 3 + 2, none⟩ = some (.slice Bp eb.parts.length dp) ∧ rPart.list.val (fun b => b < w.heap.size) W (.slice Bp eb.parts.length dp) eb.parts from fun W h => ⟨(h.cell (p := ⟨b8, o8 + i2 * 3 + 2, none⟩) hbc8.lt).trans d8, (hpt'.below h (fun _ _ h => h.lt)).val⟩)
                  clear hpl1 hea hpl2 heb hpt hpt' d7 d8 hbc7 hbc8
                  subst hpa hpb
                  go_wp2_with fail
                  refine wp_region_held_drew (S := fun W => Below wr.heap.size wr W) (by kernel_rfl) (Below.refl _ _).drew (fun s0 => ?_)
                  refine wpAnyH_take (i := 0) (v := .agg #[.slice A1 a.gens.length c1, .slice A2 a.free.length c2, .slice (some ⟨b7, o7, none⟩) a.ents.length c3]) rfl (by kernel_rfl) (by kernel_rfl) (by kernel_rfl) (fun _ _ _ h => h) (Or.inl ⟨by rfl, fun w' h => by obtain ⟨⟨e0, e1⟩, ⟨z0, z1, z2⟩, y0, y1, y2⟩ := KC.out w' h; go_simp⟩) s0 ?_
                  go_simp
                  refine wpAnyH_take (i := 1) (v := .slice (some ⟨bb, off, none⟩) l.length cn) rfl (by kernel_rfl) (by kernel_rfl) (by kernel_rfl) (fun _ _ _ h => h) (Or.inl ⟨by rfl, fun w' _ => by go_simp <;> omega⟩) s0 ?_
                  go_simp
                  refine wpAnyH_take (i := 2) (v := .int .i64 k) rfl (by kernel_rfl) (by kernel_rfl) (by kernel_rfl) (fun _ _ _ h => h) (Or.inl ⟨by rfl, fun w' _ => by go_simp <;> omega⟩) s0 ?_
                  go_simp
                  refine wpAnyH_take (i := 3) (v := .pointer (some ⟨bb, off + k * 2, none⟩)) rfl (by kernel_rfl) (by kernel_rfl) (by kernel_rfl) (fun _ _ _ h => h) (Or.inl ⟨by rfl, fun w' _ => by go_simp <;> omega⟩) s0 ?_
                  go_simp
                  refine wpAnyH_take (i := 4) (v := .agg #[.int .i64 x.index, .int .i64 x.gen]) rfl (by kernel_rfl) (by kernel_rfl) (by kernel_rfl) (fun _ _ _ h => h) (Or.inl ⟨by rfl, fun w' h => by obtain ⟨⟨e0, e1⟩, ⟨z0, z1, z2⟩, y0, y1, y2⟩ := KC.out w' h; go_simp⟩) s0 ?_
                  go_simp
                  refine wpAnyH_take (i := 5) (v := .int .u64 yes) rfl (by kernel_rfl) (by kernel_rfl) (by kernel_rfl) (fun _ _ _ h => h) (Or.inl ⟨by rfl, fun w' _ => by go_simp <;> omega⟩) s0 ?_
                  go_simp
                  refine wpAnyH_take (i := 6) (v := .int .u64 no) rfl (by kernel_rfl) (by kernel_rfl) (by kernel_rfl) (fun _ _ _ h => h) (Or.inl ⟨by rfl, fun w' _ => by go_simp <;> omega⟩) s0 ?_
                  go_simp
                  refine wpAnyH_take (i := 8) (v := .agg #[.slice B1 b.gens.length d1, .slice B2 b.free.length d2, .slice (some ⟨b8, o8, none⟩) b.ents.length d3]) rfl (by kernel_rfl) (by kernel_rfl) (by kernel_rfl) (fun _ _ _ h => h) (Or.inl ⟨by rfl, fun w' h => by obtain ⟨⟨e0, e1⟩, ⟨z0, z1, z2⟩, y0, y1, y2⟩ := KC.out w' h; go_simp⟩) s0 ?_
                  go_simp
                  refine wpAnyH_take (i := 9) (v := .slice (some ⟨bb, off, none⟩) l.length cn) rfl (by kernel_rfl) (by kernel_rfl) (by kernel_rfl) (fun _ _ _ h => h) (Or.inl ⟨by rfl, fun w' _ => by go_simp <;> omega⟩) s0 ?_
                  go_simp
                  refine wpAnyH_take (i := 10) (v := .int .i64 k) rfl (by kernel_rfl) (by kernel_rfl) (by kernel_rfl) (fun _ _ _ h => h) (Or.inl ⟨by rfl, fun w' _ => by go_simp <;> omega⟩) s0 ?_
                  go_simp
                  refine wpAnyH_take (i := 11) (v := .pointer (some ⟨bb, off + k * 2, none⟩)) rfl (by kernel_rfl) (by kernel_rfl) (by kernel_rfl) (fun _ _ _ h => h) (Or.inl ⟨by rfl, fun w' _ => by go_simp <;> omega⟩) s0 ?_
                  go_simp
                  refine wpAnyH_take (i := 12) (v := .agg #[.int .i64 x.index, .int .i64 x.gen]) rfl (by kernel_rfl) (by kernel_rfl) (by kernel_rfl) (fun _ _ _ h => h) (Or.inl ⟨by rfl, fun w' h => by obtain ⟨⟨e0, e1⟩, ⟨z0, z1, z2⟩, y0, y1, y2⟩ := KC.out w' h; go_simp⟩) s0 ?_
                  go_simp
                  refine wpAnyH_take (i := 13) (v := .int .u64 yes) rfl (by kernel_rfl) (by kernel_rfl) (by kernel_rfl) (fun _ _ _ h => h) (Or.inl ⟨by rfl, fun w' _ => by go_simp <;> omega⟩) s0 ?_
                  go_simp
                  refine wpAnyH_take (i := 14) (v := .int .u64 no) rfl (by kernel_rfl) (by kernel_rfl) (by kernel_rfl) (fun _ _ _ h => h) (Or.inl ⟨by rfl, fun w' _ => by go_simp <;> omega⟩) s0 ?_
                  go_simp
                  refine wpAnyH_all (rs := [7]) (by kernel_rfl) (by simp) ?_
                  intro i hi
                  obtain rfl : i = 7 := by simpa using hi
                  clear hi
                  refine wpOp_step rfl (fun K hK => ?_)
                  go_simp
                  refine (watched_calls (KA.out _ (FW.out _ s0)) HYN.out.1 HYN.out.2 (fun e he => Nat.le_trans (HLA.out.2 e he) (by decide))).mono ?_
                  rintro en w7 ⟨rfl, hb7⟩
                  rw [HP2.out]
                  have s1 : Below wr.heap.size wr w7 := s0.trans (hb7.mono s0.size)
                  clear hb7
                  refine hK _ _ ⟨s1, ?_⟩
                  clear hK K
                  refine wpAnyH_all (rs := [15]) (by kernel_rfl) (by simp) ?_
                  intro i hi
                  obtain rfl : i = 15 := by simpa using hi
                  clear hi
                  refine wpOp_step rfl (fun K hK => ?_)
                  go_simp
                  refine (watched_calls (KB.out _ (FW.out _ s1)) HYN.out.1 HYN.out.2 (fun e he => Nat.le_trans (HLB.out.2 e he) (by decide))).mono ?_
                  rintro en w8 ⟨rfl, hb7⟩
                  rw [HR2.out]
                  have s2 : Below wr.heap.size wr w8 := s1.trans (hb7.mono s1.size)
                  clear hb7
                  refine hK _ _ ⟨s2, ?_⟩
                  clear hK K
                  refine wpAnyH_take (i := 16) (v := .bool true) rfl (by kernel_rfl) (by kernel_rfl) (by kernel_rfl) (fun _ _ _ h => h) (Or.inl ⟨by rfl, fun w' _ => by go_simp <;> omega⟩) s2 ?_
                  go_simp
                  refine wpAnyH_take (i := 17) (v := .bool true) rfl (by kernel_rfl) (by kernel_rfl) (by kernel_rfl) (fun _ _ _ h => h) (Or.inl ⟨by rfl, fun w' _ => by go_simp <;> omega⟩) s2 ?_
                  go_simp
                  refine wpAnyH_done (by kernel_rfl) ?_ _
                  have HV8 := Lib.hid (Rep.acc_later HV.out s2)
                  have HB8 := Lib.hid (F2.out _ s2)
                  obtain ⟨⟨e0, e1⟩, ⟨z0, z1, z2⟩, y0, y1, y2⟩ := KC.out w8 s2
                  clear s0 s1
                  go_wp2_with fail
                  by_cases hpr : ea.parts = eb.parts
                  · have HEV := Lib.hid (show evOf a b yes no f x = [] by unfold evOf; rw [HPF.out, HRF.out]; simp [hpr])
                    have HSP := Lib.hid (show decide (ea.parts = eb.parts) = true from decide_eq_true hpr)
                    clear hpr
                    have t8 : Below w8.heap.size w8 w8.drew := (Below.refl _ _).drew
                    refine wp_region_held_drew (S := fun W => Below wr.heap.size wr W) (by kernel_rfl) s2.drew (fun s2 => ?_)
                    refine wpAnyH_take (i := 0) (v := .bool true) rfl (by kernel_rfl) (by kernel_rfl) (by kernel_rfl) (fun _ _ _ h => h) (Or.inl ⟨by rfl, fun w' _ => by go_simp <;> omega⟩) s2 ?_
                    go_simp
                    refine wpAnyH_take (i := 1) (v := .bool true) rfl (by kernel_rfl) (by kernel_rfl) (by kernel_rfl) (fun _ _ _ h => h) (Or.inl ⟨by rfl, fun w' _ => by go_simp <;> omega⟩) s2 ?_
                    go_simp
                    refine wpAnyH_take (i := 2) (v := .bool true) rfl (by kernel_rfl) (by kernel_rfl) (by kernel_rfl) (fun _ _ _ h => h) (Or.inl ⟨by rfl, fun w' _ => by go_simp <;> omega⟩) s2 ?_
                    go_simp
                    refine wpAnyH_take (i := 3) (v := .bool true) rfl (by kernel_rfl) (by kernel_rfl) (by kernel_rfl) (fun _ _ _ h => h) (Or.inl ⟨by rfl, fun w' _ => by go_simp <;> omega⟩) s2 ?_
                    go_simp
                    refine wpAnyH_take (i := 4) (v := .bool true) rfl (by kernel_rfl) (by kernel_rfl) (by kernel_rfl) (fun _ _ _ h => h) (Or.inl ⟨by rfl, fun w' _ => by go_simp <;> omega⟩) s2 ?_
                    go_simp
                    refine wpAnyH_take (i := 5) (v := .pointer (some ⟨w.heap.size, 2, none⟩)) rfl (by kernel_rfl) (by kernel_rfl) (by kernel_rfl) (fun _ _ _ h => h) (Or.inl ⟨by rfl, fun w' _ => by go_simp <;> omega⟩) s2 ?_
                    go_simp
                    refine wpAnyH_take (i := 6) (v := .slice (some ⟨b7, o7, none⟩) a.ents.length c3) rfl (by kernel_rfl) (by kernel_rfl) (by kernel_rfl) (fun _ _ _ h => h) (Or.inl ⟨by rfl, fun w' h => by obtain ⟨⟨e0, e1⟩, ⟨z0, z1, z2⟩, y0, y1, y2⟩ := KC.out w' h; obtain ⟨x0, _⟩ := KPA.out w' h; obtain ⟨x1, _⟩ := KPB.out w' h; go_simp⟩) s2 ?_
                    go_simp
                    refine wpAnyH_take (i := 7) (v := .agg #[.slice A1 a.gens.length c1, .slice A2 a.free.length c2, .slice (some ⟨b7, o7, none⟩) a.ents.length c3]) rfl (by kernel_rfl) (by kernel_rfl) (by kernel_rfl) (fun _ _ _ h => h) (Or.inl ⟨by rfl, fun w' h => by obtain ⟨⟨e0, e1⟩, ⟨z0, z1, z2⟩, y0, y1, y2⟩ := KC.out w' h; obtain ⟨x0, _⟩ := KPA.out w' h; obtain ⟨x1, _⟩ := KPB.out w' h; go_simp⟩) s2 ?_
                    go_simp
                    refine wpAnyH_take (i := 8) (v := .slice (some ⟨bb, off, none⟩) l.length cn) rfl (by kernel_rfl) (by kernel_rfl) (by kernel_rfl) (fun _ _ _ h => h) (Or.inl ⟨by rfl, fun w' _ => by go_simp <;> omega⟩) s2 ?_
                    go_simp
                    refine wpAnyH_take (i := 9) (v := .int .i64 k) rfl (by kernel_rfl) (by kernel_rfl) (by kernel_rfl) (fun _ _ _ h => h) (Or.inl ⟨by rfl, fun w' _ => by go_simp <;> omega⟩) s2 ?_
                    go_simp
                    refine wpAnyH_take (i := 10) (v := .pointer (some ⟨bb, off + k * 2, none⟩)) rfl (by kernel_rfl) (by kernel_rfl) (by kernel_rfl) (fun _ _ _ h => h) (Or.inl ⟨by rfl, fun w' _ => by go_simp <;> omega⟩) s2 ?_
                    go_simp
                    refine wpAnyH_take (i := 11) (v := .agg #[.int .i64 x.index, .int .i64 x.gen]) rfl (by kernel_rfl) (by kernel_rfl) (by kernel_rfl) (fun _ _ _ h => h) (Or.inl ⟨by rfl, fun w' h => by obtain ⟨⟨e0, e1⟩, ⟨z0, z1, z2⟩, y0, y1, y2⟩ := KC.out w' h; obtain ⟨x0, _⟩ := KPA.out w' h; obtain ⟨x1, _⟩ := KPB.out w' h; go_simp⟩) s2 ?_
                    go_simp
                    refine wpAnyH_take (i := 16) (v := .pointer (some ⟨w.heap.size + 1, 2, none⟩)) rfl (by kernel_rfl) (by kernel_rfl) (by kernel_rfl) (fun _ _ _ h => h) (Or.inl ⟨by rfl, fun w' _ => by go_simp <;> omega⟩) s2 ?_
                    go_simp
                    refine wpAnyH_take (i := 17) (v := .slice (some ⟨b8, o8, none⟩) b.ents.length d3) rfl (by kernel_rfl) (by kernel_rfl) (by kernel_rfl) (fun _ _ _ h => h) (Or.inl ⟨by rfl, fun w' h => by obtain ⟨⟨e0, e1⟩, ⟨z0, z1, z2⟩, y0, y1, y2⟩ := KC.out w' h; obtain ⟨x0, _⟩ := KPA.out w' h; obtain ⟨x1, _⟩ := KPB.out w' h; go_simp⟩) s2 ?_
                    go_simp
                    refine wpAnyH_take (i := 18) (v := .agg #[.slice B1 b.gens.length d1, .slice B2 b.free.length d2, .slice (some ⟨b8, o8, none⟩) b.ents.length d3]) rfl (by kernel_rfl) (by kernel_rfl) (by kernel_rfl) (fun _ _ _ h => h) (Or.inl ⟨by rfl, fun w' h => by obtain ⟨⟨e0, e1⟩, ⟨z0, z1, z2⟩, y0, y1, y2⟩ := KC.out w' h; obtain ⟨x0, _⟩ := KPA.out w' h; obtain ⟨x1, _⟩ := KPB.out w' h; go_simp⟩) s2 ?_
                    go_simp
                    refine wpAnyH_take (i := 19) (v := .slice (some ⟨bb, off, none⟩) l.length cn) rfl (by kernel_rfl) (by kernel_rfl) (by kernel_rfl) (fun _ _ _ h => h) (Or.inl ⟨by rfl, fun w' _ => by go_simp <;> omega⟩) s2 ?_
                    go_simp
                    refine wpAnyH_take (i := 20) (v := .int .i64 k) rfl (by kernel_rfl) (by kernel_rfl) (by kernel_rfl) (fun _ _ _ h => h) (Or.inl ⟨by rfl, fun w' _ => by go_simp <;> omega⟩) s2 ?_
                    go_simp
                    refine wpAnyH_take (i := 21) (v := .pointer (some ⟨bb, off + k * 2, none⟩)) rfl (by kernel_rfl) (by kernel_rfl) (by kernel_rfl) (fun _ _ _ h => h) (Or.inl ⟨by rfl, fun w' _ => by go_simp <;> omega⟩) s2 ?_
                    go_simp
                    refine wpAnyH_take (i := 22) (v := .agg #[.int .i64 x.index, .int .i64 x.gen]) rfl (by kernel_rfl) (by kernel_rfl) (by kernel_rfl) (fun _ _ _ h => h) (Or.inl ⟨by rfl, fun w' h => by obtain ⟨⟨e0, e1⟩, ⟨z0, z1, z2⟩, y0, y1, y2⟩ := KC.out w' h; obtain ⟨x0, _⟩ := KPA.out w' h; obtain ⟨x1, _⟩ := KPB.out w' h; go_simp⟩) s2 ?_
                    go_simp
                    refine wpAnyH_all (rs := [12]) (by kernel_rfl) (by simp) ?_
                    intro i hi
                    obtain rfl : i = 12 := by simpa using hi
                    clear hi
                    refine wpOp_step rfl (fun K hK => ?_)
                    go_simp
                    refine (rplace11_calls (KA.out _ (FW.out _ s2))).mono ?_
                    rintro en w9 ⟨rfl, hb9⟩
                    rw [HPL1.out]
                    have s3 : Below wr.heap.size wr w9 := s2.trans (hb9.mono s2.size)
                    have t9 : Below w8.heap.size w8 w9 := t8.trans (hb9.mono t8.size)
                    clear hb9
                    refine hK _ _ ⟨s3, ?_⟩
                    clear hK K
                    refine wpAnyH_take (i := 13) (v := .pointer (some ⟨b7, o7 + i1 * 3, none⟩)) rfl (by kernel_rfl) (by kernel_rfl) (by kernel_rfl) (fun _ _ _ h => h) (Or.inl ⟨by rfl, fun w' _ => by go_simp <;> omega⟩) s3 ?_
                    go_simp
                    refine wpAnyH_take (i := 14) (v := .pointer (some ⟨b7, o7 + i1 * 3 + 2, none⟩)) rfl (by kernel_rfl) (by kernel_rfl) (by kernel_rfl) (fun _ _ _ h => h) (Or.inl ⟨by rfl, fun w' _ => by go_simp <;> omega⟩) s3 ?_
                    go_simp
                    refine wpAnyH_take (i := 15) (v := .slice Ap ea.parts.length cp) rfl (by kernel_rfl) (by kernel_rfl) (by kernel_rfl) (fun _ _ _ h => h) (Or.inl ⟨by rfl, fun w' h => by obtain ⟨⟨e0, e1⟩, ⟨z0, z1, z2⟩, y0, y1, y2⟩ := KC.out w' h; obtain ⟨x0, _⟩ := KPA.out w' h; obtain ⟨x1, _⟩ := KPB.out w' h; go_simp⟩) s3 ?_
                    go_simp
                    refine wpAnyH_all (rs := [23]) (by kernel_rfl) (by simp) ?_
                    intro i hi
                    obtain rfl : i = 23 := by simpa using hi
                    clear hi
                    refine wpOp_step rfl (fun K hK => ?_)
                    go_simp
                    refine (rplace11_calls (KB.out _ (FW.out _ s3))).mono ?_
                    rintro en w10 ⟨rfl, hb9⟩
                    rw [HPL2.out]
                    have s4 : Below wr.heap.size wr w10 := s3.trans (hb9.mono s3.size)
                    have t10 : Below w8.heap.size w8 w10 := t9.trans (hb9.mono t9.size)
                    clear hb9
                    refine hK _ _ ⟨s4, ?_⟩
                    clear hK K
                    refine wpAnyH_take (i := 24) (v := .pointer (some ⟨b8, o8 + i2 * 3, none⟩)) rfl (by kernel_rfl) (by kernel_rfl) (by kernel_rfl) (fun _ _ _ h => h) (Or.inl ⟨by rfl, fun w' _ => by go_simp <;> omega⟩) s4 ?_
                    go_simp
                    refine wpAnyH_take (i := 25) (v := .pointer (some ⟨b8, o8 + i2 * 3 + 2, none⟩)) rfl (by kernel_rfl) (by kernel_rfl) (by kernel_rfl) (fun _ _ _ h => h) (Or.inl ⟨by rfl, fun w' _ => by go_simp <;> omega⟩) s4 ?_
                    go_simp
                    refine wpAnyH_take (i := 26) (v := .slice Bp eb.parts.length dp) rfl (by kernel_rfl) (by kernel_rfl) (by kernel_rfl) (fun _ _ _ h => h) (Or.inl ⟨by rfl, fun w' h => by obtain ⟨⟨e0, e1⟩, ⟨z0, z1, z2⟩, y0, y1, y2⟩ := KC.out w' h; obtain ⟨x0, _⟩ := KPA.out w' h; obtain ⟨x1, _⟩ := KPB.out w' h; go_simp⟩) s4 ?_
                    go_simp
                    refine wpAnyH_all (rs := [27]) (by kernel_rfl) (by simp) ?_
                    intro i hi
                    obtain rfl : i = 27 := by simpa using hi
                    clear hi
                    refine wpOp_step rfl (fun K hK => ?_)
                    go_simp
                    refine (rsameParts_calls (KPA.out _ s4).2 (KPB.out _ s4).2).mono ?_
                    rintro en w11 ⟨rfl, hb9⟩
                    rw [HSP.out]
                    have s11 : Below wr.heap.size wr w11 := s4.trans (hb9.mono s4.size)
                    have t11 : Below w8.heap.size w8 w11 := t10.trans (hb9.mono t10.size)
                    clear hb9
                    refine hK _ _ ⟨s11, ?_⟩
                    clear hK K
                    refine wpAnyH_take (i := 28) (v := .bool false) rfl (by kernel_rfl) (by kernel_rfl) (by kernel_rfl) (fun _ _ _ h => h) (Or.inl ⟨by rfl, fun w' _ => by go_simp <;> omega⟩) s11 ?_
                    go_simp
                    refine wpAnyH_take (i := 29) (v := .bool false) rfl (by kernel_rfl) (by kernel_rfl) (by kernel_rfl) (fun _ _ _ h => h) (Or.inl ⟨by rfl, fun w' _ => by go_simp <;> omega⟩) s11 ?_
                    go_simp
                    refine wpAnyH_done (by kernel_rfl) ?_ _
                    go_wp2_with fail
                    exact ⟨⟨k + 1, by go_num, by omega, by rw [HT.out, HEV.out, List.append_nil]; exact Rep.acc_later HV8.out t11, F2.out _ s11⟩, by simp [intOf]; omega⟩
                  · have HEV := Lib.hid (show evOf a b yes no f x = [⟨2, x, f⟩] by unfold evOf; rw [HPF.out, HRF.out]; simp [hpr])
                    have HSP := Lib.hid (show decide (ea.parts = eb.parts) = false from decide_eq_false hpr)
                    clear hpr
                    have t8 : Below w8.heap.size w8 w8.drew := (Below.refl _ _).drew
                    refine wp_region_held_drew (S := fun W => Below wr.heap.size wr W) (by kernel_rfl) s2.drew (fun s2 => ?_)
                    refine wpAnyH_take (i := 0) (v := .bool true) rfl (by kernel_rfl) (by kernel_rfl) (by kernel_rfl) (fun _ _ _ h => h) (Or.inl ⟨by rfl, fun w' _ => by go_simp <;> omega⟩) s2 ?_
                    go_simp
                    refine wpAnyH_take (i := 1) (v := .bool true) rfl (by kernel_rfl) (by kernel_rfl) (by kernel_rfl) (fun _ _ _ h => h) (Or.inl ⟨by rfl, fun w' _ => by go_simp <;> omega⟩) s2 ?_
                    go_simp
                    refine wpAnyH_take (i := 2) (v := .bool true) rfl (by kernel_rfl) (by kernel_rfl) (by kernel_rfl) (fun _ _ _ h => h) (Or.inl ⟨by rfl, fun w' _ => by go_simp <;> omega⟩) s2 ?_
                    go_simp
                    refine wpAnyH_take (i := 3) (v := .bool true) rfl (by kernel_rfl) (by kernel_rfl) (by kernel_rfl) (fun _ _ _ h => h) (Or.inl ⟨by rfl, fun w' _ => by go_simp <;> omega⟩) s2 ?_
                    go_simp
                    refine wpAnyH_take (i := 4) (v := .bool true) rfl (by kernel_rfl) (by kernel_rfl) (by kernel_rfl) (fun _ _ _ h => h) (Or.inl ⟨by rfl, fun w' _ => by go_simp <;> omega⟩) s2 ?_
                    go_simp
                    refine wpAnyH_take (i := 5) (v := .pointer (some ⟨w.heap.size, 2, none⟩)) rfl (by kernel_rfl) (by kernel_rfl) (by kernel_rfl) (fun _ _ _ h => h) (Or.inl ⟨by rfl, fun w' _ => by go_simp <;> omega⟩) s2 ?_
                    go_simp
                    refine wpAnyH_take (i := 6) (v := .slice (some ⟨b7, o7, none⟩) a.ents.length c3) rfl (by kernel_rfl) (by kernel_rfl) (by kernel_rfl) (fun _ _ _ h => h) (Or.inl ⟨by rfl, fun w' h => by obtain ⟨⟨e0, e1⟩, ⟨z0, z1, z2⟩, y0, y1, y2⟩ := KC.out w' h; obtain ⟨x0, _⟩ := KPA.out w' h; obtain ⟨x1, _⟩ := KPB.out w' h; go_simp⟩) s2 ?_
                    go_simp
                    refine wpAnyH_take (i := 7) (v := .agg #[.slice A1 a.gens.length c1, .slice A2 a.free.length c2, .slice (some ⟨b7, o7, none⟩) a.ents.length c3]) rfl (by kernel_rfl) (by kernel_rfl) (by kernel_rfl) (fun _ _ _ h => h) (Or.inl ⟨by rfl, fun w' h => by obtain ⟨⟨e0, e1⟩, ⟨z0, z1, z2⟩, y0, y1, y2⟩ := KC.out w' h; obtain ⟨x0, _⟩ := KPA.out w' h; obtain ⟨x1, _⟩ := KPB.out w' h; go_simp⟩) s2 ?_
                    go_simp
                    refine wpAnyH_take (i := 8) (v := .slice (some ⟨bb, off, none⟩) l.length cn) rfl (by kernel_rfl) (by kernel_rfl) (by kernel_rfl) (fun _ _ _ h => h) (Or.inl ⟨by rfl, fun w' _ => by go_simp <;> omega⟩) s2 ?_
                    go_simp
                    refine wpAnyH_take (i := 9) (v := .int .i64 k) rfl (by kernel_rfl) (by kernel_rfl) (by kernel_rfl) (fun _ _ _ h => h) (Or.inl ⟨by rfl, fun w' _ => by go_simp <;> omega⟩) s2 ?_
                    go_simp
                    refine wpAnyH_take (i := 10) (v := .pointer (some ⟨bb, off + k * 2, none⟩)) rfl (by kernel_rfl) (by kernel_rfl) (by kernel_rfl) (fun _ _ _ h => h) (Or.inl ⟨by rfl, fun w' _ => by go_simp <;> omega⟩) s2 ?_
                    go_simp
                    refine wpAnyH_take (i := 11) (v := .agg #[.int .i64 x.index, .int .i64 x.gen]) rfl (by kernel_rfl) (by kernel_rfl) (by kernel_rfl) (fun _ _ _ h => h) (Or.inl ⟨by rfl, fun w' h => by obtain ⟨⟨e0, e1⟩, ⟨z0, z1, z2⟩, y0, y1, y2⟩ := KC.out w' h; obtain ⟨x0, _⟩ := KPA.out w' h; obtain ⟨x1, _⟩ := KPB.out w' h; go_simp⟩) s2 ?_
                    go_simp
                    refine wpAnyH_take (i := 16) (v := .pointer (some ⟨w.heap.size + 1, 2, none⟩)) rfl (by kernel_rfl) (by kernel_rfl) (by kernel_rfl) (fun _ _ _ h => h) (Or.inl ⟨by rfl, fun w' _ => by go_simp <;> omega⟩) s2 ?_
                    go_simp
                    refine wpAnyH_take (i := 17) (v := .slice (some ⟨b8, o8, none⟩) b.ents.length d3) rfl (by kernel_rfl) (by kernel_rfl) (by kernel_rfl) (fun _ _ _ h => h) (Or.inl ⟨by rfl, fun w' h => by obtain ⟨⟨e0, e1⟩, ⟨z0, z1, z2⟩, y0, y1, y2⟩ := KC.out w' h; obtain ⟨x0, _⟩ := KPA.out w' h; obtain ⟨x1, _⟩ := KPB.out w' h; go_simp⟩) s2 ?_
                    go_simp
                    refine wpAnyH_take (i := 18) (v := .agg #[.slice B1 b.gens.length d1, .slice B2 b.free.length d2, .slice (some ⟨b8, o8, none⟩) b.ents.length d3]) rfl (by kernel_rfl) (by kernel_rfl) (by kernel_rfl) (fun _ _ _ h => h) (Or.inl ⟨by rfl, fun w' h => by obtain ⟨⟨e0, e1⟩, ⟨z0, z1, z2⟩, y0, y1, y2⟩ := KC.out w' h; obtain ⟨x0, _⟩ := KPA.out w' h; obtain ⟨x1, _⟩ := KPB.out w' h; go_simp⟩) s2 ?_
                    go_simp
                    refine wpAnyH_take (i := 19) (v := .slice (some ⟨bb, off, none⟩) l.length cn) rfl (by kernel_rfl) (by kernel_rfl) (by kernel_rfl) (fun _ _ _ h => h) (Or.inl ⟨by rfl, fun w' _ => by go_simp <;> omega⟩) s2 ?_
                    go_simp
                    refine wpAnyH_take (i := 20) (v := .int .i64 k) rfl (by kernel_rfl) (by kernel_rfl) (by kernel_rfl) (fun _ _ _ h => h) (Or.inl ⟨by rfl, fun w' _ => by go_simp <;> omega⟩) s2 ?_
                    go_simp
                    refine wpAnyH_take (i := 21) (v := .pointer (some ⟨bb, off + k * 2, none⟩)) rfl (by kernel_rfl) (by kernel_rfl) (by kernel_rfl) (fun _ _ _ h => h) (Or.inl ⟨by rfl, fun w' _ => by go_simp <;> omega⟩) s2 ?_
                    go_simp
                    refine wpAnyH_take (i := 22) (v := .agg #[.int .i64 x.index, .int .i64 x.gen]) rfl (by kernel_rfl) (by kernel_rfl) (by kernel_rfl) (fun _ _ _ h => h) (Or.inl ⟨by rfl, fun w' h => by obtain ⟨⟨e0, e1⟩, ⟨z0, z1, z2⟩, y0, y1, y2⟩ := KC.out w' h; obtain ⟨x0, _⟩ := KPA.out w' h; obtain ⟨x1, _⟩ := KPB.out w' h; go_simp⟩) s2 ?_
                    go_simp
                    refine wpAnyH_all (rs := [12]) (by kernel_rfl) (by simp) ?_
                    intro i hi
                    obtain rfl : i = 12 := by simpa using hi
                    clear hi
                    refine wpOp_step rfl (fun K hK => ?_)
                    go_simp
                    refine (rplace11_calls (KA.out _ (FW.out _ s2))).mono ?_
                    rintro en w9 ⟨rfl, hb9⟩
                    rw [HPL1.out]
                    have s3 : Below wr.heap.size wr w9 := s2.trans (hb9.mono s2.size)
                    have t9 : Below w8.heap.size w8 w9 := t8.trans (hb9.mono t8.size)
                    clear hb9
                    refine hK _ _ ⟨s3, ?_⟩
                    clear hK K
                    refine wpAnyH_take (i := 13) (v := .pointer (some ⟨b7, o7 + i1 * 3, none⟩)) rfl (by kernel_rfl) (by kernel_rfl) (by kernel_rfl) (fun _ _ _ h => h) (Or.inl ⟨by rfl, fun w' _ => by go_simp <;> omega⟩) s3 ?_
                    go_simp
                    refine wpAnyH_take (i := 14) (v := .pointer (some ⟨b7, o7 + i1 * 3 + 2, none⟩)) rfl (by kernel_rfl) (by kernel_rfl) (by kernel_rfl) (fun _ _ _ h => h) (Or.inl ⟨by rfl, fun w' _ => by go_simp <;> omega⟩) s3 ?_
                    go_simp
                    refine wpAnyH_take (i := 15) (v := .slice Ap ea.parts.length cp) rfl (by kernel_rfl) (by kernel_rfl) (by kernel_rfl) (fun _ _ _ h => h) (Or.inl ⟨by rfl, fun w' h => by obtain ⟨⟨e0, e1⟩, ⟨z0, z1, z2⟩, y0, y1, y2⟩ := KC.out w' h; obtain ⟨x0, _⟩ := KPA.out w' h; obtain ⟨x1, _⟩ := KPB.out w' h; go_simp⟩) s3 ?_
                    go_simp
                    refine wpAnyH_all (rs := [23]) (by kernel_rfl) (by simp) ?_
                    intro i hi
                    obtain rfl : i = 23 := by simpa using hi
                    clear hi
                    refine wpOp_step rfl (fun K hK => ?_)
                    go_simp
                    refine (rplace11_calls (KB.out _ (FW.out _ s3))).mono ?_
                    rintro en w10 ⟨rfl, hb9⟩
                    rw [HPL2.out]
                    have s4 : Below wr.heap.size wr w10 := s3.trans (hb9.mono s3.size)
                    have t10 : Below w8.heap.size w8 w10 := t9.trans (hb9.mono t9.size)
                    clear hb9
                    refine hK _ _ ⟨s4, ?_⟩
                    clear hK K
                    refine wpAnyH_take (i := 24) (v := .pointer (some ⟨b8, o8 + i2 * 3, none⟩)) rfl (by kernel_rfl) (by kernel_rfl) (by kernel_rfl) (fun _ _ _ h => h) (Or.inl ⟨by rfl, fun w' _ => by go_simp <;> omega⟩) s4 ?_
                    go_simp
                    refine wpAnyH_take (i := 25) (v := .pointer (some ⟨b8, o8 + i2 * 3 + 2, none⟩)) rfl (by kernel_rfl) (by kernel_rfl) (by kernel_rfl) (fun _ _ _ h => h) (Or.inl ⟨by rfl, fun w' _ => by go_simp <;> omega⟩) s4 ?_
                    go_simp
                    refine wpAnyH_take (i := 26) (v := .slice Bp eb.parts.length dp) rfl (by kernel_rfl) (by kernel_rfl) (by kernel_rfl) (fun _ _ _ h => h) (Or.inl ⟨by rfl, fun w' h => by obtain ⟨⟨e0, e1⟩, ⟨z0, z1, z2⟩, y0, y1, y2⟩ := KC.out w' h; obtain ⟨x0, _⟩ := KPA.out w' h; obtain ⟨x1, _⟩ := KPB.out w' h; go_simp⟩) s4 ?_
                    go_simp
                    refine wpAnyH_all (rs := [27]) (by kernel_rfl) (by simp) ?_
                    intro i hi
                    obtain rfl : i = 27 := by simpa using hi
                    clear hi
                    refine wpOp_step rfl (fun K hK => ?_)
                    go_simp
                    refine (rsameParts_calls (KPA.out _ s4).2 (KPB.out _ s4).2).mono ?_
                    rintro en w11 ⟨rfl, hb9⟩
                    rw [HSP.out]
                    have s11 : Below wr.heap.size wr w11 := s4.trans (hb9.mono s4.size)
                    have t11 : Below w8.heap.size w8 w11 := t10.trans (hb9.mono t10.size)
                    clear hb9
                    refine hK _ _ ⟨s11, ?_⟩
                    clear hK K
                    refine wpAnyH_take (i := 28) (v := .bool true) rfl (by kernel_rfl) (by kernel_rfl) (by kernel_rfl) (fun _ _ _ h => h) (Or.inl ⟨by rfl, fun w' _ => by go_simp <;> omega⟩) s11 ?_
                    go_simp
                    refine wpAnyH_take (i := 29) (v := .bool true) rfl (by kernel_rfl) (by kernel_rfl) (by kernel_rfl) (fun _ _ _ h => h) (Or.inl ⟨by rfl, fun w' _ => by go_simp <;> omega⟩) s11 ?_
                    go_simp
                    refine wpAnyH_done (by kernel_rfl) ?_ _
                    have HV11 := Lib.hid (Rep.acc_later HV8.out t11)
                    have HB11 := Lib.hid (F2.out _ s11)
                    obtain ⟨⟨e0, e1⟩, _⟩ := KC.out w11 s11
                    go_wp2_with (refine wpList_snoc (e := 205) (base := w2.heap.size) (Q := fun _ => False) (r := rEvent) rfl rfl _ _ 123 _ rfl rfl rfl (.agg #[.int .i64 0, .int .i64 0, .int .i64 0, .int .i64 0]) 4 32 Try.underlying123 infoEvent rfl (by decide) rfl _ q HV11.out ⟨2, x, f⟩ _ (by exact rfl) (rEvent_agg HK.out.2.2 HG.out.1 HG.out.2 HF.out) (by exact rfl) (by exact rfl) L.out.1 L.out.2 (HB11).out.size ?_; intro v9 w9 hacc9 hgr9 hat9; have HA9 := Lib.hid hacc9; have HB9 := Lib.hid (Rep.acc_below HV11.out HB11.out hgr9 HB11.out.size); clear hacc9 hgr9 hat9)
                    exact ⟨⟨k + 1, by go_num, by omega, by rw [HT.out, HEV.out]; exact HA9.out, HB9.out⟩, by simp [intOf]; omega⟩
            · obtain rfl : k = l.length := by omega
              rw [List.take_length] at hv
              have HVE := Lib.hid hv
              clear hv hbel
              go_wp2_with fail
              go_ret
              exact ⟨_, l, rfl, HPW.out, HMEM.out, Rep.val_mono (fun b hb _ => Nat.le_trans HSZ.out hb) (Rep.acc_fresh HVE.out), FIN.out _ (HB2.out.trans (HBW.out.mono HB2.out.size))⟩
end Go.Proofs.Ytfpmkenobphfnaa
