/- Walk of watch.names. -/
import Derived.Test.YtfpmkenobphfnaaWeG10
import Derived.Test.YtfpmkenobphfnaaWeG16
import Derived.Test.YtfpmkenobphfnaaWeG18
namespace Go.Proofs.Ytfpmkenobphfnaa
open Go.RowKit

/-- Names, sorted and once each, in a slice of the call's own. -/
def NamesPost (w : World) (ids : List DID) (e : Ending) (w' : World) : Prop :=
  ∃ u ns, e = .returned u ∧ rID.list.val (fun b => w.heap.size ≤ b) w' u ns ∧ ns.Pairwise idLt ∧ (∀ x, x ∈ ns ↔ x ∈ ids) ∧ ns.length ≤ ids.length ∧ Below w.heap.size w w'
theorem ents2 {w : World} {t : TypeId} {A B : Option Addr} {n c m d : Nat} {x y : List DEnt} (hx : rEnt.list.val (fun b => b < w.heap.size) w (.slice A n c) x) (hy : rEnt.list.val (fun b => b < w.heap.size) w (.slice B m d) y) :
    rEnt.list.list.val (fun b => b < w.heap.size + 1) (w.alloc (.cells #[.slice A n c, .slice B m d] t)) (.slice (some ⟨w.heap.size, 0, none⟩) 2 2) [x, y] := by
  have k : ∀ b, b < w.heap.size → IsC w b → b < w.heap.size + 1 ∧ (w.alloc (.cells #[.slice A n c, .slice B m d] t)).heap[b]? = w.heap[b]? := fun b hb _ => ⟨by omega, heap_alloc_old _ _ hb⟩
  obtain ⟨cs, h1, h2⟩ := Rep.val_keep k hx
  obtain ⟨ds, h3, h4⟩ := Rep.val_keep k hy
  have e1 := rEnt.list.back h2
  have e2 := rEnt.list.back h4
  rw [← h1] at e1
  rw [← h3] at e2
  have f1 : cs = [.slice A n c] := by rw [← e1]; rfl
  have f2 : ds = [.slice B m d] := by rw [← e2]; rfl
  subst f1 f2
  exact lit_list (r := rEnt.list) (xs := [x, y]) (n := 2) (cs := [.slice A n c, .slice B m d]) rfl (by simp [maxLen]) (by omega) ⟨[_], _, rfl, h2, [_], _, rfl, h4, rfl⟩

set_option maxRecDepth 100000 in
set_option maxHeartbeats 2000000 in
/-- watch.names -/
theorem names_calls {Q : Nat → Prop} {w : World} {va vb : Value} {a b : DState} (hva : rState.val Q w va a) (hvb : rState.val Q w vb b) (hl : (a.ents ++ b.ents).length ≤ 1000000000) :
    Calls Try.prog 138 #[va, vb] w (NamesPost w ((a.ents ++ b.ents).map (·.id))) := by
  obtain ⟨A1, c1, A2, c2, A3, c3, rfl, _, _, ha⟩ := rState_val hva
  obtain ⟨B1, d1, B2, d2, B3, d3, rfl, _, _, hb⟩ := rState_val hvb
  have hpl := ha.1
  have hpm := ha.2.1
  have hql := hb.1
  have hqm := hb.2.1
  have HA := Lib.hid ha
  have HB := Lib.hid hb
  have HL := Lib.hid hl
  unfold maxLen at hpm hqm
  obtain ⟨W1, hW1⟩ : ∃ W1, (w.alloc (.cells #[.slice A1 a.gens.length c1, .slice A2 a.free.length c2, .slice A3 a.ents.length c3] 109)).alloc (.cells #[.slice B1 b.gens.length d1, .slice B2 b.free.length d2, .slice B3 b.ents.length d3] 109) = W1 := ⟨_, rfl⟩
  have hz : (w.alloc (.cells #[.slice A1 a.gens.length c1, .slice A2 a.free.length c2, .slice A3 a.ents.length c3] 109)).heap.size = w.heap.size + 1 := by simp
  have hb1 : Below w.heap.size w W1 := by rw [← hW1]; exact ((Below.refl _ _).alloc (Nat.le_refl _) _).alloc (by rw [hz]; omega) _
  have hz1 : W1.heap.size = w.heap.size + 2 := by rw [← hW1]; simp
  have hr0 : W1.heap[w.heap.size]? = some (.cells #[.slice A1 a.gens.length c1, .slice A2 a.free.length c2, .slice A3 a.ents.length c3] 109 (0, 0)) := by rw [← hW1]; exact (heap_alloc_old _ _ (by rw [hz]; omega)).trans (heap_alloc_new w _)
  have hr1 : W1.heap[w.heap.size + 1]? = some (.cells #[.slice B1 b.gens.length d1, .slice B2 b.free.length d2, .slice B3 b.ents.length d3] 109 (0, 0)) := by rw [← hW1, ← hz]; exact heap_alloc_new _ _
  have KS := Lib.hid (show ∀ W, Below W1.heap.size W1 W → W.cell? ⟨w.heap.size, 2, none⟩ = some (.slice A3 a.ents.length c3) ∧ W.cell? ⟨w.heap.size + 1, 2, none⟩ = some (.slice B3 b.ents.length d3) from fun W h => by
    have e := (h.block _ (by omega)).trans hr0
    have f := (h.block _ (by omega)).trans hr1
    exact ⟨cell_row e 2, cell_row f 2⟩)
  have FIN := Lib.hid (show ∀ W, Below W1.heap.size W1 W → Below w.heap.size w W from fun W h => hb1.trans (h.mono hb1.size))
  have HV := Lib.hid (ents2 (w := W1) (t := 107) (Rep.val_any (HA.out.below (FIN.out W1 (Below.refl _ _)) (fun _ _ h => h.lt)).val) (Rep.val_any (HB.out.below (FIN.out W1 (Below.refl _ _)) (fun _ _ h => h.lt)).val))
  have HZ := Lib.hid hz1
  obtain ⟨q0, q1⟩ := KS.out W1 (Below.refl _ _)
  obtain ⟨E, hE⟩ : ∃ E, a.ents ++ b.ents = E := ⟨_, rfl⟩
  have HE := Lib.hid (show [a.ents, b.ents].flatten = E by rw [← hE]; simp)
  rw [hE] at hl ⊢
  have HEL := Lib.hid hl
  obtain ⟨ids, hids⟩ : ∃ ids, E.map (·.id) = ids := ⟨_, rfl⟩
  have HIDS := Lib.hid hids
  rw [hids]
  clear hva hvb ha hb hz hb1 hz1 hr0 hr1 hE hids HL
  go_enter Try.func138, Try.ntmps138
  go_wp2_with fail
  try rw [hW1]
  clear hW1
  try go_wp2_with fail
  obtain ⟨W2, hW2⟩ : ∃ W2, W1.alloc (.cells #[.slice A3 a.ents.length c3, .slice B3 b.ents.length d3] 107) = W2 := ⟨_, rfl⟩
  have HB2 := Lib.hid (show Below W1.heap.size W1 W2 by rw [← hW2]; exact (Below.refl _ _).alloc (Nat.le_refl _) _)
  rw [hW2] at HV
  try rw [hW2]
  refine (concatEnts_calls HV.out (by rw [HE.out]; exact HEL.out)).mono ?_
  rintro e w3 ⟨u3, rfl, hu3, hb3⟩
  rw [HE.out] at hu3
  obtain ⟨A5, c5, rfl, h51, h52, hat⟩ := Rep.val_list (Rep.acc_val hu3)
  have KEE := Lib.hid (show ∀ W', Below w3.heap.size w3 W' → rEnt.At (fun b => b < w3.heap.size) W' A5 E from fun W' hb => Rep.At.keep (w := w3) (fun b _ hl => ⟨hl.lt, hb.block b hl.lt⟩) hat)
  have HB3 := Lib.hid (HB2.out.trans (hb3.mono HB2.out.size))
  have HSZ := Lib.hid (show w.heap.size ≤ w3.heap.size by have := HB3.out.size; have := HZ.out; omega)
  unfold maxLen at h52
  clear hu3 hb3 hat q0 q1 hW2
  go_wp2_with fail
  go_loopw [5, 15] (fun v i wr => ∃ k : Nat, i = .int .i64 k ∧ k ≤ E.length ∧ rID.acc 175 w3.heap.size (fun _ => False) wr v ((E.take k).map (·.id)) ∧ Below w3.heap.size w3 wr) (fun _ i _ => E.length - (intOf i).toNat)
  case atStart => exact ⟨0, rfl, Nat.zero_le _, by rw [List.take_zero]; exact Rep.acc_nil, Below.refl _ _⟩
  case round =>
    obtain ⟨k, rfl, hk, hv, hbel⟩ := hrel
    have HBW := Lib.hid hbel
    by_cases hlt : (k : Int) < E.length
    · obtain ⟨x, hx⟩ : ∃ x, E[k]? = some x := ⟨_, List.getElem?_eq_getElem (by omega)⟩
      obtain ⟨bb, off, Ap, cp, hA5, _, e0, e1, e2, f0, f1, _⟩ := rEnt_at (KEE.out _ hbel) hx
      subst hA5
      have HT := Lib.hid (show (E.take (k + 1)).map (·.id) = (E.take k).map (·.id) ++ [x.id] by
        rw [List.take_succ_eq_append_getElem (by omega), List.map_append, (List.getElem?_eq_some_iff.1 hx).2]; rfl)
      have hql : ((E.take k).map (·.id)).length = k := by simp; omega
      generalize (E.take k).map (·.id) = q at *
      obtain ⟨A6, c6, rfl, _, _⟩ := Rep.acc_form hv
      obtain ⟨W4, hW4⟩ : ∃ W4, wr.alloc (.cells #[.int .i64 x.id.index, .int .i64 x.id.gen, .slice Ap x.parts.length cp] 189) = W4 := ⟨_, rfl⟩
      have hb4 : Below wr.heap.size wr W4 := by rw [← hW4]; exact (Below.refl _ _).alloc (Nat.le_refl _) _
      have hn4 : W4.heap[wr.heap.size]? = some (.cells #[.int .i64 x.id.index, .int .i64 x.id.gen, .slice Ap x.parts.length cp] 189 (0, 0)) := by rw [← hW4]; exact heap_alloc_new _ _
      have HV4 := Lib.hid (Rep.acc_later hv hb4)
      have HB4 := Lib.hid (hbel.trans (hb4.mono hbel.size))
      have HG := Lib.hid (And.intro f0 f1)
      have L := Lib.hid (show q.length + 1 ≤ maxLen ∧ (q.length + 1) * 16 ≤ 140737488355328 by unfold maxLen; have := HEL.out; omega)
      have y0 := cell_row hn4 0
      have y1 := cell_row hn4 1
      have y2 := cell_row hn4 2
      clear hv hbel hx hql hb4 hn4 f0 f1
      go_wp2_with (refine wpList_snoc (e := 175) (base := w3.heap.size) (Q := fun _ => False) (r := rID) rfl rfl _ _ 206 _ rfl rfl rfl (.agg #[.int .i64 0, .int .i64 0]) 2 16 Try.underlying206 infoID rfl (by decide) rfl _ q HV4.out x.id _ (by exact rfl) (rID_agg HG.out.1 HG.out.2) (by exact rfl) (by exact rfl) L.out.1 L.out.2 HB4.out.size ?_; intro s8 w8 hacc8 hgr8 hat8)
      exact ⟨⟨k + 1, by go_num, by omega, by rw [HT.out]; exact hacc8, Rep.acc_below HV4.out HB4.out hgr8 HB4.out.size⟩, by simp [intOf]; omega⟩
    · obtain rfl : k = E.length := by omega
      rw [List.take_length] at hv
      have HWF := Lib.hid (show Below w.heap.size w wr from FIN.out _ (HB3.out.trans (hbel.mono HB3.out.size)))
      have hnw := idRow_of hv
      rw [HIDS.out] at hnw
      have HEN := Lib.hid (show ids.length ≤ 1000000000 by rw [← HIDS.out, List.length_map]; exact HEL.out)
      clear hv hbel HIDS
      rcases hnw with ⟨rfl, rfl⟩ | ⟨g, cap, rfl, hg, hc, hm, hrow, hwf⟩
      · go_wp2_with fail
        refine (Try.slices_SortFunc_none (α := DID) none 0 _ wr).mono ?_
        rintro e w4 ⟨rfl, rfl⟩
        go_wp2_with fail
        refine (compactNil_calls _).mono ?_
        rintro e w4 ⟨rfl, rfl⟩
        go_wp2_with fail
        go_ret
        exact ⟨_, [], rfl, Rep.val_nil (by simp [maxLen]), List.Pairwise.nil, fun _ => Iff.rfl, Nat.le_refl _, HWF.out⟩
      · have HROW := Lib.hid hrow
        have HWD := Lib.hid hwf
        have HC := Lib.hid (show ids.toArray.size ≤ cap ∧ cap ≤ maxLen from ⟨hc, hm⟩)
        have HG := Lib.hid hg
        have hn : ids.toArray.size ≤ 1000000000 := by simpa using HEN.out
        have HTL := Lib.hid (show ids.toArray.toList = ids by simp)
        have HTN := Lib.hid (show ids.toArray.size = ids.length by simp)
        unfold maxLen at hm
        generalize ids.toArray = d at *
        obtain ⟨n, hdn⟩ : ∃ n, d.size = n := ⟨_, rfl⟩
        have HN := Lib.hid hdn
        rw [hdn] at hc hn ⊢
        clear hrow hwf hg hdn
        go_wp2_with fail
        have hso := sortIDs_calls (base := w3.heap.size) (cap := cap) HROW.out HG.out (by rw [HN.out]; omega)
        rw [HN.out] at hso
        refine hso.mono ?_
        rintro e w4 ⟨rfl, ⟨d', hr4, hz4, hp4, hs4⟩, hb4⟩
        have HB4 := Lib.hid hb4
        have HP4 := Lib.hid hp4
        have HS4 := Lib.hid hs4
        have HZ4 := Lib.hid hz4
        have HR4 := Lib.hid (show IDRow w4 g d'.size d' by rw [hz4]; exact hr4)
        clear hso hb4 hp4 hs4 hz4 hr4
        go_wp2_with fail
        have hco := compactRow_calls (base := w3.heap.size) (cap := cap) HR4.out HG.out (by rw [HZ4.out]; exact hc) HC.out.2
        rw [HZ4.out] at hco
        refine hco.mono ?_
        rintro e w5 ⟨rfl, ⟨dk, hr5, hd5⟩, hb5⟩
        have hcl : (Lib.compactUpTo d' n).length ≤ n := by
          unfold Lib.compactUpTo
          rw [List.length_map]
          exact Nat.le_trans (List.length_filter_le _ _) (by simp)
        have hca := compact_ids_all HS4.out
        rw [HZ4.out, ← hd5] at hca
        rw [← hd5] at hcl
        have HD5 := Lib.hid hd5
        have HR5 := Lib.hid hr5
        have HCL := Lib.hid hcl
        have HCA := Lib.hid hca
        have HB5 := Lib.hid hb5
        clear hco hcl hca hd5 hr5 hb5
        go_wp2_with fail
        go_ret
        have hmem : ∀ x, x ∈ d'.toList ↔ x ∈ ids := fun x => by rw [HP4.out.mem_iff, HTL.out]
        refine ⟨_, dk.toList, rfl, ?_, HCA.out.1, fun x => by rw [HCA.out.2, hmem], by rw [← HTN.out, HN.out]; exact HCL.out, HWF.out.trans ((HB4.out.trans HB5.out).mono HSZ.out)⟩
        have hv := idRow_val (Q := fun b => w.heap.size ≤ b) (cap := cap) HR5.out (Nat.le_trans HSZ.out HG.out) (by have := HCL.out; rw [HD5.out] at this; exact Nat.le_trans this hc) HC.out.2 (fun x hx => HWD.out x ((hmem x).1 ((HCA.out.2 x).1 hx)))
        exact hv
end Go.Proofs.Ytfpmkenobphfnaa
