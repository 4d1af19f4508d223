/- Texts on which the proofs stand: Delete, MDespawn, PartPos. No condition is laid on any input. -/
import Derived.Test.YteljibjbndpncaaJsG12
namespace Go.Proofs.Yteljibjbndpncaa
open Go.RowKit

set_option maxRecDepth 100000 in
set_option maxHeartbeats 2000000 in
/-- slices.Delete of one entity -/
theorem delEnt_calls {base : Nat} {Q : Nat → Prop} {w : World} {v : Value} {xs : List DEnt} {i : Nat} (h : rEnt.acc 133 base Q w v xs) (hi : i < xs.length) :
    Calls Try.prog 186 #[v, .int .i64 i, .int .i64 ((i : Int) + 1)] w fun e w' => ∃ v', e = .returned v' ∧ v'.ownBlock = v.ownBlock ∧ rEnt.acc 133 base Q w' v' (xs.eraseIdx i) ∧ Only (fun b => v.ownBlock = some b) w w' := by
  obtain ⟨g, cap, cur, cells, rfl, hb, hg, hcap, hmax, hcs, htk, hrow⟩ := acc_row h (by omega)
  obtain ⟨n, hn⟩ : ∃ n, xs.length = n := ⟨_, rfl⟩
  obtain ⟨m, hm⟩ : ∃ m, n = i + 1 + m := ⟨n - i - 1, by omega⟩
  have hp := acc_prefix (i := i) h (by omega) (by omega)
  have hsz : (Try.prog.info? 133).map (·.size) = some 3 := by kernel_rfl
  have hdl : (xs.drop (i + 1)).length = m := by rw [List.length_drop]; omega
  have htl : (xs.take i).length = i := by rw [List.length_take]; omega
  have hrd : rEnt.row (fun b => Q b ∧ b ≠ g) w.drew (cells.drop ((i + 1) * 3)) (xs.drop (i + 1)) := by
    have h0 := Rep.row_split (xs := xs.take (i + 1)) (ys := xs.drop (i + 1)) (by rw [List.take_append_drop]; exact hrow)
    obtain ⟨c1, c2, he, ha, hb2⟩ := h0
    have hla : c1.length = (i + 1) * 3 := by rw [Rep.row_len ha, List.length_take, Nat.min_eq_left (by omega)]; rfl
    rw [he, ← hla, List.drop_left]
    exact Rep.row_keep (Q' := fun b => Q b ∧ b ≠ g) (w := w) (w' := w.drew) (fun _ hq _ => And.intro hq rfl) hb2
  have hcd : ∀ j u, (cells.drop ((i + 1) * 3))[j]? = some u → w.drew.cell? ⟨g, (i + 1) * 3 + j, none⟩ = some u := fun j u hj => by
    rw [List.getElem?_drop, ← htk, List.getElem?_take] at hj
    split at hj
    · rw [cell_of_row _ _ _ _ _ _ (show w.drew.heap[g]? = _ from hg), ← hj]; simp
    · cases hj
  have hgap : ∃ ad : Addr, (if cap = i + 1 then (⟨g, 0, none⟩ : Addr) else ⟨g, (i + 1) * 3, none⟩) = ad ∧ ∀ j u, (cells.drop ((i + 1) * 3))[j]? = some u → w.drew.cell? (ad.add j) = some u := by
    by_cases hc : cap = i + 1
    · refine ⟨_, rfl, fun j u hj => ?_⟩
      have := (List.getElem?_eq_some_iff.1 hj).1
      rw [Rep.row_len hrd, hdl, show rEnt.size = 3 from rfl] at this
      omega
    · exact ⟨_, if_neg hc, fun j u hj => by rw [Addr.add_lit]; exact hcd j u hj⟩
  obtain ⟨ad, ha, hca⟩ := hgap
  obtain ⟨w1, q1, q2, q3⟩ := acc_room (ys := xs.drop (i + 1)) (c := cap - (i + 1)) (m := m) (ty := 73) (size := 3) Try.underlying73 hsz rfl (show rEnt.acc 133 base Q w.drew _ _ from Rep.acc_keep (w := w) (w' := w.drew) (fun _ _ _ => rfl) (fun _ h _ => h) hp) htl.symm hdl.symm hrd hca (show i + m ≤ cap by omega)
  obtain ⟨cur1, _, hg1, hs1, _⟩ := acc_cur q2
  rw [show rEnt.size = 3 from rfl] at hs1
  have hmul : (i + m) * 3 + 3 ≤ cap * 3 := by omega
  have hcl := fun ty => run_clear_one (P := Try.prog) w1 73 ty 133 (.agg #[.int .i64 0, .int .i64 0, .slice none 0 0]) [.int .i64 0, .int .i64 0, .slice none 0 0] g ((i + m) * 3) (cap - (i + m)) cur1 _ Try.underlying73 (fun w => by kernel_rfl) (by kernel_rfl) hg1 (by rw [hs1]; exact hmul) (by simp [Value.oneCell'])
  have hacc := acc_behind q2 (by rw [List.length_append, htl, hdl]) hg1 (cur' := (cur1.toList.take ((i + m) * 3) ++ ([.int .i64 0, .int .i64 0, .slice none 0 0] : List Value) ++ cur1.toList.drop ((i + m) * 3 + 3)).toArray) (by
    simp
    omega) (by
    have hl : (cur1.toList.take ((i + m) * 3)).length = (i + m) * 3 := by rw [List.length_take, Array.length_toList, hs1]; omega
    show ((cur1.toList.take ((i + m) * 3) ++ _) ++ _).take ((i + m) * 3) = cur1.toList.take ((i + m) * 3)
    rw [List.append_assoc, List.take_append_of_le_length (Nat.le_of_eq hl.symm), List.take_take, Nat.min_self])
  generalize hcur2 : (cur1.toList.take ((i + m) * 3) ++ ([.int .i64 0, .int .i64 0, .slice none 0 0] : List Value) ++ cur1.toList.drop ((i + m) * 3 + 3)).toArray = cur2 at *
  rw [hn]
  have HACC := Lib.hid hacc
  have HG := Lib.hid (only_setRow (g := g) (cur := cur2) (only_grown q3) rfl)
  have HE := Lib.hid (List.eraseIdx_eq_take_drop_succ xs i)
  have hnm : (n : Int) = i + 1 + m := by omega
  have hci : (i : Int) ≤ cap := by omega
  have hcm : (cap : Int) ≤ 9223372036854775807 := by unfold maxLen at hmax; omega
  have hw1 : IntKind.i64.wrap ((i : Int) + 1) = (i : Int) + 1 := IntWalk.i64_in _ ⟨by omega, by omega⟩
  clear hacc hcur2 hrd hcd hp h hg hcs htk hrow q2 q3 hg1 hs1 hmul
  have HA := Lib.hid (show (if cap = i + 1 then some (⟨g, 0, none⟩ : Addr) else some ⟨g, (i + 1) * 3, none⟩) = some ad by rw [← ha]; split <;> rfl)
  clear ha hca
  have mixed : Try.prog.follows Departure.mixedOrders = true := by kernel_rfl
  have hlt : ¬ (cap < i) := by omega
  have hltI : (i : Int) + 1 ≤ cap := by omega
  have h0I : 0 ≤ (i : Int) + 1 := by omega
  have hle : (i : Int) + 1 ≤ n := by omega
  have htn : ((i : Int) + 1).toNat = i + 1 := by omega
  have hil : (i : Int) ≤ n := by omega
  have hnd : n - (i + 1) = m := by omega
  have hnc : n ≤ cap := by omega
  have HNM := Lib.hid hnm
  have HM := Lib.hid hm
  clear hnm hm hn hi
  go_enter Try.func186, Try.ntmps186
  go_wp2_with fail
  go_region_law_o (refine step_app_run rfl _ _ 73 73 rfl (.slice (some ⟨g, 0, none⟩) i cap) (.slice (some ad) m (cap - (i + 1))) (by simp [Act.eval, Act.put]) (by simp [Act.eval, Act.put, HA.out]) q1 ?_)
  have him : (i : Int) + m ≤ n := by have := HNM.out; omega
  have hn1 : n - (i + m) = 1 := by have := HM.out; omega
  go_wp2_with (at_builtin; refine wpList_clear_run _ rfl _ 73 rfl _ rfl (hcl _) ?_)
  all_goals (try (have hce : cap = i + 1 := by assumption); try subst hce)
  all_goals (go_ret; exact ⟨_, rfl, rfl, by rw [HE.out]; exact HACC.out, Only.wid (Only.drw' HG.out) fun b hb => by rw [hb]; rfl⟩)

set_option maxRecDepth 100000 in
set_option maxHeartbeats 2000000 in
/-- slices.Delete of one part -/
theorem delPart_calls {base : Nat} {Q : Nat → Prop} {w : World} {v : Value} {xs : List DPart} {i : Nat} (h : rPart.acc 135 base Q w v xs) (hi : i < xs.length) :
    Calls Try.prog 189 #[v, .int .i64 i, .int .i64 ((i : Int) + 1)] w fun e w' => ∃ v', e = .returned v' ∧ v'.ownBlock = v.ownBlock ∧ rPart.acc 135 base Q w' v' (xs.eraseIdx i) ∧ Only (fun b => v.ownBlock = some b) w w' := by
  obtain ⟨g, cap, cur, cells, rfl, hb, hg, hcap, hmax, hcs, htk, hrow⟩ := acc_row h (by omega)
  obtain ⟨n, hn⟩ : ∃ n, xs.length = n := ⟨_, rfl⟩
  obtain ⟨m, hm⟩ : ∃ m, n = i + 1 + m := ⟨n - i - 1, by omega⟩
  have hp := acc_prefix (i := i) h (by omega) (by omega)
  have hsz : (Try.prog.info? 135).map (·.size) = some 2 := by kernel_rfl
  have hdl : (xs.drop (i + 1)).length = m := by rw [List.length_drop]; omega
  have htl : (xs.take i).length = i := by rw [List.length_take]; omega
  have hrd : rPart.row (fun b => Q b ∧ b ≠ g) w.drew (cells.drop ((i + 1) * 2)) (xs.drop (i + 1)) := by
    have h0 := Rep.row_split (xs := xs.take (i + 1)) (ys := xs.drop (i + 1)) (by rw [List.take_append_drop]; exact hrow)
    obtain ⟨c1, c2, he, ha, hb2⟩ := h0
    have hla : c1.length = (i + 1) * 2 := by rw [Rep.row_len ha, List.length_take, Nat.min_eq_left (by omega)]; rfl
    rw [he, ← hla, List.drop_left]
    exact Rep.row_keep (Q' := fun b => Q b ∧ b ≠ g) (w := w) (w' := w.drew) (fun _ hq _ => And.intro hq rfl) hb2
  have hcd : ∀ j u, (cells.drop ((i + 1) * 2))[j]? = some u → w.drew.cell? ⟨g, (i + 1) * 2 + j, none⟩ = some u := fun j u hj => by
    rw [List.getElem?_drop, ← htk, List.getElem?_take] at hj
    split at hj
    · rw [cell_of_row _ _ _ _ _ _ (show w.drew.heap[g]? = _ from hg), ← hj]; simp
    · cases hj
  have hgap : ∃ ad : Addr, (if cap = i + 1 then (⟨g, 0, none⟩ : Addr) else ⟨g, (i + 1) * 2, none⟩) = ad ∧ ∀ j u, (cells.drop ((i + 1) * 2))[j]? = some u → w.drew.cell? (ad.add j) = some u := by
    by_cases hc : cap = i + 1
    · refine ⟨_, rfl, fun j u hj => ?_⟩
      have := (List.getElem?_eq_some_iff.1 hj).1
      rw [Rep.row_len hrd, hdl, show rPart.size = 2 from rfl] at this
      omega
    · exact ⟨_, if_neg hc, fun j u hj => by rw [Addr.add_lit]; exact hcd j u hj⟩
  obtain ⟨ad, ha, hca⟩ := hgap
  obtain ⟨w1, q1, q2, q3⟩ := acc_room (ys := xs.drop (i + 1)) (c := cap - (i + 1)) (m := m) (ty := 131) (size := 2) Try.underlying131 hsz rfl (show rPart.acc 135 base Q w.drew _ _ from Rep.acc_keep (w := w) (w' := w.drew) (fun _ _ _ => rfl) (fun _ h _ => h) hp) htl.symm hdl.symm hrd hca (show i + m ≤ cap by omega)
  obtain ⟨cur1, _, hg1, hs1, _⟩ := acc_cur q2
  rw [show rPart.size = 2 from rfl] at hs1
  have hmul : (i + m) * 2 + 2 ≤ cap * 2 := by omega
  have hcl := fun ty => run_clear_one (P := Try.prog) w1 131 ty 135 (.agg #[.int .i64 0, .slice none 0 0]) [.int .i64 0, .slice none 0 0] g ((i + m) * 2) (cap - (i + m)) cur1 _ Try.underlying131 (fun w => by kernel_rfl) (by kernel_rfl) hg1 (by rw [hs1]; exact hmul) (by simp [Value.oneCell'])
  have hacc := acc_behind q2 (by rw [List.length_append, htl, hdl]) hg1 (cur' := (cur1.toList.take ((i + m) * 2) ++ ([.int .i64 0, .slice none 0 0] : List Value) ++ cur1.toList.drop ((i + m) * 2 + 2)).toArray) (by
    simp
    omega) (by
    have hl : (cur1.toList.take ((i + m) * 2)).length = (i + m) * 2 := by rw [List.length_take, Array.length_toList, hs1]; omega
    show ((cur1.toList.take ((i + m) * 2) ++ _) ++ _).take ((i + m) * 2) = cur1.toList.take ((i + m) * 2)
    rw [List.append_assoc, List.take_append_of_le_length (Nat.le_of_eq hl.symm), List.take_take, Nat.min_self])
  generalize hcur2 : (cur1.toList.take ((i + m) * 2) ++ ([.int .i64 0, .slice none 0 0] : List Value) ++ cur1.toList.drop ((i + m) * 2 + 2)).toArray = cur2 at *
  rw [hn]
  have HACC := Lib.hid hacc
  have HG := Lib.hid (only_setRow (g := g) (cur := cur2) (only_grown q3) rfl)
  have HE := Lib.hid (List.eraseIdx_eq_take_drop_succ xs i)
  have hnm : (n : Int) = i + 1 + m := by omega
  have hci : (i : Int) ≤ cap := by omega
  have hcm : (cap : Int) ≤ 9223372036854775807 := by unfold maxLen at hmax; omega
  have hw1 : IntKind.i64.wrap ((i : Int) + 1) = (i : Int) + 1 := IntWalk.i64_in _ ⟨by omega, by omega⟩
  clear hacc hcur2 hrd hcd hp h hg hcs htk hrow q2 q3 hg1 hs1 hmul
  have HA := Lib.hid (show (if cap = i + 1 then some (⟨g, 0, none⟩ : Addr) else some ⟨g, (i + 1) * 2, none⟩) = some ad by rw [← ha]; split <;> rfl)
  clear ha hca
  have mixed : Try.prog.follows Departure.mixedOrders = true := by kernel_rfl
  have hlt : ¬ (cap < i) := by omega
  have hltI : (i : Int) + 1 ≤ cap := by omega
  have h0I : 0 ≤ (i : Int) + 1 := by omega
  have hle : (i : Int) + 1 ≤ n := by omega
  have htn : ((i : Int) + 1).toNat = i + 1 := by omega
  have hil : (i : Int) ≤ n := by omega
  have hnd : n - (i + 1) = m := by omega
  have hnc : n ≤ cap := by omega
  have HNM := Lib.hid hnm
  have HM := Lib.hid hm
  clear hnm hm hn hi
  go_enter Try.func189, Try.ntmps189
  go_wp2_with fail
  go_region_law_o (refine step_app_run rfl _ _ 131 131 rfl (.slice (some ⟨g, 0, none⟩) i cap) (.slice (some ad) m (cap - (i + 1))) (by simp [Act.eval, Act.put]) (by simp [Act.eval, Act.put, HA.out]) q1 ?_)
  have him : (i : Int) + m ≤ n := by have := HNM.out; omega
  have hn1 : n - (i + m) = 1 := by have := HM.out; omega
  go_wp2_with (at_builtin; refine wpList_clear_run _ rfl _ 131 rfl _ rfl (hcl _) ?_)
  all_goals (try (have hce : cap = i + 1 := by assumption); try subst hce)
  all_goals (go_ret; exact ⟨_, rfl, rfl, by rw [HE.out]; exact HACC.out, Only.wid (Only.drw' HG.out) fun b hb => by rw [hb]; rfl⟩)
end Go.Proofs.Yteljibjbndpncaa
namespace Go.Proofs.Yteljibjbndpncaa
open Go.RowKit

/-- What a step of the model returns. -/
def MStepped (w : World) (r : DState × Int) (e : Ending) (W : World) : Prop :=
  ∃ z, e = .returned (.tuple #[z, .int .i64 r.2]) ∧ rState.val (fun b => w.heap.size ≤ b) W z r.1 ∧ Below w.heap.size w W

set_option maxRecDepth 100000 in
set_option maxHeartbeats 4000000 in
/-- model.Despawn -/
theorem mdespawn_calls {Q : Nat → Prop} {w : World} {vc v : Value} {c : DConf} {s : DState} {id : DID} (hc : rConf.val Q w vc c) (hx : rState.val Q w v s) (hok : StOk c s) :
    Calls Try.prog 180 #[vc, v, .agg #[.int .i64 id.index, .int .i64 id.gen]] w (MStepped w (despawnS c s id)) := by
  have HX := Lib.hid hx
  have HOK := Lib.hid hok
  have HSM := Lib.hid hok.small
  obtain ⟨A, cap, rfl, _⟩ := rConf_val hc
  obtain ⟨A1, c1, A2, c2, A3, c3, rfl, _⟩ := rState_val hx
  have hfr : Try.f180.results = #[.cell 6 75, .tmp 7] := rfl
  clear hc hx hok
  rcases hp : placeOf s.ents id with _ | i
  case none =>
    have HE := Lib.hid (show despawnS c s id = (s, 5) by unfold despawnS; rw [hp])
    have HB := Lib.hid (ent_none hp)
    clear hp
    obtain ⟨W0, hW0⟩ : ∃ W, ((((w.alloc (.cells #[.int .i64 c.log, .int .i64 c.pages, .int .i64 c.entities, .int .i64 c.gens, .slice A c.comps.length cap] 49)).alloc (.cells #[.slice A1 s.gens.length c1, .slice A2 s.free.length c2, .slice A3 s.ents.length c3] 75)).alloc (.cells #[.int .i64 id.index, .int .i64 id.gen] 114)).alloc (.cells #[.slice none 0 0, .slice none 0 0, .slice none 0 0] 75)) = W := ⟨_, rfl⟩
    have hz0 : W0.heap.size = w.heap.size + 4 := by rw [← hW0]; simp
    have hb0 : Below w.heap.size w W0 := by rw [← hW0]; exact ((((Below.refl _ _).alloc (Nat.le_refl _) _).alloc (by first | (simp; done) | (simp; omega)) _).alloc (by first | (simp; done) | (simp; omega)) _).alloc (by first | (simp; done) | (simp; omega)) _
    have HZ := Lib.hid hz0
    have HB0 := Lib.hid hb0
    have R0_0 := Lib.hid (show W0.heap[w.heap.size]? = some (.cells #[.int .i64 c.log, .int .i64 c.pages, .int .i64 c.entities, .int .i64 c.gens, .slice A c.comps.length cap] 49 (0, 0)) by rw [← hW0]; exact alloc_old (alloc_old (alloc_old (alloc_at rfl))))
    have R1_0 := Lib.hid (show W0.heap[w.heap.size + 1]? = some (.cells #[.slice A1 s.gens.length c1, .slice A2 s.free.length c2, .slice A3 s.ents.length c3] 75 (0, 0)) by rw [← hW0]; exact alloc_old (alloc_old (alloc_at (by simp))))
    have R2_0 := Lib.hid (show W0.heap[w.heap.size + 1 + 1]? = some (.cells #[.int .i64 id.index, .int .i64 id.gen] 114 (0, 0)) by rw [← hW0]; exact alloc_old (alloc_at (by simp)))
    have R3_0 := Lib.hid (show W0.heap[w.heap.size + 1 + 1 + 1]? = some (.cells #[.slice none 0 0, .slice none 0 0, .slice none 0 0] 75 (0, 0)) by rw [← hW0]; exact alloc_at (by simp))
    have O0 := Lib.hid (Only.refl (Box w 4) W0)
    have Vs_0 := Lib.hid (show rState.val (In Q w 4) W0 (.agg #[.slice A1 s.gens.length c1, .slice A2 s.free.length c2, .slice A3 s.ents.length c3]) s from val_in HX.out hb0)
    clear hz0 hb0
    have q0_0 := rw5 R0_0.out
    have q1_0 := rw3 R1_0.out
    have q2_0 := rw2 R2_0.out
    have q3_0 := rw3 R3_0.out
    go_enter Try.func180, Try.ntmps180
    go_wp2_with fail
    try rw [hW0]
    clear hW0
    try go_wp2_with fail
    clear q0_0 q1_0 q2_0 q3_0
    refine (mclone_calls Vs_0.out HOK.out.tiny).mono ?_
    rintro e w1 ⟨A4, c4, A5, c5, A6, c6, z, cl, raws, rfl, hb, hown, hzl⟩
    have S1 := Lib.hid (show Only (Box w 4) W0 w1 from Only.of_below hb)
    have O1 := Lib.hid (O0.out.trans S1.out)
    have R0_1 := Lib.hid (row_call hb R0_0.out)
    have R1_1 := Lib.hid (row_call hb R1_0.out)
    have R2_1 := Lib.hid (row_call hb R2_0.out)
    have R3_1 := Lib.hid (row_call hb R3_0.out)
    have Vs_1 := Lib.hid (val_only Vs_0.out S1.out)
    have HM1 := Lib.hid hown.mid
    have HZL := Lib.hid hzl
    clear hb hown hzl
    have q0_0 := rw5 R0_1.out
    have q1_0 := rw3 R1_1.out
    have q2_0 := rw2 R2_1.out
    have q3_0 := rw3 R3_1.out
    go_wp2_with fail
    clear q0_0 q1_0 q2_0 q3_0
    refine nm_calls (fun w2 hnm => ?_)
    have S2 := Lib.hid (show Only (Box w 4) w1 w2 from (by rw [hnm]; exact (((Only.refl (Box w 4) w1).put ⟨by omega, by omega⟩).put ⟨by omega, by omega⟩).put ⟨by omega, by omega⟩))
    have O2 := Lib.hid (O1.out.trans S2.out)
    have R0_2 := Lib.hid (row_nm hnm (row_other (row_other (row_other (R0_1.out) (by omega)) (by omega)) (by omega)))
    have R1_2 := Lib.hid (show w2.heap[w.heap.size + 1]? = some (.cells #[.slice A4 s.gens.length c4, .slice A5 s.free.length c5, .slice A6 s.ents.length c6] 75 (0, 0)) from (by rw [hnm]; exact heap_setRow (heap_setRow (heap_setRow (R1_1.out)))))
    have R2_2 := Lib.hid (row_nm hnm (row_other (row_other (row_other (R2_1.out) (by omega)) (by omega)) (by omega)))
    have R3_2 := Lib.hid (row_nm hnm (row_other (row_other (row_other (R3_1.out) (by omega)) (by omega)) (by omega)))
    have Vs_2 := Lib.hid (val_only Vs_1.out S2.out)
    clear hnm
    have HM2 := Lib.hid (HM1.out.keep (fun b hb hl => S2.out.block b hl (by unfold Box; have := HZ.out; omega)))
    have HZ2 := Lib.hid (Nat.le_trans HZL.out S2.out.size)
    refine (ment_calls (id := id) HM2.out.loose.val).mono ?_
    rintro e w3 ⟨rfl, hb⟩
    rw [HB.out]
    have S3 := Lib.hid (show Only (Box w 4) w2 w3 from Only.of_below hb)
    have O3 := Lib.hid (O2.out.trans S3.out)
    have R0_3 := Lib.hid (row_call hb R0_2.out)
    have R1_3 := Lib.hid (row_call hb R1_2.out)
    have R2_3 := Lib.hid (row_call hb R2_2.out)
    have R3_3 := Lib.hid (row_call hb R3_2.out)
    have Vs_3 := Lib.hid (val_only Vs_2.out S3.out)
    clear hb
    have HM3 := Lib.hid (HM2.out.keep (fun b hb hl => S3.out.block b hl (by unfold Box; have := HZ.out; omega)))
    have HZ3 := Lib.hid (Nat.le_trans HZ2.out S3.out.size)
    have q0_0 := rw5 R0_3.out
    have q1_0 := rw3 R1_3.out
    have q2_0 := rw2 R2_3.out
    have q3_0 := rw3 R3_3.out
    go_wp2_with fail
    clear q0_0 q1_0 q2_0 q3_0
    refine nm_post (fun w4 hnm => ?_)
    have S4 := Lib.hid (show Only (Box w 4) w3 w4 from (by rw [hnm]; exact (((Only.refl (Box w 4) w3).put ⟨by omega, by omega⟩).put ⟨by omega, by omega⟩).put ⟨by omega, by omega⟩))
    have O4 := Lib.hid (O3.out.trans S4.out)
    have R0_4 := Lib.hid (row_nm hnm (row_other (row_other (row_other (R0_3.out) (by omega)) (by omega)) (by omega)))
    have R1_4 := Lib.hid (row_nm hnm (row_other (row_other (row_other (R1_3.out) (by omega)) (by omega)) (by omega)))
    have R2_4 := Lib.hid (row_nm hnm (row_other (row_other (row_other (R2_3.out) (by omega)) (by omega)) (by omega)))
    have R3_4 := Lib.hid (show w4.heap[w.heap.size + 1 + 1 + 1]? = some (.cells #[.slice A4 s.gens.length c4, .slice A5 s.free.length c5, .slice A6 s.ents.length c6] 75 (0, 0)) from (by rw [hnm]; exact heap_setRow (heap_setRow (heap_setRow (R3_3.out)))))
    have Vs_4 := Lib.hid (val_only Vs_3.out S4.out)
    clear hnm
    have HM4 := Lib.hid (HM3.out.keep (fun b hb hl => S4.out.block b hl (by unfold Box; have := HZ.out; omega)))
    have HZ4 := Lib.hid (Nat.le_trans HZ3.out S4.out.size)
    have q3_0 := cl3 R3_4.out
    refine ⟨rfl, .tuple #[.agg #[.slice A4 s.gens.length c4, .slice A5 s.free.length c5, .slice A6 s.ents.length c6], .int .i64 5], by simp only [results, hfr]; go_simp, ?_⟩
    clear q3_0
    rw [HE.out]
    exact ⟨_, rfl, (Rep.val_mono (fun b hb _ => by have := HZ.out; omega) HM4.out.loose.val), Only.fin HB0.out O4.out⟩
  case some =>
    have HB := Lib.hid (ent_some HOK.out.up hp)
    obtain ⟨x, hx, rfl⟩ := placeOf_some hp
    obtain ⟨n0, n1, hgj, hlim, hnf⟩ := HOK.out.idx (List.mem_of_getElem? hx)
    have hE := (show despawnS c s x.id = (⟨s.gens.set x.id.index.toNat (x.id.gen + 1), if x.id.gen + 1 < c.gens then s.free ++ [x.id.index] else s.free, s.ents.eraseIdx i⟩, 0) by unfold despawnS; rw [hp])
    have HIL := Lib.hid (List.getElem?_eq_some_iff.1 hx).1
    have hg0 := (HOK.out.lim _ _ hgj).1
    have hcg := (right_facts HOK.out.conf).1
    clear hp hx hnf
    generalize x.id = id at HB n0 n1 hgj hlim hE hg0 ⊢
    obtain ⟨di, ig⟩ := id
    dsimp only at HB n0 n1 hgj hlim hE hg0 ⊢
    obtain ⟨j, rfl⟩ : ∃ j : Nat, di = (j : Int) := ⟨di.toNat, by omega⟩
    rw [Int.toNat_natCast] at hgj hE
    have HGJ := Lib.hid hgj
    have HJL := Lib.hid (List.getElem?_eq_some_iff.1 hgj).1
    have HIG := Lib.hid (show 0 ≤ ig ∧ ig + 1 ≤ 1073741824 by omega)
    have iw : IntKind.i64.wrap ((i : Int) + 1) = (i : Int) + 1 := IntWalk.i64_in _ ⟨by omega, by have := HIL.out; have := HSM.out; omega⟩
    have iw2 : IntKind.i64.wrap (ig + 1) = ig + 1 := IntWalk.i64_in _ ⟨by omega, by omega⟩
    have hj1 : (j : Int) < (s.gens.length : Int) := n1
    have HWJ := Lib.hid (show (Lit.int .i64 (j : Int)).wf = true from wf_i64 (by omega) (by have := HSM.out; omega))
    have HWG := Lib.hid (show (Lit.int .i64 (ig + 1)).wf = true from wf_i64 (by omega) (by omega))
    have HE := Lib.hid hE
    clear n0 n1 hgj hlim hg0 hcg hE
    obtain ⟨W0, hW0⟩ : ∃ W, ((((w.alloc (.cells #[.int .i64 c.log, .int .i64 c.pages, .int .i64 c.entities, .int .i64 c.gens, .slice A c.comps.length cap] 49)).alloc (.cells #[.slice A1 s.gens.length c1, .slice A2 s.free.length c2, .slice A3 s.ents.length c3] 75)).alloc (.cells #[.int .i64 j, .int .i64 ig] 114)).alloc (.cells #[.slice none 0 0, .slice none 0 0, .slice none 0 0] 75)) = W := ⟨_, rfl⟩
    have hz0 : W0.heap.size = w.heap.size + 4 := by rw [← hW0]; simp
    have hb0 : Below w.heap.size w W0 := by rw [← hW0]; exact ((((Below.refl _ _).alloc (Nat.le_refl _) _).alloc (by first | (simp; done) | (simp; omega)) _).alloc (by first | (simp; done) | (simp; omega)) _).alloc (by first | (simp; done) | (simp; omega)) _
    have HZ := Lib.hid hz0
    have HB0 := Lib.hid hb0
    have R0_0 := Lib.hid (show W0.heap[w.heap.size]? = some (.cells #[.int .i64 c.log, .int .i64 c.pages, .int .i64 c.entities, .int .i64 c.gens, .slice A c.comps.length cap] 49 (0, 0)) by rw [← hW0]; exact alloc_old (alloc_old (alloc_old (alloc_at rfl))))
    have R1_0 := Lib.hid (show W0.heap[w.heap.size + 1]? = some (.cells #[.slice A1 s.gens.length c1, .slice A2 s.free.length c2, .slice A3 s.ents.length c3] 75 (0, 0)) by rw [← hW0]; exact alloc_old (alloc_old (alloc_at (by simp))))
    have R2_0 := Lib.hid (show W0.heap[w.heap.size + 1 + 1]? = some (.cells #[.int .i64 j, .int .i64 ig] 114 (0, 0)) by rw [← hW0]; exact alloc_old (alloc_at (by simp)))
    have R3_0 := Lib.hid (show W0.heap[w.heap.size + 1 + 1 + 1]? = some (.cells #[.slice none 0 0, .slice none 0 0, .slice none 0 0] 75 (0, 0)) by rw [← hW0]; exact alloc_at (by simp))
    have O0 := Lib.hid (Only.refl (Box w 4) W0)
    have Vs_0 := Lib.hid (show rState.val (In Q w 4) W0 (.agg #[.slice A1 s.gens.length c1, .slice A2 s.free.length c2, .slice A3 s.ents.length c3]) s from val_in HX.out hb0)
    clear hz0 hb0
    have q0_0 := rw5 R0_0.out
    have q1_0 := rw3 R1_0.out
    have q2_0 := rw2 R2_0.out
    have q3_0 := rw3 R3_0.out
    go_enter Try.func180, Try.ntmps180
    go_wp2_with fail
    try rw [hW0]
    clear hW0
    try go_wp2_with fail
    clear q0_0 q1_0 q2_0 q3_0
    refine (mclone_calls Vs_0.out HOK.out.tiny).mono ?_
    rintro e w1 ⟨A4, c4, A5, c5, A6, c6, z, cl, raws, rfl, hb, hown, hzl⟩
    have S1 := Lib.hid (show Only (Box w 4) W0 w1 from Only.of_below hb)
    have O1 := Lib.hid (O0.out.trans S1.out)
    have R0_1 := Lib.hid (row_call hb R0_0.out)
    have R1_1 := Lib.hid (row_call hb R1_0.out)
    have R2_1 := Lib.hid (row_call hb R2_0.out)
    have R3_1 := Lib.hid (row_call hb R3_0.out)
    have Vs_1 := Lib.hid (val_only Vs_0.out S1.out)
    have HM1 := Lib.hid hown.mid
    have HZL := Lib.hid hzl
    clear hb hown hzl
    have q0_0 := rw5 R0_1.out
    have q1_0 := rw3 R1_1.out
    have q2_0 := rw2 R2_1.out
    have q3_0 := rw3 R3_1.out
    go_wp2_with fail
    clear q0_0 q1_0 q2_0 q3_0
    refine nm_calls (fun w2 hnm => ?_)
    have S2 := Lib.hid (show Only (Box w 4) w1 w2 from (by rw [hnm]; exact (((Only.refl (Box w 4) w1).put ⟨by omega, by omega⟩).put ⟨by omega, by omega⟩).put ⟨by omega, by omega⟩))
    have O2 := Lib.hid (O1.out.trans S2.out)
    have R0_2 := Lib.hid (row_nm hnm (row_other (row_other (row_other (R0_1.out) (by omega)) (by omega)) (by omega)))
    have R1_2 := Lib.hid (show w2.heap[w.heap.size + 1]? = some (.cells #[.slice A4 s.gens.length c4, .slice A5 s.free.length c5, .slice A6 s.ents.length c6] 75 (0, 0)) from (by rw [hnm]; exact heap_setRow (heap_setRow (heap_setRow (R1_1.out)))))
    have R2_2 := Lib.hid (row_nm hnm (row_other (row_other (row_other (R2_1.out) (by omega)) (by omega)) (by omega)))
    have R3_2 := Lib.hid (row_nm hnm (row_other (row_other (row_other (R3_1.out) (by omega)) (by omega)) (by omega)))
    have Vs_2 := Lib.hid (val_only Vs_1.out S2.out)
    clear hnm
    have HM2 := Lib.hid (HM1.out.keep (fun b hb hl => S2.out.block b hl (by unfold Box; have := HZ.out; omega)))
    have HZ2 := Lib.hid (Nat.le_trans HZL.out S2.out.size)
    refine (ment_calls (id := ⟨j, ig⟩) HM2.out.loose.val).mono ?_
    rintro e w3 ⟨rfl, hb⟩
    dsimp only
    rw [HB.out.1, HB.out.2]
    have S3 := Lib.hid (show Only (Box w 4) w2 w3 from Only.of_below hb)
    have O3 := Lib.hid (O2.out.trans S3.out)
    have R0_3 := Lib.hid (row_call hb R0_2.out)
    have R1_3 := Lib.hid (row_call hb R1_2.out)
    have R2_3 := Lib.hid (row_call hb R2_2.out)
    have R3_3 := Lib.hid (row_call hb R3_2.out)
    have Vs_3 := Lib.hid (val_only Vs_2.out S3.out)
    clear hb
    have HM3 := Lib.hid (HM2.out.keep (fun b hb hl => S3.out.block b hl (by unfold Box; have := HZ.out; omega)))
    have HZ3 := Lib.hid (Nat.le_trans HZ2.out S3.out.size)
    have q0_0 := rw5 R0_3.out
    have q1_0 := rw3 R1_3.out
    have q2_0 := rw2 R2_3.out
    have q3_0 := rw3 R3_3.out
    go_wp2_with fail
    clear q0_0 q1_0 q2_0 q3_0
    refine (delEnt_calls HM3.out.ents HIL.out).mono ?_
    rintro e w5 ⟨v', rfl, hwb, hacc, ho⟩
    obtain ⟨es, hes⟩ : ∃ es, s.ents.eraseIdx i = es := ⟨_, rfl⟩
    rw [hes] at hacc HE
    clear hes
    obtain ⟨A9, c9, rfl, _, _⟩ := Rep.acc_form hacc
    have HM9 := Lib.hid (HM3.out.write ho hacc)
    have HO5 := Lib.hid ho
    have HVE := Lib.hid (show ∀ b, (Value.slice A6 s.ents.length c6).ownBlock = some b → W0.heap.size ≤ b from fun b e => by have h1 := (Rep.acc_own HM3.out.ents b e).1; have := HM3.out.low; omega)
    have HZ9 := Lib.hid (Nat.le_trans HZ3.out HO5.out.size)
    clear hwb hacc ho
    have O4 := Lib.hid (only_over O3.out HO5.out HVE.out)
    have R0_4 := Lib.hid (row_only HO5.out R0_3.out (fun e => by have := HVE.out _ e; have := HZ.out; omega))
    have R1_4 := Lib.hid (row_only HO5.out R1_3.out (fun e => by have := HVE.out _ e; have := HZ.out; omega))
    have R2_4 := Lib.hid (row_only HO5.out R2_3.out (fun e => by have := HVE.out _ e; have := HZ.out; omega))
    have R3_4 := Lib.hid (row_only HO5.out R3_3.out (fun e => by have := HVE.out _ e; have := HZ.out; omega))
    obtain ⟨gb, gcap, _, hA, hgb, _, _, _, _, _, _⟩ := acc_get HM9.out.gens HGJ.out
    cases hA
    have HGB := Lib.hid hgb
    clear hgb
    have q0_0 := rw5 R0_4.out
    have q1_0 := rw3 R1_4.out
    have q2_0 := rw2 R2_4.out
    have q3_0 := rw3 R3_4.out
    obtain ⟨w6, hn2⟩ : ∃ W, (w5.setCell ⟨w.heap.size + 1, 2, none⟩ (.slice A9 es.length c9)) = W := ⟨_, rfl⟩
    have S5 := Lib.hid (show Only (Box w 4) w5 w6 from (by rw [← hn2]; exact (Only.refl (Box w 4) w5).put ⟨by omega, by omega⟩))
    have O5 := Lib.hid (O4.out.trans S5.out)
    have R0_5 := Lib.hid (row_nm hn2.symm (row_other (R0_4.out) (by omega)))
    have R1_5 := Lib.hid (show w6.heap[w.heap.size + 1]? = some (.cells #[.slice (some ⟨gb, 0, none⟩) s.gens.length c4, .slice A5 s.free.length c5, .slice A9 es.length c9] 75 (0, 0)) from (by rw [← hn2]; exact heap_setRow (R1_4.out)))
    have R2_5 := Lib.hid (row_nm hn2.symm (row_other (R2_4.out) (by omega)))
    have R3_5 := Lib.hid (row_nm hn2.symm (row_other (R3_4.out) (by omega)))
    have y2_0_0 := rw5 R0_5.out
    have y2_1_0 := rw3 R1_5.out
    have y2_2_0 := rw2 R2_5.out
    have y2_3_0 := rw3 R3_5.out
    have HM5 := Lib.hid (HM9.out.keep (fun b hb hl => S5.out.block b hl (by unfold Box; have := HZ.out; omega)))
    have HZ5 := Lib.hid (Nat.le_trans HZ9.out S5.out.size)
    obtain ⟨hk, hkf⟩ : w6.cell? ⟨gb, j, none⟩ = some (.int .i64 ig) ∧ w6.frozen? ⟨gb, j, none⟩ = false := by
      obtain ⟨g5, _, es5, he5, _, _, _, _, hrd5, hce5, hf5⟩ := acc_get HM5.out.gens HGJ.out
      obtain ⟨rfl, _⟩ := hrd5
      cases he5
      exact ⟨by simpa [Rep.int] using hce5 0 _ rfl, hf5 j⟩
    have hne1 : ¬ gb = w.heap.size + 1 := by have := HGB.out; have := HZ.out; omega
    have hne2 : ¬ w.heap.size + 1 = gb := by have := HGB.out; have := HZ.out; omega
    go_wp2_with fail
    try rw [hn2]
    clear hn2 hk hkf hne1 hne2
    clear q0_0 q1_0 q2_0 q3_0 y2_0_0 y2_1_0 y2_2_0 y2_3_0
    refine nm_region (fun w7 hnm => ?_)
    have HO7 := Lib.hid (show Only (fun b => b = gb) w6 w7 by rw [hnm]; exact (Only.refl (fun b => b = gb) w6).put rfl)
    have HM10 := Lib.hid (show StMid W0.heap.size w7 ⟨s.gens.set j (ig + 1), s.free, es⟩ (.slice (some ⟨gb, 0, none⟩) s.gens.length c4) (.slice A5 s.free.length c5) (.slice A9 es.length c9) z by rw [hnm]; exact HM5.out.setGen rfl HJL.out HWG.out)
    have HZ10 := Lib.hid (Nat.le_trans HZ5.out HO7.out.size)
    have HGB1 := Lib.hid (show ∀ b, b = gb → W0.heap.size ≤ b from fun b e => by rw [e]; exact HGB.out)
    clear hnm
    have O6 := Lib.hid (only_over O5.out HO7.out HGB1.out)
    have R0_6 := Lib.hid (row_only HO7.out R0_5.out (fun e => by have := HGB1.out _ e; have := HZ.out; omega))
    have R1_6 := Lib.hid (row_only HO7.out R1_5.out (fun e => by have := HGB1.out _ e; have := HZ.out; omega))
    have R2_6 := Lib.hid (row_only HO7.out R2_5.out (fun e => by have := HGB1.out _ e; have := HZ.out; omega))
    have R3_6 := Lib.hid (row_only HO7.out R3_5.out (fun e => by have := HGB1.out _ e; have := HZ.out; omega))
    have HGC := Lib.hid (show w7.cell? ⟨gb, j, none⟩ = some (.int .i64 (ig + 1)) by
      obtain ⟨g5, _, es5, he5, _, _, _, _, hrd5, hce5, hf5⟩ := acc_get HM10.out.gens (List.getElem?_set_self HJL.out)
      obtain ⟨rfl, _⟩ := hrd5
      rw [List.length_set] at he5
      cases he5
      simpa [Rep.int] using hce5 0 _ rfl)
    obtain ⟨gs, hgs⟩ : ∃ gs, s.gens.set j (ig + 1) = gs := ⟨_, rfl⟩
    rw [hgs] at HE HM10
    clear hgs
    by_cases hlt : ig + 1 < c.gens
    · skip
      refine wp_region_held_drew (S := fun W => Below w7.heap.size w7 W) (by kernel_rfl) ((Below.refl _ _).drew) (fun s0 => ?_)
      obtain ⟨v1, hv0⟩ : ∃ V, V = w7.drew := ⟨_, rfl⟩
      rw [← hv0] at s0 ⊢
      have t1 : Below w7.heap.size w7 v1 := s0
      clear hv0 s0
      refine tkHV (i := 0) (v := .pointer (some ⟨w.heap.size + 1, 0, none⟩)) rfl t1 ?_
      go_simp
      refine tkH (i := 1) (v := .slice (some ⟨gb, 0, none⟩) s.gens.length c4) rfl (Or.inl ⟨by rfl, fun w' h => by have e := row_call (h : Below w7.heap.size w7 w') R1_6.out; have e0 := cell_row e 0; have e1 := cell_row e 1; have e2 := cell_row e 2; go_simp⟩) t1 ?_
      go_simp
      refine tkHV (i := 2) (v := .pointer (some ⟨w.heap.size + 1 + 1, 0, none⟩)) rfl t1 ?_
      go_simp
      refine tkH (i := 3) (v := .int .i64 j) rfl (Or.inl ⟨by rfl, fun w' h => by have e := row_call (h : Below w7.heap.size w7 w') R2_6.out; have e0 := cell_row e 0; have e1 := cell_row e 1; go_simp⟩) t1 ?_
      go_simp
      refine tkHV (i := 4) (v := .pointer (some ⟨gb, 0 + j, none⟩)) rfl t1 ?_
      go_simp
      refine tkH (i := 5) (v := .int .i64 (ig + 1)) rfl (Or.inl ⟨by rfl, fun w' h => by have e := cell_call (h : Below w7.heap.size w7 w') HGC.out; go_simp⟩) t1 ?_
      go_simp
      refine tkHV (i := 6) (v := .pointer (some ⟨w.heap.size, 3, none⟩)) rfl t1 ?_
      go_simp
      refine tkH (i := 7) (v := .int .i64 c.gens) rfl (Or.inl ⟨by rfl, fun w' h => by have e := row_call (h : Below w7.heap.size w7 w') R0_6.out; have e0 := cell_row e 0; have e1 := cell_row e 1; have e2 := cell_row e 2; have e3 := cell_row e 3; have e4 := cell_row e 4; go_simp⟩) t1 ?_
      go_simp
      refine tkHV (i := 8) (v := .bool true) rfl t1 ?_
      go_simp
      refine wpAnyH_done (by kernel_rfl) ?_ _
      have S7 := Lib.hid (show Only (Box w 4) w7 v1 from Only.of_below t1)
      have O7 := Lib.hid (O6.out.trans S7.out)
      have R0_7 := Lib.hid (row_call t1 R0_6.out)
      have R1_7 := Lib.hid (row_call t1 R1_6.out)
      have R2_7 := Lib.hid (row_call t1 R2_6.out)
      have R3_7 := Lib.hid (row_call t1 R3_6.out)
      have HM7 := Lib.hid (HM10.out.keep (fun b hb hl => S7.out.block b hl (by unfold Box; have := HZ.out; omega)))
      have HZ7 := Lib.hid (Nat.le_trans HZ10.out S7.out.size)
      have HE2 := Lib.hid (show despawnS c s ⟨j, ig⟩ = (⟨gs, s.free ++ [(j : Int)], es⟩, 0) by rw [HE.out, if_pos hlt])
      clear hlt
      have q0_0 := rw5 R0_7.out
      have q1_0 := rw3 R1_7.out
      have q2_0 := rw2 R2_7.out
      have q3_0 := rw3 R3_7.out
      go_wp2_with (with_reducible refine stopOne rfl ?_)
      refine Lib.hid ?_
      clear q0_0 q1_0 q2_0 q3_0
      have HFA := Lib.hid (show (Rep.int .i64).acc 3 W0.heap.size (fun _ => False) v1 (.slice A5 s.free.length c5) s.free from HM7.out.free)
      have HBA := Lib.hid (show W0.heap.size ≤ v1.heap.size from O7.out.size)
      refine wpList_snoc (e := 3) (base := W0.heap.size) (Q := fun _ => False) (r := Rep.int .i64) rfl rfl _ _ 27 _ rfl rfl rfl (.int .i64 0) 1 8 Try.underlying27 infoI3 rfl (by decide) rfl _ s.free HFA.out (j : Int) _ (by exact rfl) ⟨_, rfl, rfl, HWJ.out⟩ (by exact rfl) (by exact rfl) (by have := HSM.out; unfold maxLen; omega) (by have := HSM.out; omega) HBA.out ?_
      intro v8 w8 hacc hgr hat
      have HL8 := Lib.hid (HM7.out.pushFree hacc hgr hat (Nat.le_succ _))
      have HO8 := Lib.hid (grown_only hgr)
      have HVF := Lib.hid (show ∀ b, (Value.slice A5 s.free.length c5).ownBlock = some b → W0.heap.size ≤ b from fun b e => (Rep.acc_own HM7.out.free b e).1)
      obtain ⟨A8, c8, rfl, _, _⟩ := Rep.acc_form hacc
      clear hacc hgr hat
      have HZ11 := Lib.hid (Nat.le_trans HZ7.out HO8.out.size)
      obtain ⟨fs, hfs⟩ : ∃ fs, s.free ++ [(j : Int)] = fs := ⟨_, rfl⟩
      rw [hfs] at HL8 HE2 ⊢
      clear hfs
      have O8 := Lib.hid (only_over O7.out HO8.out HVF.out)
      have R0_8 := Lib.hid (row_only HO8.out R0_7.out (fun e => by have := HVF.out _ e; have := HZ.out; omega))
      have R1_8 := Lib.hid (row_only HO8.out R1_7.out (fun e => by have := HVF.out _ e; have := HZ.out; omega))
      have R2_8 := Lib.hid (row_only HO8.out R2_7.out (fun e => by have := HVF.out _ e; have := HZ.out; omega))
      have R3_8 := Lib.hid (row_only HO8.out R3_7.out (fun e => by have := HVF.out _ e; have := HZ.out; omega))
      have q0_0 := rw5 R0_8.out
      have q1_0 := rw3 R1_8.out
      have q2_0 := rw2 R2_8.out
      have q3_0 := rw3 R3_8.out
      go_wp2_with fail
      clear q0_0 q1_0 q2_0 q3_0
      refine nm_post (fun w9 hnm => ?_)
      have S9 := Lib.hid (show Only (Box w 4) w8 w9 from (by rw [hnm]; exact ((((Only.refl (Box w 4) w8).put ⟨by omega, by omega⟩).put ⟨by omega, by omega⟩).put ⟨by omega, by omega⟩).put ⟨by omega, by omega⟩))
      have O9 := Lib.hid (O8.out.trans S9.out)
      have R0_9 := Lib.hid (row_nm hnm (row_other (row_other (row_other (row_other (R0_8.out) (by omega)) (by omega)) (by omega)) (by omega)))
      have R1_9 := Lib.hid (show w9.heap[w.heap.size + 1]? = some (.cells #[.slice (some ⟨gb, 0, none⟩) s.gens.length c4, .slice A8 fs.length c8, .slice A9 es.length c9] 75 (0, 0)) from (by rw [hnm]; exact row_other (row_other (row_other (heap_setRow (R1_8.out)) (by omega)) (by omega)) (by omega)))
      have R2_9 := Lib.hid (row_nm hnm (row_other (row_other (row_other (row_other (R2_8.out) (by omega)) (by omega)) (by omega)) (by omega)))
      have R3_9 := Lib.hid (show w9.heap[w.heap.size + 1 + 1 + 1]? = some (.cells #[.slice (some ⟨gb, 0, none⟩) s.gens.length c4, .slice A8 fs.length c8, .slice A9 es.length c9] 75 (0, 0)) from (by rw [hnm]; exact heap_setRow (heap_setRow (heap_setRow (row_other (R3_8.out) (by omega))))))
      clear hnm
      have HM9 := Lib.hid (HL8.out.keep (fun b hb hl => S9.out.block b hl (by unfold Box; have := HZ.out; omega)))
      have HZ9 := Lib.hid (Nat.le_trans HZ11.out S9.out.size)
      have q3_0 := cl3 R3_9.out
      refine ⟨rfl, .tuple #[.agg #[.slice (some ⟨gb, 0, none⟩) s.gens.length c4, .slice A8 fs.length c8, .slice A9 es.length c9], .int .i64 0], by simp only [results, hfr]; go_simp, ?_⟩
      clear q3_0
      rw [HE2.out]
      exact ⟨_, rfl, (Rep.val_mono (fun b hb _ => by have := HZ.out; omega) HM9.out.val), Only.fin HB0.out O9.out⟩
    · skip
      refine wp_region_held_drew (S := fun W => Below w7.heap.size w7 W) (by kernel_rfl) ((Below.refl _ _).drew) (fun s0 => ?_)
      obtain ⟨v1, hv0⟩ : ∃ V, V = w7.drew := ⟨_, rfl⟩
      rw [← hv0] at s0 ⊢
      have t1 : Below w7.heap.size w7 v1 := s0
      clear hv0 s0
      refine tkHV (i := 0) (v := .pointer (some ⟨w.heap.size + 1, 0, none⟩)) rfl t1 ?_
      go_simp
      refine tkH (i := 1) (v := .slice (some ⟨gb, 0, none⟩) s.gens.length c4) rfl (Or.inl ⟨by rfl, fun w' h => by have e := row_call (h : Below w7.heap.size w7 w') R1_6.out; have e0 := cell_row e 0; have e1 := cell_row e 1; have e2 := cell_row e 2; go_simp⟩) t1 ?_
      go_simp
      refine tkHV (i := 2) (v := .pointer (some ⟨w.heap.size + 1 + 1, 0, none⟩)) rfl t1 ?_
      go_simp
      refine tkH (i := 3) (v := .int .i64 j) rfl (Or.inl ⟨by rfl, fun w' h => by have e := row_call (h : Below w7.heap.size w7 w') R2_6.out; have e0 := cell_row e 0; have e1 := cell_row e 1; go_simp⟩) t1 ?_
      go_simp
      refine tkHV (i := 4) (v := .pointer (some ⟨gb, 0 + j, none⟩)) rfl t1 ?_
      go_simp
      refine tkH (i := 5) (v := .int .i64 (ig + 1)) rfl (Or.inl ⟨by rfl, fun w' h => by have e := cell_call (h : Below w7.heap.size w7 w') HGC.out; go_simp⟩) t1 ?_
      go_simp
      refine tkHV (i := 6) (v := .pointer (some ⟨w.heap.size, 3, none⟩)) rfl t1 ?_
      go_simp
      refine tkH (i := 7) (v := .int .i64 c.gens) rfl (Or.inl ⟨by rfl, fun w' h => by have e := row_call (h : Below w7.heap.size w7 w') R0_6.out; have e0 := cell_row e 0; have e1 := cell_row e 1; have e2 := cell_row e 2; have e3 := cell_row e 3; have e4 := cell_row e 4; go_simp⟩) t1 ?_
      go_simp
      refine tkHV (i := 8) (v := .bool false) rfl t1 ?_
      go_simp
      refine wpAnyH_done (by kernel_rfl) ?_ _
      have S7 := Lib.hid (show Only (Box w 4) w7 v1 from Only.of_below t1)
      have O7 := Lib.hid (O6.out.trans S7.out)
      have R0_7 := Lib.hid (row_call t1 R0_6.out)
      have R1_7 := Lib.hid (row_call t1 R1_6.out)
      have R2_7 := Lib.hid (row_call t1 R2_6.out)
      have R3_7 := Lib.hid (row_call t1 R3_6.out)
      have HM7 := Lib.hid (HM10.out.keep (fun b hb hl => S7.out.block b hl (by unfold Box; have := HZ.out; omega)))
      have HZ7 := Lib.hid (Nat.le_trans HZ10.out S7.out.size)
      have HE2 := Lib.hid (show despawnS c s ⟨j, ig⟩ = (⟨gs, s.free, es⟩, 0) by rw [HE.out, if_neg hlt])
      clear hlt
      have HL8 := Lib.hid HM7.out.loose
      have q0_0 := rw5 R0_7.out
      have q1_0 := rw3 R1_7.out
      have q2_0 := rw2 R2_7.out
      have q3_0 := rw3 R3_7.out
      go_wp2_with fail
      clear q0_0 q1_0 q2_0 q3_0
      refine nm_post (fun w9 hnm => ?_)
      have S8 := Lib.hid (show Only (Box w 4) v1 w9 from (by rw [hnm]; exact (((Only.refl (Box w 4) v1).put ⟨by omega, by omega⟩).put ⟨by omega, by omega⟩).put ⟨by omega, by omega⟩))
      have O8 := Lib.hid (O7.out.trans S8.out)
      have R0_8 := Lib.hid (row_nm hnm (row_other (row_other (row_other (R0_7.out) (by omega)) (by omega)) (by omega)))
      have R1_8 := Lib.hid (row_nm hnm (row_other (row_other (row_other (R1_7.out) (by omega)) (by omega)) (by omega)))
      have R2_8 := Lib.hid (row_nm hnm (row_other (row_other (row_other (R2_7.out) (by omega)) (by omega)) (by omega)))
      have R3_8 := Lib.hid (show w9.heap[w.heap.size + 1 + 1 + 1]? = some (.cells #[.slice (some ⟨gb, 0, none⟩) s.gens.length c4, .slice A5 s.free.length c5, .slice A9 es.length c9] 75 (0, 0)) from (by rw [hnm]; exact heap_setRow (heap_setRow (heap_setRow (R3_7.out)))))
      clear hnm
      have HM8 := Lib.hid (HL8.out.keep (fun b hb hl => S8.out.block b hl (by unfold Box; have := HZ.out; omega)))
      have HZ8 := Lib.hid (Nat.le_trans HZ7.out S8.out.size)
      have q3_0 := cl3 R3_8.out
      refine ⟨rfl, .tuple #[.agg #[.slice (some ⟨gb, 0, none⟩) s.gens.length c4, .slice A5 s.free.length c5, .slice A9 es.length c9], .int .i64 0], by simp only [results, hfr]; go_simp, ?_⟩
      clear q3_0
      rw [HE2.out]
      exact ⟨_, rfl, (Rep.val_mono (fun b hb _ => by have := HZ.out; omega) HM8.out.val), Only.fin HB0.out O8.out⟩
end Go.Proofs.Yteljibjbndpncaa
namespace Go.Proofs.Yteljibjbndpncaa
open Go.RowKit

theorem part_pos {l : List DPart} (hu : l.Pairwise fun a b => a.comp < b.comp) {i : Nat} {e : DPart} (he : l[i]? = some e) : (l.takeWhile (belowP e.comp)).length = i := by
  induction l generalizing i with
  | nil => simp at he
  | cons x r ih =>
    have h2 := List.pairwise_cons.1 hu
    cases i with
    | zero =>
      obtain rfl : x = e := by simpa using he
      rw [List.takeWhile_cons, if_neg (by simp [belowP])]; rfl
    | succ i =>
      have he : r[i]? = some e := by simpa using he
      have hx := h2.1 e (List.mem_of_getElem? he)
      rw [List.takeWhile_cons, if_pos (by simpa [belowP] using hx), List.length_cons, ih h2.2 he]
theorem partOf_some {l : List DPart} {k : Int} {j : Nat} (h : partOf l k = some j) : ∃ e, l[j]? = some e ∧ e.comp = k := by
  unfold partOf at h
  obtain ⟨hl, h1, _⟩ := List.findIdx?_eq_some_iff_getElem.1 h
  exact ⟨l[j], List.getElem?_eq_getElem hl, by simpa using h1⟩
theorem partOf_none {l : List DPart} {k : Int} (h : partOf l k = none) : ∀ e ∈ l, e.comp ≠ k := by
  unfold partOf at h
  intro e he
  simpa using List.findIdx?_eq_none_iff.1 h e he
theorem part_some {l : List DPart} {k : Int} (hu : l.Pairwise fun a b => a.comp < b.comp) {j : Nat} (h : partOf l k = some j) : (l.takeWhile (belowP k)).length = j ∧ hereP l k = true := by
  obtain ⟨e, he, rfl⟩ := partOf_some h
  have hp := part_pos hu he
  refine ⟨hp, ?_⟩
  unfold hereP
  rw [hp, he]
  exact decide_eq_true rfl
theorem part_none {l : List DPart} {k : Int} (h : partOf l k = none) : hereP l k = false := by
  unfold hereP
  split
  · rename_i e he
    exact decide_eq_false (partOf_none h e (List.mem_of_getElem? he))
  · rfl
theorem put_has {l : List DPart} {k : Int} {b : List UInt8} {j : Nat} (hu : l.Pairwise fun a b => a.comp < b.comp) (h : partOf l k = some j) : putPart l k b = l.set j ⟨k, b⟩ := by
  obtain ⟨hp, _⟩ := part_some hu h
  obtain ⟨e, he, hk⟩ := partOf_some h
  obtain ⟨hjl, hje⟩ := List.getElem?_eq_some_iff.1 he
  unfold putPart
  have q1 := takeWhile_take (f := belowP k) l
  have q2 := dropWhile_drop (f := belowP k) l
  rw [hp] at q1 q2
  rw [q1, q2, List.set_eq_take_append_cons_drop, if_pos hjl, List.drop_eq_getElem_cons hjl, hje]
  congr 2
  have h2 := hu.sublist (List.drop_sublist j l)
  rw [List.drop_eq_getElem_cons hjl, hje] at h2
  rw [List.filter_cons, if_neg (by simp [hk])]
  refine List.filter_eq_self.2 (fun p hp => ?_)
  have := (List.pairwise_cons.1 h2).1 p hp
  exact decide_eq_true (by omega)
theorem put_new {l : List DPart} {k : Int} {b : List UInt8} (h : partOf l k = none) : putPart l k b = l.take (l.takeWhile (belowP k)).length ++ ⟨k, b⟩ :: l.drop (l.takeWhile (belowP k)).length := by
  unfold putPart
  have q1 := takeWhile_take (f := belowP k) l
  have q2 := dropWhile_drop (f := belowP k) l
  rw [q2, ← q1]
  congr 2
  exact List.filter_eq_self.2 (fun p hp => decide_eq_true (partOf_none h p (List.mem_of_mem_drop hp)))
end Go.Proofs.Yteljibjbndpncaa
