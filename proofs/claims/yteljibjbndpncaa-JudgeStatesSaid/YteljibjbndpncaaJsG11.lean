/- Texts on which the proofs stand: Insert. No condition is laid on any input. -/
import Derived.Test.YteljibjbndpncaaJsG5
import Derived.Laws.Externs
import Derived.Shelf.RegionOpenPlain
namespace Go.Proofs.Yteljibjbndpncaa
open Go.RowKit

/-- The row behind the two copies. -/
theorem insEnt_row {cur es : List Value} {i n : Nat} (hn : i < n) (hc : (n + 1) * 3 ≤ cur.length) (he : es.length = 3) :
    let mid := (cur.drop (i * 3)).take ((n - i) * 3)
    let cur1 := cur.take ((i + 1) * 3) ++ mid ++ cur.drop ((i + 1) * 3 + mid.length)
    let cur2 := cur1.take (i * 3) ++ es ++ cur1.drop (i * 3 + es.length)
    mid.length = (n - i) * 3 ∧ cur1.length = cur.length ∧ cur2.length = cur.length ∧ cur2.take ((n + 1) * 3) = cur.take (i * 3) ++ es ++ mid := by
  intro mid cur1 cur2
  have hm : mid.length = (n - i) * 3 := by simp only [mid, List.length_take, List.length_drop]; omega
  have h1 : cur1.length = cur.length := by simp only [cur1, List.length_append, List.length_take, List.length_drop, hm]; omega
  have h2 : cur2.length = cur.length := by simp only [cur2, List.length_append, List.length_take, List.length_drop, he, h1]; omega
  have ha : cur1.take (i * 3) = cur.take (i * 3) := by
    simp only [cur1, List.append_assoc]
    rw [List.take_append_of_le_length (by rw [List.length_take]; omega), List.take_take, Nat.min_eq_left (by omega)]
  have hb : cur1.drop (i * 3 + es.length) = mid ++ cur.drop ((i + 1) * 3 + mid.length) := by
    simp only [cur1, List.append_assoc]
    rw [List.drop_append_of_le_length (by rw [List.length_take, he]; omega), List.drop_of_length_le (by rw [List.length_take, he]; omega), List.nil_append]
  refine ⟨hm, h1, h2, ?_⟩
  show (cur1.take (i * 3) ++ es ++ cur1.drop (i * 3 + es.length)).take _ = _
  rw [ha, hb, ← List.append_assoc]
  exact List.take_left' (by simp only [List.length_append, List.length_take, he, hm]; omega)
theorem insEnt_grow {olds es mid : List Value} {i n : Nat} (hn : i < n) {row : List Value} (hr : (n + 1) * 3 ≤ row.length) (ho : row.take (i * 3) = olds) (he : es.length = 3) (hm : mid.length = (n - i) * 3) :
    let r1 := row.take (i * 3) ++ es ++ row.drop (i * 3 + es.length)
    let r2 := r1.take ((i + 1) * 3) ++ mid ++ r1.drop ((i + 1) * 3 + mid.length)
    r1.length = row.length ∧ r2.length = row.length ∧ r2.take ((n + 1) * 3) = olds ++ es ++ mid := by
  intro r1 r2
  have h1 : r1.length = row.length := by simp only [r1, List.length_append, List.length_take, List.length_drop, he]; omega
  have h2 : r2.length = row.length := by simp only [r2, List.length_append, List.length_take, List.length_drop, hm, h1]; omega
  have ha : r1.take ((i + 1) * 3) = olds ++ es := by
    rw [← ho]
    exact List.take_left' (by simp only [List.length_append, List.length_take, he]; omega)
  refine ⟨h1, h2, ?_⟩
  show (r1.take ((i + 1) * 3) ++ mid ++ r1.drop ((i + 1) * 3 + mid.length)).take _ = _
  rw [ha]
  exact List.take_left' (by rw [← ho]; simp only [List.length_append, List.length_take, he, hm]; omega)

set_option maxRecDepth 100000 in
set_option maxHeartbeats 2000000 in
/-- slices.Insert of one entity: there is room -/
theorem insEnt_room {base : Nat} {Q : Nat → Prop} {w : World} {g n cap vb : Nat} {xs : List DEnt} {i : Nat} {es : List Value} {x : DEnt} (h : rEnt.acc 133 base Q w (.slice (some ⟨g, 0, none⟩) n cap) xs) (hn : n = xs.length) (hi : i < n)
    (hvb : w.heap[vb]? = some (.cells es.toArray 133 (0, 0))) (hne : vb ≠ g) (hx : ∀ Q w, rEnt.rd Q w es x) (hroom : n + 1 ≤ cap) :
    Calls Try.prog 191 #[.slice (some ⟨g, 0, none⟩) n cap, .int .i64 i, .slice (some ⟨vb, 0, none⟩) 1 1] w fun e w' => e = .returned (.slice (some ⟨g, 0, none⟩) (n + 1) cap) ∧ rEnt.acc 133 base Q w' (.slice (some ⟨g, 0, none⟩) (n + 1) cap) (xs.take i ++ x :: xs.drop i) ∧ Only (fun b => b = g) w w' := by
  obtain ⟨g2, cap2, cur, cells, hgc, hb, hg, hcap, hmax, hcs, htk, hrow⟩ := acc_row h (by omega)
  obtain ⟨rfl, rfl⟩ : g = g2 ∧ cap = cap2 := by injection hgc with e1 _ e2; injection e1 with e1; injection e1 with e1; exact ⟨e1, e2⟩
  clear hgc
  rw [show rEnt.size = 3 from rfl] at hcs htk
  rw [← hn] at htk
  have hle := rEnt.len (hx (fun _ => True) w)
  rw [show rEnt.size = 3 from rfl] at hle
  have hcl : cur.toList.length = cap * 3 := by rw [Array.length_toList]; exact hcs
  obtain ⟨hml, hl1, hl2, htk2⟩ := insEnt_row (cur := cur.toList) (es := es) hi (by rw [hcl]; omega) hle
  have hmid : (cur.toList.drop (i * 3)).take ((n - i) * 3) = cells.drop (i * 3) := by
    rw [← htk, List.drop_take]; congr 1; omega
  rw [hmid] at hml hl1 hl2 htk2
  obtain ⟨hr1, hr2⟩ : rEnt.row (fun b => Q b ∧ b ≠ g) w (cur.toList.take (i * 3)) (xs.take i) ∧ rEnt.row (fun b => Q b ∧ b ≠ g) w (cells.drop (i * 3)) (xs.drop i) := by
    obtain ⟨c1, c2, he, ha, hb2⟩ := Rep.row_split (xs := xs.take i) (ys := xs.drop i) (by rw [List.take_append_drop]; exact hrow)
    have hla : c1.length = i * 3 := by rw [Rep.row_len ha, List.length_take, Nat.min_eq_left (by omega)]; rfl
    have hct : cur.toList.take (i * 3) = cells.take (i * 3) := by rw [← htk, List.take_take, Nat.min_eq_left (by omega)]
    rw [hct, he, ← hla, List.take_left, List.drop_left]
    exact ⟨ha, hb2⟩
  have hk : ∀ (c1 c2 : Array Value) b, (Q b ∧ b ≠ g) → IsC w b → (Q b ∧ b ≠ g) ∧ ((w.drew.setRow g c1).setRow g c2).heap[b]? = w.heap[b]? := fun c1 c2 b hq _ => ⟨hq, (rowset_other hq.2).trans (rowset_other hq.2)⟩
  have hsz : (Try.prog.info? 133).map (·.size) = some 3 := by kernel_rfl
  obtain ⟨m, hm⟩ : ∃ m, n = i + m := ⟨n - i, by omega⟩
  have hmin1 : Nat.min (n + 1 - i) (n - i) = m := by simp only [Nat.min_def]; split <;> omega
  have hmm : n - i = m := by omega
  have hcp1 := fun ty dc sc => run_copy_rows (P := Try.prog) w.drew 73 73 ty 133 3 g ((i + 1) * 3) (n - i) dc ⟨g, i * 3, none⟩ (n + 1 - i) sc cur 133 (cells.drop (i * 3)) Try.underlying73 hsz hg (by rw [hmin1, hml, hmm]) (fun j v hj => by
      rw [List.getElem?_drop, ← htk, List.getElem?_take] at hj
      split at hj
      · rw [Addr.add_lit, cell_of_row _ _ _ _ _ _ (show w.drew.heap[g]? = _ from hg), ← hj]; simp
      · cases hj) (by rw [← Array.length_toList, hml, hcl]; omega) (Rep.row_one hr2)
  obtain ⟨c1, hc1⟩ : ∃ c1, (cur.toList.take ((i + 1) * 3) ++ cells.drop (i * 3) ++ cur.toList.drop ((i + 1) * 3 + (cells.drop (i * 3)).length)).toArray = c1 := ⟨_, rfl⟩
  have hc1l : c1.toList = cur.toList.take ((i + 1) * 3) ++ cells.drop (i * 3) ++ cur.toList.drop ((i + 1) * 3 + (cells.drop (i * 3)).length) := by rw [← hc1]
  simp only [hc1] at hcp1
  simp only [← hc1l] at hl1 hl2 htk2
  have hg1 : (w.drew.setRow g c1).heap[g]? = some (.cells c1 133 (0, 0)) := setRow_heap w.drew g cur c1 _ (0, 0) hg
  have hvb1 : (w.drew.setRow g c1).heap[vb]? = some (.cells es.toArray 133 (0, 0)) := (rowset_other hne).trans hvb
  have hcp2 := fun ty dc => run_copy_rows (P := Try.prog) (w.drew.setRow g c1) 73 73 ty 133 3 g (i * 3) (n + 1 - i) dc ⟨vb, 0, none⟩ 1 1 c1 133 es Try.underlying73 hsz hg1 (by rw [hle]; simp only [Nat.min_def]; split <;> omega) (fun j v hj => by
      rw [Addr.add_lit, cell_of_row _ _ _ _ _ _ hvb1, Nat.zero_add, ← hj]; simp) (by rw [← Array.length_toList, hle, hl1, hcl]; omega) (rEnt.one (hx (fun _ => True) w))
  obtain ⟨c2, hc2⟩ : ∃ c2, (c1.toList.take (i * 3) ++ es ++ c1.toList.drop (i * 3 + es.length)).toArray = c2 := ⟨_, rfl⟩
  have hc2l : c2.toList = c1.toList.take (i * 3) ++ es ++ c1.toList.drop (i * 3 + es.length) := by rw [← hc2]
  simp only [hc2] at hcp2
  simp only [← hc2l] at hl2 htk2
  have hg2 : ((w.drew.setRow g c1).setRow g c2).heap[g]? = some (.cells c2 133 (0, 0)) := setRow_heap _ g c1 c2 _ (0, 0) hg1
  have hlx : (xs.take i ++ x :: xs.drop i).length = n + 1 := by rw [List.length_append, List.length_cons, List.length_take, List.length_drop]; omega
  have HACC := Lib.hid (acc_of (r := rEnt) (xs := xs.take i ++ x :: xs.drop i) (Q := Q) (cells := cur.toList.take (i * 3) ++ es ++ cells.drop (i * 3)) hb hg2 (by rw [hlx]; exact hroom) hmax (by rw [← Array.length_toList, hl2, hcl]; try rfl) (by rw [hlx]; exact htk2)
    (by rw [List.append_assoc]; exact Rep.row_append (Rep.row_keep (hk c1 c2) hr1) ⟨es, _, rfl, hx _ _, Rep.row_keep (hk c1 c2) hr2⟩))
  rw [hlx] at HACC
  have HO := Lib.hid (only_setRow (F := fun b => b = g) (cur := c2) (only_setRow (X := w) (cur := c1) (Only.drw (Only.refl _ w)) rfl) rfl)
  have hov : ∀ lb cb, (callFunc 202 #[.slice (some ⟨vb, 0, none⟩) 1 1, .slice (some ⟨g, (i + 1) * 3, none⟩) lb cb]).run Try.prog w = .ok (.value (.bool false)) w := fun lb cb => by
    rw [run_callFunc_extern Try.func202 (by kernel_rfl) (by kernel_rfl) (by kernel_rfl) (e := Extern.SlicesOverlaps.overlaps #[73, 73] #[4]) (by kernel_rfl),
      Lib.run_overlaps_apart w 73 4 133 Try.underlying73 3 (fun w => by kernel_rfl) ⟨vb, 0, none⟩ ⟨g, (i + 1) * 3, none⟩ 1 1 lb cb hne 133 133 3 cur.size (by simp [World.shape?, hvb, hle]) (by simp [World.shape?, hg]) (by omega) (by simp [World.frozen?, hvb]) (by simp [World.frozen?, hvb])]
    rfl
  have mixed : Try.prog.follows Departure.mixedOrders = true := by kernel_rfl
  have hz2 : ¬ ((i : Int) = (n : Int)) := by omega
  have hw1 : IntKind.i64.wrap ((i : Int) + 1) = (i : Int) + 1 := IntWalk.i64_in _ ⟨by omega, by unfold maxLen at hmax; omega⟩
  have hw2 : IntKind.i64.wrap ((n : Int) + 1) = (n : Int) + 1 := IntWalk.i64_in _ ⟨by omega, by unfold maxLen at hmax; omega⟩
  have hb1 : (0 : Int) ≤ (i : Int) + 1 := by omega
  have hb5 : (0 : Int) ≤ (n : Int) + 1 := by omega
  have hin : i ≤ n := by omega
  have hinI : (i : Int) ≤ n := by omega
  have htn : ((i : Int) + 1).toNat = i + 1 := by omega
  have htn2 : ((n : Int) + 1).toNat = n + 1 := by omega
  have hb2 : ¬ (cap = i + 1) := by omega
  have hb3 : (i : Int) ≤ (n : Int) + 1 := by omega
  have hb4 : ¬ (cap = i) := by omega
  have hb6 : ¬ ((cap : Int) < (n : Int) + 1) := by omega
  have hb7 : ¬ (cap < n + 1) := by omega
  have hb8 : (i : Int) + 1 ≤ (n : Int) + 1 := by omega
  clear h hb hg hcap hcs htk hrow hle hcl hml hl1 hl2 htk2 hmid hr1 hr2 hk hc1 hc1l hg1 hvb1 hc2 hc2l hg2 hlx hm hmin1 hmm hn hi hx hvb hroom hsz
  go_enter Try.func191, Try.ntmps191
  go_wp2_with (simp only [hov])
  go_region_law_o (refine step_copy_run rfl _ _ 73 73 rfl _ _ (by simp [Act.eval, Act.put]) (by simp [Act.eval, Act.put]) (hcp1 _ _ _) ?_)
  go_wp2_with (at_builtin; refine wpList_copy_run _ rfl _ _ 73 73 rfl _ _ rfl rfl (hcp2 _ _) ?_)
  go_ret
  exact ⟨rfl, HACC.out, HO.out⟩

set_option maxRecDepth 100000 in
set_option maxHeartbeats 2000000 in
/-- slices.Insert of one entity: there is no room -/
theorem insEnt_new {base : Nat} {Q : Nat → Prop} {w : World} {g n cap vb : Nat} {xs : List DEnt} {i : Nat} {es : List Value} {x : DEnt} (h : rEnt.acc 133 base Q w (.slice (some ⟨g, 0, none⟩) n cap) xs) (hn : n = xs.length) (hi : i < n)
    (hvb : w.heap[vb]? = some (.cells es.toArray 133 (0, 0))) (hx : ∀ Q w, rEnt.rd Q w es x) (hroom : cap < n + 1) (hsm : n ≤ 1000000) (hbase : base ≤ w.heap.size) :
    Calls Try.prog 191 #[.slice (some ⟨g, 0, none⟩) n cap, .int .i64 i, .slice (some ⟨vb, 0, none⟩) 1 1] w fun e w' => ∃ G, e = .returned (.slice (some ⟨w.heap.size, 0, none⟩) (n + 1) G) ∧ rEnt.acc 133 base Q w' (.slice (some ⟨w.heap.size, 0, none⟩) (n + 1) G) (xs.take i ++ x :: xs.drop i) ∧ Below w.heap.size w w' := by
  obtain ⟨g2, cap2, cur, cells, hgc, hb, hg, hcap, hmax, hcs, htk, hrow⟩ := acc_row h (by omega)
  obtain ⟨rfl, rfl⟩ : g = g2 ∧ cap = cap2 := by injection hgc with e1 _ e2; injection e1 with e1; injection e1 with e1; exact ⟨e1, e2⟩
  clear hgc
  rw [show rEnt.size = 3 from rfl] at hcs htk
  rw [← hn] at htk hcap
  have hgl : g < w.heap.size := (Array.getElem?_eq_some_iff.1 hg).1
  have hvl : vb < w.heap.size := (Array.getElem?_eq_some_iff.1 hvb).1
  have hle := rEnt.len (hx (fun _ => True) w)
  rw [show rEnt.size = 3 from rfl] at hle
  have hcl : cur.toList.length = cap * 3 := by rw [Array.length_toList]; exact hcs
  have hcll : cells.length = n * 3 := by rw [← htk, List.length_take, hcl]; omega
  obtain ⟨hr1, hr2⟩ : rEnt.row (fun b => Q b ∧ b ≠ g) w (cells.take (i * 3)) (xs.take i) ∧ rEnt.row (fun b => Q b ∧ b ≠ g) w (cells.drop (i * 3)) (xs.drop i) := by
    obtain ⟨c1, c2, he, ha, hb2⟩ := Rep.row_split (xs := xs.take i) (ys := xs.drop i) (by rw [List.take_append_drop]; exact hrow)
    have hla : c1.length = i * 3 := by rw [Rep.row_len ha, List.length_take, Nat.min_eq_left (by omega)]; rfl
    rw [he, ← hla, List.take_left, List.drop_left]
    exact ⟨ha, hb2⟩
  have hcell : ∀ (W : World) j v, W.heap[g]? = w.heap[g]? → cells[j]? = some v → W.cell? ⟨g, j, none⟩ = some v := fun W j v hw hj => by
    rw [← htk, List.getElem?_take] at hj
    split at hj
    · rw [cell_of_row _ _ _ _ _ _ (hw.trans hg), ← hj]; simp
    · cases hj
  obtain ⟨i0, hi0, hh⟩ := Option.map_eq_some_iff.1 (show (Try.prog.info? 133).map (fun i => (i.zero, i.size, i.bytes)) = some (some (.agg #[.int .i64 0, .int .i64 0, .slice none 0 0]), 3, 40) by kernel_rfl)
  simp only [Prod.mk.injEq] at hh
  obtain ⟨hz0, hzs, hzb⟩ := hh
  have hsz : (Try.prog.info? 133).map (·.size) = some 3 := by kernel_rfl
  have hik : i + (n + 1 - i) = n + 1 := by omega
  have hkk : (n : Int) + 1 - (i : Int) = ((n + 1 - i : Nat) : Int) := by omega
  have hold : (Builtin.firstCells i0.size i (.slice (some ⟨g, 0, none⟩) i cap)).run Try.prog w.drew = .ok (cells.take (i * 3)).toArray w.drew := by
    rw [hzs]
    exact run_firstCells_some w.drew 3 i ⟨g, 0, none⟩ i cap (cells.take (i * 3)) (by rw [List.length_take, hcll]; omega) (fun j v hj => by
      rw [Addr.add_lit, Nat.zero_add]
      rw [List.getElem?_take] at hj
      split at hj
      · exact hcell w.drew j v rfl hj
      · cases hj)
  have hrz : ∀ ty, (Builtin.append_ #[73, 3] ty #[.slice (some ⟨g, 0, none⟩) i cap, .int .i64 ((n : Int) + 1 - (i : Int))]).run Try.prog w =
      .ok (.slice (some ⟨w.heap.size, 0, none⟩) (n + 1) (grownCap w (n + 1) cap 133)) (w.drew.alloc (.cells ((cells.take (i * 3)).toArray ++ Builtin.zeroCells (Value.agg #[.int .i64 0, .int .i64 0, .slice none 0 0]).cells (n + 1 - i) ++ Builtin.zeroCells (Value.agg #[.int .i64 0, .int .i64 0, .slice none 0 0]).cells (grownCap w (n + 1) cap 133 - (n + 1))) 133)) := fun ty => by
    have h := Lib.run_append_grow_zeros w 73 3 ty 133 i0 _ .i64 .i64 Try.underlying73 Try.underlying3 hi0 hz0 (some ⟨g, 0, none⟩) i cap (cells.take (i * 3)) hold (n + 1 - i) (by omega) (by omega) (by omega) (by omega) (by rw [hzb]; omega) (by rw [hzb, hik]; exact growslice_fits hroom (by omega))
    rw [hik] at h
    rw [hkk]
    exact h
  have hGn : n + 1 ≤ grownCap w (n + 1) cap 133 := grownCap_ge w _ _ _
  have hGm : grownCap w (n + 1) cap 133 ≤ maxLen := grownCap_le_maxLen w _ _ _ (by unfold maxLen; omega)
  generalize grownCap w (n + 1) cap 133 = G at *
  obtain ⟨ROW, hROW⟩ : ∃ ROW : Array Value, (cells.take (i * 3)).toArray ++ Builtin.zeroCells (Value.agg #[.int .i64 0, .int .i64 0, .slice none 0 0]).cells (n + 1 - i) ++ Builtin.zeroCells (Value.agg #[.int .i64 0, .int .i64 0, .slice none 0 0]).cells (G - (n + 1)) = ROW := ⟨_, rfl⟩
  rw [hROW] at hrz
  have hzz : ∀ q, (Builtin.zeroCells (Value.agg #[.int .i64 0, .int .i64 0, .slice none 0 0]).cells q).size = q * 3 := fun q => by simp [Builtin.zeroCells, Value.cells]
  have hRs : ROW.size = G * 3 := by
    rw [← hROW, Array.size_append, Array.size_append, hzz, hzz, List.size_toArray, List.length_take, hcll]
    omega
  have hRt : ROW.toList.take (i * 3) = cells.take (i * 3) := by
    rw [← hROW, Array.toList_append, Array.toList_append, List.append_assoc]
    exact List.take_left' (by rw [List.length_take, hcll]; omega)
  have hml : (cells.drop (i * 3)).length = (n - i) * 3 := by rw [List.length_drop, hcll]; omega
  obtain ⟨hl1, hl2, htk2⟩ := insEnt_grow (es := es) (mid := cells.drop (i * 3)) hi (row := ROW.toList) (by rw [Array.length_toList, hRs]; omega) hRt hle hml
  obtain ⟨r1, hr1e⟩ : ∃ r1, (ROW.toList.take (i * 3) ++ es ++ ROW.toList.drop (i * 3 + es.length)).toArray = r1 := ⟨_, rfl⟩
  have hr1l : r1.toList = ROW.toList.take (i * 3) ++ es ++ ROW.toList.drop (i * 3 + es.length) := by rw [← hr1e]
  simp only [← hr1l] at hl1 hl2 htk2
  obtain ⟨r2, hr2e⟩ : ∃ r2, (r1.toList.take ((i + 1) * 3) ++ cells.drop (i * 3) ++ r1.toList.drop ((i + 1) * 3 + (cells.drop (i * 3)).length)).toArray = r2 := ⟨_, rfl⟩
  have hr2l : r2.toList = r1.toList.take ((i + 1) * 3) ++ cells.drop (i * 3) ++ r1.toList.drop ((i + 1) * 3 + (cells.drop (i * 3)).length) := by rw [← hr2e]
  simp only [← hr2l] at hl2 htk2
  obtain ⟨W1, hW1⟩ : ∃ W1, w.drew.alloc (.cells ROW 133) = W1 := ⟨_, rfl⟩
  rw [hW1] at hrz
  have hN : W1.heap[w.heap.size]? = some (.cells ROW 133 (0, 0)) := by rw [← hW1]; exact heap_alloc_new w.drew _
  have hB1 : Below w.heap.size w W1 := by rw [← hW1]; exact ((Below.refl _ w).drew).alloc (Nat.le_refl _) _
  have hcpA := fun ty dc => run_copy_rows (P := Try.prog) W1 73 73 ty 133 3 w.heap.size (i * 3) (n + 1 - i) dc ⟨vb, 0, none⟩ 1 1 ROW 133 es Try.underlying73 hsz hN (by rw [hle]; simp only [Nat.min_def]; split <;> omega) (fun j v hj => by
      rw [Addr.add_lit, cell_of_row _ _ _ _ _ _ ((hB1.block vb hvl).trans hvb), Nat.zero_add, ← hj]; simp) (by rw [hle, hRs]; omega) (rEnt.one (hx (fun _ => True) w))
  simp only [hr1e] at hcpA
  have hN2 : (W1.setRow w.heap.size r1).drew.heap[w.heap.size]? = some (.cells r1 133 (0, 0)) := setRow_heap W1 w.heap.size ROW r1 _ (0, 0) hN
  have hoth : ∀ r b, b < w.heap.size → (W1.setRow w.heap.size r).heap[b]? = w.heap[b]? := fun r b hlb => (rowset_other (by omega)).trans (hB1.block b hlb)
  have hcpB := fun ty dc sc => run_copy_rows (P := Try.prog) (W1.setRow w.heap.size r1).drew 73 73 ty 133 3 w.heap.size ((i + 1) * 3) (n - i) dc ⟨g, i * 3, none⟩ (n - i) sc r1 133 (cells.drop (i * 3)) Try.underlying73 hsz hN2 (by rw [hml]; simp) (fun j v hj => by
      rw [List.getElem?_drop] at hj
      rw [Addr.add_lit]
      exact hcell _ _ v (hoth r1 g hgl) hj) (by rw [← Array.length_toList, hml, hl1, Array.length_toList, hRs]; omega) (Rep.row_one hr2)
  simp only [hr2e] at hcpB
  have hN3 : ((W1.setRow w.heap.size r1).drew.setRow w.heap.size r2).heap[w.heap.size]? = some (.cells r2 133 (0, 0)) := setRow_heap _ w.heap.size r1 r2 _ (0, 0) hN2
  have hlx : (xs.take i ++ x :: xs.drop i).length = n + 1 := by rw [List.length_append, List.length_cons, List.length_take, List.length_drop]; omega
  have hk : ∀ b, (Q b ∧ b ≠ g) → IsC w b → (Q b ∧ b ≠ w.heap.size) ∧ ((W1.setRow w.heap.size r1).drew.setRow w.heap.size r2).heap[b]? = w.heap[b]? := fun b hq hl => ⟨⟨hq.1, by have := hl.lt; omega⟩, (rowset_other (by have := hl.lt; omega)).trans (hoth r1 b hl.lt)⟩
  have HACC := Lib.hid (acc_of (r := rEnt) (base := base) (xs := xs.take i ++ x :: xs.drop i) (Q := Q) (cells := cells.take (i * 3) ++ es ++ cells.drop (i * 3)) hbase hN3 (by rw [hlx]; exact hGn) hGm (by rw [← Array.length_toList, hl2, Array.length_toList, hRs]; try rfl) (by rw [hlx]; exact htk2)
    (by rw [List.append_assoc]; exact Rep.row_append (Rep.row_keep hk hr1) ⟨es, _, rfl, hx _ _, Rep.row_keep hk hr2⟩))
  rw [hlx] at HACC
  have HO := Lib.hid (show Below w.heap.size w ((W1.setRow w.heap.size r1).drew.setRow w.heap.size r2) from ⟨hB1.os, hB1.tape, hB1.output, by rw [rowset_size]; show _ ≤ (W1.setRow w.heap.size r1).heap.size; rw [rowset_size]; exact hB1.size, fun b hlb => (rowset_other (by omega)).trans (hoth r1 b hlb)⟩)
  have mixed : Try.prog.follows Departure.mixedOrders = true := by kernel_rfl
  have hz2 : ¬ ((i : Int) = (n : Int)) := by omega
  have hw1 : IntKind.i64.wrap ((i : Int) + 1) = (i : Int) + 1 := IntWalk.i64_in _ ⟨by omega, by omega⟩
  have hw2 : IntKind.i64.wrap ((n : Int) + 1) = (n : Int) + 1 := IntWalk.i64_in _ ⟨by omega, by omega⟩
  have hw3 : IntKind.i64.wrap ((n : Int) + 1 - i) = (n : Int) + 1 - i := IntWalk.i64_in _ ⟨by omega, by omega⟩
  have hb1 : (0 : Int) ≤ (i : Int) + 1 := by omega
  have hin : i ≤ n := by omega
  have hinI : (i : Int) ≤ n := by omega
  have htn : ((i : Int) + 1).toNat = i + 1 := by omega
  have hb2 : ¬ (G = i + 1) := by omega
  have hb3 : (i : Int) ≤ (n : Int) + 1 := by omega
  have hb4 : ¬ (cap = i) := by omega
  have hb5 : ¬ (G = i) := by omega
  have hb6 : (cap : Int) < (n : Int) + 1 := by omega
  have hb7 : ¬ (cap < i) := by omega
  have hb8 : (i : Int) + 1 ≤ (n : Int) + 1 := by omega
  have hG63 : (G : Int) ≤ 9223372036854775807 := by unfold maxLen at hGm; omega
  clear h hb hg hcap hcs htk hrow hle hcl hcll hml hl1 hl2 htk2 hr1 hr2 hk hr1e hr1l hr2e hr2l hN hN2 hN3 hB1 hoth hlx hn hi hx hvb hroom hsz hgl hvl hcell hi0 hz0 hzs hzb hik hkk hold hROW hzz hRs hRt hW1
  go_enter Try.func191, Try.ntmps191
  go_wp2_with (first
    | (at_builtin; refine Lib.wpList_append_run _ rfl _ _ _ _ rfl _ _ rfl rfl _ _ (hrz _) ?_)
    | (at_builtin; refine wpList_copy_run _ rfl _ _ 73 73 rfl _ _ rfl rfl (hcpA _ _) ?_))
  go_region_law_o (refine step_copy_run rfl _ _ 73 73 rfl _ _ (by simp [Act.eval, Act.put]) (by simp [Act.eval, Act.put]) (hcpB _ _ _) ?_)
  go_wp2
  go_ret
  exact ⟨G, rfl, HACC.out, HO.out⟩

set_option maxRecDepth 100000 in
set_option maxHeartbeats 2000000 in
/-- slices.Insert of one entity: into a slice of the call's own -/
theorem insEnt_calls {base : Nat} {Q : Nat → Prop} {w : World} {v : Value} {vb : Nat} {xs : List DEnt} {i : Nat} {es : List Value} {x : DEnt} (h : rEnt.acc 133 base Q w v xs) (hi : i ≤ xs.length)
    (hvb : w.heap[vb]? = some (.cells es.toArray 133 (0, 0))) (hne : v.ownBlock ≠ some vb) (hx : ∀ Q w, rEnt.rd Q w es x) (hsm : xs.length ≤ 1000000) (hbase : base ≤ w.heap.size) :
    Calls Try.prog 191 #[v, .int .i64 i, .slice (some ⟨vb, 0, none⟩) 1 1] w fun e w' => ∃ v', e = .returned v' ∧ (v'.ownBlock = v.ownBlock ∨ v'.ownBlock = some w.heap.size) ∧ rEnt.acc 133 base Q w' v' (xs.take i ++ x :: xs.drop i) ∧ Only (fun b => v.ownBlock = some b) w w' := by
  by_cases hlt : i < xs.length
  · obtain ⟨g, cap, cur, cells, rfl, hb, hg, hcap, hmax, hcs, htk, hrow⟩ := acc_row h (by omega)
    by_cases hr : xs.length + 1 ≤ cap
    · refine Calls.mono (insEnt_room h rfl hlt hvb (fun e => hne (by rw [e]; rfl)) hx hr) ?_
      rintro e w' ⟨rfl, h1, h2⟩
      exact ⟨_, rfl, .inl rfl, h1, Only.wid h2 fun b hb => by rw [hb]; rfl⟩
    · refine Calls.mono (insEnt_new h rfl hlt hvb hx (by omega) hsm hbase) ?_
      rintro e w' ⟨G, rfl, h1, h2⟩
      exact ⟨_, rfl, .inr rfl, h1, Only.of_below h2⟩
  · obtain ⟨n, hn⟩ : ∃ n, xs.length = n := ⟨_, rfl⟩
    obtain rfl : i = n := by omega
    have hle := rEnt.len (hx (fun _ => True) w)
    obtain ⟨v', w', q1, q2, q3, q4⟩ := Rep.acc_more (P := Try.prog) (ty := 73) (t := 73) (z := .agg #[.int .i64 0, .int .i64 0, .slice none 0 0]) (size := 3) (bytes := 40) (m := 1) (c := 1) (A := some ⟨vb, 0, none⟩) (ys := [x]) (es := es) Try.underlying73 (by kernel_rfl) (by kernel_rfl) (by decide) rfl h rfl ⟨es, [], by simp, hx _ _, rfl⟩ (fun _ => ⟨vb, 0, rfl, fun j u hj => by rw [cell_of_row _ _ _ _ _ _ hvb, Nat.zero_add, ← hj]; simp⟩) (by rw [hn]; unfold maxLen; simp; omega) (by rw [hn]; simp; omega) hbase
    have HR := Lib.hid (show rEnt.acc 133 base Q w' v' (xs.take i ++ x :: xs.drop i) by rw [List.take_of_length_le (by omega), List.drop_of_length_le (by omega)]; exact q2)
    have HO := Lib.hid (show Only (fun b => v.ownBlock = some b) w w' from ⟨q3.os, q3.tape, q3.output, q3.size, fun b hl hf => q3.block b hl fun e => hf e.symm⟩)
    have HQ := Lib.hid q4
    obtain ⟨A, cap, rfl, hcap, hmax⟩ : ∃ A cap, v = .slice A i cap ∧ i ≤ cap ∧ cap ≤ maxLen := by
      obtain ⟨cells, h1, _⟩ := h
      rcases h1.2 with ⟨rfl, h0⟩ | ⟨g, cap, cur, rfl, _, _, h3, h4, _⟩
      · exact ⟨none, 0, by rw [← hn, h0], by omega, by unfold maxLen; omega⟩
      · exact ⟨_, cap, by rw [hn], by omega, h4⟩
    have hinI : (i : Int) ≤ cap := by omega
    clear h hi hvb hne hx hsm hbase hlt hn hle q2 q3 q4
    go_enter Try.func191, Try.ntmps191
    go_wp2_with (at_builtin; refine Lib.wpList_append_run _ rfl _ _ _ _ rfl _ _ rfl rfl _ _ q1 ?_)
    all_goals (try (have hce : cap = i := by assumption); try subst hce)
    all_goals (go_ret; exact ⟨_, rfl, HQ.out, HR.out, HO.out⟩)

/-- The row behind the two copies. -/
theorem insPart_row {cur es : List Value} {i n : Nat} (hn : i < n) (hc : (n + 1) * 2 ≤ cur.length) (he : es.length = 2) :
    let mid := (cur.drop (i * 2)).take ((n - i) * 2)
    let cur1 := cur.take ((i + 1) * 2) ++ mid ++ cur.drop ((i + 1) * 2 + mid.length)
    let cur2 := cur1.take (i * 2) ++ es ++ cur1.drop (i * 2 + es.length)
    mid.length = (n - i) * 2 ∧ cur1.length = cur.length ∧ cur2.length = cur.length ∧ cur2.take ((n + 1) * 2) = cur.take (i * 2) ++ es ++ mid := by
  intro mid cur1 cur2
  have hm : mid.length = (n - i) * 2 := by simp only [mid, List.length_take, List.length_drop]; omega
  have h1 : cur1.length = cur.length := by simp only [cur1, List.length_append, List.length_take, List.length_drop, hm]; omega
  have h2 : cur2.length = cur.length := by simp only [cur2, List.length_append, List.length_take, List.length_drop, he, h1]; omega
  have ha : cur1.take (i * 2) = cur.take (i * 2) := by
    simp only [cur1, List.append_assoc]
    rw [List.take_append_of_le_length (by rw [List.length_take]; omega), List.take_take, Nat.min_eq_left (by omega)]
  have hb : cur1.drop (i * 2 + es.length) = mid ++ cur.drop ((i + 1) * 2 + mid.length) := by
    simp only [cur1, List.append_assoc]
    rw [List.drop_append_of_le_length (by rw [List.length_take, he]; omega), List.drop_of_length_le (by rw [List.length_take, he]; omega), List.nil_append]
  refine ⟨hm, h1, h2, ?_⟩
  show (cur1.take (i * 2) ++ es ++ cur1.drop (i * 2 + es.length)).take _ = _
  rw [ha, hb, ← List.append_assoc]
  exact List.take_left' (by simp only [List.length_append, List.length_take, he, hm]; omega)
theorem insPart_grow {olds es mid : List Value} {i n : Nat} (hn : i < n) {row : List Value} (hr : (n + 1) * 2 ≤ row.length) (ho : row.take (i * 2) = olds) (he : es.length = 2) (hm : mid.length = (n - i) * 2) :
    let r1 := row.take (i * 2) ++ es ++ row.drop (i * 2 + es.length)
    let r2 := r1.take ((i + 1) * 2) ++ mid ++ r1.drop ((i + 1) * 2 + mid.length)
    r1.length = row.length ∧ r2.length = row.length ∧ r2.take ((n + 1) * 2) = olds ++ es ++ mid := by
  intro r1 r2
  have h1 : r1.length = row.length := by simp only [r1, List.length_append, List.length_take, List.length_drop, he]; omega
  have h2 : r2.length = row.length := by simp only [r2, List.length_append, List.length_take, List.length_drop, hm, h1]; omega
  have ha : r1.take ((i + 1) * 2) = olds ++ es := by
    rw [← ho]
    exact List.take_left' (by simp only [List.length_append, List.length_take, he]; omega)
  refine ⟨h1, h2, ?_⟩
  show (r1.take ((i + 1) * 2) ++ mid ++ r1.drop ((i + 1) * 2 + mid.length)).take _ = _
  rw [ha]
  exact List.take_left' (by rw [← ho]; simp only [List.length_append, List.length_take, he, hm]; omega)

set_option maxRecDepth 100000 in
set_option maxHeartbeats 2000000 in
/-- slices.Insert of one part: there is room -/
theorem insPart_room {base : Nat} {Q : Nat → Prop} {w : World} {g n cap vb : Nat} {xs : List DPart} {i : Nat} {es : List Value} {x : DPart} (h : rPart.acc 135 base Q w (.slice (some ⟨g, 0, none⟩) n cap) xs) (hn : n = xs.length) (hi : i < n)
    (hvb : w.heap[vb]? = some (.cells es.toArray 135 (0, 0))) (hne : vb ≠ g) (hx : ∀ Q w, rPart.rd Q w es x) (hroom : n + 1 ≤ cap) :
    Calls Try.prog 190 #[.slice (some ⟨g, 0, none⟩) n cap, .int .i64 i, .slice (some ⟨vb, 0, none⟩) 1 1] w fun e w' => e = .returned (.slice (some ⟨g, 0, none⟩) (n + 1) cap) ∧ rPart.acc 135 base Q w' (.slice (some ⟨g, 0, none⟩) (n + 1) cap) (xs.take i ++ x :: xs.drop i) ∧ Only (fun b => b = g) w w' := by
  obtain ⟨g2, cap2, cur, cells, hgc, hb, hg, hcap, hmax, hcs, htk, hrow⟩ := acc_row h (by omega)
  obtain ⟨rfl, rfl⟩ : g = g2 ∧ cap = cap2 := by injection hgc with e1 _ e2; injection e1 with e1; injection e1 with e1; exact ⟨e1, e2⟩
  clear hgc
  rw [show rPart.size = 2 from rfl] at hcs htk
  rw [← hn] at htk
  have hle := rPart.len (hx (fun _ => True) w)
  rw [show rPart.size = 2 from rfl] at hle
  have hcl : cur.toList.length = cap * 2 := by rw [Array.length_toList]; exact hcs
  obtain ⟨hml, hl1, hl2, htk2⟩ := insPart_row (cur := cur.toList) (es := es) hi (by rw [hcl]; omega) hle
  have hmid : (cur.toList.drop (i * 2)).take ((n - i) * 2) = cells.drop (i * 2) := by
    rw [← htk, List.drop_take]; congr 1; omega
  rw [hmid] at hml hl1 hl2 htk2
  obtain ⟨hr1, hr2⟩ : rPart.row (fun b => Q b ∧ b ≠ g) w (cur.toList.take (i * 2)) (xs.take i) ∧ rPart.row (fun b => Q b ∧ b ≠ g) w (cells.drop (i * 2)) (xs.drop i) := by
    obtain ⟨c1, c2, he, ha, hb2⟩ := Rep.row_split (xs := xs.take i) (ys := xs.drop i) (by rw [List.take_append_drop]; exact hrow)
    have hla : c1.length = i * 2 := by rw [Rep.row_len ha, List.length_take, Nat.min_eq_left (by omega)]; rfl
    have hct : cur.toList.take (i * 2) = cells.take (i * 2) := by rw [← htk, List.take_take, Nat.min_eq_left (by omega)]
    rw [hct, he, ← hla, List.take_left, List.drop_left]
    exact ⟨ha, hb2⟩
  have hk : ∀ (c1 c2 : Array Value) b, (Q b ∧ b ≠ g) → IsC w b → (Q b ∧ b ≠ g) ∧ ((w.drew.setRow g c1).setRow g c2).heap[b]? = w.heap[b]? := fun c1 c2 b hq _ => ⟨hq, (rowset_other hq.2).trans (rowset_other hq.2)⟩
  have hsz : (Try.prog.info? 135).map (·.size) = some 2 := by kernel_rfl
  obtain ⟨m, hm⟩ : ∃ m, n = i + m := ⟨n - i, by omega⟩
  have hmin1 : Nat.min (n + 1 - i) (n - i) = m := by simp only [Nat.min_def]; split <;> omega
  have hmm : n - i = m := by omega
  have hcp1 := fun ty dc sc => run_copy_rows (P := Try.prog) w.drew 131 131 ty 135 2 g ((i + 1) * 2) (n - i) dc ⟨g, i * 2, none⟩ (n + 1 - i) sc cur 135 (cells.drop (i * 2)) Try.underlying131 hsz hg (by rw [hmin1, hml, hmm]) (fun j v hj => by
      rw [List.getElem?_drop, ← htk, List.getElem?_take] at hj
      split at hj
      · rw [Addr.add_lit, cell_of_row _ _ _ _ _ _ (show w.drew.heap[g]? = _ from hg), ← hj]; simp
      · cases hj) (by rw [← Array.length_toList, hml, hcl]; omega) (Rep.row_one hr2)
  obtain ⟨c1, hc1⟩ : ∃ c1, (cur.toList.take ((i + 1) * 2) ++ cells.drop (i * 2) ++ cur.toList.drop ((i + 1) * 2 + (cells.drop (i * 2)).length)).toArray = c1 := ⟨_, rfl⟩
  have hc1l : c1.toList = cur.toList.take ((i + 1) * 2) ++ cells.drop (i * 2) ++ cur.toList.drop ((i + 1) * 2 + (cells.drop (i * 2)).length) := by rw [← hc1]
  simp only [hc1] at hcp1
  simp only [← hc1l] at hl1 hl2 htk2
  have hg1 : (w.drew.setRow g c1).heap[g]? = some (.cells c1 135 (0, 0)) := setRow_heap w.drew g cur c1 _ (0, 0) hg
  have hvb1 : (w.drew.setRow g c1).heap[vb]? = some (.cells es.toArray 135 (0, 0)) := (rowset_other hne).trans hvb
  have hcp2 := fun ty dc => run_copy_rows (P := Try.prog) (w.drew.setRow g c1) 131 131 ty 135 2 g (i * 2) (n + 1 - i) dc ⟨vb, 0, none⟩ 1 1 c1 135 es Try.underlying131 hsz hg1 (by rw [hle]; simp only [Nat.min_def]; split <;> omega) (fun j v hj => by
      rw [Addr.add_lit, cell_of_row _ _ _ _ _ _ hvb1, Nat.zero_add, ← hj]; simp) (by rw [← Array.length_toList, hle, hl1, hcl]; omega) (rPart.one (hx (fun _ => True) w))
  obtain ⟨c2, hc2⟩ : ∃ c2, (c1.toList.take (i * 2) ++ es ++ c1.toList.drop (i * 2 + es.length)).toArray = c2 := ⟨_, rfl⟩
  have hc2l : c2.toList = c1.toList.take (i * 2) ++ es ++ c1.toList.drop (i * 2 + es.length) := by rw [← hc2]
  simp only [hc2] at hcp2
  simp only [← hc2l] at hl2 htk2
  have hg2 : ((w.drew.setRow g c1).setRow g c2).heap[g]? = some (.cells c2 135 (0, 0)) := setRow_heap _ g c1 c2 _ (0, 0) hg1
  have hlx : (xs.take i ++ x :: xs.drop i).length = n + 1 := by rw [List.length_append, List.length_cons, List.length_take, List.length_drop]; omega
  have HACC := Lib.hid (acc_of (r := rPart) (xs := xs.take i ++ x :: xs.drop i) (Q := Q) (cells := cur.toList.take (i * 2) ++ es ++ cells.drop (i * 2)) hb hg2 (by rw [hlx]; exact hroom) hmax (by rw [← Array.length_toList, hl2, hcl]; try rfl) (by rw [hlx]; exact htk2)
    (by rw [List.append_assoc]; exact Rep.row_append (Rep.row_keep (hk c1 c2) hr1) ⟨es, _, rfl, hx _ _, Rep.row_keep (hk c1 c2) hr2⟩))
  rw [hlx] at HACC
  have HO := Lib.hid (only_setRow (F := fun b => b = g) (cur := c2) (only_setRow (X := w) (cur := c1) (Only.drw (Only.refl _ w)) rfl) rfl)
  have hov : ∀ lb cb, (callFunc 200 #[.slice (some ⟨vb, 0, none⟩) 1 1, .slice (some ⟨g, (i + 1) * 2, none⟩) lb cb]).run Try.prog w = .ok (.value (.bool false)) w := fun lb cb => by
    rw [run_callFunc_extern Try.func200 (by kernel_rfl) (by kernel_rfl) (by kernel_rfl) (e := Extern.SlicesOverlaps.overlaps #[131, 131] #[4]) (by kernel_rfl),
      Lib.run_overlaps_apart w 131 4 135 Try.underlying131 2 (fun w => by kernel_rfl) ⟨vb, 0, none⟩ ⟨g, (i + 1) * 2, none⟩ 1 1 lb cb hne 135 135 2 cur.size (by simp [World.shape?, hvb, hle]) (by simp [World.shape?, hg]) (by omega) (by simp [World.frozen?, hvb]) (by simp [World.frozen?, hvb])]
    rfl
  have mixed : Try.prog.follows Departure.mixedOrders = true := by kernel_rfl
  have hz2 : ¬ ((i : Int) = (n : Int)) := by omega
  have hw1 : IntKind.i64.wrap ((i : Int) + 1) = (i : Int) + 1 := IntWalk.i64_in _ ⟨by omega, by unfold maxLen at hmax; omega⟩
  have hw2 : IntKind.i64.wrap ((n : Int) + 1) = (n : Int) + 1 := IntWalk.i64_in _ ⟨by omega, by unfold maxLen at hmax; omega⟩
  have hb1 : (0 : Int) ≤ (i : Int) + 1 := by omega
  have hb5 : (0 : Int) ≤ (n : Int) + 1 := by omega
  have hin : i ≤ n := by omega
  have hinI : (i : Int) ≤ n := by omega
  have htn : ((i : Int) + 1).toNat = i + 1 := by omega
  have htn2 : ((n : Int) + 1).toNat = n + 1 := by omega
  have hb2 : ¬ (cap = i + 1) := by omega
  have hb3 : (i : Int) ≤ (n : Int) + 1 := by omega
  have hb4 : ¬ (cap = i) := by omega
  have hb6 : ¬ ((cap : Int) < (n : Int) + 1) := by omega
  have hb7 : ¬ (cap < n + 1) := by omega
  have hb8 : (i : Int) + 1 ≤ (n : Int) + 1 := by omega
  clear h hb hg hcap hcs htk hrow hle hcl hml hl1 hl2 htk2 hmid hr1 hr2 hk hc1 hc1l hg1 hvb1 hc2 hc2l hg2 hlx hm hmin1 hmm hn hi hx hvb hroom hsz
  go_enter Try.func190, Try.ntmps190
  go_wp2_with (simp only [hov])
  go_region_law_o (refine step_copy_run rfl _ _ 131 131 rfl _ _ (by simp [Act.eval, Act.put]) (by simp [Act.eval, Act.put]) (hcp1 _ _ _) ?_)
  go_wp2_with (at_builtin; refine wpList_copy_run _ rfl _ _ 131 131 rfl _ _ rfl rfl (hcp2 _ _) ?_)
  go_ret
  exact ⟨rfl, HACC.out, HO.out⟩

set_option maxRecDepth 100000 in
set_option maxHeartbeats 2000000 in
/-- slices.Insert of one part: there is no room -/
theorem insPart_new {base : Nat} {Q : Nat → Prop} {w : World} {g n cap vb : Nat} {xs : List DPart} {i : Nat} {es : List Value} {x : DPart} (h : rPart.acc 135 base Q w (.slice (some ⟨g, 0, none⟩) n cap) xs) (hn : n = xs.length) (hi : i < n)
    (hvb : w.heap[vb]? = some (.cells es.toArray 135 (0, 0))) (hx : ∀ Q w, rPart.rd Q w es x) (hroom : cap < n + 1) (hsm : n ≤ 1000000) (hbase : base ≤ w.heap.size) :
    Calls Try.prog 190 #[.slice (some ⟨g, 0, none⟩) n cap, .int .i64 i, .slice (some ⟨vb, 0, none⟩) 1 1] w fun e w' => ∃ G, e = .returned (.slice (some ⟨w.heap.size, 0, none⟩) (n + 1) G) ∧ rPart.acc 135 base Q w' (.slice (some ⟨w.heap.size, 0, none⟩) (n + 1) G) (xs.take i ++ x :: xs.drop i) ∧ Below w.heap.size w w' := by
  obtain ⟨g2, cap2, cur, cells, hgc, hb, hg, hcap, hmax, hcs, htk, hrow⟩ := acc_row h (by omega)
  obtain ⟨rfl, rfl⟩ : g = g2 ∧ cap = cap2 := by injection hgc with e1 _ e2; injection e1 with e1; injection e1 with e1; exact ⟨e1, e2⟩
  clear hgc
  rw [show rPart.size = 2 from rfl] at hcs htk
  rw [← hn] at htk hcap
  have hgl : g < w.heap.size := (Array.getElem?_eq_some_iff.1 hg).1
  have hvl : vb < w.heap.size := (Array.getElem?_eq_some_iff.1 hvb).1
  have hle := rPart.len (hx (fun _ => True) w)
  rw [show rPart.size = 2 from rfl] at hle
  have hcl : cur.toList.length = cap * 2 := by rw [Array.length_toList]; exact hcs
  have hcll : cells.length = n * 2 := by rw [← htk, List.length_take, hcl]; omega
  obtain ⟨hr1, hr2⟩ : rPart.row (fun b => Q b ∧ b ≠ g) w (cells.take (i * 2)) (xs.take i) ∧ rPart.row (fun b => Q b ∧ b ≠ g) w (cells.drop (i * 2)) (xs.drop i) := by
    obtain ⟨c1, c2, he, ha, hb2⟩ := Rep.row_split (xs := xs.take i) (ys := xs.drop i) (by rw [List.take_append_drop]; exact hrow)
    have hla : c1.length = i * 2 := by rw [Rep.row_len ha, List.length_take, Nat.min_eq_left (by omega)]; rfl
    rw [he, ← hla, List.take_left, List.drop_left]
    exact ⟨ha, hb2⟩
  have hcell : ∀ (W : World) j v, W.heap[g]? = w.heap[g]? → cells[j]? = some v → W.cell? ⟨g, j, none⟩ = some v := fun W j v hw hj => by
    rw [← htk, List.getElem?_take] at hj
    split at hj
    · rw [cell_of_row _ _ _ _ _ _ (hw.trans hg), ← hj]; simp
    · cases hj
  obtain ⟨i0, hi0, hh⟩ := Option.map_eq_some_iff.1 (show (Try.prog.info? 135).map (fun i => (i.zero, i.size, i.bytes)) = some (some (.agg #[.int .i64 0, .slice none 0 0]), 2, 32) by kernel_rfl)
  simp only [Prod.mk.injEq] at hh
  obtain ⟨hz0, hzs, hzb⟩ := hh
  have hsz : (Try.prog.info? 135).map (·.size) = some 2 := by kernel_rfl
  have hik : i + (n + 1 - i) = n + 1 := by omega
  have hkk : (n : Int) + 1 - (i : Int) = ((n + 1 - i : Nat) : Int) := by omega
  have hold : (Builtin.firstCells i0.size i (.slice (some ⟨g, 0, none⟩) i cap)).run Try.prog w.drew = .ok (cells.take (i * 2)).toArray w.drew := by
    rw [hzs]
    exact run_firstCells_some w.drew 2 i ⟨g, 0, none⟩ i cap (cells.take (i * 2)) (by rw [List.length_take, hcll]; omega) (fun j v hj => by
      rw [Addr.add_lit, Nat.zero_add]
      rw [List.getElem?_take] at hj
      split at hj
      · exact hcell w.drew j v rfl hj
      · cases hj)
  have hrz : ∀ ty, (Builtin.append_ #[131, 3] ty #[.slice (some ⟨g, 0, none⟩) i cap, .int .i64 ((n : Int) + 1 - (i : Int))]).run Try.prog w =
      .ok (.slice (some ⟨w.heap.size, 0, none⟩) (n + 1) (grownCap w (n + 1) cap 135)) (w.drew.alloc (.cells ((cells.take (i * 2)).toArray ++ Builtin.zeroCells (Value.agg #[.int .i64 0, .slice none 0 0]).cells (n + 1 - i) ++ Builtin.zeroCells (Value.agg #[.int .i64 0, .slice none 0 0]).cells (grownCap w (n + 1) cap 135 - (n + 1))) 135)) := fun ty => by
    have h := Lib.run_append_grow_zeros w 131 3 ty 135 i0 _ .i64 .i64 Try.underlying131 Try.underlying3 hi0 hz0 (some ⟨g, 0, none⟩) i cap (cells.take (i * 2)) hold (n + 1 - i) (by omega) (by omega) (by omega) (by omega) (by rw [hzb]; omega) (by rw [hzb, hik]; exact growslice_fits hroom (by omega))
    rw [hik] at h
    rw [hkk]
    exact h
  have hGn : n + 1 ≤ grownCap w (n + 1) cap 135 := grownCap_ge w _ _ _
  have hGm : grownCap w (n + 1) cap 135 ≤ maxLen := grownCap_le_maxLen w _ _ _ (by unfold maxLen; omega)
  generalize grownCap w (n + 1) cap 135 = G at *
  obtain ⟨ROW, hROW⟩ : ∃ ROW : Array Value, (cells.take (i * 2)).toArray ++ Builtin.zeroCells (Value.agg #[.int .i64 0, .slice none 0 0]).cells (n + 1 - i) ++ Builtin.zeroCells (Value.agg #[.int .i64 0, .slice none 0 0]).cells (G - (n + 1)) = ROW := ⟨_, rfl⟩
  rw [hROW] at hrz
  have hzz : ∀ q, (Builtin.zeroCells (Value.agg #[.int .i64 0, .slice none 0 0]).cells q).size = q * 2 := fun q => by simp [Builtin.zeroCells, Value.cells]
  have hRs : ROW.size = G * 2 := by
    rw [← hROW, Array.size_append, Array.size_append, hzz, hzz, List.size_toArray, List.length_take, hcll]
    omega
  have hRt : ROW.toList.take (i * 2) = cells.take (i * 2) := by
    rw [← hROW, Array.toList_append, Array.toList_append, List.append_assoc]
    exact List.take_left' (by rw [List.length_take, hcll]; omega)
  have hml : (cells.drop (i * 2)).length = (n - i) * 2 := by rw [List.length_drop, hcll]; omega
  obtain ⟨hl1, hl2, htk2⟩ := insPart_grow (es := es) (mid := cells.drop (i * 2)) hi (row := ROW.toList) (by rw [Array.length_toList, hRs]; omega) hRt hle hml
  obtain ⟨r1, hr1e⟩ : ∃ r1, (ROW.toList.take (i * 2) ++ es ++ ROW.toList.drop (i * 2 + es.length)).toArray = r1 := ⟨_, rfl⟩
  have hr1l : r1.toList = ROW.toList.take (i * 2) ++ es ++ ROW.toList.drop (i * 2 + es.length) := by rw [← hr1e]
  simp only [← hr1l] at hl1 hl2 htk2
  obtain ⟨r2, hr2e⟩ : ∃ r2, (r1.toList.take ((i + 1) * 2) ++ cells.drop (i * 2) ++ r1.toList.drop ((i + 1) * 2 + (cells.drop (i * 2)).length)).toArray = r2 := ⟨_, rfl⟩
  have hr2l : r2.toList = r1.toList.take ((i + 1) * 2) ++ cells.drop (i * 2) ++ r1.toList.drop ((i + 1) * 2 + (cells.drop (i * 2)).length) := by rw [← hr2e]
  simp only [← hr2l] at hl2 htk2
  obtain ⟨W1, hW1⟩ : ∃ W1, w.drew.alloc (.cells ROW 135) = W1 := ⟨_, rfl⟩
  rw [hW1] at hrz
  have hN : W1.heap[w.heap.size]? = some (.cells ROW 135 (0, 0)) := by rw [← hW1]; exact heap_alloc_new w.drew _
  have hB1 : Below w.heap.size w W1 := by rw [← hW1]; exact ((Below.refl _ w).drew).alloc (Nat.le_refl _) _
  have hcpA := fun ty dc => run_copy_rows (P := Try.prog) W1 131 131 ty 135 2 w.heap.size (i * 2) (n + 1 - i) dc ⟨vb, 0, none⟩ 1 1 ROW 135 es Try.underlying131 hsz hN (by rw [hle]; simp only [Nat.min_def]; split <;> omega) (fun j v hj => by
      rw [Addr.add_lit, cell_of_row _ _ _ _ _ _ ((hB1.block vb hvl).trans hvb), Nat.zero_add, ← hj]; simp) (by rw [hle, hRs]; omega) (rPart.one (hx (fun _ => True) w))
  simp only [hr1e] at hcpA
  have hN2 : (W1.setRow w.heap.size r1).drew.heap[w.heap.size]? = some (.cells r1 135 (0, 0)) := setRow_heap W1 w.heap.size ROW r1 _ (0, 0) hN
  have hoth : ∀ r b, b < w.heap.size → (W1.setRow w.heap.size r).heap[b]? = w.heap[b]? := fun r b hlb => (rowset_other (by omega)).trans (hB1.block b hlb)
  have hcpB := fun ty dc sc => run_copy_rows (P := Try.prog) (W1.setRow w.heap.size r1).drew 131 131 ty 135 2 w.heap.size ((i + 1) * 2) (n - i) dc ⟨g, i * 2, none⟩ (n - i) sc r1 135 (cells.drop (i * 2)) Try.underlying131 hsz hN2 (by rw [hml]; simp) (fun j v hj => by
      rw [List.getElem?_drop] at hj
      rw [Addr.add_lit]
      exact hcell _ _ v (hoth r1 g hgl) hj) (by rw [← Array.length_toList, hml, hl1, Array.length_toList, hRs]; omega) (Rep.row_one hr2)
  simp only [hr2e] at hcpB
  have hN3 : ((W1.setRow w.heap.size r1).drew.setRow w.heap.size r2).heap[w.heap.size]? = some (.cells r2 135 (0, 0)) := setRow_heap _ w.heap.size r1 r2 _ (0, 0) hN2
  have hlx : (xs.take i ++ x :: xs.drop i).length = n + 1 := by rw [List.length_append, List.length_cons, List.length_take, List.length_drop]; omega
  have hk : ∀ b, (Q b ∧ b ≠ g) → IsC w b → (Q b ∧ b ≠ w.heap.size) ∧ ((W1.setRow w.heap.size r1).drew.setRow w.heap.size r2).heap[b]? = w.heap[b]? := fun b hq hl => ⟨⟨hq.1, by have := hl.lt; omega⟩, (rowset_other (by have := hl.lt; omega)).trans (hoth r1 b hl.lt)⟩
  have HACC := Lib.hid (acc_of (r := rPart) (base := base) (xs := xs.take i ++ x :: xs.drop i) (Q := Q) (cells := cells.take (i * 2) ++ es ++ cells.drop (i * 2)) hbase hN3 (by rw [hlx]; exact hGn) hGm (by rw [← Array.length_toList, hl2, Array.length_toList, hRs]; try rfl) (by rw [hlx]; exact htk2)
    (by rw [List.append_assoc]; exact Rep.row_append (Rep.row_keep hk hr1) ⟨es, _, rfl, hx _ _, Rep.row_keep hk hr2⟩))
  rw [hlx] at HACC
  have HO := Lib.hid (show Below w.heap.size w ((W1.setRow w.heap.size r1).drew.setRow w.heap.size r2) from ⟨hB1.os, hB1.tape, hB1.output, by rw [rowset_size]; show _ ≤ (W1.setRow w.heap.size r1).heap.size; rw [rowset_size]; exact hB1.size, fun b hlb => (rowset_other (by omega)).trans (hoth r1 b hlb)⟩)
  have mixed : Try.prog.follows Departure.mixedOrders = true := by kernel_rfl
  have hz2 : ¬ ((i : Int) = (n : Int)) := by omega
  have hw1 : IntKind.i64.wrap ((i : Int) + 1) = (i : Int) + 1 := IntWalk.i64_in _ ⟨by omega, by omega⟩
  have hw2 : IntKind.i64.wrap ((n : Int) + 1) = (n : Int) + 1 := IntWalk.i64_in _ ⟨by omega, by omega⟩
  have hw3 : IntKind.i64.wrap ((n : Int) + 1 - i) = (n : Int) + 1 - i := IntWalk.i64_in _ ⟨by omega, by omega⟩
  have hb1 : (0 : Int) ≤ (i : Int) + 1 := by omega
  have hin : i ≤ n := by omega
  have hinI : (i : Int) ≤ n := by omega
  have htn : ((i : Int) + 1).toNat = i + 1 := by omega
  have hb2 : ¬ (G = i + 1) := by omega
  have hb3 : (i : Int) ≤ (n : Int) + 1 := by omega
  have hb4 : ¬ (cap = i) := by omega
  have hb5 : ¬ (G = i) := by omega
  have hb6 : (cap : Int) < (n : Int) + 1 := by omega
  have hb7 : ¬ (cap < i) := by omega
  have hb8 : (i : Int) + 1 ≤ (n : Int) + 1 := by omega
  have hG63 : (G : Int) ≤ 9223372036854775807 := by unfold maxLen at hGm; omega
  clear h hb hg hcap hcs htk hrow hle hcl hcll hml hl1 hl2 htk2 hr1 hr2 hk hr1e hr1l hr2e hr2l hN hN2 hN3 hB1 hoth hlx hn hi hx hvb hroom hsz hgl hvl hcell hi0 hz0 hzs hzb hik hkk hold hROW hzz hRs hRt hW1
  go_enter Try.func190, Try.ntmps190
  go_wp2_with (first
    | (at_builtin; refine Lib.wpList_append_run _ rfl _ _ _ _ rfl _ _ rfl rfl _ _ (hrz _) ?_)
    | (at_builtin; refine wpList_copy_run _ rfl _ _ 131 131 rfl _ _ rfl rfl (hcpA _ _) ?_))
  go_region_law_o (refine step_copy_run rfl _ _ 131 131 rfl _ _ (by simp [Act.eval, Act.put]) (by simp [Act.eval, Act.put]) (hcpB _ _ _) ?_)
  go_wp2
  go_ret
  exact ⟨G, rfl, HACC.out, HO.out⟩

set_option maxRecDepth 100000 in
set_option maxHeartbeats 2000000 in
/-- slices.Insert of one part: into a slice of the call's own -/
theorem insPart_calls {base : Nat} {Q : Nat → Prop} {w : World} {v : Value} {vb : Nat} {xs : List DPart} {i : Nat} {es : List Value} {x : DPart} (h : rPart.acc 135 base Q w v xs) (hi : i ≤ xs.length)
    (hvb : w.heap[vb]? = some (.cells es.toArray 135 (0, 0))) (hne : v.ownBlock ≠ some vb) (hx : ∀ Q w, rPart.rd Q w es x) (hsm : xs.length ≤ 1000000) (hbase : base ≤ w.heap.size) :
    Calls Try.prog 190 #[v, .int .i64 i, .slice (some ⟨vb, 0, none⟩) 1 1] w fun e w' => ∃ v', e = .returned v' ∧ (v'.ownBlock = v.ownBlock ∨ v'.ownBlock = some w.heap.size) ∧ rPart.acc 135 base Q w' v' (xs.take i ++ x :: xs.drop i) ∧ Only (fun b => v.ownBlock = some b) w w' := by
  by_cases hlt : i < xs.length
  · obtain ⟨g, cap, cur, cells, rfl, hb, hg, hcap, hmax, hcs, htk, hrow⟩ := acc_row h (by omega)
    by_cases hr : xs.length + 1 ≤ cap
    · refine Calls.mono (insPart_room h rfl hlt hvb (fun e => hne (by rw [e]; rfl)) hx hr) ?_
      rintro e w' ⟨rfl, h1, h2⟩
      exact ⟨_, rfl, .inl rfl, h1, Only.wid h2 fun b hb => by rw [hb]; rfl⟩
    · refine Calls.mono (insPart_new h rfl hlt hvb hx (by omega) hsm hbase) ?_
      rintro e w' ⟨G, rfl, h1, h2⟩
      exact ⟨_, rfl, .inr rfl, h1, Only.of_below h2⟩
  · obtain ⟨n, hn⟩ : ∃ n, xs.length = n := ⟨_, rfl⟩
    obtain rfl : i = n := by omega
    have hle := rPart.len (hx (fun _ => True) w)
    obtain ⟨v', w', q1, q2, q3, q4⟩ := Rep.acc_more (P := Try.prog) (ty := 131) (t := 131) (z := .agg #[.int .i64 0, .slice none 0 0]) (size := 2) (bytes := 32) (m := 1) (c := 1) (A := some ⟨vb, 0, none⟩) (ys := [x]) (es := es) Try.underlying131 (by kernel_rfl) (by kernel_rfl) (by decide) rfl h rfl ⟨es, [], by simp, hx _ _, rfl⟩ (fun _ => ⟨vb, 0, rfl, fun j u hj => by rw [cell_of_row _ _ _ _ _ _ hvb, Nat.zero_add, ← hj]; simp⟩) (by rw [hn]; unfold maxLen; simp; omega) (by rw [hn]; simp; omega) hbase
    have HR := Lib.hid (show rPart.acc 135 base Q w' v' (xs.take i ++ x :: xs.drop i) by rw [List.take_of_length_le (by omega), List.drop_of_length_le (by omega)]; exact q2)
    have HO := Lib.hid (show Only (fun b => v.ownBlock = some b) w w' from ⟨q3.os, q3.tape, q3.output, q3.size, fun b hl hf => q3.block b hl fun e => hf e.symm⟩)
    have HQ := Lib.hid q4
    obtain ⟨A, cap, rfl, hcap, hmax⟩ : ∃ A cap, v = .slice A i cap ∧ i ≤ cap ∧ cap ≤ maxLen := by
      obtain ⟨cells, h1, _⟩ := h
      rcases h1.2 with ⟨rfl, h0⟩ | ⟨g, cap, cur, rfl, _, _, h3, h4, _⟩
      · exact ⟨none, 0, by rw [← hn, h0], by omega, by unfold maxLen; omega⟩
      · exact ⟨_, cap, by rw [hn], by omega, h4⟩
    have hinI : (i : Int) ≤ cap := by omega
    clear h hi hvb hne hx hsm hbase hlt hn hle q2 q3 q4
    go_enter Try.func190, Try.ntmps190
    go_wp2_with (at_builtin; refine Lib.wpList_append_run _ rfl _ _ _ _ rfl _ _ rfl rfl _ _ q1 ?_)
    all_goals (try (have hce : cap = i := by assumption); try subst hce)
    all_goals (go_ret; exact ⟨_, rfl, HQ.out, HR.out, HO.out⟩)
end Go.Proofs.Yteljibjbndpncaa
