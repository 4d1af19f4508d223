/- Walk of ref37.add. Printed by gen_radd.py. -/
import Derived.Test.YtfpmkenobphfnaaWeNames
import Derived.Test.YtfpmkenobphfnaaWeRWatch
namespace Go.Proofs.Ytfpmkenobphfnaa
open Go.RowKit

theorem rID_leaf : rID.Leaf := Rep.leaf_iso _ (Rep.leaf_pair (Rep.leaf_int _) (Rep.leaf_int _))
/-- A sorted list with a name put in. -/
def AddPost (Q : Nat → Prop) (w : World) (l : List DID) (id : DID) (e : Ending) (w' : World) : Prop :=
  ∃ u l', e = .returned u ∧ rID.list.val (fun b => Q b ∨ w.heap.size ≤ b) w' u l' ∧ l' ≠ [] ∧ l'.Pairwise idLt ∧ (∀ x, x ∈ l' ↔ x ∈ l ∨ x = id) ∧ l'.length ≤ l.length + 1 ∧ Below w.heap.size w w'
theorem add_math {l : List DID} {id : DID} {k : Nat} (hs : l.Pairwise idLt) (hk : k ≤ l.length) (h1 : ∀ (j : Nat) (y : DID), k ≤ j → l[j]? = some y → idLt id y) (h2 : ∀ y, l[k - 1]? = some y → 0 < k → idLt y id) :
    (l.take k ++ [id] ++ l.drop k).Pairwise idLt ∧ (∀ x, x ∈ l.take k ++ [id] ++ l.drop k ↔ x ∈ l ∨ x = id) ∧ (l.take k ++ [id] ++ l.drop k).length ≤ l.length + 1 ∧ l.take k ++ [id] ++ l.drop k ≠ [] := by
  have ht : ∀ x ∈ l.take k, idLt x id := fun x hx => by
    obtain ⟨j, hj, rfl⟩ := List.mem_take_iff_getElem.1 hx
    have hj : j < k := by omega
    have hy : l[k - 1]? = some l[k - 1] := List.getElem?_eq_getElem (by omega)
    by_cases e : j = k - 1
    · subst e; exact h2 _ hy (by omega)
    · exact idLt_trans (List.pairwise_iff_getElem.1 hs j (k - 1) (by omega) (by omega) (by omega)) (h2 _ hy (by omega))
  have hd : ∀ x ∈ l.drop k, idLt id x := fun x hx => by
    obtain ⟨j, hj, rfl⟩ := List.getElem_of_mem hx
    rw [List.getElem_drop]
    exact h1 (k + j) _ (by omega) (List.getElem?_eq_getElem _)
  refine ⟨?_, fun x => ?_, by simp; omega, by simp⟩
  · rw [List.pairwise_append, List.pairwise_append]
    refine ⟨⟨hs.sublist (List.take_sublist _ _), List.pairwise_singleton _ _, fun x hx y hy => by obtain rfl := List.mem_singleton.1 hy; exact ht x hx⟩, hs.sublist (List.drop_sublist _ _), fun x hx y hy => ?_⟩
    rcases List.mem_append.1 hx with hx | hx
    · exact idLt_trans (ht x hx) (hd y hy)
    · obtain rfl := List.mem_singleton.1 hx; exact hd y hy
  · have he : x ∈ l ↔ x ∈ l.take k ∨ x ∈ l.drop k := by
      rw [← List.mem_append, List.take_append_drop]
    rw [he]
    simp only [List.mem_append, List.mem_singleton]
    constructor
    · rintro ((h | h) | h)
      · exact .inl (.inl h)
      · exact .inr h
      · exact .inl (.inr h)
    · rintro ((h | h) | h)
      · exact .inl (.inl h)
      · exact .inr h
      · exact .inl (.inr h)

set_option maxRecDepth 100000 in
set_option maxHeartbeats 2000000 in
/-- ref37.add, at some names -/
theorem radd_some {Q : Nat → Prop} {w : World} {b off c : Nat} {l : List DID} {id : DID} (hat : rID.At Q w (some ⟨b, off, none⟩) l) (hc1 : l.length ≤ c) (hc2 : c ≤ maxLen) (hs : l.Pairwise idLt) (hwf : IDwf id) (hl : l.length ≤ 1000000000) :
    Calls Try.prog 142 #[.slice (some ⟨b, off, none⟩) l.length c, .agg #[.int .i64 id.index, .int .i64 id.gen]] w (AddPost Q w l id) := by
  have HAT := Lib.hid hat
  have HC := Lib.hid (And.intro hc1 hc2)
  have HS := Lib.hid hs
  have HWF := Lib.hid hwf
  have HL := Lib.hid hl
  obtain ⟨W1, hW1⟩ : ∃ W1, w.alloc (.cells #[.int .i64 id.index, .int .i64 id.gen] 175) = W1 := ⟨_, rfl⟩
  have hb1 : Below w.heap.size w W1 := by rw [← hW1]; exact (Below.refl _ _).alloc (Nat.le_refl _) _
  have hz1 : W1.heap.size = w.heap.size + 1 := by rw [← hW1]; simp
  have hr0 : W1.heap[w.heap.size]? = some (.cells #[.int .i64 id.index, .int .i64 id.gen] 175 (0, 0)) := by rw [← hW1]; exact heap_alloc_new _ _
  have KI := Lib.hid (show ∀ W, Below W1.heap.size W1 W → W.cell? ⟨w.heap.size, 0, none⟩ = some (.int .i64 id.index) ∧ W.cell? ⟨w.heap.size, 1, none⟩ = some (.int .i64 id.gen) from fun W h => by
    have e := (h.block _ (by omega)).trans hr0
    exact ⟨cell_row e 0, cell_row e 1⟩)
  have FIN := Lib.hid (show ∀ W, Below W1.heap.size W1 W → Below w.heap.size w W from fun W h => hb1.trans (h.mono hb1.size))
  have KL := Lib.hid (show ∀ W, Below W1.heap.size W1 W → rID.At Q W (some ⟨b, off, none⟩) l from fun W h => Rep.At.below HAT.out (FIN.out W h) (fun _ _ h => h.lt))
  have HZ := Lib.hid hz1
  obtain ⟨n, hn⟩ : ∃ n, l.length = n := ⟨_, rfl⟩
  have HN := Lib.hid hn
  rw [hn] at hc1 hl ⊢
  unfold maxLen at hc2
  clear hat hs hwf hb1 hz1 hr0 hn
  go_enter Try.func142, Try.ntmps142
  go_wp2_with fail
  try rw [hW1]
  clear hW1
  try go_wp2_with fail
  go_loopw [5] (fun i wr => ∃ k : Nat, i = .int .i64 k ∧ k ≤ n ∧ Hid (∀ (j : Nat) (y : DID), k ≤ j → l[j]? = some y → idLt id y) ∧ Hid (Below W1.heap.size W1 wr)) (fun i _ => (intOf i).toNat)
  case atStart => exact ⟨n, rfl, Nat.le_refl _, Lib.hid (fun j y hj hy => by have := (List.getElem?_eq_some_iff.1 hy).1; have := HN.out; omega), Lib.hid (Below.refl _ _)⟩
  case round =>
    obtain ⟨k, rfl, hk, HGE, HBW⟩ := hrel
    by_cases hk0 : (0 : Int) < k
    · obtain ⟨m, hm⟩ : ∃ m : Nat, (m : Int) = (k : Int) - 1 := ⟨k - 1, by omega⟩
      have hwm : IntKind.i64.wrap ((k : Int) - 1) = (m : Int) := by rw [hm]; exact IntWalk.i64_in _ ⟨by omega, by omega⟩
      have hm0 : (0 : Int) ≤ (m : Int) := by omega
      have hml : (m : Int) < n := by omega
      have HM := Lib.hid hm
      obtain ⟨x, hx⟩ : ∃ x, l[m]? = some x := ⟨_, List.getElem?_eq_getElem (by have := HN.out; omega)⟩
      have HX := Lib.hid hx
      have KC := Lib.hid (show ∀ W, Below wr.heap.size wr W → W.cell? ⟨b, off + m * 2, none⟩ = some (.int .i64 x.index) ∧ W.cell? ⟨b, off + m * 2 + 1, none⟩ = some (.int .i64 x.gen) ∧ W.cell? ⟨w.heap.size, 0, none⟩ = some (.int .i64 id.index) ∧ W.cell? ⟨w.heap.size, 1, none⟩ = some (.int .i64 id.gen) from fun W h => by
        have hW := HBW.out.trans (h.mono HBW.out.size)
        obtain ⟨b', off', hA, _, e0, e1, _, _⟩ := rID_at (KL.out W hW) HX.out
        cases hA
        obtain ⟨z0, z1⟩ := KI.out W hW
        exact ⟨e0, e1, z0, z1⟩)
      clear hx hm
      by_cases hlt : idLt x id
      · have HLT := Lib.hid (show decide (idLt x id) = true from decide_eq_true hlt)
        have HLX := Lib.hid hlt
        clear hlt
        go_wp2_with fail
        refine wp_region_held_drew (S := fun W => Below wr.heap.size wr W) (by kernel_rfl) (Below.refl _ _).drew (fun s0 => ?_)
        refine wpAnyH_take (i := 0) (v := .int .i64 k) rfl (by kernel_rfl) (by kernel_rfl) (by kernel_rfl) (fun _ _ _ h => h) (Or.inl ⟨by rfl, fun w' _ => by go_simp <;> omega⟩) s0 ?_
        go_simp
        refine wpAnyH_take (i := 1) (v := .bool true) rfl (by kernel_rfl) (by kernel_rfl) (by kernel_rfl) (fun _ _ _ h => h) (Or.inl ⟨by rfl, fun w' _ => by go_simp <;> omega⟩) s0 ?_
        go_simp
        refine wpAnyH_take (i := 2) (v := .bool true) rfl (by kernel_rfl) (by kernel_rfl) (by kernel_rfl) (fun _ _ _ h => h) (Or.inl ⟨by rfl, fun w' _ => by go_simp <;> omega⟩) s0 ?_
        go_simp
        refine wpAnyH_take (i := 3) (v := .slice (some ⟨b, off, none⟩) n c) rfl (by kernel_rfl) (by kernel_rfl) (by kernel_rfl) (fun _ _ _ h => h) (Or.inl ⟨by rfl, fun w' _ => by go_simp <;> omega⟩) s0 ?_
        go_simp
        refine wpAnyH_take (i := 4) (v := .int .i64 k) rfl (by kernel_rfl) (by kernel_rfl) (by kernel_rfl) (fun _ _ _ h => h) (Or.inl ⟨by rfl, fun w' _ => by go_simp <;> omega⟩) s0 ?_
        go_simp
        refine wpAnyH_take (i := 5) (v := .int .i64 m) rfl (by kernel_rfl) (by kernel_rfl) (by kernel_rfl) (fun _ _ _ h => h) (Or.inl ⟨by rfl, fun w' _ => by go_simp <;> omega⟩) s0 ?_
        go_simp
        refine wpAnyH_take (i := 6) (v := .pointer (some ⟨b, off + m * 2, none⟩)) rfl (by kernel_rfl) (by kernel_rfl) (by kernel_rfl) (fun _ _ _ h => h) (Or.inl ⟨by rfl, fun w' _ => by go_simp <;> omega⟩) s0 ?_
        go_simp
        refine wpAnyH_take (i := 7) (v := .agg #[.int .i64 x.index, .int .i64 x.gen]) rfl (by kernel_rfl) (by kernel_rfl) (by kernel_rfl) (fun _ _ _ h => h) (Or.inl ⟨by rfl, fun w' h => by obtain ⟨z0, z1, z2, z3⟩ := KC.out w' h; go_simp⟩) s0 ?_
        go_simp
        refine wpAnyH_take (i := 8) (v := .agg #[.int .i64 id.index, .int .i64 id.gen]) rfl (by kernel_rfl) (by kernel_rfl) (by kernel_rfl) (fun _ _ _ h => h) (Or.inl ⟨by rfl, fun w' h => by obtain ⟨z0, z1, z2, z3⟩ := KC.out w' h; go_simp⟩) s0 ?_
        go_simp
        refine wpAnyH_all (rs := [9]) (by kernel_rfl) (by simp) ?_
        intro i hi
        obtain rfl : i = 9 := by simpa using hi
        clear hi
        refine wpOp_step rfl (fun K hK => ?_)
        go_simp
        refine (before_calls _ _ _).mono ?_
        rintro en w7 ⟨rfl, hb7⟩
        rw [HLT.out]
        have s1 : Below wr.heap.size wr w7 := s0.trans (hb7.mono s0.size)
        clear hb7
        refine hK _ _ ⟨s1, ?_⟩
        clear hK K
        refine wpAnyH_take (i := 10) (v := .bool false) rfl (by kernel_rfl) (by kernel_rfl) (by kernel_rfl) (fun _ _ _ h => h) (Or.inl ⟨by rfl, fun w' _ => by go_simp <;> omega⟩) s1 ?_
        go_simp
        refine wpAnyH_take (i := 11) (v := .bool false) rfl (by kernel_rfl) (by kernel_rfl) (by kernel_rfl) (fun _ _ _ h => h) (Or.inl ⟨by rfl, fun w' _ => by go_simp <;> omega⟩) s1 ?_
        go_simp
        refine wpAnyH_done (by kernel_rfl) ?_ _
        have HBX := Lib.hid (HBW.out.trans (s1.mono HBW.out.size))
        have H2 := Lib.hid (show ∀ y, l[k - 1]? = some y → 0 < k → idLt y id from fun y hy _ => by
          have h1 := HX.out
          rw [show m = k - 1 by have := HM.out; omega, hy] at h1
          rw [Option.some.inj h1]; exact HLX.out)
        clear hwm hm0 hml s0 s1 HM HX HLT HLX
        generalize w7 = WX at *
        by_cases hck : c = k
        · obtain rfl : k = c := hck.symm
          obtain rfl : k = n := by omega
          clear hck
          obtain ⟨q, hq⟩ : ∃ q, l.take k = q := ⟨_, rfl⟩
          obtain ⟨r, hr⟩ : ∃ r, l.drop k = r := ⟨_, rfl⟩
          have HADD := Lib.hid (add_math HS.out (by rw [HN.out]; exact hk) HGE.out H2.out)
          rw [hq, hr] at HADD
          have hql : q.length = k := by rw [← hq, List.length_take]; have := HN.out; omega
          have hrl : r.length = k - k := by rw [← hr, List.length_drop]; have := HN.out; omega
          have KQ := Lib.hid (show ∀ W, Below W1.heap.size W1 W → rID.list.val Q W (.slice (some ⟨b, off, none⟩) k k) q from fun W h => Rep.list_val hql.symm (by omega) HC.out.2 (by rw [← hq]; exact (KL.out W h).take k))
          have KR := Lib.hid (show ∀ W, Below W1.heap.size W1 W → rID.list.val Q W (.slice (some ⟨b, off, none⟩) 0 0) r from fun W h => Rep.list_val (by omega) (Nat.zero_le _) (Nat.zero_le _) ⟨[], by rw [show r = [] from List.eq_nil_of_length_eq_zero (by omega)]; rfl, fun h => by omega⟩)
          have L1 := Lib.hid (show ([] : List DID).length + q.length ≤ maxLen ∧ (([] : List DID).length + q.length) * 16 ≤ 140737488355328 by unfold maxLen; simp only [List.length_nil]; omega)
          have L2 := Lib.hid (show q.length + 1 ≤ maxLen ∧ (q.length + 1) * 16 ≤ 140737488355328 by unfold maxLen; omega)
          have L3 := Lib.hid (show (q ++ [id]).length + r.length ≤ maxLen ∧ ((q ++ [id]).length + r.length) * 16 ≤ 140737488355328 by unfold maxLen; rw [List.length_append, List.length_singleton]; omega)
          obtain ⟨W5, hW5⟩ : ∃ W5, WX.alloc (.cells #[] 175) = W5 := ⟨_, rfl⟩
          have HA5 := Lib.hid (show rID.acc 175 W1.heap.size (fun _ => False) W5 (.slice (some ⟨WX.heap.size, 0, none⟩) 0 0) [] by rw [← hW5]; exact Rep.acc_made WX #[] 0 HBX.out.size (by simp [maxLen]) (by simp))
          have HB5 := Lib.hid (show Below W1.heap.size W1 W5 by rw [← hW5]; exact HBX.out.alloc HBX.out.size _)
          have HX5 := Lib.hid (KQ.out W5 HB5.out)
          clear hq hr hql hrl
          go_wp2_with (first
            | (refine wpList_spread_leaf (e := 175) (base := W1.heap.size) (Q := fun _ => False) rID_leaf rfl _ _ 206 rfl (.agg #[.int .i64 0, .int .i64 0]) 2 16 Try.underlying206 infoID rfl (by decide) rfl _ [] (by exact rfl) HA5.out _ q (by exact rfl) HX5.out L1.out.1 L1.out.2 HB5.out.size ?_; intro v6 w6 hacc6 hgr6 hat6; rw [List.nil_append] at hacc6; have HA6 := Lib.hid hacc6; have HB6 := Lib.hid (Rep.acc_below HA5.out HB5.out hgr6 HB5.out.size); clear hacc6 hgr6 hat6; obtain ⟨z0, z1⟩ := KI.out w6 HB6.out)
            | (refine wpList_snoc (e := 175) (base := W1.heap.size) (Q := fun _ => False) (r := rID) rfl rfl _ _ 206 _ rfl rfl rfl (.agg #[.int .i64 0, .int .i64 0]) 2 16 Try.underlying206 infoID rfl (by decide) rfl _ q HA6.out id _ (by exact rfl) (rID_agg HWF.out.1 HWF.out.2) (by exact rfl) (by exact rfl) L2.out.1 L2.out.2 HB6.out.size ?_; intro v7 w8 hacc7 hgr7 hat7; have HA7 := Lib.hid hacc7; have HB7 := Lib.hid (Rep.acc_below HA6.out HB6.out hgr7 HB6.out.size); clear hacc7 hgr7 hat7; have HX7 := Lib.hid (KR.out w8 HB7.out))
            | (refine wpList_spread_leaf (e := 175) (base := W1.heap.size) (Q := fun _ => False) rID_leaf rfl _ _ 206 rfl (.agg #[.int .i64 0, .int .i64 0]) 2 16 Try.underlying206 infoID rfl (by decide) rfl _ (q ++ [id]) (by exact rfl) HA7.out _ r (by exact rfl) HX7.out L3.out.1 L3.out.2 HB7.out.size ?_; intro v9 w9 hacc9 hgr9 hat9; have HA9 := Lib.hid hacc9; have HB9 := Lib.hid (Rep.acc_below HA7.out HB7.out hgr9 HB7.out.size); clear hacc9 hgr9 hat9))
          go_ret
          exact ⟨_, q ++ [id] ++ r, rfl, Rep.val_mono (fun b hb _ => .inr (Nat.le_trans (by have := HZ.out; omega) hb)) (Rep.acc_fresh HA9.out), HADD.out.2.2.2, HADD.out.1, HADD.out.2.1, HADD.out.2.2.1, FIN.out _ HB9.out⟩
        · skip
          obtain ⟨q, hq⟩ : ∃ q, l.take k = q := ⟨_, rfl⟩
          obtain ⟨r, hr⟩ : ∃ r, l.drop k = r := ⟨_, rfl⟩
          have HADD := Lib.hid (add_math HS.out (by rw [HN.out]; exact hk) HGE.out H2.out)
          rw [hq, hr] at HADD
          have hql : q.length = k := by rw [← hq, List.length_take]; have := HN.out; omega
          have hrl : r.length = n - k := by rw [← hr, List.length_drop]; have := HN.out; omega
          have KQ := Lib.hid (show ∀ W, Below W1.heap.size W1 W → rID.list.val Q W (.slice (some ⟨b, off, none⟩) k c) q from fun W h => Rep.list_val hql.symm (by omega) HC.out.2 (by rw [← hq]; exact (KL.out W h).take k))
          have KR := Lib.hid (show ∀ W, Below W1.heap.size W1 W → rID.list.val Q W (.slice (some ⟨b, off + k * 2, none⟩) (n - k) (c - k)) r from fun W h => Rep.list_val hrl.symm (by omega) (Nat.le_trans (Nat.sub_le _ _) HC.out.2) (by rw [← hr]; exact (KL.out W h).drop (by rw [HN.out]; exact hk)))
          have L1 := Lib.hid (show ([] : List DID).length + q.length ≤ maxLen ∧ (([] : List DID).length + q.length) * 16 ≤ 140737488355328 by unfold maxLen; simp only [List.length_nil]; omega)
          have L2 := Lib.hid (show q.length + 1 ≤ maxLen ∧ (q.length + 1) * 16 ≤ 140737488355328 by unfold maxLen; omega)
          have L3 := Lib.hid (show (q ++ [id]).length + r.length ≤ maxLen ∧ ((q ++ [id]).length + r.length) * 16 ≤ 140737488355328 by unfold maxLen; rw [List.length_append, List.length_singleton]; omega)
          obtain ⟨W5, hW5⟩ : ∃ W5, WX.alloc (.cells #[] 175) = W5 := ⟨_, rfl⟩
          have HA5 := Lib.hid (show rID.acc 175 W1.heap.size (fun _ => False) W5 (.slice (some ⟨WX.heap.size, 0, none⟩) 0 0) [] by rw [← hW5]; exact Rep.acc_made WX #[] 0 HBX.out.size (by simp [maxLen]) (by simp))
          have HB5 := Lib.hid (show Below W1.heap.size W1 W5 by rw [← hW5]; exact HBX.out.alloc HBX.out.size _)
          have HX5 := Lib.hid (KQ.out W5 HB5.out)
          clear hq hr hql hrl
          go_wp2_with (first
            | (refine wpList_spread_leaf (e := 175) (base := W1.heap.size) (Q := fun _ => False) rID_leaf rfl _ _ 206 rfl (.agg #[.int .i64 0, .int .i64 0]) 2 16 Try.underlying206 infoID rfl (by decide) rfl _ [] (by exact rfl) HA5.out _ q (by exact rfl) HX5.out L1.out.1 L1.out.2 HB5.out.size ?_; intro v6 w6 hacc6 hgr6 hat6; rw [List.nil_append] at hacc6; have HA6 := Lib.hid hacc6; have HB6 := Lib.hid (Rep.acc_below HA5.out HB5.out hgr6 HB5.out.size); clear hacc6 hgr6 hat6; obtain ⟨z0, z1⟩ := KI.out w6 HB6.out)
            | (refine wpList_snoc (e := 175) (base := W1.heap.size) (Q := fun _ => False) (r := rID) rfl rfl _ _ 206 _ rfl rfl rfl (.agg #[.int .i64 0, .int .i64 0]) 2 16 Try.underlying206 infoID rfl (by decide) rfl _ q HA6.out id _ (by exact rfl) (rID_agg HWF.out.1 HWF.out.2) (by exact rfl) (by exact rfl) L2.out.1 L2.out.2 HB6.out.size ?_; intro v7 w8 hacc7 hgr7 hat7; have HA7 := Lib.hid hacc7; have HB7 := Lib.hid (Rep.acc_below HA6.out HB6.out hgr7 HB6.out.size); clear hacc7 hgr7 hat7; have HX7 := Lib.hid (KR.out w8 HB7.out))
            | (refine wpList_spread_leaf (e := 175) (base := W1.heap.size) (Q := fun _ => False) rID_leaf rfl _ _ 206 rfl (.agg #[.int .i64 0, .int .i64 0]) 2 16 Try.underlying206 infoID rfl (by decide) rfl _ (q ++ [id]) (by exact rfl) HA7.out _ r (by exact rfl) HX7.out L3.out.1 L3.out.2 HB7.out.size ?_; intro v9 w9 hacc9 hgr9 hat9; have HA9 := Lib.hid hacc9; have HB9 := Lib.hid (Rep.acc_below HA7.out HB7.out hgr9 HB7.out.size); clear hacc9 hgr9 hat9))
          go_ret
          exact ⟨_, q ++ [id] ++ r, rfl, Rep.val_mono (fun b hb _ => .inr (Nat.le_trans (by have := HZ.out; omega) hb)) (Rep.acc_fresh HA9.out), HADD.out.2.2.2, HADD.out.1, HADD.out.2.1, HADD.out.2.2.1, FIN.out _ HB9.out⟩
      · have HLT := Lib.hid (show decide (idLt x id) = false from decide_eq_false hlt)
        have HLX := Lib.hid hlt
        clear hlt
        go_wp2_with fail
        refine wp_region_held_drew (S := fun W => Below wr.heap.size wr W) (by kernel_rfl) (Below.refl _ _).drew (fun s0 => ?_)
        refine wpAnyH_take (i := 0) (v := .int .i64 k) rfl (by kernel_rfl) (by kernel_rfl) (by kernel_rfl) (fun _ _ _ h => h) (Or.inl ⟨by rfl, fun w' _ => by go_simp <;> omega⟩) s0 ?_
        go_simp
        refine wpAnyH_take (i := 1) (v := .bool true) rfl (by kernel_rfl) (by kernel_rfl) (by kernel_rfl) (fun _ _ _ h => h) (Or.inl ⟨by rfl, fun w' _ => by go_simp <;> omega⟩) s0 ?_
        go_simp
        refine wpAnyH_take (i := 2) (v := .bool true) rfl (by kernel_rfl) (by kernel_rfl) (by kernel_rfl) (fun _ _ _ h => h) (Or.inl ⟨by rfl, fun w' _ => by go_simp <;> omega⟩) s0 ?_
        go_simp
        refine wpAnyH_take (i := 3) (v := .slice (some ⟨b, off, none⟩) n c) rfl (by kernel_rfl) (by kernel_rfl) (by kernel_rfl) (fun _ _ _ h => h) (Or.inl ⟨by rfl, fun w' _ => by go_simp <;> omega⟩) s0 ?_
        go_simp
        refine wpAnyH_take (i := 4) (v := .int .i64 k) rfl (by kernel_rfl) (by kernel_rfl) (by kernel_rfl) (fun _ _ _ h => h) (Or.inl ⟨by rfl, fun w' _ => by go_simp <;> omega⟩) s0 ?_
        go_simp
        refine wpAnyH_take (i := 5) (v := .int .i64 m) rfl (by kernel_rfl) (by kernel_rfl) (by kernel_rfl) (fun _ _ _ h => h) (Or.inl ⟨by rfl, fun w' _ => by go_simp <;> omega⟩) s0 ?_
        go_simp
        refine wpAnyH_take (i := 6) (v := .pointer (some ⟨b, off + m * 2, none⟩)) rfl (by kernel_rfl) (by kernel_rfl) (by kernel_rfl) (fun _ _ _ h => h) (Or.inl ⟨by rfl, fun w' _ => by go_simp <;> omega⟩) s0 ?_
        go_simp
        refine wpAnyH_take (i := 7) (v := .agg #[.int .i64 x.index, .int .i64 x.gen]) rfl (by kernel_rfl) (by kernel_rfl) (by kernel_rfl) (fun _ _ _ h => h) (Or.inl ⟨by rfl, fun w' h => by obtain ⟨z0, z1, z2, z3⟩ := KC.out w' h; go_simp⟩) s0 ?_
        go_simp
        refine wpAnyH_take (i := 8) (v := .agg #[.int .i64 id.index, .int .i64 id.gen]) rfl (by kernel_rfl) (by kernel_rfl) (by kernel_rfl) (fun _ _ _ h => h) (Or.inl ⟨by rfl, fun w' h => by obtain ⟨z0, z1, z2, z3⟩ := KC.out w' h; go_simp⟩) s0 ?_
        go_simp
        refine wpAnyH_all (rs := [9]) (by kernel_rfl) (by simp) ?_
        intro i hi
        obtain rfl : i = 9 := by simpa using hi
        clear hi
        refine wpOp_step rfl (fun K hK => ?_)
        go_simp
        refine (before_calls _ _ _).mono ?_
        rintro en w7 ⟨rfl, hb7⟩
        rw [HLT.out]
        have s1 : Below wr.heap.size wr w7 := s0.trans (hb7.mono s0.size)
        clear hb7
        refine hK _ _ ⟨s1, ?_⟩
        clear hK K
        refine wpAnyH_take (i := 10) (v := .bool true) rfl (by kernel_rfl) (by kernel_rfl) (by kernel_rfl) (fun _ _ _ h => h) (Or.inl ⟨by rfl, fun w' _ => by go_simp <;> omega⟩) s1 ?_
        go_simp
        refine wpAnyH_take (i := 11) (v := .bool true) rfl (by kernel_rfl) (by kernel_rfl) (by kernel_rfl) (fun _ _ _ h => h) (Or.inl ⟨by rfl, fun w' _ => by go_simp <;> omega⟩) s1 ?_
        go_simp
        refine wpAnyH_done (by kernel_rfl) ?_ _
        have HBX := Lib.hid (HBW.out.trans (s1.mono HBW.out.size))
        obtain ⟨e0, e1, z0, z1⟩ := KC.out w7.drew s1.drew
        clear s0
        by_cases hxi : x = id
        · subst hxi
          go_wp2_with fail
          refine wp_region_held_drew (S := fun W => W = w7.drew) (by kernel_rfl) rfl (fun s0 => ?_)
          refine wpAnyH_take (i := 0) (v := .slice (some ⟨b, off, none⟩) n c) rfl (by kernel_rfl) (by kernel_rfl) (by kernel_rfl) (fun _ _ _ h => h) (Or.inl ⟨by rfl, fun w' _ => by go_simp <;> omega⟩) s0 ?_
          go_simp
          refine wpAnyH_take (i := 1) (v := .int .i64 k) rfl (by kernel_rfl) (by kernel_rfl) (by kernel_rfl) (fun _ _ _ h => h) (Or.inl ⟨by rfl, fun w' _ => by go_simp <;> omega⟩) s0 ?_
          go_simp
          refine wpAnyH_take (i := 2) (v := .int .i64 m) rfl (by kernel_rfl) (by kernel_rfl) (by kernel_rfl) (fun _ _ _ h => h) (Or.inl ⟨by rfl, fun w' _ => by go_simp <;> omega⟩) s0 ?_
          go_simp
          refine wpAnyH_take (i := 3) (v := .pointer (some ⟨b, off + m * 2, none⟩)) rfl (by kernel_rfl) (by kernel_rfl) (by kernel_rfl) (fun _ _ _ h => h) (Or.inl ⟨by rfl, fun w' _ => by go_simp <;> omega⟩) s0 ?_
          go_simp
          refine wpAnyH_take (i := 4) (v := .agg #[.int .i64 x.index, .int .i64 x.gen]) rfl (by kernel_rfl) (by kernel_rfl) (by kernel_rfl) (fun _ _ _ h => h) (Or.inl ⟨by rfl, fun w' h => by have h' : w' = w7.drew := h; subst h'; go_simp⟩) s0 ?_
          go_simp
          refine wpAnyH_take (i := 5) (v := .agg #[.int .i64 x.index, .int .i64 x.gen]) rfl (by kernel_rfl) (by kernel_rfl) (by kernel_rfl) (fun _ _ _ h => h) (Or.inl ⟨by rfl, fun w' h => by have h' : w' = w7.drew := h; subst h'; go_simp⟩) s0 ?_
          go_simp
          refine wpAnyH_take (i := 6) (v := .bool true) rfl (by kernel_rfl) (by kernel_rfl) (by kernel_rfl) (fun _ _ _ h => h) (Or.inl ⟨by rfl, fun w' _ => by go_simp <;> omega⟩) s0 ?_
          go_simp
          refine wpAnyH_done (by kernel_rfl) ?_ _
          go_wp2_with fail
          go_ret
          exact ⟨_, l, rfl, Rep.val_mono (fun _ h _ => .inl h) (Rep.list_val HN.out.symm (by rw [HN.out] at HC; exact HC.out.1) HC.out.2 (KL.out _ HBX.out.drew)), fun h => by have := HX.out; rw [h] at this; simp at this, HS.out, fun y => ⟨.inl, fun h => h.elim id (fun e => by rw [e]; exact List.mem_of_getElem? HX.out)⟩, Nat.le_succ _, FIN.out _ HBX.out.drew⟩
        · have HGN := Lib.hid (show ∀ (j : Nat) (y : DID), m ≤ j → l[j]? = some y → idLt id y from fun j y hj hy => by
            by_cases e : j = m
            · subst e
              rw [HX.out] at hy
              rw [← Option.some.inj hy]
              exact idLt_total HLX.out hxi
            · exact HGE.out j y (by have := HM.out; omega) hy)
          by_cases hi : x.index = id.index
          · have hg : (x.gen == id.gen) = false := beq_eq_false_iff_ne.2 (fun h => hxi (DID.ext hi h))
            have hi2 : (x.index == id.index) = true := by simp [hi]
            clear hi hxi
            go_wp2_with fail
            refine wp_region_held_drew (S := fun W => W = w7.drew) (by kernel_rfl) rfl (fun s0 => ?_)
            refine wpAnyH_take (i := 0) (v := .slice (some ⟨b, off, none⟩) n c) rfl (by kernel_rfl) (by kernel_rfl) (by kernel_rfl) (fun _ _ _ h => h) (Or.inl ⟨by rfl, fun w' _ => by go_simp <;> omega⟩) s0 ?_
            go_simp
            refine wpAnyH_take (i := 1) (v := .int .i64 k) rfl (by kernel_rfl) (by kernel_rfl) (by kernel_rfl) (fun _ _ _ h => h) (Or.inl ⟨by rfl, fun w' _ => by go_simp <;> omega⟩) s0 ?_
            go_simp
            refine wpAnyH_take (i := 2) (v := .int .i64 m) rfl (by kernel_rfl) (by kernel_rfl) (by kernel_rfl) (fun _ _ _ h => h) (Or.inl ⟨by rfl, fun w' _ => by go_simp <;> omega⟩) s0 ?_
            go_simp
            refine wpAnyH_take (i := 3) (v := .pointer (some ⟨b, off + m * 2, none⟩)) rfl (by kernel_rfl) (by kernel_rfl) (by kernel_rfl) (fun _ _ _ h => h) (Or.inl ⟨by rfl, fun w' _ => by go_simp <;> omega⟩) s0 ?_
            go_simp
            refine wpAnyH_take (i := 4) (v := .agg #[.int .i64 x.index, .int .i64 x.gen]) rfl (by kernel_rfl) (by kernel_rfl) (by kernel_rfl) (fun _ _ _ h => h) (Or.inl ⟨by rfl, fun w' h => by have h' : w' = w7.drew := h; subst h'; go_simp⟩) s0 ?_
            go_simp
            refine wpAnyH_take (i := 5) (v := .agg #[.int .i64 id.index, .int .i64 id.gen]) rfl (by kernel_rfl) (by kernel_rfl) (by kernel_rfl) (fun _ _ _ h => h) (Or.inl ⟨by rfl, fun w' h => by have h' : w' = w7.drew := h; subst h'; go_simp⟩) s0 ?_
            go_simp
            refine wpAnyH_take (i := 6) (v := .bool false) rfl (by kernel_rfl) (by kernel_rfl) (by kernel_rfl) (fun _ _ _ h => h) (Or.inl ⟨by rfl, fun w' _ => by go_simp <;> omega⟩) s0 ?_
            go_simp
            refine wpAnyH_done (by kernel_rfl) ?_ _
            go_wp2_with fail
            exact ⟨⟨m, by go_num, by omega, HGN, Lib.hid HBX.out.drew⟩, by have := HM.out; simp [intOf]; omega⟩
          · have hi2 : (x.index == id.index) = false := beq_eq_false_iff_ne.2 hi
            clear hi hxi
            go_wp2_with fail
            refine wp_region_held_drew (S := fun W => W = w7.drew) (by kernel_rfl) rfl (fun s0 => ?_)
            refine wpAnyH_take (i := 0) (v := .slice (some ⟨b, off, none⟩) n c) rfl (by kernel_rfl) (by kernel_rfl) (by kernel_rfl) (fun _ _ _ h => h) (Or.inl ⟨by rfl, fun w' _ => by go_simp <;> omega⟩) s0 ?_
            go_simp
            refine wpAnyH_take (i := 1) (v := .int .i64 k) rfl (by kernel_rfl) (by kernel_rfl) (by kernel_rfl) (fun _ _ _ h => h) (Or.inl ⟨by rfl, fun w' _ => by go_simp <;> omega⟩) s0 ?_
            go_simp
            refine wpAnyH_take (i := 2) (v := .int .i64 m) rfl (by kernel_rfl) (by kernel_rfl) (by kernel_rfl) (fun _ _ _ h => h) (Or.inl ⟨by rfl, fun w' _ => by go_simp <;> omega⟩) s0 ?_
            go_simp
            refine wpAnyH_take (i := 3) (v := .pointer (some ⟨b, off + m * 2, none⟩)) rfl (by kernel_rfl) (by kernel_rfl) (by kernel_rfl) (fun _ _ _ h => h) (Or.inl ⟨by rfl, fun w' _ => by go_simp <;> omega⟩) s0 ?_
            go_simp
            refine wpAnyH_take (i := 4) (v := .agg #[.int .i64 x.index, .int .i64 x.gen]) rfl (by kernel_rfl) (by kernel_rfl) (by kernel_rfl) (fun _ _ _ h => h) (Or.inl ⟨by rfl, fun w' h => by have h' : w' = w7.drew := h; subst h'; go_simp⟩) s0 ?_
            go_simp
            refine wpAnyH_take (i := 5) (v := .agg #[.int .i64 id.index, .int .i64 id.gen]) rfl (by kernel_rfl) (by kernel_rfl) (by kernel_rfl) (fun _ _ _ h => h) (Or.inl ⟨by rfl, fun w' h => by have h' : w' = w7.drew := h; subst h'; go_simp⟩) s0 ?_
            go_simp
            refine wpAnyH_take (i := 6) (v := .bool false) rfl (by kernel_rfl) (by kernel_rfl) (by kernel_rfl) (fun _ _ _ h => h) (Or.inl ⟨by rfl, fun w' _ => by go_simp <;> omega⟩) s0 ?_
            go_simp
            refine wpAnyH_done (by kernel_rfl) ?_ _
            go_wp2_with fail
            exact ⟨⟨m, by go_num, by omega, HGN, Lib.hid HBX.out.drew⟩, by have := HM.out; simp [intOf]; omega⟩
    · go_wp2_with fail
      refine wp_region_held_drew (S := fun W => W = wr.drew) (by kernel_rfl) rfl (fun s0 => ?_)
      refine wpAnyH_take (i := 0) (v := .int .i64 k) rfl (by kernel_rfl) (by kernel_rfl) (by kernel_rfl) (fun _ _ _ h => h) (Or.inl ⟨by rfl, fun w' _ => by go_simp <;> omega⟩) s0 ?_
      go_simp
      refine wpAnyH_take (i := 1) (v := .bool false) rfl (by kernel_rfl) (by kernel_rfl) (by kernel_rfl) (fun _ _ _ h => h) (Or.inl ⟨by rfl, fun w' _ => by go_simp <;> omega⟩) s0 ?_
      go_simp
      refine wpAnyH_take (i := 2) (v := .bool false) rfl (by kernel_rfl) (by kernel_rfl) (by kernel_rfl) (fun _ _ _ h => h) (Or.inl ⟨by rfl, fun w' _ => by go_simp <;> omega⟩) s0 ?_
      go_simp
      refine wpAnyH_take (i := 3) (v := undef) rfl (by kernel_rfl) (by kernel_rfl) (by kernel_rfl) (fun _ _ _ h => h) (Or.inr ⟨by rfl, rfl⟩) s0 ?_
      go_simp
      refine wpAnyH_take (i := 4) (v := undef) rfl (by kernel_rfl) (by kernel_rfl) (by kernel_rfl) (fun _ _ _ h => h) (Or.inr ⟨by rfl, rfl⟩) s0 ?_
      go_simp
      refine wpAnyH_take (i := 5) (v := undef) rfl (by kernel_rfl) (by kernel_rfl) (by kernel_rfl) (fun _ _ _ h => h) (Or.inr ⟨by rfl, rfl⟩) s0 ?_
      go_simp
      refine wpAnyH_take (i := 6) (v := undef) rfl (by kernel_rfl) (by kernel_rfl) (by kernel_rfl) (fun _ _ _ h => h) (Or.inr ⟨by rfl, rfl⟩) s0 ?_
      go_simp
      refine wpAnyH_take (i := 7) (v := undef) rfl (by kernel_rfl) (by kernel_rfl) (by kernel_rfl) (fun _ _ _ h => h) (Or.inr ⟨by rfl, rfl⟩) s0 ?_
      go_simp
      refine wpAnyH_take (i := 8) (v := undef) rfl (by kernel_rfl) (by kernel_rfl) (by kernel_rfl) (fun _ _ _ h => h) (Or.inr ⟨by rfl, rfl⟩) s0 ?_
      go_simp
      refine wpAnyH_take (i := 9) (v := undef) rfl (by kernel_rfl) (by kernel_rfl) (by kernel_rfl) (fun _ _ _ h => h) (Or.inr ⟨by rfl, rfl⟩) s0 ?_
      go_simp
      refine wpAnyH_take (i := 10) (v := undef) rfl (by kernel_rfl) (by kernel_rfl) (by kernel_rfl) (fun _ _ _ h => h) (Or.inr ⟨by rfl, rfl⟩) s0 ?_
      go_simp
      refine wpAnyH_take (i := 11) (v := .bool false) rfl (by kernel_rfl) (by kernel_rfl) (by kernel_rfl) (fun _ _ _ h => h) (Or.inl ⟨by rfl, fun w' _ => by go_simp <;> omega⟩) s0 ?_
      go_simp
      refine wpAnyH_done (by kernel_rfl) ?_ _
      have HBX := Lib.hid HBW.out.drew
      have H2 := Lib.hid (show ∀ y, l[k - 1]? = some y → 0 < k → idLt y id from fun y _ h => absurd h (by omega))
      clear s0
      obtain ⟨WX, hWX⟩ : ∃ WX, wr.drew = WX := ⟨_, rfl⟩
      rw [hWX] at HBX ⊢
      clear hWX hk0
      by_cases hck : c = k
      · obtain rfl : k = c := hck.symm
        obtain rfl : k = n := by omega
        clear hck
        obtain ⟨q, hq⟩ : ∃ q, l.take k = q := ⟨_, rfl⟩
        obtain ⟨r, hr⟩ : ∃ r, l.drop k = r := ⟨_, rfl⟩
        have HADD := Lib.hid (add_math HS.out (by rw [HN.out]; exact hk) HGE.out H2.out)
        rw [hq, hr] at HADD
        have hql : q.length = k := by rw [← hq, List.length_take]; have := HN.out; omega
        have hrl : r.length = k - k := by rw [← hr, List.length_drop]; have := HN.out; omega
        have KQ := Lib.hid (show ∀ W, Below W1.heap.size W1 W → rID.list.val Q W (.slice (some ⟨b, off, none⟩) k k) q from fun W h => Rep.list_val hql.symm (by omega) HC.out.2 (by rw [← hq]; exact (KL.out W h).take k))
        have KR := Lib.hid (show ∀ W, Below W1.heap.size W1 W → rID.list.val Q W (.slice (some ⟨b, off, none⟩) 0 0) r from fun W h => Rep.list_val (by omega) (Nat.zero_le _) (Nat.zero_le _) ⟨[], by rw [show r = [] from List.eq_nil_of_length_eq_zero (by omega)]; rfl, fun h => by omega⟩)
        have L1 := Lib.hid (show ([] : List DID).length + q.length ≤ maxLen ∧ (([] : List DID).length + q.length) * 16 ≤ 140737488355328 by unfold maxLen; simp only [List.length_nil]; omega)
        have L2 := Lib.hid (show q.length + 1 ≤ maxLen ∧ (q.length + 1) * 16 ≤ 140737488355328 by unfold maxLen; omega)
        have L3 := Lib.hid (show (q ++ [id]).length + r.length ≤ maxLen ∧ ((q ++ [id]).length + r.length) * 16 ≤ 140737488355328 by unfold maxLen; rw [List.length_append, List.length_singleton]; omega)
        obtain ⟨W5, hW5⟩ : ∃ W5, WX.alloc (.cells #[] 175) = W5 := ⟨_, rfl⟩
        have HA5 := Lib.hid (show rID.acc 175 W1.heap.size (fun _ => False) W5 (.slice (some ⟨WX.heap.size, 0, none⟩) 0 0) [] by rw [← hW5]; exact Rep.acc_made WX #[] 0 HBX.out.size (by simp [maxLen]) (by simp))
        have HB5 := Lib.hid (show Below W1.heap.size W1 W5 by rw [← hW5]; exact HBX.out.alloc HBX.out.size _)
        have HX5 := Lib.hid (KQ.out W5 HB5.out)
        clear hq hr hql hrl
        go_wp2_with (first
          | (refine wpList_spread_leaf (e := 175) (base := W1.heap.size) (Q := fun _ => False) rID_leaf rfl _ _ 206 rfl (.agg #[.int .i64 0, .int .i64 0]) 2 16 Try.underlying206 infoID rfl (by decide) rfl _ [] (by exact rfl) HA5.out _ q (by exact rfl) HX5.out L1.out.1 L1.out.2 HB5.out.size ?_; intro v6 w6 hacc6 hgr6 hat6; rw [List.nil_append] at hacc6; have HA6 := Lib.hid hacc6; have HB6 := Lib.hid (Rep.acc_below HA5.out HB5.out hgr6 HB5.out.size); clear hacc6 hgr6 hat6; obtain ⟨z0, z1⟩ := KI.out w6 HB6.out)
          | (refine wpList_snoc (e := 175) (base := W1.heap.size) (Q := fun _ => False) (r := rID) rfl rfl _ _ 206 _ rfl rfl rfl (.agg #[.int .i64 0, .int .i64 0]) 2 16 Try.underlying206 infoID rfl (by decide) rfl _ q HA6.out id _ (by exact rfl) (rID_agg HWF.out.1 HWF.out.2) (by exact rfl) (by exact rfl) L2.out.1 L2.out.2 HB6.out.size ?_; intro v7 w8 hacc7 hgr7 hat7; have HA7 := Lib.hid hacc7; have HB7 := Lib.hid (Rep.acc_below HA6.out HB6.out hgr7 HB6.out.size); clear hacc7 hgr7 hat7; have HX7 := Lib.hid (KR.out w8 HB7.out))
          | (refine wpList_spread_leaf (e := 175) (base := W1.heap.size) (Q := fun _ => False) rID_leaf rfl _ _ 206 rfl (.agg #[.int .i64 0, .int .i64 0]) 2 16 Try.underlying206 infoID rfl (by decide) rfl _ (q ++ [id]) (by exact rfl) HA7.out _ r (by exact rfl) HX7.out L3.out.1 L3.out.2 HB7.out.size ?_; intro v9 w9 hacc9 hgr9 hat9; have HA9 := Lib.hid hacc9; have HB9 := Lib.hid (Rep.acc_below HA7.out HB7.out hgr9 HB7.out.size); clear hacc9 hgr9 hat9))
        go_ret
        exact ⟨_, q ++ [id] ++ r, rfl, Rep.val_mono (fun b hb _ => .inr (Nat.le_trans (by have := HZ.out; omega) hb)) (Rep.acc_fresh HA9.out), HADD.out.2.2.2, HADD.out.1, HADD.out.2.1, HADD.out.2.2.1, FIN.out _ HB9.out⟩
      · skip
        obtain ⟨q, hq⟩ : ∃ q, l.take k = q := ⟨_, rfl⟩
        obtain ⟨r, hr⟩ : ∃ r, l.drop k = r := ⟨_, rfl⟩
        have HADD := Lib.hid (add_math HS.out (by rw [HN.out]; exact hk) HGE.out H2.out)
        rw [hq, hr] at HADD
        have hql : q.length = k := by rw [← hq, List.length_take]; have := HN.out; omega
        have hrl : r.length = n - k := by rw [← hr, List.length_drop]; have := HN.out; omega
        have KQ := Lib.hid (show ∀ W, Below W1.heap.size W1 W → rID.list.val Q W (.slice (some ⟨b, off, none⟩) k c) q from fun W h => Rep.list_val hql.symm (by omega) HC.out.2 (by rw [← hq]; exact (KL.out W h).take k))
        have KR := Lib.hid (show ∀ W, Below W1.heap.size W1 W → rID.list.val Q W (.slice (some ⟨b, off + k * 2, none⟩) (n - k) (c - k)) r from fun W h => Rep.list_val hrl.symm (by omega) (Nat.le_trans (Nat.sub_le _ _) HC.out.2) (by rw [← hr]; exact (KL.out W h).drop (by rw [HN.out]; exact hk)))
        have L1 := Lib.hid (show ([] : List DID).length + q.length ≤ maxLen ∧ (([] : List DID).length + q.length) * 16 ≤ 140737488355328 by unfold maxLen; simp only [List.length_nil]; omega)
        have L2 := Lib.hid (show q.length + 1 ≤ maxLen ∧ (q.length + 1) * 16 ≤ 140737488355328 by unfold maxLen; omega)
        have L3 := Lib.hid (show (q ++ [id]).length + r.length ≤ maxLen ∧ ((q ++ [id]).length + r.length) * 16 ≤ 140737488355328 by unfold maxLen; rw [List.length_append, List.length_singleton]; omega)
        obtain ⟨W5, hW5⟩ : ∃ W5, WX.alloc (.cells #[] 175) = W5 := ⟨_, rfl⟩
        have HA5 := Lib.hid (show rID.acc 175 W1.heap.size (fun _ => False) W5 (.slice (some ⟨WX.heap.size, 0, none⟩) 0 0) [] by rw [← hW5]; exact Rep.acc_made WX #[] 0 HBX.out.size (by simp [maxLen]) (by simp))
        have HB5 := Lib.hid (show Below W1.heap.size W1 W5 by rw [← hW5]; exact HBX.out.alloc HBX.out.size _)
        have HX5 := Lib.hid (KQ.out W5 HB5.out)
        clear hq hr hql hrl
        go_wp2_with (first
          | (refine wpList_spread_leaf (e := 175) (base := W1.heap.size) (Q := fun _ => False) rID_leaf rfl _ _ 206 rfl (.agg #[.int .i64 0, .int .i64 0]) 2 16 Try.underlying206 infoID rfl (by decide) rfl _ [] (by exact rfl) HA5.out _ q (by exact rfl) HX5.out L1.out.1 L1.out.2 HB5.out.size ?_; intro v6 w6 hacc6 hgr6 hat6; rw [List.nil_append] at hacc6; have HA6 := Lib.hid hacc6; have HB6 := Lib.hid (Rep.acc_below HA5.out HB5.out hgr6 HB5.out.size); clear hacc6 hgr6 hat6; obtain ⟨z0, z1⟩ := KI.out w6 HB6.out)
          | (refine wpList_snoc (e := 175) (base := W1.heap.size) (Q := fun _ => False) (r := rID) rfl rfl _ _ 206 _ rfl rfl rfl (.agg #[.int .i64 0, .int .i64 0]) 2 16 Try.underlying206 infoID rfl (by decide) rfl _ q HA6.out id _ (by exact rfl) (rID_agg HWF.out.1 HWF.out.2) (by exact rfl) (by exact rfl) L2.out.1 L2.out.2 HB6.out.size ?_; intro v7 w8 hacc7 hgr7 hat7; have HA7 := Lib.hid hacc7; have HB7 := Lib.hid (Rep.acc_below HA6.out HB6.out hgr7 HB6.out.size); clear hacc7 hgr7 hat7; have HX7 := Lib.hid (KR.out w8 HB7.out))
          | (refine wpList_spread_leaf (e := 175) (base := W1.heap.size) (Q := fun _ => False) rID_leaf rfl _ _ 206 rfl (.agg #[.int .i64 0, .int .i64 0]) 2 16 Try.underlying206 infoID rfl (by decide) rfl _ (q ++ [id]) (by exact rfl) HA7.out _ r (by exact rfl) HX7.out L3.out.1 L3.out.2 HB7.out.size ?_; intro v9 w9 hacc9 hgr9 hat9; have HA9 := Lib.hid hacc9; have HB9 := Lib.hid (Rep.acc_below HA7.out HB7.out hgr9 HB7.out.size); clear hacc9 hgr9 hat9))
        go_ret
        exact ⟨_, q ++ [id] ++ r, rfl, Rep.val_mono (fun b hb _ => .inr (Nat.le_trans (by have := HZ.out; omega) hb)) (Rep.acc_fresh HA9.out), HADD.out.2.2.2, HADD.out.1, HADD.out.2.1, HADD.out.2.2.1, FIN.out _ HB9.out⟩
end Go.Proofs.Ytfpmkenobphfnaa
