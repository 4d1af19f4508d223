/- Texts on which the proofs stand: OwnOps, MOwn. No condition is laid on any input. -/
import Derived.Test.YtghbfbohnoebiaaGreatSnG27
import Derived.Laws.CopyRow
import Derived.Deep.DeepAppendRoom
import Derived.Lib.AppendZerosOnto
import Derived.Lib.Overlaps
namespace Go.Proofs.YtghbfbohnoebiaaGreat
open Go.RowKit

section
variable {α : Type} {r : Rep α} {e base : Nat} {Q : Nat → Prop} {w w' : World} {v : Value} {xs ys : List α}
/-- A slice of the call's own, told by its row. -/
theorem acc_row (h : r.acc e base Q w v xs) (hn : 0 < xs.length) : ∃ g cap cur cells, v = .slice (some ⟨g, 0, none⟩) xs.length cap ∧ base ≤ g ∧ w.heap[g]? = some (.cells cur e (0, 0)) ∧ xs.length ≤ cap ∧ cap ≤ maxLen ∧ cur.size = cap * r.size ∧ cur.toList.take (xs.length * r.size) = cells ∧ r.row (fun b => Q b ∧ b ≠ g) w cells xs := by
  obtain ⟨cells, h1, h2⟩ := h
  rcases h1.2 with ⟨_, h0⟩ | ⟨g, cap, cur, rfl, hb, hg, h3, h4, h5, h6⟩
  · omega
  · exact ⟨g, cap, cur, cells, rfl, hb, hg, h3, h4, h5, h6, Rep.row_keep (fun b hq _ => ⟨⟨hq.1, fun e => hq.2 (by rw [e]; rfl)⟩, rfl⟩) h2⟩
/-- A row that reads as0 elements is a slice of the call's own. -/
theorem acc_of {g cap : Nat} {cur : Array Value} {cells : List Value} (hb : base ≤ g) (hg : w.heap[g]? = some (.cells cur e (0, 0))) (h3 : xs.length ≤ cap) (h4 : cap ≤ maxLen) (h5 : cur.size = cap * r.size)
    (h6 : cur.toList.take (xs.length * r.size) = cells) (h7 : r.row (fun b => Q b ∧ b ≠ g) w cells xs) : r.acc e base Q w (.slice (some ⟨g, 0, none⟩) xs.length cap) xs :=
  ⟨cells, ⟨Rep.row_len h7, .inr ⟨g, cap, cur, rfl, hb, hg, h3, h4, h5, h6⟩⟩, Rep.row_keep (fun b hq _ => ⟨⟨hq.1, fun e2 => hq.2 (by have := Option.some.inj e2; exact this.symm)⟩, rfl⟩) h7⟩
end
end Go.Proofs.YtghbfbohnoebiaaGreat
namespace Go.Proofs.YtghbfbohnoebiaaGreat
open Go.RowKit

theorem infoI3 : (Tryz.prog.info? 3).map (fun i => (i.zero, i.size, i.bytes)) = some (some (.int .i64 0), 1, 8) := by kernel_rfl
/-- slices.Clone of numbers -/
theorem cloneInts_calls {Q : Nat → Prop} {w : World} {v : Value} {l : List Int} (hx : (Rep.int .i64).list.val Q w v l) (hl : l.length ≤ 1000000) :
    Calls Tryz.prog 65 #[v] w fun e w' => ∃ v', e = .returned v' ∧ (Rep.int .i64).acc 3 w.heap.size (fun _ => False) w' v' l ∧ Below w.heap.size w w' := by
  obtain ⟨A, c, rfl, hc1, hc2, hA⟩ := Rep.val_list hx
  unfold maxLen at hc2
  cases A with
  | none =>
    have hnil : l = [] := by
      rcases Nat.eq_zero_or_pos l.length with h | h
      · exact List.eq_nil_of_length_eq_zero h
      · obtain ⟨b, off, h⟩ := hA.addr h; cases h
    subst hnil
    have he := fun w => Lib.run_eql_slice_nil (P := Tryz.prog) w 35 3 none 0 c 0 0 Tryz.underlying35
    go_enter Tryz.func65, Tryz.ntmps65
    go_wp2_with fail
    go_ret
    exact ⟨_, rfl, Rep.acc_nil, Below.refl _ _⟩
  | some a =>
    have he := fun w => Lib.run_eql_slice_nil (P := Tryz.prog) w 35 3 (some a) l.length c 0 0 Tryz.underlying35
    have HX := Lib.hid (show (Rep.int .i64).list.val (fun b => b < w.heap.size) (w.alloc (.cells #[] 3)) (.slice (some a) l.length c) l from Rep.val_keep (w := w) (fun b _ hl => ⟨hl.lt, Below.heap_alloc _ _ _ hl.lt⟩) hx)
    have HA := Lib.hid (show (Rep.int .i64).acc 3 w.heap.size (fun _ => False) (w.alloc (.cells #[] 3)) (.slice (some ⟨w.heap.size, 0, none⟩) 0 0) [] from Rep.acc_made w #[] 0 (Nat.le_refl _) (by simp [maxLen]) (by simp))
    have HB1 := Lib.hid (show ([] : List Int).length + l.length ≤ maxLen from by simp [maxLen]; omega)
    have HB2 := Lib.hid (show (([] : List Int).length + l.length) * 8 ≤ 140737488355328 from by simp; omega)
    have HB3 := Lib.hid (show w.heap.size ≤ (w.alloc (.cells #[] 3)).heap.size from by simp)
    clear hx hA
    go_enter Tryz.func65, Tryz.ntmps65
    go_wp2_with (refine wpList_spread_leaf (e := 3) (base := w.heap.size) (Q := fun _ => False) (Rep.leaf_int .i64) rfl _ _ 35 rfl (.int .i64 0) 1 8 Tryz.underlying35 infoI3 rfl (by decide) rfl _ [] (by exact rfl) HA.out _ l (by exact rfl) HX.out HB1.out HB2.out HB3.out ?_; intro v' w' hacc' hgr hat)
    go_ret
    exact ⟨_, rfl, by simpa using hacc', Rep.acc_below HA.out ((Below.refl _ w).alloc (Nat.le_refl _) _) hgr HB3.out⟩

end Go.Proofs.YtghbfbohnoebiaaGreat
