/- Walks of the library's small copies. -/
import Derived.Test.YtecdbfbaclgejaaBytes
namespace Go.Proofs.Ytecdbfbaclgejaa
open Go.RowKit

theorem info22 : (Try.prog.info? 22).map (fun i => (i.zero, i.size, i.bytes)) = some (some (.slice none 0 0), 1, 24) := by kernel_rfl
theorem info5 : (Try.prog.info? 5).map (fun i => (i.zero, i.size, i.bytes)) = some (some (.int .u8 0), 1, 1) := by kernel_rfl

/-- bytes.Clone -/
theorem bytesClone {Q : Nat → Prop} {w : World} {v : Value} {l : List UInt8} (hx : Rep.byte.list.val Q w v l) (hl : l.length ≤ 100000000000000) :
    Calls Try.prog 101 #[v] w (Res Rep.byte.list (fun b => w.heap.size ≤ b) w l) := by
  obtain ⟨A, c, rfl, hc1, hc2, hA⟩ := Rep.val_list hx
  unfold maxLen at hc2
  cases A with
  | none =>
    have hnil : l = [] := by
      rcases Nat.eq_zero_or_pos l.length with h | h
      · exact List.eq_nil_of_length_eq_zero h
      · obtain ⟨b, off, h⟩ := hA.addr h; cases h
    subst hnil
    have he := fun w => Lib.run_eql_slice_nil (P := Try.prog) w 22 5 none 0 c 0 0 Try.underlying22
    go_enter Try.func101, Try.ntmps101
    go_wp2_with fail
    go_ret
    exact ⟨_, rfl, Rep.val_nil (by simp [maxLen]), Below.refl _ _⟩
  | some a =>
    have he := fun w => Lib.run_eql_slice_nil (P := Try.prog) w 22 5 (some a) l.length c 0 0 Try.underlying22
    have HX := Lib.hid (show Rep.byte.list.val (fun b => b < w.heap.size) (w.alloc (.cells #[] 5)) (.slice (some a) l.length c) l from Rep.val_keep (w := w) (fun b _ hl => ⟨hl.lt, Below.heap_alloc _ _ _ hl.lt⟩) hx)
    have HA := Lib.hid (show Rep.byte.acc 5 w.heap.size (fun _ => False) (w.alloc (.cells #[] 5)) (.slice (some ⟨w.heap.size, 0, none⟩) 0 0) [] from Rep.acc_made w #[] 0 (Nat.le_refl _) (by simp [maxLen]) (by simp))
    have HB1 := Lib.hid (show ([] : List UInt8).length + l.length ≤ maxLen from by simp [maxLen]; omega)
    have HB2 := Lib.hid (show (([] : List UInt8).length + l.length) * 1 ≤ 140737488355328 from by simp; omega)
    have HB3 := Lib.hid (show w.heap.size ≤ (w.alloc (.cells #[] 5)).heap.size from by simp)
    clear hx hA
    go_enter Try.func101, Try.ntmps101
    go_wp2_with (refine wpList_spread_leaf (e := 5) (base := w.heap.size) (Q := fun _ => False) Rep.leaf_byte rfl _ _ 22 rfl (.int .u8 0) 1 1 Try.underlying22 info5 rfl (by decide) rfl _ [] (by exact rfl) HA.out _ l (by exact rfl) HX.out HB1.out HB2.out HB3.out ?_; intro v' w' hacc' hgr hat)
    go_ret
    exact ⟨_, rfl, by simpa using Rep.acc_fresh hacc', Rep.acc_below HA.out ((Below.refl _ w).alloc (Nat.le_refl _) _) hgr HB3.out⟩
end Go.Proofs.Ytecdbfbaclgejaa
