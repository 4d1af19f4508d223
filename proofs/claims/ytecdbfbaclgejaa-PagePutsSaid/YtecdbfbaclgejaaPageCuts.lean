/- The statement on pieces, walked: it answers true at whatever bytes and number, and what there was stands. -/
import Derived.Test.YtecdbfbaclgejaaCut
namespace Go.Proofs.Ytecdbfbaclgejaa
open Go.RowKit

theorem cut_thousand (l : List UInt8) (h : l.length = 1000) : (cut l).length = 3 ∧ ∃ x, (cut l)[2]? = some x ∧ x.length = 56 := by
  have hc : cut l = [piece l 0, piece l 1, piece l 2] := by unfold cut; rw [h]; rfl
  rw [hc]
  exact ⟨rfl, _, rfl, by simp [piece, h]⟩

/-- live of the statements on pages -/
theorem live20 (w : World) : Calls Try.prog 15 #[] w fun e w' => e = .returned (.bool true) ∧ Below w.heap.size w w' := by
  have hmk : ∀ w, (Instr.makeSlice 22 (.int .i64 1000) (.int .i64 1000)).run Try.prog w = .ok (.slice (some ⟨w.heap.size, 0, none⟩) 1000 1000) (w.alloc (.cells (zeroBytes 1000) 5)) :=
    fun w => run_make_bytes Try.underlying22 info5 1000 (by omega) w
  have hz : (List.replicate 1000 (0 : UInt8)).length = 1000 := List.length_replicate
  have hmade := Rep.made_bytes w 1000 (by simp [maxLen])
  generalize List.replicate 1000 (0 : UInt8) = zs at hz hmade
  obtain ⟨h3, x, hx, hx56⟩ := cut_thousand zs hz
  have HZ := Lib.hid hz
  have HM := Lib.hid hmade
  clear hz hmade
  have H3 := Lib.hid h3
  have HX := Lib.hid hx
  have HX56 := Lib.hid hx56
  clear h3 hx hx56
  go_enter Try.func15, Try.ntmps15
  go_wp2_with fail
  refine (cut_calls HM.out (by have := HZ.out; omega)).mono ?_
  rintro e w1 ⟨u, rfl, hu, hb⟩
  obtain ⟨A, c, rfl, hc1, hc2, hA⟩ := Rep.val_list hu
  obtain ⟨b, off, B, d, rfl, hcell, q1, q2, _⟩ := hA.list HX.out
  rw [HX56.out] at hcell
  rw [H3.out]
  have hb' : Below w.heap.size w w1 := ((Below.refl _ w).alloc (Nat.le_refl _) _).trans (hb.mono (by simp))
  clear hu hA hc1 hc2 q1 q2
  go_wp2_with (go_at_call 20; refine (count_calls _ _ (by omega) (by omega)).mono ?_; rintro e w' ⟨rfl, rfl⟩)
  go_ret
  exact ⟨by have : (pageCount 1000 == 3) = true := by decide
            rw [← this]; rfl, hb'⟩

theorem pieces_flatten (l : List UInt8) : ∀ n, (pieces l n).flatten = l.take (472 * n)
  | 0 => by simp [pieces]
  | n + 1 => by
    rw [pieces_succ, List.flatten_append, pieces_flatten l n, Nat.mul_add, List.take_add]
    simp [piece]
theorem cut_flatten (l : List UInt8) : (cut l).flatten = l := by
  rw [cut, pieces_flatten, List.take_of_length_le (by omega)]

theorem cut_take_length (l : List UInt8) (k : Nat) (h : k < (cut l).length) : ((cut l).take k).flatten.length + ((cut l)[k]).length ≤ l.length := by
  have h1 : ((cut l).take (k + 1)).flatten ++ ((cut l).drop (k + 1)).flatten = l := by rw [← List.flatten_append, List.take_append_drop, cut_flatten]
  have h2 := congrArg List.length h1
  rw [List.take_succ_eq_append_getElem h, List.length_append, List.flatten_append, List.length_append] at h2
  simp at h2
  simp
  omega

set_option maxHeartbeats 1000000 in
/-- PageCuts -/
theorem pageCuts_calls {Q : Nat → Prop} {w : World} {v : Value} {l : List UInt8} {n : Int} (hx : Rep.byte.list.val Q w v l) (hn : (Lit.int .i64 n).wf = true) :
    Calls Try.prog 3 #[v, .int .i64 n] w fun e w' => e = .returned (.bool true) ∧ Below w.heap.size w w' := by
  have hn1 : -9223372036854775808 ≤ n ∧ n ≤ 9223372036854775807 := by simpa [Lit.wf, IntKind.min, IntKind.max, IntKind.signed, IntKind.bits] using hn
  obtain ⟨A, c, rfl, hc1, hc2, hA⟩ := Rep.val_list hx
  unfold maxLen at hc2
  by_cases hlen : 3000 < l.length
  · have h1 : (3000 : Int) < (l.length : Int) := by omega
    clear hx hA
    go_enter Try.func3, Try.ntmps3
    go_wp2_with (go_at_call 15; refine (live20 _).mono ?_; rintro e w' ⟨rfl, hb⟩)
    go_ret
    exact ⟨rfl, hb⟩
  · have h1 : ¬ (3000 : Int) < (l.length : Int) := by omega
    have HX := Lib.hid hx
    clear hx hA
    go_enter Try.func3, Try.ntmps3
    go_wp2_with (go_at_call 16; refine (cut_calls HX.out (by omega)).mono ?_; rintro e w1 ⟨u, rfl, hu, hb⟩)
    obtain ⟨A', c', rfl, hc1', hc2', hA'⟩ := Rep.val_list hu
    unfold maxLen at hc2'
    have HU := Lib.hid hu
    clear hu
    go_loopw [6, 7] (fun s i wr => ∃ k : Nat, i = .int .i64 k ∧ k ≤ (cut l).length ∧ Rep.byte.acc 5 w1.heap.size (fun _ => False) wr s ((cut l).take k).flatten ∧ Below w1.heap.size w1 wr)
      (fun _ i _ => (cut l).length - (intOf i).toNat)
    case atStart => exact ⟨0, rfl, Nat.zero_le _, by simpa using Rep.acc_nil, Below.refl _ _⟩
    case round =>
      obtain ⟨k, rfl, hk, hacc, hbel⟩ := hrel
      have hba : w1.heap.size ≤ wr.heap.size := hbel.size
      by_cases hlt : k < (cut l).length
      · obtain ⟨b, off, B, d, rfl, hcell, q1, q2, hB⟩ := (hA'.below hbel fun _ _ hb => hb.lt).list (List.getElem?_eq_getElem hlt)
        have i1 : (k : Int) < ((cut l).length : Int) := by omega
        have hsum := cut_take_length l k hlt
        have hval := Rep.list_val rfl q1 q2 hB
        generalize hX : (cut l)[k] = x at *
        have S1 := Lib.hid (show (List.take k (cut l)).flatten.length + x.length ≤ maxLen by unfold maxLen; omega)
        have S2 := Lib.hid (show ((List.take k (cut l)).flatten.length + x.length) * 1 ≤ 140737488355328 by omega)
        have HX' := Lib.hid hX
        have HV := Lib.hid hval
        clear hX hval hsum q1 q2 hB
        go_wp2_with (refine wpList_spread_leaf (e := 5) (base := w1.heap.size) (Q := fun _ => False) Rep.leaf_byte rfl _ _ 22 rfl (.int .u8 0) 1 1 Try.underlying22 info5 rfl (by decide) rfl _ _ (by exact rfl) hacc _ x (by exact rfl) HV.out S1.out S2.out hba ?_; intro s' w' hacc' hgr hat)
        exact ⟨⟨k + 1, by go_num, by omega, by rw [List.take_succ_eq_append_getElem hlt, List.flatten_append, HX'.out]; simpa using hacc', Rep.acc_below hacc hbel hgr hba⟩, by simp [intOf]; omega⟩
      · obtain rfl : k = (cut l).length := by omega
        rw [List.take_length, cut_flatten] at hacc
        have i1 : ¬ ((cut l).length : Int) < ((cut l).length : Int) := by omega
        have hwr : Below w.heap.size w wr := hb.trans (hbel.mono hb.size)
        have B0 := Lib.hid (Rep.val_below HX.out hwr fun _ _ hb => hb.lt)
        have U0 := Lib.hid (Rep.val_below HU.out hbel fun _ _ hb => hb.lt)
        have A0 := Lib.hid (Rep.acc_fresh hacc)
        obtain ⟨As, cs, rfl, _, _⟩ := Rep.acc_form hacc
        clear hA' hacc hbel hba
        go_wp2_with fail
        refine (rcut_calls B0.out (by omega)).mono ?_
        rintro e w3 ⟨u3, rfl, hu3, hb3⟩
        go_wp2_with fail
        refine (samePieces (Rep.val_below U0.out hb3 fun _ _ hb => hb.lt) hu3).mono ?_
        rintro e w4 ⟨rfl, m, rfl⟩
        go_wp2_with fail
        refine (sameBytes (Rep.val_drewN (Rep.val_below A0.out hb3 fun _ _ hb => hb.lt) m) (Rep.val_drewN (Rep.val_below B0.out hb3 fun _ _ hb => hb.lt) m)).mono ?_
        rintro e w5 ⟨rfl, hw5⟩
        have hpc : (pageCount (l.length : Int) == ((cut l).length : Int)) = true := by
          have : (cut l).length = (l.length + 471) / 472 := by simp [cut, pieces]
          rw [this, pageCount]
          split <;> simp <;> omega
        have hl2 : (l.length : Int) ≤ 3000 := by omega
        go_wp2_with (first | (go_at_call 20; refine (count_calls _ _ (by omega) (by omega)).mono ?_; rintro e w' ⟨rfl, rfl⟩) | (go_at_call 21; refine (rcount_calls _ _ (by omega) (by omega)).mono ?_; rintro e w' ⟨rfl, rfl⟩) | (go_at_call 15; refine (live20 _).mono ?_; rintro e w6 ⟨rfl, hb6⟩))
        go_ret
        have h3 : Below w.heap.size w w3 := hwr.trans (hb3.mono hwr.size)
        exact ⟨rfl, h3.trans ((below_drewN (Below.refl _ _) m).trans (hb6.mono (by have := h3.size; simpa using this)))⟩
end Go.Proofs.Ytecdbfbaclgejaa
