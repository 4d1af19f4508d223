/- Walk of the check of a superblock. Printed by gen_superright.py. -/
import Derived.Test.YthjjnlilpklacaaSupG5
import Derived.Test.YthjjnlilpklacaaSupPage
import Derived.Test.YthjjnlilpklacaaSupSuperSame
namespace Go.Proofs.Ythjjnlilpklacaa
open Go.RowKit

/-- A slice of the call's own, just made, of one number or four. -/
theorem own_ints {W1 W2 : World} {l : List Int} (t : TypeId) (hw : ∀ n ∈ l, (Lit.int .i64 n).wf = true) (hl : l.length ≤ 100) (hW : W1.alloc (.cells (l.map (Value.int .i64)).toArray t) = W2) :
    (Rep.int .i64).list.val (fun _ => True) W2 (.slice (some ⟨W1.heap.size, 0, none⟩) l.length l.length) l := by
  subst hW
  refine Rep.list_val rfl (Nat.le_refl _) (by unfold maxLen; omega) ⟨l.map (Value.int .i64), int_row.2 ⟨rfl, hw⟩, fun _ => ⟨W1.heap.size, 0, rfl, trivial, ⟨_, _, _, heap_alloc_new _ _⟩, ?_⟩⟩
  intro j u hj
  rw [cell_row (heap_alloc_new _ _)]
  simpa using hj

theorem within_iff (low high : Int) (l : List Int) : withinOf low high l = true ↔ ∀ n ∈ l, low ≤ n ∧ n ≤ high := by
  unfold withinOf; simp only [List.all_eq_true, Bool.and_eq_true, decide_eq_true_eq]

set_option maxRecDepth 100000 in
set_option maxHeartbeats 8000000 in
/-- super.Right -/
theorem superRight_calls {Q : Nat → Prop} {w : World} {v : Value} {x : DSuper} (hx : rSuper.val Q w v x) :
    Calls Try.prog 73 #[v] w fun e w' => e = .returned (.bool (superRight x)) ∧ Below w.heap.size w w' := by
  obtain ⟨A, c, rfl, f0, f1, f2, f3, f4, f5, f6, hs⟩ := rSuper_val hx
  have L6 := Lib.hid (show -9223372036854775808 ≤ x.long ∧ x.long ≤ 9223372036854775807 by simpa [Lit.wf, IntKind.min, IntKind.max, IntKind.signed, IntKind.bits] using f6)
  obtain ⟨W1, hW1⟩ : ∃ W1, w.alloc (.cells #[.int .i64 x.epoch, .int .i64 x.gen, .int .i64 x.log, .int .i64 x.pages, .int .i64 x.head, .int .i64 x.seq, .int .i64 x.long, .slice A x.dir.length c] 114) = W1 := ⟨_, rfl⟩
  have hm : SuperBox W1 w.heap.size x A c := by rw [← hW1]; exact SuperBox.made hs _
  have hb1 : Below w.heap.size w W1 := by rw [← hW1]; exact (Below.refl _ _).alloc (Nat.le_refl _) _
  have hz1 : W1.heap.size = w.heap.size + 1 := by rw [← hW1]; simp
  have HB := Lib.hid hb1
  have KM := Lib.hid (show ∀ W, Below W1.heap.size W1 W → SuperBox W w.heap.size x A c from fun W h => hm.later (h.mono (Nat.le_of_eq hz1.symm)))
  have KS := Lib.hid (show ∀ W, Below W1.heap.size W1 W → W.cell? ⟨w.heap.size, 0, none⟩ = some (.int .i64 x.epoch) ∧ W.cell? ⟨w.heap.size, 1, none⟩ = some (.int .i64 x.gen) ∧ W.cell? ⟨w.heap.size, 2, none⟩ = some (.int .i64 x.log) ∧ W.cell? ⟨w.heap.size, 3, none⟩ = some (.int .i64 x.pages) ∧ W.cell? ⟨w.heap.size, 4, none⟩ = some (.int .i64 x.head) ∧ W.cell? ⟨w.heap.size, 5, none⟩ = some (.int .i64 x.seq) ∧ W.cell? ⟨w.heap.size, 6, none⟩ = some (.int .i64 x.long) ∧ W.cell? ⟨w.heap.size, 7, none⟩ = some (.slice A x.dir.length c) from
    fun W h => have m := KM.out W h; ⟨m.c0, m.c1, m.c2, m.c3, m.c4, m.c5, m.c6, m.c7⟩)
  have HFin := Lib.hid (show ¬ RightSuper x → superRight x = false from fun h => by rw [← Bool.not_eq_true, superRight_iff]; exact h)
  have G1 := Lib.hid (within_iff 0 281474976710656 [x.epoch, x.gen, x.head, x.seq])
  have G2 := Lib.hid (within_iff 2 1024 [x.log])
  have G3 := Lib.hid (within_iff 4 1024 [x.pages])
  have HW1 := Lib.hid (show ∀ n ∈ [x.epoch, x.gen, x.head, x.seq], (Lit.int .i64 n).wf = true by simp [f0, f1, f4, f5])
  have HW2 := Lib.hid (show ∀ n ∈ [x.log], (Lit.int .i64 n).wf = true by simp [f2])
  have HW3 := Lib.hid (show ∀ n ∈ [x.pages], (Lit.int .i64 n).wf = true by simp [f3])
  obtain ⟨c0, c1, c2, c3, c4, c5, c6, c7⟩ := KS.out _ (Below.refl _ _)
  clear hm hx hs f0 f1 f2 f3 f4 f5 f6 hb1
  go_enter Try.func73, Try.ntmps73
  go_wp2_with fail
  try rw [hW1]
  clear hW1
  go_wp2_with fail
  obtain ⟨Wa, hWa⟩ : ∃ Wa, W1.alloc (.cells #[.int .i64 x.epoch, .int .i64 x.gen, .int .i64 x.head, .int .i64 x.seq] 3) = Wa := ⟨_, rfl⟩
  have hva := own_ints (l := [x.epoch, x.gen, x.head, x.seq]) 3 HW1.out (by simp) (by simpa using hWa)
  have Da : Below W1.heap.size W1 Wa := by rw [← hWa]; exact (Below.refl _ _).alloc (Nat.le_refl _) _
  rw [hz1] at hva
  rw [hWa]
  refine (superWithin_calls (low := 0) (high := 281474976710656) hva).mono ?_
  rintro e w1 ⟨rfl, hb⟩
  have D1 := Lib.hid (Da.trans (hb.mono Da.size))
  clear hva Da hWa hb c0 c1 c2 c3 c4 c5 c6 c7
  generalize withinOf 0 281474976710656 [x.epoch, x.gen, x.head, x.seq] = b1 at *
  obtain ⟨c0, c1, c2, c3, c4, c5, c6, c7⟩ := KS.out _ D1.out
  go_wp2_with fail
  obtain ⟨Wb, hWb⟩ : ∃ Wb, w1.alloc (.cells #[.int .i64 x.log] 3) = Wb := ⟨_, rfl⟩
  have hvb := own_ints (l := [x.log]) 3 HW2.out (by simp) (by simpa using hWb)
  have Db : Below w1.heap.size w1 Wb := by rw [← hWb]; exact (Below.refl _ _).alloc (Nat.le_refl _) _
  rw [hWb]
  refine (superWithin_calls (low := 2) (high := 1024) hvb).mono ?_
  rintro e w2 ⟨rfl, hb⟩
  have D2 := Lib.hid (D1.out.trans ((Db.trans (hb.mono Db.size)).mono D1.out.size))
  clear hvb Db hWb hb c0 c1 c2 c3 c4 c5 c6 c7
  generalize withinOf 2 1024 [x.log] = b2 at *
  obtain ⟨c0, c1, c2, c3, c4, c5, c6, c7⟩ := KS.out _ D2.out
  have B2 := Lib.hid (show ∀ n, Below w.heap.size w (w2.drewN n) from fun n => below_drewN (HB.out.trans (D2.out.mono HB.out.size)) n)
  cases b2 with
  | false =>
    have HE := Lib.hid (HFin.out (fun h => by have := G2.out; simp at this; have := h.log; omega))
    cases b1 with
    | false =>
      go_wp2_with fail
      go_quiet (fail)
      go_wp2_with fail
      go_ret
      exact ⟨by rw [HE.out]; first | rfl | simp, B2.out _⟩
    | true =>
      go_wp2_with fail
      go_quiet (fail)
      go_wp2_with fail
      go_ret
      exact ⟨by rw [HE.out]; first | rfl | simp, B2.out _⟩
  | true =>
  go_wp2_with fail
  obtain ⟨Wc, hWc⟩ : ∃ Wc, w2.alloc (.cells #[.int .i64 x.pages] 3) = Wc := ⟨_, rfl⟩
  have hvc := own_ints (l := [x.pages]) 3 HW3.out (by simp) (by simpa using hWc)
  have Dc : Below w2.heap.size w2 Wc := by rw [← hWc]; exact (Below.refl _ _).alloc (Nat.le_refl _) _
  rw [hWc]
  refine (superWithin_calls (low := 4) (high := 1024) hvc).mono ?_
  rintro e w3 ⟨rfl, hb⟩
  have D3 := Lib.hid (D2.out.trans ((Dc.trans (hb.mono Dc.size)).mono D2.out.size))
  clear hvc Dc hWc hb c0 c1 c2 c3 c4 c5 c6 c7
  generalize withinOf 4 1024 [x.pages] = b3 at *
  obtain ⟨c0, c1, c2, c3, c4, c5, c6, c7⟩ := KS.out _ D3.out
  have B3 := Lib.hid (show ∀ n, Below w.heap.size w (w3.drewN n) from fun n => below_drewN (HB.out.trans (D3.out.mono HB.out.size)) n)
  cases b3 with
  | false =>
    have HE := Lib.hid (HFin.out (fun h => by have := G3.out; simp at this; have := h.pages; omega))
    cases b1 with
    | false =>
      go_wp2_with fail
      go_quiet (fail)
      go_wp2_with fail
      go_ret
      exact ⟨by rw [HE.out]; first | rfl | simp, B3.out _⟩
    | true =>
      go_wp2_with fail
      go_quiet (fail)
      go_wp2_with fail
      go_ret
      exact ⟨by rw [HE.out]; first | rfl | simp, B3.out _⟩
  | true =>
  by_cases h0 : x.long < 0
  · have HE := Lib.hid (HFin.out (fun h => by have := h.long; omega))
    have h0b : decide (0 ≤ x.long) = false := decide_eq_false (by omega)
    cases b1 with
    | false =>
      go_wp2_with fail
      go_quiet (fail)
      go_wp2_with fail
      go_ret
      exact ⟨by rw [HE.out]; first | rfl | simp, B3.out _⟩
    | true =>
      go_wp2_with fail
      go_quiet (fail)
      go_wp2_with fail
      go_ret
      exact ⟨by rw [HE.out]; first | rfl | simp, B3.out _⟩
  cases b1 with
  | false =>
    have HE := Lib.hid (HFin.out (fun h => by have := G1.out; have := h.epoch; have := h.gen; have := h.head; have := h.seq; simp [maxEpoch] at *; omega))
    go_wp2_with fail
    go_quiet (fail)
    go_wp2_with fail
    go_ret
    exact ⟨by rw [HE.out]; first | rfl | simp, B3.out _⟩
  | true =>
  have h0b : decide (0 ≤ x.long) = true := decide_eq_true (by omega)
  have hp : 4 ≤ x.pages ∧ x.pages ≤ 1024 := by have := G3.out; simpa using this
  have hl2 : 2 ≤ x.log ∧ x.log ≤ 1024 := by have := G2.out; simpa using this
  obtain ⟨hp1, hp2⟩ := hp
  cases g6 : ((x.dir.length : Int) == pageCount x.long)
  case false =>
    have HE := Lib.hid (HFin.out (fun h => by have := h.count; simp [this] at g6))
    go_wp2_with fail
    go_quiet ((go_at_call 16; exact Calls.quiet_of_same (count_calls _ _ L6.out.1 L6.out.2)))
    go_wp2_with fail
    go_ret
    exact ⟨by rw [HE.out]; first | rfl | simp, B3.out _⟩
  by_cases g5 : (x.dir.length : Int) ≤ 222
  case neg =>
    have HE := Lib.hid (HFin.out (fun h => by have := h.dir; omega))
    have g5b : decide ((x.dir.length : Int) ≤ 222) = false := decide_eq_false g5
    go_wp2_with fail
    go_quiet ((go_at_call 16; exact Calls.quiet_of_same (count_calls _ _ L6.out.1 L6.out.2)))
    go_wp2_with fail
    go_ret
    exact ⟨by rw [HE.out]; first | rfl | simp, B3.out _⟩
  have g5b : decide ((x.dir.length : Int) ≤ 222) = true := decide_eq_true g5
  have HD := Lib.hid (show ∀ W, Below W1.heap.size W1 W → (Rep.int .i64).list.val (fun b => b < w.heap.size) W (.slice A x.dir.length c) x.dir from fun W h => (KM.out W h).sl.val)
  have HL := Lib.hid (show x.dir.length ≤ 1000000000 by omega)
  have HR := Lib.hid (show withinOf 0 (x.pages - 1) x.dir = true → decide x.dir.Nodup = superRight x from fun h => by
    have e6 : (x.dir.length : Int) = pageCount x.long := by simpa using g6
    have hh := G1.out.1 rfl
    have h2 := (within_iff 0 (x.pages - 1) x.dir).1 h
    have e := superRight_iff (x := x)
    by_cases hn : x.dir.Nodup
    · rw [decide_eq_true hn, eq_comm, e]
      exact ⟨hh _ (by simp), hh _ (by simp), hh _ (by simp), hh _ (by simp), hl2, ⟨hp1, hp2⟩, by omega, by omega, e6, fun q hq => by have := h2 q hq; omega, hn⟩
    · rw [decide_eq_false hn, eq_comm]
      exact HFin.out (fun h => hn h.once))
  have HO := Lib.hid (show withinOf 0 (x.pages - 1) x.dir = false → superRight x = false from fun h => HFin.out (fun hr => by
    rw [(within_iff 0 (x.pages - 1) x.dir).2 (fun q hq => by have := hr.all q hq; omega)] at h; cases h))
  have D3d := Lib.hid (show Below W1.heap.size W1 _ from D3.out.drew)
  obtain ⟨b4, hb4⟩ : ∃ b, b = withinOf 0 (x.pages - 1) x.dir := ⟨_, rfl⟩
  rw [← hb4] at HR HO
  have HB4 := Lib.hid hb4
  obtain ⟨b5, hb5⟩ : ∃ b, b = decide x.dir.Nodup := ⟨_, rfl⟩
  rw [← hb5] at HR
  have HB5 := Lib.hid hb5
  clear hb4 hb5 hl2

  have HWP := Lib.hid (show IntKind.i64.wrap (x.pages - 1) = x.pages - 1 from IntWalk.i64_in _ ⟨by omega, by omega⟩)
  have hwp := HWP.out
  clear hz1
  cases b4 with
  | false =>
    have HE := Lib.hid (HO.out rfl)
    go_wp2_with fail
    refine wp_region_held (S := fun w' => Below W1.heap.size W1 w') (by kernel_rfl) ?_
    refine wpAnyH_take (i := 0) (v := .bool true) rfl (by kernel_rfl) (by kernel_rfl) (by kernel_rfl) (fun _ _ _ h => h) (Or.inl ⟨by rfl, fun w' _ => by go_simp⟩) D3d.out ?_
    go_simp
    refine wpAnyH_take (i := 1) (v := .bool true) rfl (by kernel_rfl) (by kernel_rfl) (by kernel_rfl) (fun _ _ _ h => h) (Or.inl ⟨by rfl, fun w' _ => by go_simp⟩) D3d.out ?_
    go_simp
    refine wpAnyH_take (i := 2) (v := .bool true) rfl (by kernel_rfl) (by kernel_rfl) (by kernel_rfl) (fun _ _ _ h => h) (Or.inl ⟨by rfl, fun w' _ => by go_simp⟩) D3d.out ?_
    go_simp
    refine wpAnyH_take (i := 3) (v := .bool true) rfl (by kernel_rfl) (by kernel_rfl) (by kernel_rfl) (fun _ _ _ h => h) (Or.inl ⟨by rfl, fun w' _ => by go_simp⟩) D3d.out ?_
    go_simp
    refine wpAnyH_take (i := 4) (v := .bool true) rfl (by kernel_rfl) (by kernel_rfl) (by kernel_rfl) (fun _ _ _ h => h) (Or.inl ⟨by rfl, fun w' _ => by go_simp⟩) D3d.out ?_
    go_simp
    refine wpAnyH_take (i := 5) (v := .pointer (some ⟨w.heap.size, 7, none⟩)) rfl (by kernel_rfl) (by kernel_rfl) (by kernel_rfl) (fun _ _ _ h => h) (Or.inl ⟨by rfl, fun w' _ => by go_simp⟩) D3d.out ?_
    go_simp
    refine wpAnyH_take (i := 6) (v := .slice A x.dir.length c) rfl (by kernel_rfl) (by kernel_rfl) (by kernel_rfl) (fun _ _ _ h => h) (Or.inl ⟨by rfl, fun w' h => by obtain ⟨_, _, _, x3, _, _, x6, x7⟩ := KS.out _ (h : Below W1.heap.size W1 w'); go_simp⟩) D3d.out ?_
    go_simp
    refine wpAnyH_take (i := 7) (v := .int .i64 x.dir.length) rfl (by kernel_rfl) (by kernel_rfl) (by kernel_rfl) (fun _ _ _ h => h) (Or.inl ⟨by rfl, fun w' _ => by go_simp⟩) D3d.out ?_
    go_simp
    refine wpAnyH_take (i := 8) (v := .pointer (some ⟨w.heap.size, 6, none⟩)) rfl (by kernel_rfl) (by kernel_rfl) (by kernel_rfl) (fun _ _ _ h => h) (Or.inl ⟨by rfl, fun w' _ => by go_simp⟩) D3d.out ?_
    go_simp
    refine wpAnyH_take (i := 9) (v := .int .i64 x.long) rfl (by kernel_rfl) (by kernel_rfl) (by kernel_rfl) (fun _ _ _ h => h) (Or.inl ⟨by rfl, fun w' h => by obtain ⟨_, _, _, x3, _, _, x6, x7⟩ := KS.out _ (h : Below W1.heap.size W1 w'); go_simp⟩) D3d.out ?_
    go_simp
    refine wpAnyH_all (rs := [10]) (by kernel_rfl) (by simp) ?_
    intro i hi
    obtain rfl : i = 10 := by simpa using hi
    refine wpOp_step rfl (fun K hK => ?_)
    go_simp
    refine (count_calls _ _ L6.out.1 L6.out.2).mono ?_
    rintro e w' ⟨rfl, hw⟩
    have hw2 := hw.symm
    subst hw2
    clear hw
    refine hK _ _ ⟨D3d.out, ?_⟩
    clear hK K
    refine wpAnyH_take (i := 11) (v := .bool true) rfl (by kernel_rfl) (by kernel_rfl) (by kernel_rfl) (fun _ _ _ h => h) (Or.inl ⟨by rfl, fun w' _ => by go_simp⟩) D3d.out ?_
    go_simp
    refine wpAnyH_take (i := 12) (v := .bool true) rfl (by kernel_rfl) (by kernel_rfl) (by kernel_rfl) (fun _ _ _ h => h) (Or.inl ⟨by rfl, fun w' _ => by go_simp⟩) D3d.out ?_
    go_simp
    refine wpAnyH_take (i := 13) (v := .bool true) rfl (by kernel_rfl) (by kernel_rfl) (by kernel_rfl) (fun _ _ _ h => h) (Or.inl ⟨by rfl, fun w' _ => by go_simp⟩) D3d.out ?_
    go_simp
    refine wpAnyH_take (i := 14) (v := .pointer (some ⟨w.heap.size, 7, none⟩)) rfl (by kernel_rfl) (by kernel_rfl) (by kernel_rfl) (fun _ _ _ h => h) (Or.inl ⟨by rfl, fun w' _ => by go_simp⟩) D3d.out ?_
    go_simp
    refine wpAnyH_take (i := 15) (v := .slice A x.dir.length c) rfl (by kernel_rfl) (by kernel_rfl) (by kernel_rfl) (fun _ _ _ h => h) (Or.inl ⟨by rfl, fun w' h => by obtain ⟨_, _, _, x3, _, _, x6, x7⟩ := KS.out _ (h : Below W1.heap.size W1 w'); go_simp⟩) D3d.out ?_
    go_simp
    refine wpAnyH_take (i := 16) (v := .int .i64 x.dir.length) rfl (by kernel_rfl) (by kernel_rfl) (by kernel_rfl) (fun _ _ _ h => h) (Or.inl ⟨by rfl, fun w' _ => by go_simp⟩) D3d.out ?_
    go_simp
    refine wpAnyH_take (i := 17) (v := .bool true) rfl (by kernel_rfl) (by kernel_rfl) (by kernel_rfl) (fun _ _ _ h => h) (Or.inl ⟨by rfl, fun w' _ => by go_simp⟩) D3d.out ?_
    go_simp
    refine wpAnyH_take (i := 18) (v := .bool true) rfl (by kernel_rfl) (by kernel_rfl) (by kernel_rfl) (fun _ _ _ h => h) (Or.inl ⟨by rfl, fun w' _ => by go_simp⟩) D3d.out ?_
    go_simp
    refine wpAnyH_take (i := 19) (v := .bool true) rfl (by kernel_rfl) (by kernel_rfl) (by kernel_rfl) (fun _ _ _ h => h) (Or.inl ⟨by rfl, fun w' _ => by go_simp⟩) D3d.out ?_
    go_simp
    refine wpAnyH_take (i := 20) (v := .pointer (some ⟨w.heap.size, 3, none⟩)) rfl (by kernel_rfl) (by kernel_rfl) (by kernel_rfl) (fun _ _ _ h => h) (Or.inl ⟨by rfl, fun w' _ => by go_simp⟩) D3d.out ?_
    go_simp
    refine wpAnyH_take (i := 21) (v := .int .i64 x.pages) rfl (by kernel_rfl) (by kernel_rfl) (by kernel_rfl) (fun _ _ _ h => h) (Or.inl ⟨by rfl, fun w' h => by obtain ⟨_, _, _, x3, _, _, x6, x7⟩ := KS.out _ (h : Below W1.heap.size W1 w'); go_simp⟩) D3d.out ?_
    go_simp
    refine wpAnyH_take (i := 22) (v := .int .i64 (x.pages - 1)) rfl (by kernel_rfl) (by kernel_rfl) (by kernel_rfl) (fun _ _ _ h => h) (Or.inl ⟨by rfl, fun w' _ => by go_simp⟩) D3d.out ?_
    go_simp
    refine wpAnyH_take (i := 23) (v := .pointer (some ⟨w.heap.size, 7, none⟩)) rfl (by kernel_rfl) (by kernel_rfl) (by kernel_rfl) (fun _ _ _ h => h) (Or.inl ⟨by rfl, fun w' _ => by go_simp⟩) D3d.out ?_
    go_simp
    refine wpAnyH_take (i := 24) (v := .slice A x.dir.length c) rfl (by kernel_rfl) (by kernel_rfl) (by kernel_rfl) (fun _ _ _ h => h) (Or.inl ⟨by rfl, fun w' h => by obtain ⟨_, _, _, x3, _, _, x6, x7⟩ := KS.out _ (h : Below W1.heap.size W1 w'); go_simp⟩) D3d.out ?_
    go_simp
    refine wpAnyH_all (rs := [25]) (by kernel_rfl) (by simp) ?_
    intro i hi
    obtain rfl : i = 25 := by simpa using hi
    refine wpOp_step rfl (fun K hK => ?_)
    go_simp
    refine (superWithin_calls (low := 0) (high := x.pages - 1) (HD.out _ D3d.out)).mono ?_
    rintro e w4 ⟨rfl, hb⟩
    rw [← HB4.out]
    have D4 := Lib.hid (D3d.out.trans (hb.mono D3d.out.size))
    clear hb
    refine hK _ _ ⟨D4.out, ?_⟩
    clear hK K
    refine wpAnyH_take (i := 26) (v := .bool false) rfl (by kernel_rfl) (by kernel_rfl) (by kernel_rfl) (fun _ _ _ h => h) (Or.inl ⟨by rfl, fun w' _ => by go_simp⟩) D4.out ?_
    go_simp
    refine wpAnyH_take (i := 27) (v := .bool false) rfl (by kernel_rfl) (by kernel_rfl) (by kernel_rfl) (fun _ _ _ h => h) (Or.inl ⟨by rfl, fun w' _ => by go_simp⟩) D4.out ?_
    go_simp
    refine wpAnyH_take (i := 28) (v := undef) rfl (by kernel_rfl) (by kernel_rfl) (by kernel_rfl) (fun _ _ _ h => h) (Or.inr ⟨by rfl, rfl⟩) D4.out ?_
    go_simp
    refine wpAnyH_take (i := 29) (v := undef) rfl (by kernel_rfl) (by kernel_rfl) (by kernel_rfl) (fun _ _ _ h => h) (Or.inr ⟨by rfl, rfl⟩) D4.out ?_
    go_simp
    refine wpAnyH_take (i := 30) (v := undef) rfl (by kernel_rfl) (by kernel_rfl) (by kernel_rfl) (fun _ _ _ h => h) (Or.inr ⟨by rfl, rfl⟩) D4.out ?_
    go_simp
    refine wpAnyH_take (i := 31) (v := .bool false) rfl (by kernel_rfl) (by kernel_rfl) (by kernel_rfl) (fun _ _ _ h => h) (Or.inl ⟨by rfl, fun w' _ => by go_simp⟩) D4.out ?_
    go_simp
    refine wpAnyH_take (i := 32) (v := .bool false) rfl (by kernel_rfl) (by kernel_rfl) (by kernel_rfl) (fun _ _ _ h => h) (Or.inl ⟨by rfl, fun w' _ => by go_simp⟩) D4.out ?_
    go_simp
    refine wpAnyH_done (by kernel_rfl) ?_ _
    go_wp2_with fail
    go_ret
    exact ⟨by rw [HE.out]; first | rfl | simp, HB.out.trans (D4.out.mono HB.out.size)⟩
  | true =>
    have HE := Lib.hid (HR.out rfl)
    go_wp2_with fail
    refine wp_region_held (S := fun w' => Below W1.heap.size W1 w') (by kernel_rfl) ?_
    refine wpAnyH_take (i := 0) (v := .bool true) rfl (by kernel_rfl) (by kernel_rfl) (by kernel_rfl) (fun _ _ _ h => h) (Or.inl ⟨by rfl, fun w' _ => by go_simp⟩) D3d.out ?_
    go_simp
    refine wpAnyH_take (i := 1) (v := .bool true) rfl (by kernel_rfl) (by kernel_rfl) (by kernel_rfl) (fun _ _ _ h => h) (Or.inl ⟨by rfl, fun w' _ => by go_simp⟩) D3d.out ?_
    go_simp
    refine wpAnyH_take (i := 2) (v := .bool true) rfl (by kernel_rfl) (by kernel_rfl) (by kernel_rfl) (fun _ _ _ h => h) (Or.inl ⟨by rfl, fun w' _ => by go_simp⟩) D3d.out ?_
    go_simp
    refine wpAnyH_take (i := 3) (v := .bool true) rfl (by kernel_rfl) (by kernel_rfl) (by kernel_rfl) (fun _ _ _ h => h) (Or.inl ⟨by rfl, fun w' _ => by go_simp⟩) D3d.out ?_
    go_simp
    refine wpAnyH_take (i := 4) (v := .bool true) rfl (by kernel_rfl) (by kernel_rfl) (by kernel_rfl) (fun _ _ _ h => h) (Or.inl ⟨by rfl, fun w' _ => by go_simp⟩) D3d.out ?_
    go_simp
    refine wpAnyH_take (i := 5) (v := .pointer (some ⟨w.heap.size, 7, none⟩)) rfl (by kernel_rfl) (by kernel_rfl) (by kernel_rfl) (fun _ _ _ h => h) (Or.inl ⟨by rfl, fun w' _ => by go_simp⟩) D3d.out ?_
    go_simp
    refine wpAnyH_take (i := 6) (v := .slice A x.dir.length c) rfl (by kernel_rfl) (by kernel_rfl) (by kernel_rfl) (fun _ _ _ h => h) (Or.inl ⟨by rfl, fun w' h => by obtain ⟨_, _, _, x3, _, _, x6, x7⟩ := KS.out _ (h : Below W1.heap.size W1 w'); go_simp⟩) D3d.out ?_
    go_simp
    refine wpAnyH_take (i := 7) (v := .int .i64 x.dir.length) rfl (by kernel_rfl) (by kernel_rfl) (by kernel_rfl) (fun _ _ _ h => h) (Or.inl ⟨by rfl, fun w' _ => by go_simp⟩) D3d.out ?_
    go_simp
    refine wpAnyH_take (i := 8) (v := .pointer (some ⟨w.heap.size, 6, none⟩)) rfl (by kernel_rfl) (by kernel_rfl) (by kernel_rfl) (fun _ _ _ h => h) (Or.inl ⟨by rfl, fun w' _ => by go_simp⟩) D3d.out ?_
    go_simp
    refine wpAnyH_take (i := 9) (v := .int .i64 x.long) rfl (by kernel_rfl) (by kernel_rfl) (by kernel_rfl) (fun _ _ _ h => h) (Or.inl ⟨by rfl, fun w' h => by obtain ⟨_, _, _, x3, _, _, x6, x7⟩ := KS.out _ (h : Below W1.heap.size W1 w'); go_simp⟩) D3d.out ?_
    go_simp
    refine wpAnyH_all (rs := [10]) (by kernel_rfl) (by simp) ?_
    intro i hi
    obtain rfl : i = 10 := by simpa using hi
    refine wpOp_step rfl (fun K hK => ?_)
    go_simp
    refine (count_calls _ _ L6.out.1 L6.out.2).mono ?_
    rintro e w' ⟨rfl, hw⟩
    have hw2 := hw.symm
    subst hw2
    clear hw
    refine hK _ _ ⟨D3d.out, ?_⟩
    clear hK K
    refine wpAnyH_take (i := 11) (v := .bool true) rfl (by kernel_rfl) (by kernel_rfl) (by kernel_rfl) (fun _ _ _ h => h) (Or.inl ⟨by rfl, fun w' _ => by go_simp⟩) D3d.out ?_
    go_simp
    refine wpAnyH_take (i := 12) (v := .bool true) rfl (by kernel_rfl) (by kernel_rfl) (by kernel_rfl) (fun _ _ _ h => h) (Or.inl ⟨by rfl, fun w' _ => by go_simp⟩) D3d.out ?_
    go_simp
    refine wpAnyH_take (i := 13) (v := .bool true) rfl (by kernel_rfl) (by kernel_rfl) (by kernel_rfl) (fun _ _ _ h => h) (Or.inl ⟨by rfl, fun w' _ => by go_simp⟩) D3d.out ?_
    go_simp
    refine wpAnyH_take (i := 14) (v := .pointer (some ⟨w.heap.size, 7, none⟩)) rfl (by kernel_rfl) (by kernel_rfl) (by kernel_rfl) (fun _ _ _ h => h) (Or.inl ⟨by rfl, fun w' _ => by go_simp⟩) D3d.out ?_
    go_simp
    refine wpAnyH_take (i := 15) (v := .slice A x.dir.length c) rfl (by kernel_rfl) (by kernel_rfl) (by kernel_rfl) (fun _ _ _ h => h) (Or.inl ⟨by rfl, fun w' h => by obtain ⟨_, _, _, x3, _, _, x6, x7⟩ := KS.out _ (h : Below W1.heap.size W1 w'); go_simp⟩) D3d.out ?_
    go_simp
    refine wpAnyH_take (i := 16) (v := .int .i64 x.dir.length) rfl (by kernel_rfl) (by kernel_rfl) (by kernel_rfl) (fun _ _ _ h => h) (Or.inl ⟨by rfl, fun w' _ => by go_simp⟩) D3d.out ?_
    go_simp
    refine wpAnyH_take (i := 17) (v := .bool true) rfl (by kernel_rfl) (by kernel_rfl) (by kernel_rfl) (fun _ _ _ h => h) (Or.inl ⟨by rfl, fun w' _ => by go_simp⟩) D3d.out ?_
    go_simp
    refine wpAnyH_take (i := 18) (v := .bool true) rfl (by kernel_rfl) (by kernel_rfl) (by kernel_rfl) (fun _ _ _ h => h) (Or.inl ⟨by rfl, fun w' _ => by go_simp⟩) D3d.out ?_
    go_simp
    refine wpAnyH_take (i := 19) (v := .bool true) rfl (by kernel_rfl) (by kernel_rfl) (by kernel_rfl) (fun _ _ _ h => h) (Or.inl ⟨by rfl, fun w' _ => by go_simp⟩) D3d.out ?_
    go_simp
    refine wpAnyH_take (i := 20) (v := .pointer (some ⟨w.heap.size, 3, none⟩)) rfl (by kernel_rfl) (by kernel_rfl) (by kernel_rfl) (fun _ _ _ h => h) (Or.inl ⟨by rfl, fun w' _ => by go_simp⟩) D3d.out ?_
    go_simp
    refine wpAnyH_take (i := 21) (v := .int .i64 x.pages) rfl (by kernel_rfl) (by kernel_rfl) (by kernel_rfl) (fun _ _ _ h => h) (Or.inl ⟨by rfl, fun w' h => by obtain ⟨_, _, _, x3, _, _, x6, x7⟩ := KS.out _ (h : Below W1.heap.size W1 w'); go_simp⟩) D3d.out ?_
    go_simp
    refine wpAnyH_take (i := 22) (v := .int .i64 (x.pages - 1)) rfl (by kernel_rfl) (by kernel_rfl) (by kernel_rfl) (fun _ _ _ h => h) (Or.inl ⟨by rfl, fun w' _ => by go_simp⟩) D3d.out ?_
    go_simp
    refine wpAnyH_take (i := 23) (v := .pointer (some ⟨w.heap.size, 7, none⟩)) rfl (by kernel_rfl) (by kernel_rfl) (by kernel_rfl) (fun _ _ _ h => h) (Or.inl ⟨by rfl, fun w' _ => by go_simp⟩) D3d.out ?_
    go_simp
    refine wpAnyH_take (i := 24) (v := .slice A x.dir.length c) rfl (by kernel_rfl) (by kernel_rfl) (by kernel_rfl) (fun _ _ _ h => h) (Or.inl ⟨by rfl, fun w' h => by obtain ⟨_, _, _, x3, _, _, x6, x7⟩ := KS.out _ (h : Below W1.heap.size W1 w'); go_simp⟩) D3d.out ?_
    go_simp
    refine wpAnyH_all (rs := [25]) (by kernel_rfl) (by simp) ?_
    intro i hi
    obtain rfl : i = 25 := by simpa using hi
    refine wpOp_step rfl (fun K hK => ?_)
    go_simp
    refine (superWithin_calls (low := 0) (high := x.pages - 1) (HD.out _ D3d.out)).mono ?_
    rintro e w4 ⟨rfl, hb⟩
    rw [← HB4.out]
    have D4 := Lib.hid (D3d.out.trans (hb.mono D3d.out.size))
    clear hb
    refine hK _ _ ⟨D4.out, ?_⟩
    clear hK K
    refine wpAnyH_take (i := 26) (v := .bool true) rfl (by kernel_rfl) (by kernel_rfl) (by kernel_rfl) (fun _ _ _ h => h) (Or.inl ⟨by rfl, fun w' _ => by go_simp⟩) D4.out ?_
    go_simp
    refine wpAnyH_take (i := 27) (v := .bool true) rfl (by kernel_rfl) (by kernel_rfl) (by kernel_rfl) (fun _ _ _ h => h) (Or.inl ⟨by rfl, fun w' _ => by go_simp⟩) D4.out ?_
    go_simp
    refine wpAnyH_take (i := 28) (v := .pointer (some ⟨w.heap.size, 7, none⟩)) rfl (by kernel_rfl) (by kernel_rfl) (by kernel_rfl) (fun _ _ _ h => h) (Or.inl ⟨by rfl, fun w' _ => by go_simp⟩) D4.out ?_
    go_simp
    refine wpAnyH_take (i := 29) (v := .slice A x.dir.length c) rfl (by kernel_rfl) (by kernel_rfl) (by kernel_rfl) (fun _ _ _ h => h) (Or.inl ⟨by rfl, fun w' h => by obtain ⟨_, _, _, x3, _, _, x6, x7⟩ := KS.out _ (h : Below W1.heap.size W1 w'); go_simp⟩) D4.out ?_
    go_simp
    refine wpAnyH_all (rs := [30]) (by kernel_rfl) (by simp) ?_
    intro i hi
    obtain rfl : i = 30 := by simpa using hi
    refine wpOp_step rfl (fun K hK => ?_)
    go_simp
    refine (once_calls (HD.out _ D4.out) HL.out).mono ?_
    rintro e w5 ⟨rfl, hb⟩
    rw [← HB5.out]
    have D5 := Lib.hid (D4.out.trans (hb.mono D4.out.size))
    clear hb
    refine hK _ _ ⟨D5.out, ?_⟩
    clear hK K
    refine wpAnyH_take (i := 31) (v := .bool b5) rfl (by kernel_rfl) (by kernel_rfl) (by kernel_rfl) (fun _ _ _ h => h) (Or.inl ⟨by rfl, fun w' _ => by go_simp⟩) D5.out ?_
    go_simp
    refine wpAnyH_take (i := 32) (v := .bool b5) rfl (by kernel_rfl) (by kernel_rfl) (by kernel_rfl) (fun _ _ _ h => h) (Or.inl ⟨by rfl, fun w' _ => by go_simp⟩) D5.out ?_
    go_simp
    refine wpAnyH_done (by kernel_rfl) ?_ _
    go_wp2_with fail
    go_ret
    exact ⟨by rw [← HE.out]; first | rfl | simp, HB.out.trans (D5.out.mono HB.out.size)⟩
end Go.Proofs.Ythjjnlilpklacaa
