/- Walk of a new device. Printed by gen_disknew.py. -/
import Derived.Test.YteljibjbndpncaaWfDiskWrite
namespace Go.Proofs.Yteljibjbndpncaa
open Go.RowKit
open Extern.Stop (cell)

/-- A sector of 512 bytes in a block of its own. -/
def rSec : Rep (List UInt8 × Nat) where
  size := 1
  wrap cs := cs.headD undef
  rd Q w cs x := cs = [.slice (some ⟨x.2, 0, none⟩) 512 512] ∧ Q x.2 ∧ SecAt w x.2 5 x.1
  len h := by rw [h.1]; rfl
  one h := by rw [h.1]; simp [Value.oneCell']
  back h := by rw [h.1]; rfl
  keep hk h := ⟨h.1, (hk _ h.2.1 ⟨_, _, _, h.2.2.blk⟩).1, h.2.2.keep (hk _ h.2.1 ⟨_, _, _, h.2.2.blk⟩).2⟩
theorem rSec_val {Q : Nat → Prop} {w : World} {b : Nat} {L : List UInt8} (h : SecAt w b 5 L) (hq : Q b) : rSec.val Q w (.slice (some ⟨b, 0, none⟩) 512 512) (L, b) := ⟨_, rfl, rfl, hq, h⟩
/-- A new device as0 it grows: k sectors so far. -/
structure NewAt (w0 W : World) (P M k : Nat) (Sf : Option Addr) (cs : Nat) (xs : List (List UInt8 × Nat)) : Prop where
  len : xs.length = k
  blk : W.heap[P]? = some (.cells #[.slice Sf k cs, .map (some M), .int .i64 (-1), .bool false, .int .i64 0, .int .i64 0] 105 (0, 0))
  acc : rSec.acc 33 (P + 1) (fun b => P < b) W (.slice Sf k cs) xs
  map : W.heap[M]? = some (.map #[] 0)
  bel : Below w0.heap.size w0 W
  dis : (xs.map (·.2)).Nodup
  lt : ∀ x ∈ xs, P < x.2 ∧ x.2 < W.heap.size
  pos : w0.heap.size ≤ M ∧ M < P ∧ P < W.heap.size
def newN (n : Int) : Nat := (if n < 0 then 0 else if 4096 < n then 4096 else n).toNat
def NewPost (w : World) (n : Int) (e : Ending) (W : World) : Prop :=
  ∃ P M Sf cs xs, e = .returned (.pointer (some ⟨P, 0, none⟩)) ∧ NewAt w W P M (newN n) Sf cs xs ∧ ∀ x ∈ xs, x.1 = zeros 512
theorem newN_cases (n : Int) : (n < 0 ∧ newN n = 0) ∨ (4096 < n ∧ newN n = 4096) ∨ (0 ≤ n ∧ n ≤ 4096 ∧ n = (newN n : Nat)) := by
  unfold newN
  by_cases h : n < 0
  · exact .inl ⟨h, by rw [if_pos h]; rfl⟩
  · by_cases h2 : 4096 < n
    · exact .inr (.inl ⟨h2, by rw [if_neg h, if_pos h2]; rfl⟩)
    · exact .inr (.inr ⟨by omega, by omega, by rw [if_neg h, if_neg h2]; omega⟩)

theorem new_step {w0 wr v5 W7 : World} {P M k : Nat} {Sf A7 : Option Addr} {cs c7 : Nat} {xs : List (List UInt8 × Nat)} {u : Array Value} (h : NewAt w0 wr P M k Sf cs xs) (hb6 : Below wr.heap.size wr (v5.alloc (.cells u 33))) (hl : wr.heap.size < v5.heap.size)
    (q2 : rSec.acc 33 (P + 1) (fun b => P < b) W7 (.slice A7 (k + 1) c7) (xs ++ [(zeros 512, wr.heap.size)])) (q3 : (v5.alloc (.cells u 33)).grownBy W7 (Value.slice Sf k cs).ownBlock)
    (b7 : W7.heap[P]? = some (.cells #[.slice Sf k cs, .map (some M), .int .i64 (-1), .bool false, .int .i64 0, .int .i64 0] 105 (0, 0))) (hx : (xs ++ [(zeros 512, wr.heap.size)]).length = k + 1) :
    NewAt w0 (W7.setCell ⟨P, 0, none⟩ (.slice A7 (k + 1) c7)) P M (k + 1) A7 c7 (xs ++ [(zeros 512, wr.heap.size)]) := by
  have hown := Rep.acc_own h.acc
  have hown7 := Rep.acc_own q2
  have hpos := h.pos
  have s6 := hb6.size
  have s7 := q3.size
  have hs5 : (v5.alloc (.cells u 33)).heap.size = v5.heap.size + 1 := by simp
  refine ⟨hx, heap_setRow b7, Rep.acc_keep (fun b hb _ => Below.heap_setCell _ _ _ _ ?_) (fun _ hb _ => hb) q2, ?_, ?_, ?_, fun x hx => ?_, ⟨hpos.1, hpos.2.1, by simp; omega⟩⟩
  · show b ≠ P
    rcases hb with hb | hb
    · have hb' : P < b := hb; omega
    · have := (hown7 b hb).1; omega
  · rw [Below.heap_setCell _ _ _ _ (show M ≠ P by omega), q3.block M (by omega) (fun e => by have := (hown M e.symm).1; omega), hb6.block M (by omega)]
    exact h.map
  · exact below_set ((h.bel.trans (hb6.mono h.bel.size)).grown q3 (by have := h.bel.size; omega) (fun b hb => by have := (hown b hb).1; omega)) (by omega)
  · rw [List.map_append, List.nodup_append]
    refine ⟨h.dis, by simp, fun a ha b hb => ?_⟩
    simp at hb
    obtain ⟨x, hx, rfl⟩ := List.mem_map.1 ha
    have := (h.lt x hx).2
    omega
  · have hz : (W7.setCell ⟨P, 0, none⟩ (.slice A7 (k + 1) c7)).heap.size = W7.heap.size := by simp
    rw [hz]
    rcases List.mem_append.1 hx with hx | hx
    · have := h.lt x hx; omega
    · simp at hx; rw [hx]; exact ⟨hpos.2.2, by show wr.heap.size < _; omega⟩

set_option maxRecDepth 100000 in
set_option maxHeartbeats 400000 in
/-- disk.New -/
theorem dnew_calls {n : Int} (h0 : 0 ≤ n) (h1 : n ≤ 4096) (w : World) : Calls Try.prog 23 #[.int .i64 n] w (NewPost w n) := by
  have hmk : ∀ w, (Instr.makeSlice 33 (.int .i64 512) (.int .i64 512)).run Try.prog w = .ok (.slice (some ⟨w.heap.size, 0, none⟩) 512 512) (w.alloc (.cells (zeroBytes 512) 5)) :=
    fun w => run_make_bytes Try.underlying33 info5 512 (by omega) w
  have hmm := @run_makeMap Try.prog
  obtain ⟨Z, hZ⟩ : ∃ Z, Z = zeroBytes 512 := ⟨_, rfl⟩
  rw [← hZ] at hmk
  have HZ := Lib.hid (show Z = ((zeros 512).map cell).toArray by rw [hZ, zeroBytes_is])
  clear hZ
  obtain ⟨N, hN⟩ : ∃ N, N = newN n := ⟨_, rfl⟩
  have hcase : n = (N : Int) := by rcases newN_cases n with h | h | h <;> omega
  have HN := Lib.hid hN
  have HN4 := Lib.hid (show N ≤ 4096 by omega)
  clear hN
  obtain ⟨W1, hW1⟩ : ∃ W1, w.alloc (.map #[] 0) = W1 := ⟨_, rfl⟩
  have hm1 : W1.heap[w.heap.size]? = some (.map #[] 0) := by rw [← hW1]; exact heap_alloc_new _ _
  have hb1 : Below w.heap.size w W1 := by rw [← hW1]; exact (Below.refl _ _).alloc (Nat.le_refl _) _
  have hz1 : W1.heap.size = w.heap.size + 1 := by rw [← hW1]; simp
  obtain ⟨W2, hW2⟩ : ∃ W2, W1.alloc (.cells #[.slice none 0 0, .map (some w.heap.size), .int .i64 (-1), .bool false, .int .i64 0, .int .i64 0] 105) = W2 := ⟨_, rfl⟩
  have hz2 : W2.heap.size = w.heap.size + 1 + 1 := by rw [← hW2]; simp [hz1]
  have H0 := Lib.hid (show NewAt w W2 (w.heap.size + 1) w.heap.size 0 none 0 [] from ⟨rfl, by rw [← hW2, ← hz1]; exact heap_alloc_new _ _, Rep.acc_nil, by rw [← hW2, heap_alloc_old _ _ (by omega)]; exact hm1, by rw [← hW2]; exact hb1.alloc (by omega) _, by simp, by simp, ⟨Nat.le_refl _, by omega, by omega⟩⟩)
  clear hm1 hb1
  subst hcase
  go_enter Try.func23, Try.ntmps23
  go_wp2_with fail
  try rw [hW1]
  try rw [hW2]
  go_wp2_with fail
  clear hW1 hW2 hz1 hz2
  go_loopw [10] (fun i wr => ∃ (k : Nat) (Sf : Option Addr) (cs : Nat) (xs : List (List UInt8 × Nat)), i = .int .i64 k ∧ k ≤ N ∧ NewAt w wr (w.heap.size + 1) w.heap.size k Sf cs xs ∧ Hid (∀ x ∈ xs, x.1 = zeros 512)) (fun i _ => N - (intOf i).toNat)
  case atStart => exact ⟨0, none, 0, [], rfl, Nat.zero_le _, H0.out, fun x hx => by simp at hx⟩
  case round =>
    obtain ⟨k, Sf, cs, xs, rfl, hk, hr, hall⟩ := hrel
    have HR := Lib.hid hr
    by_cases hlt : (k : Int) < N
    · have hk2 : k < 4096 := by have := HN4.out; omega
      have hgb := hr.blk
      have hgp := hr.pos
      have c0 := cell_row hr.blk 0
      clear hr
      go_wp2_with fail
      refine wp_region_any (by kernel_rfl) ?_
      try (change wpAny _ _ _ _ _ _ _ (World.drew _))
      refine wpAny_take (i := 0) (v := .pointer (some ⟨w.heap.size + 1, 0, none⟩)) rfl (by kernel_rfl) (by kernel_rfl) (by kernel_rfl) (fun _ _ _ h => h) (Or.inl ⟨by rfl, fun w' => by go_simp⟩) ?_
      go_simp
      refine wpAny_take (i := 1) (v := .pointer (some ⟨w.heap.size + 1, 0, none⟩)) rfl (by kernel_rfl) (by kernel_rfl) (by kernel_rfl) (fun _ _ _ h => h) (Or.inl ⟨by rfl, fun w' => by go_simp⟩) ?_
      go_simp
      refine wpAny_take (i := 2) (v := .pointer (some ⟨w.heap.size + 1, 0, none⟩)) rfl (by kernel_rfl) (by kernel_rfl) (by kernel_rfl) (fun _ _ _ h => h) (Or.inl ⟨by rfl, fun w' => by go_simp⟩) ?_
      go_simp
      refine wpAny_take (i := 3) (v := .pointer (some ⟨w.heap.size + 1, 0, none⟩)) rfl (by kernel_rfl) (by kernel_rfl) (by kernel_rfl) (fun _ _ _ h => h) (Or.inl ⟨by rfl, fun w' => by go_simp⟩) ?_
      go_simp
      refine any_step [4, 5] (by kernel_rfl) (by simp) ?_
      intro j hj
      rcases (by simpa using hj : j = 4 ∨ j = 5) with rfl | rfl
      · refine wpOp_step rfl (fun K hK => ?_)
        go_simp
        refine hK _ _ ?_
        clear hK K
        refine any_step [5] (by kernel_rfl) (by simp) ?_
        intro j hj
        obtain rfl : j = 5 := by simpa using hj
        refine wpOp_step rfl (fun K hK => ?_)
        go_simp
        refine hK _ _ ?_
        clear hK K
        have HB5 := Lib.hid (show Below wr.heap.size wr (wr.alloc (.cells Z 5)).drew from ((Below.refl _ _).alloc (Nat.le_refl _) _).drew)
        have HS5 := Lib.hid (show SecAt (wr.alloc (.cells Z 5)).drew wr.heap.size 5 (zeros 512) from ⟨by rw [← HZ.out]; exact heap_alloc_new wr _, zeros_length _⟩)
        have c5 := (HB5.out.cell (p := ⟨w.heap.size + 1, 0, none⟩) hgp.2.2).trans c0
        generalize (wr.alloc (.cells Z 5)).drew = W5 at *
        refine any_step [6] (by kernel_rfl) (by simp) ?_
        intro j hj
        obtain rfl : j = 6 := by simpa using hj
        refine wpOp_step rfl (fun K hK => ?_)
        refine step_run rfl (exec_buildSlice (vy := .slice (some ⟨wr.heap.size, 0, none⟩) 512 512) rfl (.slice none 0 0) 1 Try.underlying39 info22' rfl rfl (by decide)) ?_
        go_simp
        refine hK _ _ ?_
        clear hK K
        have HB6 := Lib.hid (HB5.out.alloc HB5.out.size (.cells #[.slice (some ⟨wr.heap.size, 0, none⟩) 512 512] 33))
        have c6 := (HB6.out.cell (p := ⟨w.heap.size + 1, 0, none⟩) hgp.2.2).trans c0
        have hg6 := heap_alloc_new W5 (.cells #[.slice (some ⟨wr.heap.size, 0, none⟩) 512 512] 33)
        have hz6 : (W5.alloc (.cells #[.slice (some ⟨wr.heap.size, 0, none⟩) 512 512] 33)).heap.size = W5.heap.size + 1 := by simp
        have hacc6 : rSec.acc 33 (w.heap.size + 1 + 1) (fun b => w.heap.size + 1 < b) (W5.alloc (.cells #[.slice (some ⟨wr.heap.size, 0, none⟩) 512 512] 33)) (.slice Sf k cs) xs :=
          Rep.acc_keep (fun b _ hl => HB6.out.block b hl.lt) (fun _ hb _ => hb) HR.out.acc
        have hown := Rep.acc_own HR.out.acc
        have hrd6 : rSec.rd (fun b => w.heap.size + 1 < b ∧ (Value.slice Sf k cs).ownBlock ≠ some b) (W5.alloc (.cells #[.slice (some ⟨wr.heap.size, 0, none⟩) 512 512] 33)) [.slice (some ⟨wr.heap.size, 0, none⟩) 512 512] (zeros 512, wr.heap.size) :=
          ⟨rfl, ⟨hgp.2.2, fun e => by have := (hown _ e).2; omega⟩, HS5.out.keep (heap_alloc_old _ _ HS5.out.lt)⟩
        obtain ⟨v', W7, q1, q2, q3, q4⟩ := Rep.acc_more (P := Try.prog) (ty := 39) (ys := [(zeros 512, wr.heap.size)]) (A := some ⟨W5.heap.size, 0, none⟩) (m := 1) (c := 1) Try.underlying39 info22 rfl (by decide) rfl hacc6 rfl (Rep.row_one_elem hrd6)
          (fun _ => ⟨W5.heap.size, 0, rfl, fun j u hj => by rw [cell_of_row _ _ _ _ _ _ hg6, Nat.zero_add, ← hj]; simp⟩) (by have := HR.out.len; simp; unfold maxLen; omega) (by have := HR.out.len; simp; omega) (by have := HB6.out.size; omega)
        obtain ⟨A7, c7, rfl, hf1, hf2⟩ := Rep.acc_form q2
        have hxl : (xs ++ [(zeros 512, wr.heap.size)]).length = k + 1 := by rw [List.length_append, HR.out.len]; rfl
        rw [hxl] at q1 q2 q4
        refine any_step [7] (by kernel_rfl) (by simp) ?_
        intro j hj
        obtain rfl : j = 7 := by simpa using hj
        refine wpOp_step rfl (fun K hK => ?_)
        refine step_run rfl (exec_append (by rfl) (by rfl) (by rfl) q1) ?_
        go_simp
        refine hK _ _ ?_
        clear hK K
        have hPne : ∀ W8 : World, (W5.alloc (.cells #[.slice (some ⟨wr.heap.size, 0, none⟩) 512 512] 33)).grownBy W8 (Value.slice Sf k cs).ownBlock → W8.heap[w.heap.size + 1]? = wr.heap[w.heap.size + 1]? := fun W8 hg => (hg.block _ (by have := HB6.out.size; omega) (fun e => by have := (hown _ e.symm).1; omega)).trans (HB6.out.block _ hgp.2.2)
        have b7 := (hPne W7 q3).trans hgb
        have d0 := cell_row b7 0
        have z0 := frozen_row b7 0
        refine wpAny_take (i := 8) (v := .pointer (some ⟨w.heap.size + 1, 0, none⟩)) rfl (by kernel_rfl) (by kernel_rfl) (by kernel_rfl) (fun _ _ _ h => h) (Or.inl ⟨by rfl, fun w' => by go_simp⟩) ?_
        go_simp
        refine wpAny_take (i := 9) (v := .pointer (some ⟨w.heap.size + 1, 0, none⟩)) rfl (by kernel_rfl) (by kernel_rfl) (by kernel_rfl) (fun _ _ _ h => h) (Or.inl ⟨by rfl, fun w' => by go_simp⟩) ?_
        go_simp
        refine any_step [10] (by kernel_rfl) (by simp) ?_
        intro j hj
        obtain rfl : j = 10 := by simpa using hj
        refine wpOp_step rfl (fun K hK => ?_)
        go_simp
        refine hK _ _ ?_
        clear hK K
        have HNEW := Lib.hid (new_step (w0 := w) (v5 := W5) HR.out HB6.out HS5.out.lt q2 q3 b7 hxl)
        have HALL := Lib.hid (show ∀ x ∈ xs ++ [(zeros 512, wr.heap.size)], x.1 = zeros 512 from fun x hx => by rcases List.mem_append.1 hx with hx | hx; exact hall x hx; simp at hx; rw [hx])
        refine wpAny_done (by kernel_rfl) ?_ _
        clear q1 q2 q3 q4 b7 d0 z0 hrd6 hacc6 hg6 hz6 hPne hown
        go_wp2_with fail
        exact ⟨⟨k + 1, _, _, _, by go_num, by omega, HNEW.out, HALL.out⟩, by simp [intOf]; omega⟩
      · refine wpOp_step rfl (fun K hK => ?_)
        go_simp
        refine hK _ _ ?_
        clear hK K
        have HB5 := Lib.hid (show Below wr.heap.size wr (wr.alloc (.cells Z 5)).drew from ((Below.refl _ _).alloc (Nat.le_refl _) _).drew)
        have HS5 := Lib.hid (show SecAt (wr.alloc (.cells Z 5)).drew wr.heap.size 5 (zeros 512) from ⟨by rw [← HZ.out]; exact heap_alloc_new wr _, zeros_length _⟩)
        have c5 := (HB5.out.cell (p := ⟨w.heap.size + 1, 0, none⟩) hgp.2.2).trans c0
        generalize (wr.alloc (.cells Z 5)).drew = W5 at *
        refine any_step [4, 6] (by kernel_rfl) (by simp) ?_
        intro j hj
        rcases (by simpa using hj : j = 4 ∨ j = 6) with rfl | rfl
        · refine wpOp_step rfl (fun K hK => ?_)
          go_simp
          refine hK _ _ ?_
          clear hK K
          refine any_step [6] (by kernel_rfl) (by simp) ?_
          intro j hj
          obtain rfl : j = 6 := by simpa using hj
          refine wpOp_step rfl (fun K hK => ?_)
          refine step_run rfl (exec_buildSlice (vy := .slice (some ⟨wr.heap.size, 0, none⟩) 512 512) rfl (.slice none 0 0) 1 Try.underlying39 info22' rfl rfl (by decide)) ?_
          go_simp
          refine hK _ _ ?_
          clear hK K
          have HB6 := Lib.hid (HB5.out.alloc HB5.out.size (.cells #[.slice (some ⟨wr.heap.size, 0, none⟩) 512 512] 33))
          have c6 := (HB6.out.cell (p := ⟨w.heap.size + 1, 0, none⟩) hgp.2.2).trans c0
          have hg6 := heap_alloc_new W5 (.cells #[.slice (some ⟨wr.heap.size, 0, none⟩) 512 512] 33)
          have hz6 : (W5.alloc (.cells #[.slice (some ⟨wr.heap.size, 0, none⟩) 512 512] 33)).heap.size = W5.heap.size + 1 := by simp
          have hacc6 : rSec.acc 33 (w.heap.size + 1 + 1) (fun b => w.heap.size + 1 < b) (W5.alloc (.cells #[.slice (some ⟨wr.heap.size, 0, none⟩) 512 512] 33)) (.slice Sf k cs) xs :=
            Rep.acc_keep (fun b _ hl => HB6.out.block b hl.lt) (fun _ hb _ => hb) HR.out.acc
          have hown := Rep.acc_own HR.out.acc
          have hrd6 : rSec.rd (fun b => w.heap.size + 1 < b ∧ (Value.slice Sf k cs).ownBlock ≠ some b) (W5.alloc (.cells #[.slice (some ⟨wr.heap.size, 0, none⟩) 512 512] 33)) [.slice (some ⟨wr.heap.size, 0, none⟩) 512 512] (zeros 512, wr.heap.size) :=
            ⟨rfl, ⟨hgp.2.2, fun e => by have := (hown _ e).2; omega⟩, HS5.out.keep (heap_alloc_old _ _ HS5.out.lt)⟩
          obtain ⟨v', W7, q1, q2, q3, q4⟩ := Rep.acc_more (P := Try.prog) (ty := 39) (ys := [(zeros 512, wr.heap.size)]) (A := some ⟨W5.heap.size, 0, none⟩) (m := 1) (c := 1) Try.underlying39 info22 rfl (by decide) rfl hacc6 rfl (Rep.row_one_elem hrd6)
            (fun _ => ⟨W5.heap.size, 0, rfl, fun j u hj => by rw [cell_of_row _ _ _ _ _ _ hg6, Nat.zero_add, ← hj]; simp⟩) (by have := HR.out.len; simp; unfold maxLen; omega) (by have := HR.out.len; simp; omega) (by have := HB6.out.size; omega)
          obtain ⟨A7, c7, rfl, hf1, hf2⟩ := Rep.acc_form q2
          have hxl : (xs ++ [(zeros 512, wr.heap.size)]).length = k + 1 := by rw [List.length_append, HR.out.len]; rfl
          rw [hxl] at q1 q2 q4
          refine any_step [7] (by kernel_rfl) (by simp) ?_
          intro j hj
          obtain rfl : j = 7 := by simpa using hj
          refine wpOp_step rfl (fun K hK => ?_)
          refine step_run rfl (exec_append (by rfl) (by rfl) (by rfl) q1) ?_
          go_simp
          refine hK _ _ ?_
          clear hK K
          have hPne : ∀ W8 : World, (W5.alloc (.cells #[.slice (some ⟨wr.heap.size, 0, none⟩) 512 512] 33)).grownBy W8 (Value.slice Sf k cs).ownBlock → W8.heap[w.heap.size + 1]? = wr.heap[w.heap.size + 1]? := fun W8 hg => (hg.block _ (by have := HB6.out.size; omega) (fun e => by have := (hown _ e.symm).1; omega)).trans (HB6.out.block _ hgp.2.2)
          have b7 := (hPne W7 q3).trans hgb
          have d0 := cell_row b7 0
          have z0 := frozen_row b7 0
          refine wpAny_take (i := 8) (v := .pointer (some ⟨w.heap.size + 1, 0, none⟩)) rfl (by kernel_rfl) (by kernel_rfl) (by kernel_rfl) (fun _ _ _ h => h) (Or.inl ⟨by rfl, fun w' => by go_simp⟩) ?_
          go_simp
          refine wpAny_take (i := 9) (v := .pointer (some ⟨w.heap.size + 1, 0, none⟩)) rfl (by kernel_rfl) (by kernel_rfl) (by kernel_rfl) (fun _ _ _ h => h) (Or.inl ⟨by rfl, fun w' => by go_simp⟩) ?_
          go_simp
          refine any_step [10] (by kernel_rfl) (by simp) ?_
          intro j hj
          obtain rfl : j = 10 := by simpa using hj
          refine wpOp_step rfl (fun K hK => ?_)
          go_simp
          refine hK _ _ ?_
          clear hK K
          have HNEW := Lib.hid (new_step (w0 := w) (v5 := W5) HR.out HB6.out HS5.out.lt q2 q3 b7 hxl)
          have HALL := Lib.hid (show ∀ x ∈ xs ++ [(zeros 512, wr.heap.size)], x.1 = zeros 512 from fun x hx => by rcases List.mem_append.1 hx with hx | hx; exact hall x hx; simp at hx; rw [hx])
          refine wpAny_done (by kernel_rfl) ?_ _
          clear q1 q2 q3 q4 b7 d0 z0 hrd6 hacc6 hg6 hz6 hPne hown
          go_wp2_with fail
          exact ⟨⟨k + 1, _, _, _, by go_num, by omega, HNEW.out, HALL.out⟩, by simp [intOf]; omega⟩
        · refine wpOp_step rfl (fun K hK => ?_)
          refine step_run rfl (exec_buildSlice (vy := .slice (some ⟨wr.heap.size, 0, none⟩) 512 512) rfl (.slice none 0 0) 1 Try.underlying39 info22' rfl rfl (by decide)) ?_
          go_simp
          refine hK _ _ ?_
          clear hK K
          have HB6 := Lib.hid (HB5.out.alloc HB5.out.size (.cells #[.slice (some ⟨wr.heap.size, 0, none⟩) 512 512] 33))
          have c6 := (HB6.out.cell (p := ⟨w.heap.size + 1, 0, none⟩) hgp.2.2).trans c0
          refine any_step [4] (by kernel_rfl) (by simp) ?_
          intro j hj
          obtain rfl : j = 4 := by simpa using hj
          refine wpOp_step rfl (fun K hK => ?_)
          go_simp
          refine hK _ _ ?_
          clear hK K
          have hg6 := heap_alloc_new W5 (.cells #[.slice (some ⟨wr.heap.size, 0, none⟩) 512 512] 33)
          have hz6 : (W5.alloc (.cells #[.slice (some ⟨wr.heap.size, 0, none⟩) 512 512] 33)).heap.size = W5.heap.size + 1 := by simp
          have hacc6 : rSec.acc 33 (w.heap.size + 1 + 1) (fun b => w.heap.size + 1 < b) (W5.alloc (.cells #[.slice (some ⟨wr.heap.size, 0, none⟩) 512 512] 33)) (.slice Sf k cs) xs :=
            Rep.acc_keep (fun b _ hl => HB6.out.block b hl.lt) (fun _ hb _ => hb) HR.out.acc
          have hown := Rep.acc_own HR.out.acc
          have hrd6 : rSec.rd (fun b => w.heap.size + 1 < b ∧ (Value.slice Sf k cs).ownBlock ≠ some b) (W5.alloc (.cells #[.slice (some ⟨wr.heap.size, 0, none⟩) 512 512] 33)) [.slice (some ⟨wr.heap.size, 0, none⟩) 512 512] (zeros 512, wr.heap.size) :=
            ⟨rfl, ⟨hgp.2.2, fun e => by have := (hown _ e).2; omega⟩, HS5.out.keep (heap_alloc_old _ _ HS5.out.lt)⟩
          obtain ⟨v', W7, q1, q2, q3, q4⟩ := Rep.acc_more (P := Try.prog) (ty := 39) (ys := [(zeros 512, wr.heap.size)]) (A := some ⟨W5.heap.size, 0, none⟩) (m := 1) (c := 1) Try.underlying39 info22 rfl (by decide) rfl hacc6 rfl (Rep.row_one_elem hrd6)
            (fun _ => ⟨W5.heap.size, 0, rfl, fun j u hj => by rw [cell_of_row _ _ _ _ _ _ hg6, Nat.zero_add, ← hj]; simp⟩) (by have := HR.out.len; simp; unfold maxLen; omega) (by have := HR.out.len; simp; omega) (by have := HB6.out.size; omega)
          obtain ⟨A7, c7, rfl, hf1, hf2⟩ := Rep.acc_form q2
          have hxl : (xs ++ [(zeros 512, wr.heap.size)]).length = k + 1 := by rw [List.length_append, HR.out.len]; rfl
          rw [hxl] at q1 q2 q4
          refine any_step [7] (by kernel_rfl) (by simp) ?_
          intro j hj
          obtain rfl : j = 7 := by simpa using hj
          refine wpOp_step rfl (fun K hK => ?_)
          refine step_run rfl (exec_append (by rfl) (by rfl) (by rfl) q1) ?_
          go_simp
          refine hK _ _ ?_
          clear hK K
          have hPne : ∀ W8 : World, (W5.alloc (.cells #[.slice (some ⟨wr.heap.size, 0, none⟩) 512 512] 33)).grownBy W8 (Value.slice Sf k cs).ownBlock → W8.heap[w.heap.size + 1]? = wr.heap[w.heap.size + 1]? := fun W8 hg => (hg.block _ (by have := HB6.out.size; omega) (fun e => by have := (hown _ e.symm).1; omega)).trans (HB6.out.block _ hgp.2.2)
          have b7 := (hPne W7 q3).trans hgb
          have d0 := cell_row b7 0
          have z0 := frozen_row b7 0
          refine wpAny_take (i := 8) (v := .pointer (some ⟨w.heap.size + 1, 0, none⟩)) rfl (by kernel_rfl) (by kernel_rfl) (by kernel_rfl) (fun _ _ _ h => h) (Or.inl ⟨by rfl, fun w' => by go_simp⟩) ?_
          go_simp
          refine wpAny_take (i := 9) (v := .pointer (some ⟨w.heap.size + 1, 0, none⟩)) rfl (by kernel_rfl) (by kernel_rfl) (by kernel_rfl) (fun _ _ _ h => h) (Or.inl ⟨by rfl, fun w' => by go_simp⟩) ?_
          go_simp
          refine any_step [10] (by kernel_rfl) (by simp) ?_
          intro j hj
          obtain rfl : j = 10 := by simpa using hj
          refine wpOp_step rfl (fun K hK => ?_)
          go_simp
          refine hK _ _ ?_
          clear hK K
          have HNEW := Lib.hid (new_step (w0 := w) (v5 := W5) HR.out HB6.out HS5.out.lt q2 q3 b7 hxl)
          have HALL := Lib.hid (show ∀ x ∈ xs ++ [(zeros 512, wr.heap.size)], x.1 = zeros 512 from fun x hx => by rcases List.mem_append.1 hx with hx | hx; exact hall x hx; simp at hx; rw [hx])
          refine wpAny_done (by kernel_rfl) ?_ _
          clear q1 q2 q3 q4 b7 d0 z0 hrd6 hacc6 hg6 hz6 hPne hown
          go_wp2_with fail
          exact ⟨⟨k + 1, _, _, _, by go_num, by omega, HNEW.out, HALL.out⟩, by simp [intOf]; omega⟩
    · have hke : k = N := by omega
      have HK := Lib.hid hke
      go_wp2_with fail
      go_ret
      exact ⟨_, _, Sf, cs, xs, rfl, by rw [← HN.out, ← HK.out]; exact HR.out, hall⟩
end Go.Proofs.Yteljibjbndpncaa
