/- page.Cut: a range over the library's slices.Chunk, walked. -/
import Derived.Test.YteljibjbndpncaaWfChunk
import Derived.Test.YteljibjbndpncaaWfG13
import Derived.Shelf.Abstract
import Derived.Shelf.RegionOpen
import Derived.OwnWalkIn
import Derived.TacticsInMore
import Derived.LoopNIn
import Derived.LoopIn
namespace Go.Proofs.Yteljibjbndpncaa
open Go.RowKit Go.Shelf
attribute [local go_sem] Oper.semAt_some

theorem info22' : (Try.prog.info? 33).map (fun i => (i.zero, i.size)) = some (some (.slice none 0 0), 1) := by kernel_rfl

theorem own_acc {β α : Type} (r : Rep α) (e base : Nat) (Q : Nat → Prop) (B : Nat) (t : TypeId) (f : β → List α) : Own (fun s W => ∃ v, Boxed W B t v ∧ r.acc e base Q W v (f s)) := by
  rintro s X Y row ⟨v, hv, hr⟩ hg hrow
  have hk : ∀ b, IsC X b → row ≠ some b := by
    rintro b ⟨c, e', f', hb⟩ he
    obtain ⟨o, ho, hc⟩ := hrow b he
    rw [hb] at ho; cases ho; cases hc
  refine ⟨v, hv.kept hg (fun e' => hk B ⟨_, _, _, hv⟩ e'.symm), Rep.acc_keep (fun b _ hb => hg.block b hb.lt (fun e' => hk b hb e'.symm)) (fun _ hb _ => hb) hr⟩

set_option maxRecDepth 100000 in
set_option maxHeartbeats 2000000 in
/-- page.Cut -/
theorem cut_calls {Q : Nat → Prop} {w : World} {v : Value} {l : List UInt8} (hx : Rep.byte.list.val Q w v l) (hl : l.length ≤ 1000000) :
    Calls Try.prog 81 #[v] w (Res Rep.byte.list.list (fun b => w.heap.size ≤ b) w (cut l)) := by
  obtain ⟨A, c, rfl, hc1, hc2, hA⟩ := Rep.val_list hx
  obtain ⟨b, off, hAb⟩ : ∃ b off, 0 < l.length → A = some ⟨b, off, none⟩ := by
    rcases Nat.eq_zero_or_pos l.length with h | h
    · exact ⟨0, 0, fun h' => absurd h' (by omega)⟩
    · obtain ⟨b, off, h'⟩ := hA.addr h; exact ⟨b, off, fun _ => h'⟩
  obtain ⟨N, hN⟩ : ∃ N, N = (l.length + 471) / 472 := ⟨_, rfl⟩
  refine (callsIn_wide (n := 9)).1 ?_
  refine callsIn_of_wp_marks Try.func81 rfl trivial ?_ rfl
  simp only [Try.ntmps81, List.size_toArray, List.length_cons, List.length_nil, Nat.reduceAdd, Nat.reduceSub, Array.replicate_succ, Array.replicate_zero, List.push_toArray, List.append_toArray, List.nil_append, List.cons_append]
  have HB := Lib.hid hAb
  have HA := Lib.hid hA
  have HN := Lib.hid hN
  clear hAb hA hx hN
  gi_wp2_with (refine ⟨trivial, ?_⟩; gi_at_call 110; refine (chunk_in 8 _ _ _ _).mono ?_; rintro e w' ⟨rfl, rfl⟩)
  have bO := Boxed.new w 39 (.slice none 0 0)
  have bS := Boxed.new (w.alloc (.cells #[.slice none 0 0] 39)) 33 (.slice A l.length c)
  have bN := Boxed.new ((w.alloc (.cells #[.slice none 0 0] 39)).alloc (.cells #[.slice A l.length c] 33)) 3 (.int .i64 472)
  simp only [World.size_alloc] at bS bN
  obtain ⟨W0, hW0⟩ : ∃ W0, ((w.alloc (.cells #[.slice none 0 0] 39)).alloc (.cells #[.slice A l.length c] 33)).alloc (.cells #[.int .i64 472] 3) = W0 := ⟨_, rfl⟩
  have hsz : W0.heap.size = w.heap.size + 3 := by rw [← hW0]; simp
  have hB0 : Below w.heap.size w W0 := by rw [← hW0]; exact (((Below.refl _ w).alloc (Nat.le_refl _) _).alloc (by simp) _).alloc (by simp; omega) _
  replace bO : Boxed W0 w.heap.size 39 (.slice none 0 0) := by rw [← hW0]; exact (bO.alloc _).alloc _
  replace bS : Boxed W0 (w.heap.size + 1) 33 (.slice A l.length c) := by rw [← hW0]; exact bS.alloc _
  replace bN : Boxed W0 (w.heap.size + 2) 3 (.int .i64 472) := by rw [← hW0]; exact bN
  rw [hW0]
  clear hW0
  refine wpIn_rangeFunc_ownG rfl (by omega) (gf := 129) (lb := #[.pointer (some ⟨w.heap.size + 1, 0, none⟩), .pointer (some ⟨w.heap.size + 2, 0, none⟩)]) rfl trivial (enters_of Try.func129 (by kernel_rfl) rfl)
    (chunk_stops 8 (w.heap.size + 1) (w.heap.size + 2) A b off l.length c N (by omega) HN.out (by omega) hc1 HB.out W0 (by omega) (by omega) bS.cell bN.cell) both_t (both_b (by omega) (by omega)) (Below.refl _ _) (fun _ => rfl)
    (fun (pre : List (Fin N)) W => (∃ v, Boxed W w.heap.size 39 v ∧ Rep.byte.list.acc 33 (w.heap.size + 3) (fun b => w.heap.size + 3 ≤ b) W v (pre.map fun k => piece l k.1)) ∧ Below w.heap.size w W ∧ w.heap.size + 3 ≤ W.heap.size)
    (fun _ _ _ => False)
    (OwnFrom.and (Own.from (own_acc Rep.byte.list 33 (w.heap.size + 3) (fun b => w.heap.size + 3 ≤ b) w.heap.size 39 (fun pre : List (Fin N) => pre.map fun k => piece l k.1)) _) (OwnFrom.and (ownFrom_below (Nat.le_refl _) (by omega)) (fun _ _ _ _ hs hg _ => Nat.le_trans hs hg.size)))
    (fun _ _ _ _ _ hs _ _ => hs)
    ⟨⟨_, bO, Rep.acc_nil⟩, hB0, by omega⟩
    (fun x => { tmps := #[.slice A l.length c, undef, .slice none 0 0, .pointer (some ⟨w.heap.size, 0, none⟩), chunkVal b off l.length x.1, .slice A l.length c, .func (.func 129) #[] #[.pointer (some ⟨w.heap.size + 1, 0, none⟩), .pointer (some ⟨w.heap.size + 2, 0, none⟩)], chunkVal b off l.length x.1, undef, undef, undef, undef, undef, undef], defers := [] }) ?assign ?body ?done ?stop
  case assign =>
    intro l x W K hK
    gi_wp2
    exact hK
  case body =>
    rintro lr pre x W ⟨⟨v, hv, hacc⟩, hB, hsz3⟩ hlt
    have hx472 : 472 * x.1 < l.length := by have := x.2; have := HN.out; omega
    obtain rfl := HB.out (by omega)
    have hpl : (piece l x.1).length = min 472 (l.length - 472 * x.1) := by simp [piece]
    have hAW : ∀ W' : World, Below W.heap.size W W' → Rep.byte.list.val (fun b => b < w.heap.size) W' (chunkVal b off l.length x.1) (piece l x.1) := fun W' hW' => by
      have h1 : Rep.byte.At (fun b => b < w.heap.size) w (some ⟨b, off, none⟩) l := HA.out.keep (w := w) (fun b _ hb => ⟨hb.lt, rfl⟩)
      have h2 : Rep.byte.At (fun b => b < w.heap.size) W' (some ⟨b, off, none⟩) l := h1.below (hB.trans (hW'.mono hB.size)) (fun _ hb _ => hb)
      have h3 := (h2.drop (n := 472 * x.1) (by omega)).take 472
      simp only [Rep.byte, Nat.mul_one] at h3
      exact Rep.list_val hpl.symm (Nat.le_refl _) (by unfold maxLen; omega) h3
    have hml : (pre.map fun k => piece l k.1).length + 1 ≤ maxLen ∧ ((pre.map fun k => piece l k.1).length + 1) * 24 ≤ 140737488355328 := by
      rw [List.length_map]; have := HN.out; unfold maxLen; omega
    have hpb : (piece l x.1).length ≤ 100000000000000 := by omega
    clear hpl
    refine wpIn_block ?_
    refine region_round (by kernel_rfl) (noDefer_spec rfl) (by rintro ⟨_, _, h⟩; exact h) ?_
    refine wpAny_take (i := 1) (v := chunkVal b off l.length x.1) rfl (by kernel_rfl) (by kernel_rfl) (by kernel_rfl) (fun _ _ _ h => h) (Or.inl ⟨by rfl, fun _ => rfl⟩) ?_
    have hvW : ∀ W' : World, Below W.heap.size W W' → Boxed W' w.heap.size 39 v := fun W' hW' => (hW'.block _ (by omega)).trans hv
    have hbd : Below W.heap.size W W.drew := (Below.refl _ _).drew
    have hcall : ∀ W' : World, Below W.heap.size W W' → Calls Try.prog 50 #[chunkVal b off l.length x.1] W' (Res Rep.byte.list (fun b' => W'.heap.size ≤ b') W' (piece l x.1)) := fun W' hW' => bytesClone (hAW W' hW') hpb
    have hfresh : ∀ (W' : World), Below W.heap.size W W' → ∀ (W2 : World) (u : Value), Rep.byte.list.val (fun b' => W'.heap.size ≤ b') W2 u (piece l x.1) → Rep.byte.list.val (fun b' => w.heap.size + 3 ≤ b' ∧ v.ownBlock ≠ some b') W2 u (piece l x.1) := fun W' hW' W2 u hu =>
      Rep.val_mono (fun b' hb' _ => ⟨Nat.le_trans hsz3 (Nat.le_trans hW'.size hb'), fun he => by have := (Rep.acc_own hacc b' he).2; have := hW'.size; omega⟩) hu
    have hbuild : ∀ (W2 : World) (u : Value), Rep.byte.list.val (fun b' => w.heap.size + 3 ≤ b' ∧ v.ownBlock ≠ some b') W2 u (piece l x.1) → Below W.heap.size W W2 →
        Rep.byte.list.val (fun b' => w.heap.size + 3 ≤ b' ∧ v.ownBlock ≠ some b') (W2.alloc (.cells u.cells 33)) u (piece l x.1) ∧ Below W.heap.size W (W2.alloc (.cells u.cells 33)) ∧ (W2.alloc (.cells u.cells 33)).heap[W2.heap.size]? = some (.cells u.cells 33 (0, 0)) ∧ u.cells.size = 1 := fun W2 u hu hb2 =>
      ⟨Rep.val_keep (w := W2) (fun b' hb' hl => ⟨hb', Below.heap_alloc _ _ _ hl.lt⟩) hu, hb2.alloc hb2.size _, heap_alloc_new W2 _, by obtain ⟨A', c', rfl, _⟩ := Rep.val_list hu; rfl⟩
    refine any_step [0, 2] (by kernel_rfl) (by simp) ?_
    intro i hi
    rcases (by simpa using hi : i = 0 ∨ i = 2) with rfl | rfl
    · refine wpOp_step rfl (fun K hK => ?_)
      have hc := (hvW _ hbd).cell
      go_simp
      clear hc
      refine hK _ _ ?_
      clear hK K
      refine any_step [2] (by kernel_rfl) (by simp) ?_
      intro i hi
      obtain rfl : i = 2 := by simpa using hi
      refine wpOp_step rfl (fun K hK => ?_)
      go_simp
      refine (hcall _ hbd).mono ?_
      rintro e W2 ⟨u, rfl, hu, hb2⟩
      refine hK _ _ ?_
      clear hK K
      have hbW2 : Below W.heap.size W W2 := (hbd).trans (hb2.mono (hbd).size)
      have hu2 := hfresh _ hbd W2 u hu
      obtain ⟨Au, cu, rfl, _, _, _⟩ := Rep.val_list hu
      refine any_step [3] (by kernel_rfl) (by simp) ?_
      intro i hi
      obtain rfl : i = 3 := by simpa using hi
      refine wpOp_step rfl (fun K hK => ?_)
      refine step_run rfl (exec_buildSlice (vy := .slice Au (piece l x.1).length cu) rfl (.slice none 0 0) 1 Try.underlying39 info22' rfl rfl (by decide)) ?_
      go_simp
      refine hK _ _ ?_
      clear hK K
      obtain ⟨hu3, hbW3, hg3, _⟩ := hbuild W2 _ hu2 hbW2
      simp only [Value.cells] at hu3 hbW3 hg3
      obtain ⟨v', w1, q1, q2, q3, q4, q5, q6, q7, q8⟩ := box_collect (P := Try.prog) (ty := 39) Try.underlying39 info22 rfl (by decide) rfl hv (by omega) hsz3 (fun b' hb' => by omega) hacc hbW3 hu3 hg3 hml.1 hml.2
      have hform := Rep.acc_form q4
      refine any_step [4] (by kernel_rfl) (by simp) ?_
      intro i hi
      obtain rfl : i = 4 := by simpa using hi
      refine wpOp_step rfl (fun K hK => ?_)
      refine step_run rfl (exec_append (by rfl) (by rfl) (by rfl) q1) ?_
      go_simp
      refine hK _ _ ?_
      clear hK K
      refine any_step [5] (by kernel_rfl) (by simp) ?_
      intro i hi
      obtain rfl : i = 5 := by simpa using hi
      refine wpOp_step rfl (fun K hK => ?_)
      refine step_run_skip rfl (exec_store_box (by rfl) (by rfl) (by rfl) (by kernel_rfl) q2 (by obtain ⟨A', c', h, _⟩ := hform; exact ⟨_, _, _, h⟩)) ?_
      go_simp
      refine hK _ _ ?_
      clear hK K
      refine wpAny_done (by kernel_rfl) ?_ _
      exact ⟨q5.from _, ⟨q7 _ (by omega) (by omega), q7 _ (by omega) (by omega)⟩, ⟨v', q3, by rw [List.map_append]; exact q4⟩, hB.trans (q6.mono (by omega)), Nat.le_trans hsz3 q5.size⟩
    · refine wpOp_step rfl (fun K hK => ?_)
      go_simp
      refine (hcall _ hbd).mono ?_
      rintro e W2 ⟨u, rfl, hu, hb2⟩
      refine hK _ _ ?_
      clear hK K
      have hbW2 : Below W.heap.size W W2 := (hbd).trans (hb2.mono (hbd).size)
      have hu2 := hfresh _ hbd W2 u hu
      obtain ⟨Au, cu, rfl, _, _, _⟩ := Rep.val_list hu
      refine any_step [0, 3] (by kernel_rfl) (by simp) ?_
      intro i hi
      rcases (by simpa using hi : i = 0 ∨ i = 3) with rfl | rfl
      · refine wpOp_step rfl (fun K hK => ?_)
        have hc := (hvW _ hbW2).cell
        go_simp
        clear hc
        refine hK _ _ ?_
        clear hK K
        refine any_step [3] (by kernel_rfl) (by simp) ?_
        intro i hi
        obtain rfl : i = 3 := by simpa using hi
        refine wpOp_step rfl (fun K hK => ?_)
        refine step_run rfl (exec_buildSlice (vy := .slice Au (piece l x.1).length cu) rfl (.slice none 0 0) 1 Try.underlying39 info22' rfl rfl (by decide)) ?_
        go_simp
        refine hK _ _ ?_
        clear hK K
        obtain ⟨hu3, hbW3, hg3, _⟩ := hbuild W2 _ hu2 hbW2
        simp only [Value.cells] at hu3 hbW3 hg3
        obtain ⟨v', w1, q1, q2, q3, q4, q5, q6, q7, q8⟩ := box_collect (P := Try.prog) (ty := 39) Try.underlying39 info22 rfl (by decide) rfl hv (by omega) hsz3 (fun b' hb' => by omega) hacc hbW3 hu3 hg3 hml.1 hml.2
        have hform := Rep.acc_form q4
        refine any_step [4] (by kernel_rfl) (by simp) ?_
        intro i hi
        obtain rfl : i = 4 := by simpa using hi
        refine wpOp_step rfl (fun K hK => ?_)
        refine step_run rfl (exec_append (by rfl) (by rfl) (by rfl) q1) ?_
        go_simp
        refine hK _ _ ?_
        clear hK K
        refine any_step [5] (by kernel_rfl) (by simp) ?_
        intro i hi
        obtain rfl : i = 5 := by simpa using hi
        refine wpOp_step rfl (fun K hK => ?_)
        refine step_run_skip rfl (exec_store_box (by rfl) (by rfl) (by rfl) (by kernel_rfl) q2 (by obtain ⟨A', c', h, _⟩ := hform; exact ⟨_, _, _, h⟩)) ?_
        go_simp
        refine hK _ _ ?_
        clear hK K
        refine wpAny_done (by kernel_rfl) ?_ _
        exact ⟨q5.from _, ⟨q7 _ (by omega) (by omega), q7 _ (by omega) (by omega)⟩, ⟨v', q3, by rw [List.map_append]; exact q4⟩, hB.trans (q6.mono (by omega)), Nat.le_trans hsz3 q5.size⟩
      · refine wpOp_step rfl (fun K hK => ?_)
        refine step_run rfl (exec_buildSlice (vy := .slice Au (piece l x.1).length cu) rfl (.slice none 0 0) 1 Try.underlying39 info22' rfl rfl (by decide)) ?_
        go_simp
        refine hK _ _ ?_
        clear hK K
        obtain ⟨hu3, hbW3, hg3, _⟩ := hbuild W2 _ hu2 hbW2
        simp only [Value.cells] at hu3 hbW3 hg3
        refine any_step [0] (by kernel_rfl) (by simp) ?_
        intro i hi
        obtain rfl : i = 0 := by simpa using hi
        refine wpOp_step rfl (fun K hK => ?_)
        have hc := (hvW _ hbW3).cell
        go_simp
        clear hc
        refine hK _ _ ?_
        clear hK K
        obtain ⟨v', w1, q1, q2, q3, q4, q5, q6, q7, q8⟩ := box_collect (P := Try.prog) (ty := 39) Try.underlying39 info22 rfl (by decide) rfl hv (by omega) hsz3 (fun b' hb' => by omega) hacc hbW3 hu3 hg3 hml.1 hml.2
        have hform := Rep.acc_form q4
        refine any_step [4] (by kernel_rfl) (by simp) ?_
        intro i hi
        obtain rfl : i = 4 := by simpa using hi
        refine wpOp_step rfl (fun K hK => ?_)
        refine step_run rfl (exec_append (by rfl) (by rfl) (by rfl) q1) ?_
        go_simp
        refine hK _ _ ?_
        clear hK K
        refine any_step [5] (by kernel_rfl) (by simp) ?_
        intro i hi
        obtain rfl : i = 5 := by simpa using hi
        refine wpOp_step rfl (fun K hK => ?_)
        refine step_run_skip rfl (exec_store_box (by rfl) (by rfl) (by rfl) (by kernel_rfl) q2 (by obtain ⟨A', c', h, _⟩ := hform; exact ⟨_, _, _, h⟩)) ?_
        go_simp
        refine hK _ _ ?_
        clear hK K
        refine wpAny_done (by kernel_rfl) ?_ _
        exact ⟨q5.from _, ⟨q7 _ (by omega) (by omega), q7 _ (by omega) (by omega)⟩, ⟨v', q3, by rw [List.map_append]; exact q4⟩, hB.trans (q6.mono (by omega)), Nat.le_trans hsz3 q5.size⟩
  case done =>
    rintro D ys W hD hys ⟨⟨v, hv, hacc⟩, hB, hsz3⟩ hK
    have hc := hv.cell
    gi_wp2
    refine ⟨by simp, .inl ⟨_, _, rfl, run_takeDeferred hK, ?_⟩⟩
    have hcut : (ys.map fun k => piece l k.1) = cut l := by
      have h1 := congrArg (List.map (piece l)) hys
      rw [List.map_map] at h1
      rw [cut, pieces, ← HN.out, ← h1]
      rfl
    have hval : Rep.byte.list.list.val (fun b => w.heap.size ≤ b) (W.putObj D (.deferred none)) v (cut l) := by
      rw [← hcut]
      refine Rep.val_keep (w := W) (fun b' hb' hl => ⟨?_, World.putObj_heap_other ?_⟩) (Rep.acc_val hacc)
      · rcases hb' with hb' | hb'
        · omega
        · have := (Rep.acc_own hacc b' hb').1; omega
      · rintro rfl
        obtain ⟨_, _, _, hl⟩ := hl
        rw [hK] at hl; cases hl
    exact ⟨_, results_tmp rfl _ _ _, v, rfl, hval, hB.trans (belowK_b (w := w) (Nat.le_refl _) W D _ _ (by omega) hK rfl rfl)⟩
  case stop =>
    rintro D c pre W _ _ h _
    exact h.elim
end Go.Proofs.Yteljibjbndpncaa
