/- Walk of policy.count. -/
import Derived.Test.YtecdbfbaclgejaaCount
namespace Go.Proofs.Ytecdbfbaclgejaa
open Go.RowKit

theorem heap_setCell_row {w : World} {b i e : Nat} {cs : Array Value} {v : Value} {f : Nat × Nat} (h : w.heap[b]? = some (.cells cs e f)) : (w.setCell ⟨b, i, none⟩ v).heap[b]? = some (.cells (cs.setIfInBounds i v) e f) := by
  simp [World.setCell, Array.getElem?_modify, h]

set_option maxRecDepth 100000 in
set_option maxHeartbeats 4000000 in
/-- policy.count -/
theorem pcount_calls {Q : Nat → Prop} {w : World} {v : Value} {c : DConf} (hx : rConf.val Q w v c) (hr : confRight c = true) :
    Calls Try.prog 122 #[v] w fun e w' => e = .returned (.agg #[.int .i64 (streamsOf c), .int .i64 (dataOf c), .int .i64 (pagesOf c), .int .i64 (dirOf c)]) ∧ Below w.heap.size w w' := by
  obtain ⟨A, cap, rfl, f0, f1, f2, f3, hc1, hc2, hA⟩ := rConf_val hx
  unfold maxLen at hc2
  have RF := Lib.hid (right_facts hr)
  have SB := Lib.hid (sumSizes_bound hr)
  have TB := Lib.hid (setsAt_bound hr)
  have TZ := Lib.hid (setsAt_zero hr)
  have TS := Lib.hid (setsAt_succ hr)
  have CB := Lib.hid (count_bounds hr)
  have HX := Lib.hid hA
  clear hx hA hr
  go_enter Try.func122, Try.ntmps122
  go_wp2_with fail
  obtain ⟨W1, hW1⟩ : ∃ W1, (w.alloc (.cells #[.int .i64 c.log, .int .i64 c.pages, .int .i64 c.entities, .int .i64 c.gens, .slice A c.comps.length cap] 88)).alloc (.cells #[.int .i64 0, .int .i64 0, .int .i64 0, .int .i64 0] 169) = W1 := ⟨_, rfl⟩
  have hbel : Below w.heap.size w W1 := by rw [← hW1]; exact ((Below.refl _ _).alloc (Nat.le_refl _) _).alloc (by simp) _
  have hsz : W1.heap.size = w.heap.size + 2 := by rw [← hW1]; simp
  have e0 : W1.cell? ⟨w.heap.size, 0, none⟩ = some (.int .i64 c.log) := by rw [← hW1]; simp
  have e1 : W1.cell? ⟨w.heap.size, 1, none⟩ = some (.int .i64 c.pages) := by rw [← hW1]; simp
  have e2 : W1.cell? ⟨w.heap.size, 2, none⟩ = some (.int .i64 c.entities) := by rw [← hW1]; simp
  have e3 : W1.cell? ⟨w.heap.size, 3, none⟩ = some (.int .i64 c.gens) := by rw [← hW1]; simp
  have e4 : W1.cell? ⟨w.heap.size, 4, none⟩ = some (.slice A c.comps.length cap) := by rw [← hW1]; simp
  have hR : W1.heap[w.heap.size + 1]? = some (.cells #[.int .i64 0, .int .i64 0, .int .i64 0, .int .i64 0] 169 (0, 0)) := by
    rw [← hW1]
    have := heap_alloc_new (w.alloc (.cells #[.int .i64 c.log, .int .i64 c.pages, .int .i64 c.entities, .int .i64 c.gens, .slice A c.comps.length cap] 88)) (.cells #[.int .i64 0, .int .i64 0, .int .i64 0, .int .i64 0] 169)
    rwa [World.size_alloc] at this
  rw [hW1]
  clear hW1
  have hrf := RF.out.1
  go_loopw [3, 11] (fun s i wr => ∃ k : Nat, i = .int .i64 k ∧ k ≤ c.comps.length ∧ s = .int .i64 (setsAt c k) ∧ wr = W1)
    (fun _ i _ => c.comps.length - (intOf i).toNat)
  case atStart => exact ⟨0, rfl, by omega, by rw [TZ.out], rfl⟩
  case round =>
    obtain ⟨k, rfl, hk, rfl, rfl⟩ := hrel
    by_cases hlt : (k : Int) < c.comps.length
    · have T := Lib.hid (TS.out k)
      have hb := TB.out k
      generalize setsAt c k = s at *
      by_cases h2 : 2 * s < c.entities
      · have T' := Lib.hid (show setsAt c (k + 1) = 2 * s by rw [T.out]; omega)
        go_wp2_with fail
        exact ⟨⟨k + 1, by go_num, by omega, by rw [T'.out], trivial⟩, by simp [intOf]; omega⟩
      · have T' := Lib.hid (show setsAt c (k + 1) = c.entities by rw [T.out]; omega)
        go_wp2_with fail
        exact ⟨⟨k + 1, by go_num, by omega, by rw [T'.out]; congr 1; split <;> omega, trivial⟩, by simp [intOf]; omega⟩
    · obtain rfl : k = c.comps.length := by omega
      rename World => W1
      clear hlt hk
      go_wp2_with fail
      go_loopw [4, 22] (fun s i wr => ∃ k : Nat, i = .int .i64 k ∧ k ≤ c.comps.length ∧ s = .int .i64 (16 + sumSizes (c.comps.take k)) ∧ Below (w.heap.size + 2) W1 wr)
        (fun _ i _ => c.comps.length - (intOf i).toNat)
      case atStart => exact ⟨0, rfl, by omega, rfl, Below.refl _ _⟩
      case round =>
        obtain ⟨k, rfl, hk, rfl, hb1⟩ := hrel
        by_cases hlt : (k : Int) < c.comps.length
        · have hk' : k < c.comps.length := by omega
          have hAw : rComp.At (fun b => b < w.heap.size) wr A c.comps := Rep.At.keep (w := w) (fun b _ hb => ⟨hb.lt, (hb1.block b (by have := hb.lt; omega)).trans (hbel.block b hb.lt)⟩) HX.out
          obtain ⟨b, off, rfl, hbc, cx0, cx1, g0, g1⟩ := rComp_at hAw (List.getElem?_eq_getElem hk')
          have T := Lib.hid (sumSizes_succ hk')
          have hsb := SB.out k (by omega)
          have hxb := RF.out.2 k hk'
          generalize c.comps[k] = x at *
          generalize sumSizes (c.comps.take k) = s at *
          have HB1 := Lib.hid hb1
          clear hAw hb1
          go_wp2_with fail
          exact ⟨⟨k + 1, by go_num, by omega, by rw [T.out, Int.add_assoc], HB1.out.alloc (by have := HB1.out.size; omega) _⟩, by simp [intOf]; omega⟩
        · obtain rfl : k = c.comps.length := by omega
          rw [List.take_length]
          have hsb := SB.out c.comps.length (by omega)
          rw [List.take_length] at hsb
          have hE4 := (hb1.cell (p := ⟨w.heap.size, 4, none⟩) (show w.heap.size < w.heap.size + 2 by omega)).trans e4
          have hE2 := (hb1.cell (p := ⟨w.heap.size, 2, none⟩) (show w.heap.size < w.heap.size + 2 by omega)).trans e2
          have hlw : w.heap.size < wr.heap.size := by have := hb1.size; omega
          have hca : ∀ o, (wr.alloc o).cell? ⟨w.heap.size, 4, none⟩ = some (.slice A c.comps.length cap) := fun o => (World.cell?_of_block (w := wr) (Below.heap_alloc _ _ _ hlw)).trans hE4
          have hset := TB.out c.comps.length
          have hm := mul_bounds (a := setsAt c c.comps.length) (b := (c.comps.length : Int) + 1) (A := 1024) (B := 33) (by omega) (by omega) (by omega) (by omega)
          go_wp2_with fail
          obtain ⟨W5, hW5⟩ : ∃ W5, wr.alloc (.cells #[.int .i64 (2 + setsAt c c.comps.length * (c.comps.length + 1)), .int .i64 0, .int .i64 0, .int .i64 0] 169) = W5 := ⟨_, rfl⟩
          have hb5 : Below wr.heap.size wr W5 := by rw [← hW5]; exact (Below.refl _ _).alloc (Nat.le_refl _) _
          have hs5 : W5.heap.size = wr.heap.size + 1 := by rw [← hW5]; simp
          have hR5 : W5.heap[wr.heap.size]? = some (.cells #[.int .i64 (2 + setsAt c c.comps.length * (c.comps.length + 1)), .int .i64 0, .int .i64 0, .int .i64 0] 169 (0, 0)) := by rw [← hW5]; exact heap_alloc_new _ _
          rw [hW5]
          have hst : 2 + setsAt c c.comps.length * (c.comps.length + 1) = streamsOf c := rfl
          rw [hst] at hR5
          rw [hst]
          have B5 := Lib.hid (((Below.refl (w.heap.size + 2) W1).trans hb1).trans (hb5.mono (by have := hb1.size; omega)))
          have hdat : dataOf c = (confBytes c).length + 8 + c.entities * (16 + sumSizes c.comps) := rfl
          have hcbl := confBytes_length (c := c) (by omega)
          have hm2 := mul_bounds (a := c.entities) (b := 16 + sumSizes c.comps) (A := 1024) (B := 2064) (by omega) (by omega) (by omega) (by omega)
          have HVal := Lib.hid (show ∀ W, Below W5.heap.size W5 W → rConf.val (fun _ => True) W (.agg #[.int .i64 c.log, .int .i64 c.pages, .int .i64 c.entities, .int .i64 c.gens, .slice A c.comps.length cap]) c from
            fun W hW => rConf_agg f0 f1 f2 f3 ⟨hc1, by unfold maxLen; omega, HX.out.keep (w := w) (w' := W) fun b _ hb => ⟨trivial, (hW.block b (by have := hb.lt; have := B5.out.size; omega)).trans ((B5.out.block b (by have := hb.lt; omega)).trans (hbel.block b hb.lt))⟩⟩)
          have HP := Lib.hid (show ∀ W, Below W5.heap.size W5 W → Calls Try.prog 177 #[.agg #[.int .i64 c.log, .int .i64 c.pages, .int .i64 c.entities, .int .i64 c.gens, .slice A c.comps.length cap]] W (Res Rep.byte.list (fun b => W.heap.size ≤ b) W (confBytes c)) from
            fun W hW => cput_calls (HVal.out W hW) (by omega))
          generalize confBytes c = bs at hdat hcbl HP
          have q1 : IntKind.i64.wrap ((bs.length : Int) + 8) = bs.length + 8 := IntWalk.i64_in _ ⟨by omega, by omega⟩
          have q2 : IntKind.i64.wrap (c.entities * (16 + sumSizes c.comps)) = c.entities * (16 + sumSizes c.comps) := IntWalk.i64_in _ ⟨by omega, by omega⟩
          have q3 : IntKind.i64.wrap ((bs.length : Int) + 8 + c.entities * (16 + sumSizes c.comps)) = bs.length + 8 + c.entities * (16 + sumSizes c.comps) := IntWalk.i64_in _ ⟨by omega, by omega⟩
          have KS := Lib.hid (show ∀ w', Below wr.heap.size wr w' → w'.cell? ⟨w.heap.size, 0, none⟩ = some (.int .i64 c.log) ∧ w'.cell? ⟨w.heap.size, 1, none⟩ = some (.int .i64 c.pages) ∧ w'.cell? ⟨w.heap.size, 2, none⟩ = some (.int .i64 c.entities) ∧ w'.cell? ⟨w.heap.size, 3, none⟩ = some (.int .i64 c.gens) ∧ w'.cell? ⟨w.heap.size, 4, none⟩ = some (.slice A c.comps.length cap) ∧ Below wr.heap.size wr w' from fun w' h => by
            have hB : ∀ i, w'.cell? ⟨w.heap.size, i, none⟩ = W1.cell? ⟨w.heap.size, i, none⟩ := fun i => (h.cell (p := ⟨w.heap.size, i, none⟩) hlw).trans (hb1.cell (p := ⟨w.heap.size, i, none⟩) (show w.heap.size < w.heap.size + 2 by omega))
            exact ⟨(hB 0).trans e0, (hB 1).trans e1, (hB 2).trans e2, (hB 3).trans e3, (hB 4).trans e4, h⟩)
          have hle5 : wr.heap.size ≤ W5.drew.heap.size := show wr.heap.size ≤ W5.heap.size by omega
          clear hW5 hst hm hset hE4 hE2 hca e0 e1 e2 e3 e4
          go_region_held3 (fun w' => w'.cell? ⟨w.heap.size, 0, none⟩ = some (.int .i64 c.log) ∧ w'.cell? ⟨w.heap.size, 1, none⟩ = some (.int .i64 c.pages) ∧ w'.cell? ⟨w.heap.size, 2, none⟩ = some (.int .i64 c.entities) ∧ w'.cell? ⟨w.heap.size, 3, none⟩ = some (.int .i64 c.gens) ∧ w'.cell? ⟨w.heap.size, 4, none⟩ = some (.slice A c.comps.length cap) ∧ Below wr.heap.size wr w')
            (first
              | exact KS.out _ hb5.drew
              | exact KS.out _ (hb5.drew.trans (hbp.mono hle5))
              | exact KS.out _ ((hb5.drew.trans (hbp.mono hle5)).setCell (p := ⟨wr.heap.size, 1, none⟩) (Nat.le_refl _) _))
            (first
              | (go_at_call 177; refine (HP.out _ (Below.refl _ _).drew).mono ?_; rintro e w6 ⟨u6, rfl, hu6, hbp⟩; obtain ⟨A6, c6, rfl, _, _, _⟩ := Rep.val_list hu6; have hR6 := (hbp.block wr.heap.size (Nat.lt_of_lt_of_eq (Nat.lt_succ_self _) hs5.symm)).trans hR5; have hc71 : w6.cell? ⟨wr.heap.size, 1, none⟩ = some (.int .i64 0) := (by simp [World.cell?, hR6]); have hf71 : w6.frozen? ⟨wr.heap.size, 1, none⟩ = false := (by simp [World.frozen?, hR6])))
          rename_i hHeld
          rw [← hdat]
          obtain ⟨W7, hW7⟩ : ∃ W7, w6.setCell ⟨wr.heap.size, 1, none⟩ (.int .i64 (dataOf c)) = W7 := ⟨_, rfl⟩
          have hR7 : W7.heap[wr.heap.size]? = some (.cells #[.int .i64 (streamsOf c), .int .i64 (dataOf c), .int .i64 0, .int .i64 0] 169 (0, 0)) := by
            rw [← hW7, heap_setCell_row hR6]; rfl
          have B7 : Below wr.heap.size wr W7 := by rw [← hW7, hdat]; exact hHeld.2.2.2.2.2
          have hQ7 : W7.heap[w.heap.size + 1]? = some (.cells #[.int .i64 0, .int .i64 0, .int .i64 0, .int .i64 0] 169 (0, 0)) := (B7.block _ (by have := hb1.size; omega)).trans ((hb1.block _ (by omega)).trans hR)
          rw [hW7]
          have B0 := Lib.hid ((hbel.trans (hb1.mono (by omega))).trans (B7.mono (by omega)))
          have h70 : W7.cell? ⟨wr.heap.size, 0, none⟩ = some (.int .i64 (streamsOf c)) := by simp [World.cell?, hR7]
          have h71 : W7.cell? ⟨wr.heap.size, 1, none⟩ = some (.int .i64 (dataOf c)) := by simp [World.cell?, hR7]
          have h72 : W7.cell? ⟨wr.heap.size, 2, none⟩ = some (.int .i64 0) := by simp [World.cell?, hR7]
          have h73 : W7.cell? ⟨wr.heap.size, 3, none⟩ = some (.int .i64 0) := by simp [World.cell?, hR7]
          have z72 : W7.frozen? ⟨wr.heap.size, 2, none⟩ = false := by simp [World.frozen?, hR7]
          have z73 : W7.frozen? ⟨wr.heap.size, 3, none⟩ = false := by simp [World.frozen?, hR7]
          have r0 : W7.cell? ⟨w.heap.size + 1, 0, none⟩ = some (.int .i64 0) := by simp [World.cell?, hQ7]
          have r1 : W7.cell? ⟨w.heap.size + 1, 1, none⟩ = some (.int .i64 0) := by simp [World.cell?, hQ7]
          have r2 : W7.cell? ⟨w.heap.size + 1, 2, none⟩ = some (.int .i64 0) := by simp [World.cell?, hQ7]
          have r3 : W7.cell? ⟨w.heap.size + 1, 3, none⟩ = some (.int .i64 0) := by simp [World.cell?, hQ7]
          have y0 : W7.frozen? ⟨w.heap.size + 1, 0, none⟩ = false := by simp [World.frozen?, hQ7]
          have y1 : W7.frozen? ⟨w.heap.size + 1, 1, none⟩ = false := by simp [World.frozen?, hQ7]
          have y2 : W7.frozen? ⟨w.heap.size + 1, 2, none⟩ = false := by simp [World.frozen?, hQ7]
          have y3 : W7.frozen? ⟨w.heap.size + 1, 3, none⟩ = false := by simp [World.frozen?, hQ7]
          have hne : wr.heap.size ≠ w.heap.size + 1 := by have := hb1.size; omega
          have hpg : streamsOf c + dataOf c / 472 = pagesOf c := rfl
          have hdir : pageCount (2 + 16 * streamsOf c + 2 * pagesOf c) = dirOf c := rfl
          have hcb := CB.out
          have P1 := Lib.hid hpg
          have P2 := Lib.hid hdir
          have hpb : streamsOf c + dataOf c / 472 ≤ 50000 := by omega
          clear hW7 hR7 hQ7 hHeld hR6 hR5 hR hdat hdir hpg hu6 hc71 hf71 B7 hbp q1 q2 q3 KS HP hb5 hb1
          go_wp2_with (go_at_call 20; rw [P1.out]; refine (count_calls _ _ (by omega) (by omega)).mono ?_; rintro e w' ⟨rfl, rfl⟩; rw [P2.out])
          have hfr : Try.f122.results = #[.cell 2 169] := rfl
          refine ⟨rfl, .agg #[.int .i64 (streamsOf c), .int .i64 (dataOf c), .int .i64 (pagesOf c), .int .i64 (dirOf c)], ?_, rfl, ?_⟩
          · simp only [results, hfr]
            go_simp
          · refine (((((B0.out.setCell (p := ⟨wr.heap.size, 2, none⟩) ?_ _).setCell (p := ⟨wr.heap.size, 3, none⟩) ?_ _).setCell (p := ⟨w.heap.size + 1, 0, none⟩) ?_ _).setCell (p := ⟨w.heap.size + 1, 1, none⟩) ?_ _).setCell (p := ⟨w.heap.size + 1, 2, none⟩) ?_ _).setCell (p := ⟨w.heap.size + 1, 3, none⟩) ?_ _ <;> (dsimp only; omega)
end Go.Proofs.Ytecdbfbaclgejaa
