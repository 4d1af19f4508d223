/- Walk of the reference's counts. -/
import Derived.Test.YtecdbfbaclgejaaPCount
namespace Go.Proofs.Ytecdbfbaclgejaa
open Go.RowKit

theorem pow_le {k n : Nat} (h : k ≤ n) : (2 : Int) ^ k ≤ 2 ^ n := by exact_mod_cast Nat.pow_le_pow_right (by decide) h
theorem setsAt_full {c : DConf} {k n : Nat} (hk : k ≤ n) (h : c.entities ≤ 2 ^ k) : setsAt c n = c.entities := by
  have := pow_le hk
  unfold setsAt; omega
theorem setsAt_pow {c : DConf} {n : Nat} (h : 2 ^ n ≤ c.entities) : setsAt c n = 2 ^ n := by unfold setsAt; omega
theorem data_sum (e s l : Int) : l + 8 + 16 * e + e * s = l + 8 + e * (16 + s) := by rw [Int.mul_add]; omega
theorem mul_step (e s x b : Int) : b + e * s + e * x = b + e * (s + x) := by rw [Int.mul_add]; omega

set_option maxRecDepth 100000 in
set_option maxHeartbeats 4000000 in
/-- ref28.counts -/
theorem rcounts_calls {Q : Nat → Prop} {w : World} {v : Value} {c : DConf} (hx : rConf.val Q w v c) (hr : confRight c = true) :
    Calls Try.prog 123 #[v] w fun e w' => e = .returned (.tuple #[.int .i64 (streamsOf c), .int .i64 (pagesOf c), .int .i64 (dirOf c)]) ∧ Below w.heap.size w w' := by
  obtain ⟨A, cap, rfl, f0, f1, f2, f3, hc1, hc2, hA⟩ := rConf_val hx
  unfold maxLen at hc2
  have RF := Lib.hid (right_facts hr)
  have SB := Lib.hid (sumSizes_bound hr)
  have TB := Lib.hid (setsAt_bound hr)
  have CB := Lib.hid (count_bounds hr)
  have hrf := RF.out.1
  obtain ⟨W1, hW1⟩ : ∃ W1, w.alloc (.cells #[.int .i64 c.log, .int .i64 c.pages, .int .i64 c.entities, .int .i64 c.gens, .slice A c.comps.length cap] 88) = W1 := ⟨_, rfl⟩
  have hbel : Below w.heap.size w W1 := by rw [← hW1]; exact (Below.refl _ _).alloc (Nat.le_refl _) _
  have hsz : W1.heap.size = w.heap.size + 1 := by rw [← hW1]; simp
  have e0 : W1.cell? ⟨w.heap.size, 0, none⟩ = some (.int .i64 c.log) := by rw [← hW1]; simp
  have e1 : W1.cell? ⟨w.heap.size, 1, none⟩ = some (.int .i64 c.pages) := by rw [← hW1]; simp
  have e2 : W1.cell? ⟨w.heap.size, 2, none⟩ = some (.int .i64 c.entities) := by rw [← hW1]; simp
  have e3 : W1.cell? ⟨w.heap.size, 3, none⟩ = some (.int .i64 c.gens) := by rw [← hW1]; simp
  have e4 : W1.cell? ⟨w.heap.size, 4, none⟩ = some (.slice A c.comps.length cap) := by rw [← hW1]; simp
  have HX := Lib.hid hA
  clear hx hA hr
  go_enter Try.func123, Try.ntmps123
  go_wp2_with fail
  try rw [hW1]
  clear hW1
  go_wp2_with fail
  go_loopw [5, 6] (fun s i wr => ∃ (k : Nat) (p : Int), i = .int .i64 k ∧ k ≤ c.comps.length ∧ s = .int .i64 p ∧ Hid (p = 2 ^ k) ∧ 1 ≤ p ∧ p ≤ 2048 ∧ wr = W1)
    (fun _ i _ => c.comps.length - (intOf i).toNat)
  case atStart => exact ⟨0, 1, rfl, by omega, rfl, rfl, by omega, by omega, rfl⟩
  case round =>
    obtain ⟨k, p, rfl, hk, rfl, hp, hp1, hp2, rfl⟩ := hrel
    by_cases hcont : (k : Int) < c.comps.length ∧ p < c.entities
    · obtain ⟨i1, i2⟩ := hcont
      have T := Lib.hid (show 2 * p = 2 ^ (k + 1) by rw [hp.out, Int.pow_succ]; omega)
      go_wp2_with fail
      exact ⟨⟨k + 1, _, by go_num, by omega, rfl, T, by omega, by omega, trivial⟩, by simp [intOf]; omega⟩
    · obtain ⟨st, hst⟩ : ∃ st, st = setsAt c c.comps.length := ⟨_, rfl⟩
      have hS : st = if c.entities < p then c.entities else p := by
        rw [hst]
        split
        · exact setsAt_full hk (by rw [← hp.out]; omega)
        · by_cases hke : (k : Int) < c.comps.length
          · have : p = c.entities := by omega
            rw [setsAt_full hk (by rw [← hp.out]; omega), this]
          · obtain rfl : k = c.comps.length := by omega
            rw [setsAt_pow (by rw [← hp.out]; omega), hp.out]
      have hstb := TB.out c.comps.length
      rw [← hst] at hstb
      have hstr : 2 + st * (c.comps.length + 1) = streamsOf c := by rw [hst]; rfl
      have HS := Lib.hid hS
      have HSTR := Lib.hid hstr
      have hm := mul_bounds (a := st) (b := (c.comps.length : Int) + 1) (A := 1024) (B := 33) (by omega) (by omega) (by omega) (by omega)
      clear hS hst hstr
      rename World => W1
      have hl1 : w.heap.size < W1.heap.size := by omega
      have hcbl := confBytes_length (c := c) (by omega)
      have HVal := Lib.hid (show ∀ W, Below W1.heap.size W1 W → rConf.val (fun _ => True) W (.agg #[.int .i64 c.log, .int .i64 c.pages, .int .i64 c.entities, .int .i64 c.gens, .slice A c.comps.length cap]) c from
        fun W hW => rConf_agg f0 f1 f2 f3 ⟨hc1, by unfold maxLen; omega, HX.out.keep (w := w) (w' := W) fun b _ hb => ⟨trivial, (hW.block b (by have := hb.lt; omega)).trans (hbel.block b hb.lt)⟩⟩)
      have HP := Lib.hid (show ∀ W, Below W1.heap.size W1 W → Calls Try.prog 178 #[.agg #[.int .i64 c.log, .int .i64 c.pages, .int .i64 c.entities, .int .i64 c.gens, .slice A c.comps.length cap]] W (Res Rep.byte.list (fun b => W.heap.size ≤ b) W (confBytes c)) from
        fun W hW => rcput_calls (HVal.out W hW) (by omega))
      have HD := Lib.hid (show dataOf c = (confBytes c).length + 8 + 16 * c.entities + c.entities * sumSizes c.comps by rw [data_sum]; rfl)
      generalize confBytes c = bs at HD hcbl HP
      have q1 : IntKind.i64.wrap ((bs.length : Int) + 8) = bs.length + 8 := IntWalk.i64_in _ ⟨by omega, by omega⟩
      have q2 : IntKind.i64.wrap (16 * c.entities) = 16 * c.entities := IntWalk.i64_in _ ⟨by omega, by omega⟩
      have q3 : IntKind.i64.wrap ((bs.length : Int) + 8 + 16 * c.entities) = bs.length + 8 + 16 * c.entities := IntWalk.i64_in _ ⟨by omega, by omega⟩
      have KS := Lib.hid (show ∀ w', Below W1.heap.size W1 w' → w'.cell? ⟨w.heap.size, 0, none⟩ = some (.int .i64 c.log) ∧ w'.cell? ⟨w.heap.size, 1, none⟩ = some (.int .i64 c.pages) ∧ w'.cell? ⟨w.heap.size, 2, none⟩ = some (.int .i64 c.entities) ∧ w'.cell? ⟨w.heap.size, 3, none⟩ = some (.int .i64 c.gens) ∧ w'.cell? ⟨w.heap.size, 4, none⟩ = some (.slice A c.comps.length cap) ∧ Below W1.heap.size W1 w' from fun w' h =>
        ⟨(h.cell (p := ⟨w.heap.size, 0, none⟩) hl1).trans e0, (h.cell (p := ⟨w.heap.size, 1, none⟩) hl1).trans e1, (h.cell (p := ⟨w.heap.size, 2, none⟩) hl1).trans e2, (h.cell (p := ⟨w.heap.size, 3, none⟩) hl1).trans e3, (h.cell (p := ⟨w.heap.size, 4, none⟩) hl1).trans e4, h⟩)
      have hcase : ((k : Int) < c.comps.length ∧ c.entities ≤ p) ∨ ¬ (k : Int) < c.comps.length := by omega
      obtain ⟨x5, hx5⟩ : ∃ x5 : Int, x5 = st := ⟨_, rfl⟩
      rcases hcase with ⟨i1, i2⟩ | i1 <;> by_cases i3 : c.entities < p
      all_goals
        have hv := HS.out
        simp only [i3, if_true, if_false] at hv
        rw [hv] at hm
        rw [hv] at HSTR
        have hh := HSTR.out
        clear hv HS hx5
        go_wp2_with fail
        try rw [hh]
        clear hh
        go_region_held3 (fun w' => w'.cell? ⟨w.heap.size, 0, none⟩ = some (.int .i64 c.log) ∧ w'.cell? ⟨w.heap.size, 1, none⟩ = some (.int .i64 c.pages) ∧ w'.cell? ⟨w.heap.size, 2, none⟩ = some (.int .i64 c.entities) ∧ w'.cell? ⟨w.heap.size, 3, none⟩ = some (.int .i64 c.gens) ∧ w'.cell? ⟨w.heap.size, 4, none⟩ = some (.slice A c.comps.length cap) ∧ Below W1.heap.size W1 w')
          (first
            | exact KS.out _ (Below.refl _ _).drew
            | exact KS.out _ ((Below.refl _ _).drew.trans hbp))
          (first
            | (go_at_call 178; refine (HP.out _ (Below.refl _ _).drew).mono ?_; rintro e w6 ⟨u6, rfl, hu6, hbp⟩; obtain ⟨A6, c6, rfl, _, _, _⟩ := Rep.val_list hu6))
        rename_i hHeld
        have hb6 := hHeld.2.2.2.2.2
        clear hHeld q1 q2 q3 hbp hu6 e0 e1 e3
        go_wp2_with fail
        go_loopw [8, 9] (fun s i wr => ∃ (k : Nat), i = .int .i64 k ∧ k ≤ c.comps.length ∧ s = .int .i64 ((bs.length : Int) + 8 + 16 * c.entities + c.entities * sumSizes (c.comps.take k)) ∧ Below W1.heap.size W1 wr)
          (fun _ i _ => c.comps.length - (intOf i).toNat)
        case atStart => exact ⟨0, rfl, by omega, by simp [sumSizes], hb6⟩
        case round =>
          obtain ⟨j, rfl, hj, rfl, hb1⟩ := hrel
          have E2 := (hb1.cell (p := ⟨w.heap.size, 2, none⟩) hl1).trans e2
          have E4 := (hb1.cell (p := ⟨w.heap.size, 4, none⟩) hl1).trans e4
          by_cases hlt : (j : Int) < c.comps.length
          · have hj' : j < c.comps.length := by omega
            have hAw : rComp.At (fun b => b < w.heap.size) wr A c.comps := Rep.At.keep (w := w) (fun b _ hb => ⟨hb.lt, (hb1.block b (by have := hb.lt; omega)).trans (hbel.block b hb.lt)⟩) HX.out
            obtain ⟨b, off, rfl, hbc, cx0, cx1, g0, g1⟩ := rComp_at hAw (List.getElem?_eq_getElem hj')
            have T := Lib.hid (sumSizes_succ hj')
            have hsb := SB.out j (by omega)
            have hxb := RF.out.2 j hj'
            generalize c.comps[j] = x at *
            generalize sumSizes (c.comps.take j) = s at *
            have HB1 := Lib.hid hb1
            have m1 := mul_bounds (a := c.entities) (b := s) (A := 1024) (B := 2048) (by omega) (by omega) (by omega) (by omega)
            have m2 := mul_bounds (a := c.entities) (b := x.size) (A := 1024) (B := 64) (by omega) (by omega) (by omega) (by omega)
            have n1 : IntKind.i64.wrap (c.entities * x.size) = c.entities * x.size := IntWalk.i64_in _ ⟨by omega, by omega⟩
            have n2 : IntKind.i64.wrap ((bs.length : Int) + 8 + 16 * c.entities + c.entities * s + c.entities * x.size) = (bs.length : Int) + 8 + 16 * c.entities + c.entities * s + c.entities * x.size := IntWalk.i64_in _ ⟨by omega, by omega⟩
            clear hAw hb1
            go_wp2_with fail
            go_quiet (fail)
            go_wp2_with fail
            exact ⟨⟨j + 1, by go_num, by omega, by rw [T.out, mul_step], below_drewN HB1.out _⟩, by simp [intOf]; omega⟩
          · obtain rfl : j = c.comps.length := by omega
            rw [List.take_length, ← HD.out]
            have hcb := CB.out
            have P1 := Lib.hid (show streamsOf c + dataOf c / 472 = pagesOf c from rfl)
            have P2 := Lib.hid (show pageCount (2 + 16 * streamsOf c + 2 * pagesOf c) = dirOf c from rfl)
            have hpb : streamsOf c + dataOf c / 472 ≤ 50000 := by have := P1.out; omega
            have HB1 := Lib.hid hb1
            clear hb1
            go_wp2_with (go_at_call 21; rw [P1.out]; refine (rcount_calls _ _ (by omega) (by omega)).mono ?_; rintro e w' ⟨rfl, rfl⟩; rw [P2.out])
            go_ret3
            exact ⟨rfl, hbel.trans (HB1.out.mono (by omega))⟩
end Go.Proofs.Ytecdbfbaclgejaa
