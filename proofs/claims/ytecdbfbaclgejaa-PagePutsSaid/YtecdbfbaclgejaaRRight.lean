/- Walk of the reference's check of a layout. -/
import Derived.Test.YtecdbfbaclgejaaRConf
namespace Go.Proofs.Ytecdbfbaclgejaa
open Go.RowKit

set_option maxRecDepth 100000 in
set_option maxHeartbeats 8000000 in
/-- ref07.Right -/
theorem right_calls {Q : Nat → Prop} {w : World} {v : Value} {c : DConf} (hx : rConf.val Q w v c) :
    Calls Try.prog 73 #[v] w fun e w' => e = .returned (.bool (confRight c)) ∧ Below w.heap.size w w' := by
  obtain ⟨A, cap, rfl, f0, f1, f2, f3, hc1, hc2, hA⟩ := rConf_val hx
  unfold maxLen at hc2
  have hlen : (c.comps.length : Int) ≤ 9223372036854775807 := by omega
  have HX := Lib.hid hA
  clear hx hA
  by_cases a0 : c.log < 2
  · have HF := Lib.hid (show confRight c = false by
      have : confRange c = false := by
        rw [Bool.eq_false_iff]
        simp only [confRange, withinB, ne_eq, Bool.and_eq_true, decide_eq_true_eq]
        omega
      unfold confRight; rw [this, Bool.false_and])
    go_enter Try.func73, Try.ntmps73
    go_wp2_with fail
    go_ret
    exact ⟨by rw [HF.out]; rfl, (Below.refl _ _).alloc (Nat.le_refl _) _⟩
  by_cases a1 : 1024 < c.log
  · have HF := Lib.hid (show confRight c = false by
      have : confRange c = false := by
        rw [Bool.eq_false_iff]
        simp only [confRange, withinB, ne_eq, Bool.and_eq_true, decide_eq_true_eq]
        omega
      unfold confRight; rw [this, Bool.false_and])
    go_enter Try.func73, Try.ntmps73
    go_wp2_with fail
    go_ret
    exact ⟨by rw [HF.out]; rfl, (Below.refl _ _).alloc (Nat.le_refl _) _⟩
  by_cases a2 : c.pages < 4
  · have HF := Lib.hid (show confRight c = false by
      have : confRange c = false := by
        rw [Bool.eq_false_iff]
        simp only [confRange, withinB, ne_eq, Bool.and_eq_true, decide_eq_true_eq]
        omega
      unfold confRight; rw [this, Bool.false_and])
    go_enter Try.func73, Try.ntmps73
    go_wp2_with fail
    go_ret
    exact ⟨by rw [HF.out]; rfl, (Below.refl _ _).alloc (Nat.le_refl _) _⟩
  by_cases a3 : 1024 < c.pages
  · have HF := Lib.hid (show confRight c = false by
      have : confRange c = false := by
        rw [Bool.eq_false_iff]
        simp only [confRange, withinB, ne_eq, Bool.and_eq_true, decide_eq_true_eq]
        omega
      unfold confRight; rw [this, Bool.false_and])
    go_enter Try.func73, Try.ntmps73
    go_wp2_with fail
    go_ret
    exact ⟨by rw [HF.out]; rfl, (Below.refl _ _).alloc (Nat.le_refl _) _⟩
  by_cases a4 : c.entities < 1
  · have HF := Lib.hid (show confRight c = false by
      have : confRange c = false := by
        rw [Bool.eq_false_iff]
        simp only [confRange, withinB, ne_eq, Bool.and_eq_true, decide_eq_true_eq]
        omega
      unfold confRight; rw [this, Bool.false_and])
    go_enter Try.func73, Try.ntmps73
    go_wp2_with fail
    go_ret
    exact ⟨by rw [HF.out]; rfl, (Below.refl _ _).alloc (Nat.le_refl _) _⟩
  by_cases a5 : 1024 < c.entities
  · have HF := Lib.hid (show confRight c = false by
      have : confRange c = false := by
        rw [Bool.eq_false_iff]
        simp only [confRange, withinB, ne_eq, Bool.and_eq_true, decide_eq_true_eq]
        omega
      unfold confRight; rw [this, Bool.false_and])
    go_enter Try.func73, Try.ntmps73
    go_wp2_with fail
    go_ret
    exact ⟨by rw [HF.out]; rfl, (Below.refl _ _).alloc (Nat.le_refl _) _⟩
  by_cases a6 : c.gens < 1
  · have HF := Lib.hid (show confRight c = false by
      have : confRange c = false := by
        rw [Bool.eq_false_iff]
        simp only [confRange, withinB, ne_eq, Bool.and_eq_true, decide_eq_true_eq]
        omega
      unfold confRight; rw [this, Bool.false_and])
    go_enter Try.func73, Try.ntmps73
    go_wp2_with fail
    go_ret
    exact ⟨by rw [HF.out]; rfl, (Below.refl _ _).alloc (Nat.le_refl _) _⟩
  by_cases a7 : 1073741824 < c.gens
  · have HF := Lib.hid (show confRight c = false by
      have : confRange c = false := by
        rw [Bool.eq_false_iff]
        simp only [confRange, withinB, ne_eq, Bool.and_eq_true, decide_eq_true_eq]
        omega
      unfold confRight; rw [this, Bool.false_and])
    go_enter Try.func73, Try.ntmps73
    go_wp2_with fail
    go_ret
    exact ⟨by rw [HF.out]; rfl, (Below.refl _ _).alloc (Nat.le_refl _) _⟩
  by_cases a8 : (32 : Int) < c.comps.length
  · have HF := Lib.hid (show confRight c = false by
      have : confRange c = false := by
        rw [Bool.eq_false_iff]
        simp only [confRange, withinB, ne_eq, Bool.and_eq_true, decide_eq_true_eq]
        omega
      unfold confRight; rw [this, Bool.false_and])
    go_enter Try.func73, Try.ntmps73
    go_wp2_with fail
    go_ret
    exact ⟨by rw [HF.out]; rfl, (Below.refl _ _).alloc (Nat.le_refl _) _⟩
  have HR := Lib.hid (show confRight c = (List.range c.comps.length).all (compOk c.comps) by
    have : confRange c = true := by
      simp only [confRange, withinB, Bool.and_eq_true, decide_eq_true_eq]
      omega
    unfold confRight; rw [this, Bool.true_and])
  obtain ⟨W1, hW1⟩ : ∃ W1, w.alloc (.cells #[.int .i64 c.log, .int .i64 c.pages, .int .i64 c.entities, .int .i64 c.gens, .slice A c.comps.length cap] 88) = W1 := ⟨_, rfl⟩
  have hbel : Below w.heap.size w W1 := by rw [← hW1]; exact (Below.refl _ _).alloc (Nat.le_refl _) _
  have hsz : W1.heap.size = w.heap.size + 1 := by rw [← hW1]; simp
  have e0 : W1.cell? ⟨w.heap.size, 0, none⟩ = some (.int .i64 c.log) := by rw [← hW1]; simp
  have e1 : W1.cell? ⟨w.heap.size, 1, none⟩ = some (.int .i64 c.pages) := by rw [← hW1]; simp
  have e2 : W1.cell? ⟨w.heap.size, 2, none⟩ = some (.int .i64 c.entities) := by rw [← hW1]; simp
  have e3 : W1.cell? ⟨w.heap.size, 3, none⟩ = some (.int .i64 c.gens) := by rw [← hW1]; simp
  have e4 : W1.cell? ⟨w.heap.size, 4, none⟩ = some (.slice A c.comps.length cap) := by rw [← hW1]; simp
  go_enter Try.func73, Try.ntmps73
  go_wp2_with fail
  try rw [hW1]
  clear hW1
  go_wp2_with fail
  go_loopw [3] (fun i wr => ∃ k : Nat, i = .int .i64 k ∧ k ≤ c.comps.length ∧ Hid ((List.range k).all (compOk c.comps) = true) ∧ Below (w.heap.size + 1) W1 wr)
    (fun i _ => c.comps.length - (intOf i).toNat)
  case atStart => exact ⟨0, rfl, by omega, rfl, Below.refl _ _⟩
  case round =>
    obtain ⟨k, rfl, hk, hall, hb1⟩ := hrel
    have E0 := (hb1.cell (p := ⟨w.heap.size, 0, none⟩) (Nat.lt_succ_self _)).trans e0
    have E1 := (hb1.cell (p := ⟨w.heap.size, 1, none⟩) (Nat.lt_succ_self _)).trans e1
    have E2 := (hb1.cell (p := ⟨w.heap.size, 2, none⟩) (Nat.lt_succ_self _)).trans e2
    have E3 := (hb1.cell (p := ⟨w.heap.size, 3, none⟩) (Nat.lt_succ_self _)).trans e3
    have E4 := (hb1.cell (p := ⟨w.heap.size, 4, none⟩) (Nat.lt_succ_self _)).trans e4
    have hb0 : Below w.heap.size w wr := hbel.trans (hb1.mono (by omega))
    have HB1 := Lib.hid hb1
    clear hb1
    by_cases hlt : (k : Int) < c.comps.length
    · have hk' : k < c.comps.length := by omega
      have hAw : rComp.At (fun b => b < w.heap.size) wr A c.comps := Rep.At.keep (w := w) (fun b _ hb => ⟨hb.lt, hb0.block b hb.lt⟩) HX.out
      obtain ⟨b, off, rfl, hb, cx0, cx1, g0, g1⟩ := rComp_at hAw (List.getElem?_eq_getElem hk')
      generalize hxx : c.comps[k] = x at *
      have HXX := Lib.hid hxx
      have HV := Lib.hid (show ∀ W, Below wr.heap.size wr W → rConf.val (fun _ => True) W (.agg #[.int .i64 c.log, .int .i64 c.pages, .int .i64 c.entities, .int .i64 c.gens, .slice (some ⟨b, off, none⟩) c.comps.length cap]) c from
        fun W hW => rConf_agg f0 f1 f2 f3 ⟨hc1, by unfold maxLen; omega, hAw.keep (w := wr) (w' := W) fun b _ hb => ⟨trivial, hW.block b hb.lt⟩⟩)
      have hl : w.heap.size < wr.heap.size := by have := HB1.out.size; omega
      have hbl := hb.lt
      clear hxx hAw
      go_wp2_with fail
      go_region_held3 (fun w' => w'.cell? ⟨w.heap.size, 0, none⟩ = some (.int .i64 c.log) ∧ w'.cell? ⟨w.heap.size, 1, none⟩ = some (.int .i64 c.pages) ∧ w'.cell? ⟨w.heap.size, 2, none⟩ = some (.int .i64 c.entities) ∧ w'.cell? ⟨w.heap.size, 3, none⟩ = some (.int .i64 c.gens) ∧ w'.cell? ⟨w.heap.size, 4, none⟩ = some (.slice (some ⟨b, off, none⟩) c.comps.length cap) ∧ w'.cell? ⟨b, off + k * 2, none⟩ = some (.string ⟨x.name.toArray⟩) ∧ Below wr.heap.size wr w')
        (first
          | exact ⟨E0, E1, E2, E3, E4, cx0, (Below.refl _ _).drew⟩
          | exact ⟨(hbf.cell (p := ⟨w.heap.size, 0, none⟩) hl).trans E0, (hbf.cell (p := ⟨w.heap.size, 1, none⟩) hl).trans E1, (hbf.cell (p := ⟨w.heap.size, 2, none⟩) hl).trans E2, (hbf.cell (p := ⟨w.heap.size, 3, none⟩) hl).trans E3, (hbf.cell (p := ⟨w.heap.size, 4, none⟩) hl).trans E4, (hbf.cell (p := ⟨b, off + k * 2, none⟩) hbl).trans cx0, (Below.refl wr.heap.size wr).drew.trans hbf⟩)
        (first | (go_at_call 136; refine (find_calls (HV.out _ ((Below.refl _ _).drew))).mono ?_; rintro e w' ⟨hbf, i, bb, rfl, hfr⟩))
      rename_i hHeld
      have hW : Below wr.heap.size wr w' := (Below.refl wr.heap.size wr).drew.trans hbf
      have F4 := (hW.cell (p := ⟨w.heap.size, 4, none⟩) hl).trans E4
      have G0 := (hW.cell (p := ⟨b, off + k * 2, none⟩) hbl).trans cx0
      have G1 := (hW.cell (p := ⟨b, off + k * 2 + 1, none⟩) hbl).trans cx1
      have HBW := Lib.hid (HB1.out.trans (hW.mono (by omega)))
      clear hbf hHeld hW E0 E1 E2 E3 E4 cx0 cx1
      rcases hfr with ⟨rfl, hpre, hi, hname⟩ | ⟨_, hno⟩
      · have hik : i ≤ k := by
          rcases Nat.lt_or_ge k i with h | h
          · have hm : x ∈ c.comps.take i := by rw [← HXX.out]; exact List.mem_take_iff_getElem.2 ⟨k, by omega, rfl⟩
            have := List.all_eq_true.1 hpre x hm
            simp at this
          · exact h
        rcases Nat.lt_or_ge i k with hlt2 | hge2
        · have HF := Lib.hid (show confRight c = false by rw [HR.out]; exact range_not_all hk' (compOk_dup hlt2 hk' HXX.out hi rfl hname))
          have hne : ((i : Int) != (k : Int)) = true := by simp; omega
          clear hpre hname hi
          go_wp2_with fail
          go_ret
          exact ⟨by rw [HF.out]; rfl, hbel.trans (HBW.out.mono (by omega))⟩
        · obtain rfl : i = k := by omega
          have hcomp : compOk c.comps i = (nameB x.name && withinB x.size 0 64) := by
            unfold compOk
            rw [List.getElem?_eq_getElem hk', HXX.out]
            simp only [hpre, Bool.true_and]
          have hne : ((i : Int) != (i : Int)) = false := by simp
          clear hpre hname hi hge2
          cases hn : nameB x.name with
          | false =>
            have HN := Lib.hid hn
            have HF := Lib.hid (show confRight c = false by rw [HR.out]; exact range_not_all hk' (by rw [hcomp, hn]; rfl))
            clear hn hcomp
            go_wp2_with (go_at_call 137; refine (rname_calls _ _ g0).mono ?_; rintro e w2 ⟨rfl, nd, rfl⟩; rw [HN.out])
            go_ret
            exact ⟨by rw [HF.out]; rfl, below_drewN (hbel.trans (HBW.out.mono (by omega))) _⟩
          | true =>
            have HN := Lib.hid hn
            by_cases s0 : x.size < 0
            · have HF := Lib.hid (show confRight c = false by rw [HR.out]; exact range_not_all hk' (by rw [hcomp, hn]; simp [withinB]; omega))
              clear hn hcomp
              go_wp2_with (go_at_call 137; refine (rname_calls _ _ g0).mono ?_; rintro e w2 ⟨rfl, nd, rfl⟩; rw [HN.out])
              go_ret
              exact ⟨by rw [HF.out]; rfl, below_drewN (hbel.trans (HBW.out.mono (by omega))) _⟩
            by_cases s1 : 64 < x.size
            · have HF := Lib.hid (show confRight c = false by rw [HR.out]; exact range_not_all hk' (by rw [hcomp, hn]; simp [withinB]; omega))
              clear hn hcomp
              go_wp2_with (go_at_call 137; refine (rname_calls _ _ g0).mono ?_; rintro e w2 ⟨rfl, nd, rfl⟩; rw [HN.out])
              go_ret
              exact ⟨by rw [HF.out]; rfl, below_drewN (hbel.trans (HBW.out.mono (by omega))) _⟩
            have HA := Lib.hid (range_all_succ hall (by rw [hcomp, hn]; simp [withinB]; omega))
            clear hn hcomp
            go_wp2_with (go_at_call 137; refine (rname_calls _ _ g0).mono ?_; rintro e w2 ⟨rfl, nd, rfl⟩; rw [HN.out])
            exact ⟨⟨i + 1, by go_num, by omega, HA, below_drewN HBW.out _⟩, by simp [intOf]; omega⟩
      · exfalso
        have hm : x ∈ c.comps := by rw [← HXX.out]; exact List.getElem_mem hk'
        have := List.all_eq_true.1 hno x hm
        simp at this
    · obtain rfl : k = c.comps.length := by omega
      have HF := Lib.hid (show confRight c = true by rw [HR.out]; exact hall.out)
      clear hall
      go_wp2_with fail
      go_ret
      exact ⟨by rw [HF.out]; rfl, hb0⟩
end Go.Proofs.Ytecdbfbaclgejaa
