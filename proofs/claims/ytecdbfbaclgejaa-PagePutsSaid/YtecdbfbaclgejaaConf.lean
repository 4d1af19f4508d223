/- Walks of the checks of a layout. -/
import Derived.Test.YtecdbfbaclgejaaComp
import Derived.WalkMore
namespace Go.Proofs.Ytecdbfbaclgejaa
open Go.RowKit

def compOk (l : List DComp) (i : Nat) : Bool := match l[i]? with
  | some x => (l.take i).all (fun y => decide (y.name ≠ x.name)) && nameB x.name && withinB x.size 0 64
  | none => true
def confRange (c : DConf) : Bool := withinB c.log 2 1024 && withinB c.pages 4 1024 && withinB c.entities 1 1024 && withinB c.gens 1 1073741824 && decide (c.comps.length ≤ 32)
def confRight (c : DConf) : Bool := confRange c && (List.range c.comps.length).all (compOk c.comps)
def checkOf (b : Bool) : Int := if b then 0 else 1

theorem range_all_succ {p : Nat → Bool} {k : Nat} (h : (List.range k).all p = true) (hk : p k = true) : (List.range (k + 1)).all p = true := by
  rw [List.range_succ, List.all_append, h]; simp [hk]
theorem range_not_all {p : Nat → Bool} {k n : Nat} (hk : k < n) (h : p k = false) : (List.range n).all p = false := by
  rw [Bool.eq_false_iff]
  intro hh
  have := List.all_eq_true.1 hh k (List.mem_range.2 hk)
  rw [h] at this; cases this

theorem compOk_dup {l : List DComp} {j k : Nat} {x y : DComp} (hjk : j < k) (hk : k < l.length) (hx : l[k] = x) (hj : j < l.length) (hy : l[j] = y) (h : y.name = x.name) : compOk l k = false := by
  unfold compOk
  rw [List.getElem?_eq_getElem hk, hx]
  have : ((l.take k).all fun y => decide (y.name ≠ x.name)) = false := by
    rw [Bool.eq_false_iff]
    intro hh
    have hm : y ∈ l.take k := by rw [← hy]; exact List.mem_take_iff_getElem.2 ⟨j, by omega, rfl⟩
    have := List.all_eq_true.1 hh y hm
    simp [h] at this
  simp only [this, Bool.false_and]

set_option maxRecDepth 100000 in
set_option maxHeartbeats 4000000 in
/-- comp.Check -/
theorem check_calls {Q : Nat → Prop} {w : World} {v : Value} {c : DConf} (hx : rConf.val Q w v c) :
    Calls Try.prog 121 #[v] w fun e w' => e = .returned (.int .i64 (checkOf (confRight c))) ∧ Below w.heap.size w w' := by
  obtain ⟨A, cap, rfl, f0, f1, f2, f3, hc1, hc2, hA⟩ := rConf_val hx
  unfold maxLen at hc2
  have hlen : (c.comps.length : Int) ≤ 9223372036854775807 := by omega
  cases h0 : withinB c.log 2 1024 <;> cases h1 : withinB c.pages 4 1024 <;> cases h2 : withinB c.entities 1 1024 <;> cases h3 : withinB c.gens 1 1073741824
  case true.true.true.true =>
    have H0 := Lib.hid h0
    have H1 := Lib.hid h1
    have H2 := Lib.hid h2
    have H3 := Lib.hid h3
    by_cases hlong : (32 : Int) < c.comps.length
    · have hr : confRight c = false := by simp [confRight, confRange]; intros; omega
      have HR := Lib.hid hr
      clear hr h0 h1 h2 h3 hx hA
      go_enter Try.func121, Try.ntmps121
      go_wp2_with fail
      go_step3
      go_wp2_with (go_at_call 175; refine (within_calls _ _ _ _).mono ?_; rintro e w' ⟨rfl, rfl⟩; first | rw [H0.out] | rw [H1.out] | rw [H2.out] | rw [H3.out])
      try rw [Exit.noGoto_ret]
      go_ret
      exact ⟨by rw [HR.out]; rfl, (Below.refl _ _).alloc (Nat.le_refl _) _⟩
    · have hr : confRight c = (List.range c.comps.length).all (compOk c.comps) := by
        have : decide (c.comps.length ≤ 32) = true := by simp; omega
        simp [confRight, confRange, h0, h1, h2, h3, this]
      have HR := Lib.hid hr
      have HX := Lib.hid hA
      clear hr h0 h1 h2 h3 hx hA
      go_enter Try.func121, Try.ntmps121
      go_wp2_with fail
      go_step3
      go_wp2_with (go_at_call 175; refine (within_calls _ _ _ _).mono ?_; rintro e w' ⟨rfl, rfl⟩; first | rw [H0.out] | rw [H1.out] | rw [H2.out] | rw [H3.out])
      obtain ⟨W1, hW1⟩ : ∃ W1, w.alloc (.cells #[.int .i64 c.log, .int .i64 c.pages, .int .i64 c.entities, .int .i64 c.gens, .slice A c.comps.length cap] 88) = W1 := ⟨_, rfl⟩
      have hcell : W1.cell? ⟨w.heap.size, 4, none⟩ = some (.slice A c.comps.length cap) := by rw [← hW1]; simp
      have hbel : Below w.heap.size w W1 := by rw [← hW1]; exact (Below.refl _ _).alloc (Nat.le_refl _) _
      have hsz : W1.heap.size = w.heap.size + 1 := by rw [← hW1]; simp
      rw [hW1]
      clear hW1
      go_wp2_with fail
      go_step3
      go_wp2_with fail
      go_loopw [40] (fun i wr => ∃ k : Nat, i = .int .i64 k ∧ k ≤ c.comps.length ∧ Hid ((List.range k).all (compOk c.comps) = true) ∧ Below (w.heap.size + 1) W1 wr)
        (fun i _ => c.comps.length - (intOf i).toNat)
      case atStart => exact ⟨0, rfl, by omega, rfl, Below.refl _ _⟩
      case round =>
        obtain ⟨k, rfl, hk, hall, hb1⟩ := hrel
        by_cases hlt : (k : Int) < c.comps.length
        · have hk' : k < c.comps.length := by omega
          have hAw : rComp.At (fun b => b < w.heap.size) wr A c.comps := Rep.At.keep (w := w) (fun b _ hb => ⟨hb.lt, (hb1.block b (by have := hb.lt; omega)).trans (hbel.block b hb.lt)⟩) HX.out
          obtain ⟨b, off, rfl, hb, cx0, cx1, g0, g1⟩ := rComp_at hAw (List.getElem?_eq_getElem hk')
          generalize hxx : c.comps[k] = x at *
          have HXX := Lib.hid hxx
          clear hxx
          have hcw : wr.cell? ⟨w.heap.size, 4, none⟩ = some (.slice (some ⟨b, off, none⟩) c.comps.length cap) := (hb1.cell (p := ⟨w.heap.size, 4, none⟩) (Nat.lt_succ_self _)).trans hcell
          have hlw : w.heap.size < wr.heap.size := by have := hb1.size; omega
          have hca : ∀ o, (wr.alloc o).cell? ⟨w.heap.size, 4, none⟩ = some (.slice (some ⟨b, off, none⟩) c.comps.length cap) := fun o => (World.cell?_of_block (w := wr) (Below.heap_alloc _ _ _ hlw)).trans hcw
          have HB1 := Lib.hid hb1
          have HAW := Lib.hid hAw
          clear hb1 hAw
          go_wp2_with fail
          rename World => wo
          obtain ⟨W2, hW2⟩ : ∃ W2, wo.alloc (.cells #[.string ⟨x.name.toArray⟩, .int .i64 x.size] 167) = W2 := ⟨_, rfl⟩
          have d0 : W2.cell? ⟨wo.heap.size, 0, none⟩ = some (.string ⟨x.name.toArray⟩) := by rw [← hW2]; simp
          have d1 : W2.cell? ⟨wo.heap.size, 1, none⟩ = some (.int .i64 x.size) := by rw [← hW2]; simp
          have hb2 : Below wo.heap.size wo W2 := by rw [← hW2]; exact (Below.refl _ _).alloc (Nat.le_refl _) _
          have hs2 : W2.heap.size = wo.heap.size + 1 := by rw [← hW2]; simp
          rw [hW2]
          clear hW2 hca hcw cx0 cx1
          have HAW2 := Lib.hid (HAW.out.keep (w := wo) (w' := W2) (Q' := fun b => b < wo.heap.size) fun b _ hb => ⟨hb.lt, hb2.block b hb.lt⟩)
          have HB2 := Lib.hid hb2
          clear hb2
          go_loopw [50] (fun i wr2 => ∃ j : Nat, i = .int .i64 j ∧ j ≤ k ∧ Hid ((c.comps.take j).all (fun y => decide (y.name ≠ x.name)) = true) ∧ Below (wo.heap.size + 1) W2 wr2)
            (fun i _ => k - (intOf i).toNat)
          case atStart => exact ⟨0, rfl, by omega, rfl, Below.refl _ _⟩
          case round =>
            obtain ⟨j, rfl, hj, hdif, hb3⟩ := hrel
            by_cases hjk : (j : Int) < k
            · have hj' : j < c.comps.length := by omega
              have hA3 := HAW2.out.keep (w := W2) (w' := wr) (Q' := fun _ => True) fun b hq hb => ⟨trivial, hb3.block b (by omega)⟩
              obtain ⟨b', off', heq, hb', cy0, cy1, g3, g4⟩ := rComp_at hA3 (List.getElem?_eq_getElem hj')
              cases heq
              generalize hyy : c.comps[j] = y at *
              have HYY := Lib.hid hyy
              have d0' := (hb3.cell (p := ⟨wo.heap.size, 0, none⟩) (Nat.lt_succ_self _)).trans d0
              have hlw3 : wo.heap.size < wr.heap.size := by have := hb3.size; omega
              have hca : ∀ o, (wr.alloc o).cell? ⟨wo.heap.size, 0, none⟩ = some (.string ⟨x.name.toArray⟩) := fun o => (World.cell?_of_block (w := wr) (Below.heap_alloc _ _ _ hlw3)).trans d0'
              have HB3 := Lib.hid hb3
              clear hyy hA3 hb3
              by_cases hq : y.name = x.name
              · have HF := Lib.hid (show confRight c = false by rw [HR.out]; exact range_not_all hk' (compOk_dup (j := j) (by omega) hk' HXX.out hj' HYY.out hq))
                replace hq : (x.name == y.name) = true := by simp [hq]
                go_wp2_with fail
                try rw [Exit.noGoto_ret]
                go_ret
                refine ⟨by rw [HF.out]; rfl, ?_⟩
                exact ((((hbel.trans (HB1.out.mono (by omega))).trans (HB2.out.mono (by omega))).trans (HB3.out.mono (by omega))).alloc (by omega) _)
              · have HD := Lib.hid (show ((c.comps.take (j + 1)).all fun y => decide (y.name ≠ x.name)) = true from all_take_succ (p := fun y : DComp => decide (y.name ≠ x.name)) hj' hdif (by rw [HYY.out]; simpa using hq))
                replace hq : (x.name == y.name) = false := by simpa using fun h => hq h.symm
                go_wp2_with fail
                exact ⟨⟨j + 1, by go_num, by omega, HD, HB3.out.alloc (by omega) _⟩, by simp [intOf]; omega⟩
            · obtain rfl : j = k := by omega
              have e0 := (hb3.cell (p := ⟨wo.heap.size, 0, none⟩) (Nat.lt_succ_self _)).trans d0
              have e1 := (hb3.cell (p := ⟨wo.heap.size, 1, none⟩) (Nat.lt_succ_self _)).trans d1
              have HB3 := Lib.hid hb3
              have hcomp : compOk c.comps j = (nameB x.name && withinB x.size 0 64) := by
                unfold compOk
                rw [List.getElem?_eq_getElem hk', HXX.out]
                simp only [hdif.out, Bool.true_and]
              have HW : Below (w.heap.size + 1) W1 wr := (HB1.out.trans (HB2.out.mono (by omega))).trans (hb3.mono (by omega))
              have HBW := Lib.hid HW
              clear hb3 HW
              by_cases hn : nameB x.name = true
              · by_cases hw : withinB x.size 0 64 = true
                · have HA := Lib.hid (range_all_succ hall (by rw [hcomp, hn, hw]; rfl))
                  have HN := Lib.hid hn
                  have HWI := Lib.hid hw
                  clear hcomp hn hw
                  go_wp2_with (first
                    | (go_at_call 176; refine (name_calls _ _ g0).mono ?_; rintro e w' ⟨rfl, rfl⟩; rw [HN.out])
                    | (go_at_call 175; refine (within_calls _ _ _ _).mono ?_; rintro e w' ⟨rfl, rfl⟩; rw [HWI.out]))
                  exact ⟨⟨j + 1, by go_num, by omega, HA, HBW.out⟩, by simp [intOf]; omega⟩
                · have HF := Lib.hid (show confRight c = false by rw [HR.out]; exact range_not_all hk' (by rw [hcomp, hn]; simpa using hw))
                  have HN := Lib.hid hn
                  have HWI := Lib.hid (show withinB x.size 0 64 = false by simpa using hw)
                  clear hcomp hn hw
                  go_wp2_with (first
                    | (go_at_call 176; refine (name_calls _ _ g0).mono ?_; rintro e w' ⟨rfl, rfl⟩; rw [HN.out])
                    | (go_at_call 175; refine (within_calls _ _ _ _).mono ?_; rintro e w' ⟨rfl, rfl⟩; rw [HWI.out]))
                  try rw [Exit.noGoto_ret]
                  go_ret
                  exact ⟨by rw [HF.out]; rfl, hbel.trans (HBW.out.mono (by omega))⟩
              · have HF := Lib.hid (show confRight c = false by rw [HR.out]; exact range_not_all hk' (by rw [hcomp]; simp [hn]))
                have HN := Lib.hid (show nameB x.name = false by simpa using hn)
                clear hcomp hn
                go_wp2_with (go_at_call 176; refine (name_calls _ _ g0).mono ?_; rintro e w' ⟨rfl, rfl⟩; rw [HN.out])
                try rw [Exit.noGoto_ret]
                go_ret
                exact ⟨by rw [HF.out]; rfl, hbel.trans (HBW.out.mono (by omega))⟩
        · obtain rfl : k = c.comps.length := by omega
          have HF := Lib.hid (show confRight c = true by rw [HR.out]; exact hall.out)
          have HB1 := Lib.hid hb1
          clear hb1
          go_wp2_with fail
          try rw [Exit.noGoto_ret]
          go_ret
          exact ⟨by rw [HF.out]; rfl, hbel.trans (HB1.out.mono (by omega))⟩
  all_goals
    have hr : confRight c = false := by simp [confRight, confRange, h0, h1, h2, h3]
    have HR := Lib.hid hr
    have H0 := Lib.hid h0
    have H1 := Lib.hid h1
    have H2 := Lib.hid h2
    have H3 := Lib.hid h3
    clear hr h0 h1 h2 h3 hx hA
    go_enter Try.func121, Try.ntmps121
    go_wp2_with fail
    go_step3
    go_wp2_with (go_at_call 175; refine (within_calls _ _ _ _).mono ?_; rintro e w' ⟨rfl, rfl⟩; first | rw [H0.out] | rw [H1.out] | rw [H2.out] | rw [H3.out])
    try rw [Exit.noGoto_ret]
    go_ret
    exact ⟨by rw [HR.out]; rfl, (Below.refl _ _).alloc (Nat.le_refl _) _⟩
end Go.Proofs.Ytecdbfbaclgejaa
