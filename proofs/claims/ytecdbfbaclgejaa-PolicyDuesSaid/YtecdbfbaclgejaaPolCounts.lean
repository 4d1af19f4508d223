/- The statement on counts of pages, walked. -/
import Derived.Test.YtecdbfbaclgejaaAmple
namespace Go.Proofs.Ytecdbfbaclgejaa
open Go.RowKit

def conf0 : DConf := ⟨2, 4, 1, 1, []⟩
theorem most0 : mostOf conf0 = 4 := by decide
def pol0 : DPolicy := ⟨3, 0⟩

set_option maxHeartbeats 1000000 in
/-- live of the statements on policies -/
theorem live28 (w : World) : Calls Try.prog 53 #[] w fun e w' => e = .returned (.bool true) ∧ Below w.heap.size w w' := by
  have h0 := Lib.hid (show ∀ w : World, rConf.val (fun _ => True) w (.agg #[.int .i64 2, .int .i64 4, .int .i64 1, .int .i64 1, .slice none 0 0]) conf0 from
    fun w => rConf_agg (x := conf0) rfl rfl rfl rfl ⟨Nat.le_refl _, by simp [maxLen], ⟨[], rfl, fun h => absurd h (by simp [conf0])⟩⟩)
  have h1 := Lib.hid (show ∀ w : World, rPolicy.val (fun _ => True) w (.agg #[.int .i64 3, .int .i64 0]) pol0 from fun w => rPolicy_agg (x := pol0) rfl rfl)
  have h2 := Lib.hid most0
  have h3 := Lib.hid (show dueOf pol0 2 0 = true by decide)
  go_enter Try.func53, Try.ntmps53
  go_wp2_with (first
    | (go_at_call 54; refine (most_calls (h0.out _)).mono ?_; rintro e w1 ⟨rfl, hb1⟩; rw [h2.out])
    | (go_at_call 65; refine (due_calls (h1.out _)).mono ?_; rintro e w2 ⟨rfl, hb2⟩; rw [h3.out]))
  go_ret
  exact ⟨rfl, hb1.trans (hb2.mono hb1.size)⟩

set_option maxRecDepth 100000 in
set_option maxHeartbeats 8000000 in
/-- PolicyCounts -/
theorem policyCounts_calls {Q : Nat → Prop} {w : World} {v : Value} {c : DConf} (hx : rConf.val Q w v c) :
    Calls Try.prog 8 #[v] w fun e w' => e = .returned (.bool true) ∧ Below w.heap.size w w' := by
  obtain ⟨A, cap, rfl, _⟩ := rConf_val hx
  have hm := InBox.made hx 88
  have hbel : Below w.heap.size w (w.alloc (.cells #[.int .i64 c.log, .int .i64 c.pages, .int .i64 c.entities, .int .i64 c.gens, .slice A c.comps.length cap] 88)) := (Below.refl _ _).alloc (Nat.le_refl _) _
  have hsz : (w.alloc (.cells #[.int .i64 c.log, .int .i64 c.pages, .int .i64 c.entities, .int .i64 c.gens, .slice A c.comps.length cap] 88)).heap.size = w.heap.size + 1 := by simp
  generalize hW1 : w.alloc (.cells #[.int .i64 c.log, .int .i64 c.pages, .int .i64 c.entities, .int .i64 c.gens, .slice A c.comps.length cap] 88) = W1 at *
  have HM := Lib.hid hm
  have HB := Lib.hid hbel
  have HS := Lib.hid hsz
  obtain ⟨a0, a1, a2, a3, a4, _⟩ := hm
  clear hx hbel hsz
  cases hr : muchConf c with
  | true =>
    have HR := Lib.hid hr
    clear hr
    go_enter Try.func8, Try.ntmps8
    go_wp2_with (first
      | (go_at_call 52; refine (much_calls HM.out.val).mono ?_; rintro e w2 ⟨rfl, hb2⟩; rw [HR.out])
      | (go_at_call 53; refine (live28 _).mono ?_; rintro e w3 ⟨rfl, hb3⟩))
    go_ret
    have hB := HB.out.trans (hb2.mono HB.out.size)
    exact ⟨rfl, hB.trans (hb3.mono hB.size)⟩
  | false =>
    have HR := Lib.hid hr
    clear hr
    obtain ⟨m, hm⟩ : ∃ m, m = mostOf c := ⟨_, rfl⟩
    obtain ⟨b, hb⟩ : ∃ b, b = ampleOf c := ⟨_, rfl⟩
    have HMM := Lib.hid hm
    have HBB := Lib.hid hb
    clear hm hb
    go_enter Try.func8, Try.ntmps8
    go_wp2_with (go_at_call 52; refine (much_calls HM.out.val).mono ?_; rintro e w2 ⟨rfl, hb2⟩; rw [HR.out])
    have s2 : InBox w2.drew w.heap.size c A cap := (HM.out.later (hb2.mono (Nat.le_of_eq HS.out.symm))).later (Below.refl _ _).drew
    have hB2 : Below w.heap.size w w2.drew := (HB.out.trans (hb2.mono HB.out.size)).drew
    have hl2 : w.heap.size + 1 ≤ w2.drew.heap.size := by have := HS.out; have h2 : W1.heap.size ≤ w2.heap.size := hb2.size; show w.heap.size + 1 ≤ w2.heap.size; omega
    refine wp_region_held (S := fun w' => InBox w' w.heap.size c A cap) (by kernel_rfl) ?_
    refine wpAnyH_take (i := 0) (v := .agg #[.int .i64 c.log, .int .i64 c.pages, .int .i64 c.entities, .int .i64 c.gens, .slice A c.comps.length cap]) rfl (by kernel_rfl) (by kernel_rfl) (by kernel_rfl) (fun _ _ _ h => h) (Or.inl ⟨by rfl, fun w' h => by obtain ⟨x0, x1, x2, x3, x4, _⟩ := (h : InBox w' w.heap.size c A cap); go_simp⟩) s2 ?_
    go_simp
    refine wpAnyH_take (i := 2) (v := .agg #[.int .i64 c.log, .int .i64 c.pages, .int .i64 c.entities, .int .i64 c.gens, .slice A c.comps.length cap]) rfl (by kernel_rfl) (by kernel_rfl) (by kernel_rfl) (fun _ _ _ h => h) (Or.inl ⟨by rfl, fun w' h => by obtain ⟨x0, x1, x2, x3, x4, _⟩ := (h : InBox w' w.heap.size c A cap); go_simp⟩) s2 ?_
    go_simp
    refine wpAnyH_all (rs := [1]) (by kernel_rfl) (by simp) ?_
    intro i hi
    obtain rfl : i = 1 := by simpa using hi
    refine wpOp_step rfl (fun K hK => ?_)
    go_simp
    refine (most_calls s2.val).mono ?_
    rintro e w3 ⟨rfl, hb3⟩
    rw [← HMM.out]
    have s3 := s2.later (hb3.mono hl2)
    have hB3 := hB2.trans (hb3.mono hB2.size)
    have hl3 := Nat.le_trans hl2 hb3.size
    refine hK _ _ ⟨s3, ?_⟩
    clear hK K
    refine wpAnyH_all (rs := [3]) (by kernel_rfl) (by simp) ?_
    intro i hi
    obtain rfl : i = 3 := by simpa using hi
    refine wpOp_step rfl (fun K hK => ?_)
    go_simp
    refine (rmost_calls s3.val).mono ?_
    rintro e w4 ⟨rfl, hb4⟩
    rw [← HMM.out]
    have s4 := s3.later (hb4.mono hl3)
    have hB4 := hB3.trans (hb4.mono hB3.size)
    have hl4 := Nat.le_trans hl3 hb4.size
    refine hK _ _ ⟨s4, ?_⟩
    clear hK K
    refine wpAnyH_take (i := 4) (v := .bool true) rfl (by kernel_rfl) (by kernel_rfl) (by kernel_rfl) (fun _ _ _ h => h) (Or.inl ⟨by rfl, fun w' _ => by go_simp⟩) s4 ?_
    go_simp
    refine wpAnyH_take (i := 5) (v := .bool true) rfl (by kernel_rfl) (by kernel_rfl) (by kernel_rfl) (fun _ _ _ h => h) (Or.inl ⟨by rfl, fun w' _ => by go_simp⟩) s4 ?_
    go_simp
    refine wpAnyH_take (i := 6) (v := .agg #[.int .i64 c.log, .int .i64 c.pages, .int .i64 c.entities, .int .i64 c.gens, .slice A c.comps.length cap]) rfl (by kernel_rfl) (by kernel_rfl) (by kernel_rfl) (fun _ _ _ h => h) (Or.inl ⟨by rfl, fun w' h => by obtain ⟨x0, x1, x2, x3, x4, _⟩ := (h : InBox w' w.heap.size c A cap); go_simp⟩) s4 ?_
    go_simp
    refine wpAnyH_take (i := 8) (v := .agg #[.int .i64 c.log, .int .i64 c.pages, .int .i64 c.entities, .int .i64 c.gens, .slice A c.comps.length cap]) rfl (by kernel_rfl) (by kernel_rfl) (by kernel_rfl) (fun _ _ _ h => h) (Or.inl ⟨by rfl, fun w' h => by obtain ⟨x0, x1, x2, x3, x4, _⟩ := (h : InBox w' w.heap.size c A cap); go_simp⟩) s4 ?_
    go_simp
    refine wpAnyH_all (rs := [7]) (by kernel_rfl) (by simp) ?_
    intro i hi
    obtain rfl : i = 7 := by simpa using hi
    refine wpOp_step rfl (fun K hK => ?_)
    go_simp
    refine (ample_calls s4.val).mono ?_
    rintro e w5 ⟨rfl, hb5⟩
    rw [← HBB.out]
    have s5 := s4.later (hb5.mono hl4)
    have hB5 := hB4.trans (hb5.mono hB4.size)
    have hl5 := Nat.le_trans hl4 hb5.size
    refine hK _ _ ⟨s5, ?_⟩
    clear hK K
    refine wpAnyH_all (rs := [9]) (by kernel_rfl) (by simp) ?_
    intro i hi
    obtain rfl : i = 9 := by simpa using hi
    refine wpOp_step rfl (fun K hK => ?_)
    go_simp
    refine (rample_calls s5.val).mono ?_
    rintro e w6 ⟨rfl, hb6⟩
    rw [← HBB.out]
    have s6 := s5.later (hb6.mono hl5)
    have hB6 := hB5.trans (hb6.mono hB5.size)
    have hl6 := Nat.le_trans hl5 hb6.size
    refine hK _ _ ⟨s6, ?_⟩
    clear hK K
    refine wpAnyH_take (i := 10) (v := .bool true) rfl (by kernel_rfl) (by kernel_rfl) (by kernel_rfl) (fun _ _ _ h => h) (Or.inl ⟨by rfl, fun w' _ => by go_simp⟩) s6 ?_
    go_simp
    refine wpAnyH_take (i := 11) (v := .bool true) rfl (by kernel_rfl) (by kernel_rfl) (by kernel_rfl) (fun _ _ _ h => h) (Or.inl ⟨by rfl, fun w' _ => by go_simp⟩) s6 ?_
    go_simp
    refine wpAnyH_take (i := 12) (v := .bool true) rfl (by kernel_rfl) (by kernel_rfl) (by kernel_rfl) (fun _ _ _ h => h) (Or.inl ⟨by rfl, fun w' _ => by go_simp⟩) s6 ?_
    go_simp
    refine wpAnyH_all (rs := [13]) (by kernel_rfl) (by simp) ?_
    intro i hi
    obtain rfl : i = 13 := by simpa using hi
    refine wpOp_step rfl (fun K hK => ?_)
    go_simp
    refine (live28 _).mono ?_
    rintro e w7 ⟨rfl, hb7⟩
    have s7 := s6.later (hb7.mono hl6)
    have hB7 := hB6.trans (hb7.mono hB6.size)
    have hl7 := Nat.le_trans hl6 hb7.size
    refine hK _ _ ⟨s7, ?_⟩
    clear hK K
    refine wpAnyH_take (i := 14) (v := .bool true) rfl (by kernel_rfl) (by kernel_rfl) (by kernel_rfl) (fun _ _ _ h => h) (Or.inl ⟨by rfl, fun w' _ => by go_simp⟩) s7 ?_
    go_simp
    refine wpAnyH_take (i := 15) (v := .bool true) rfl (by kernel_rfl) (by kernel_rfl) (by kernel_rfl) (fun _ _ _ h => h) (Or.inl ⟨by rfl, fun w' _ => by go_simp⟩) s7 ?_
    go_simp
    refine wpAnyH_done (by kernel_rfl) ?_ _
    go_wp2_with fail
    go_ret
    exact ⟨rfl, hB7⟩
end Go.Proofs.Ytecdbfbaclgejaa
