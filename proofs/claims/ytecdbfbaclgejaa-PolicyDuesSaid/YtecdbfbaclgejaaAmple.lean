/- Walk of policy.Ample: a region that draws its order, guarded, with calls. -/
import Derived.Test.YtecdbfbaclgejaaIdx
namespace Go.Proofs.Ytecdbfbaclgejaa
open Go.RowKit

set_option maxRecDepth 100000 in
set_option maxHeartbeats 8000000 in
/-- policy.Ample -/
theorem ample_calls {Q : Nat → Prop} {w : World} {v : Value} {c : DConf} (hx : rConf.val Q w v c) :
    Calls Try.prog 56 #[v] w fun e w' => e = .returned (.bool (ampleOf c)) ∧ Below w.heap.size w w' := by
  obtain ⟨A, cap, rfl, _⟩ := rConf_val hx
  have hm := InBox.made hx 88
  have hbel : Below w.heap.size w (w.alloc (.cells #[.int .i64 c.log, .int .i64 c.pages, .int .i64 c.entities, .int .i64 c.gens, .slice A c.comps.length cap] 88)) := (Below.refl _ _).alloc (Nat.le_refl _) _
  have hsz : (w.alloc (.cells #[.int .i64 c.log, .int .i64 c.pages, .int .i64 c.entities, .int .i64 c.gens, .slice A c.comps.length cap] 88)).heap.size = w.heap.size + 1 := by simp
  generalize hW1 : w.alloc (.cells #[.int .i64 c.log, .int .i64 c.pages, .int .i64 c.entities, .int .i64 c.gens, .slice A c.comps.length cap] 88) = W1 at *
  have HM := Lib.hid hm
  have HB := Lib.hid hbel
  have HS := Lib.hid hsz
  obtain ⟨a0, a1, a2, a3, a4, _⟩ := hm
  clear hx hbel hsz
  have s1 : InBox W1.drew w.heap.size c A cap := HM.out.later ((Below.refl _ _).drew)
  have hB1 : Below w.heap.size w W1.drew := HB.out.drew
  cases hr : confRight c with
  | false =>
    have HR := Lib.hid hr
    have HF := Lib.hid (show ampleOf c = false by unfold ampleOf; rw [hr]; rfl)
    have HK := Lib.hid (show checkOf false = 1 from rfl)
    clear hr
    go_enter Try.func56, Try.ntmps56
    go_wp2_with fail
    refine wp_region_held (S := fun w' => InBox w' w.heap.size c A cap) (by kernel_rfl) ?_
    refine wpAnyH_take (i := 0) (v := .agg #[.int .i64 c.log, .int .i64 c.pages, .int .i64 c.entities, .int .i64 c.gens, .slice A c.comps.length cap]) rfl (by kernel_rfl) (by kernel_rfl) (by kernel_rfl) (fun _ _ _ h => h) (Or.inl ⟨by rfl, fun w' h => by obtain ⟨x0, x1, x2, x3, x4, _⟩ := (h : InBox w' w.heap.size c A cap); go_simp⟩) s1 ?_
    go_simp
    refine wpAnyH_all (rs := [1]) (by kernel_rfl) (by simp) ?_
    intro i hi
    obtain rfl : i = 1 := by simpa using hi
    refine wpOp_step rfl (fun K hK => ?_)
    go_simp
    refine (check_calls s1.val).mono ?_
    rintro e w2 ⟨rfl, hb2⟩
    rw [HR.out, HK.out]
    have s2 := s1.later (hb2.mono (show w.heap.size + 1 ≤ W1.heap.size by have := HS.out; omega))
    refine hK _ _ ⟨s2, ?_⟩
    clear hK K
    refine wpAnyH_take (i := 2) (v := .bool false) rfl (by kernel_rfl) (by kernel_rfl) (by kernel_rfl) (fun _ _ _ h => h) (Or.inl ⟨by rfl, fun w' _ => by go_simp⟩) s2 ?_
    go_simp
    refine wpAnyH_take (i := 3) (v := .bool false) rfl (by kernel_rfl) (by kernel_rfl) (by kernel_rfl) (fun _ _ _ h => h) (Or.inl ⟨by rfl, fun w' _ => by go_simp⟩) s2 ?_
    go_simp
    refine wpAnyH_take (i := 4) (v := undef) rfl (by kernel_rfl) (by kernel_rfl) (by kernel_rfl) (fun _ _ _ h => h) (Or.inr ⟨by rfl, rfl⟩) s2 ?_
    go_simp
    refine wpAnyH_take (i := 5) (v := undef) rfl (by kernel_rfl) (by kernel_rfl) (by kernel_rfl) (fun _ _ _ h => h) (Or.inr ⟨by rfl, rfl⟩) s2 ?_
    go_simp
    refine wpAnyH_take (i := 6) (v := undef) rfl (by kernel_rfl) (by kernel_rfl) (by kernel_rfl) (fun _ _ _ h => h) (Or.inr ⟨by rfl, rfl⟩) s2 ?_
    go_simp
    refine wpAnyH_take (i := 7) (v := undef) rfl (by kernel_rfl) (by kernel_rfl) (by kernel_rfl) (fun _ _ _ h => h) (Or.inr ⟨by rfl, rfl⟩) s2 ?_
    go_simp
    refine wpAnyH_take (i := 8) (v := undef) rfl (by kernel_rfl) (by kernel_rfl) (by kernel_rfl) (fun _ _ _ h => h) (Or.inr ⟨by rfl, rfl⟩) s2 ?_
    go_simp
    refine wpAnyH_take (i := 9) (v := undef) rfl (by kernel_rfl) (by kernel_rfl) (by kernel_rfl) (fun _ _ _ h => h) (Or.inr ⟨by rfl, rfl⟩) s2 ?_
    go_simp
    refine wpAnyH_take (i := 10) (v := .bool false) rfl (by kernel_rfl) (by kernel_rfl) (by kernel_rfl) (fun _ _ _ h => h) (Or.inl ⟨by rfl, fun w' _ => by go_simp⟩) s2 ?_
    go_simp
    refine wpAnyH_take (i := 11) (v := .bool false) rfl (by kernel_rfl) (by kernel_rfl) (by kernel_rfl) (fun _ _ _ h => h) (Or.inl ⟨by rfl, fun w' _ => by go_simp⟩) s2 ?_
    go_simp
    refine wpAnyH_take (i := 12) (v := undef) rfl (by kernel_rfl) (by kernel_rfl) (by kernel_rfl) (fun _ _ _ h => h) (Or.inr ⟨by rfl, rfl⟩) s2 ?_
    go_simp
    refine wpAnyH_take (i := 13) (v := undef) rfl (by kernel_rfl) (by kernel_rfl) (by kernel_rfl) (fun _ _ _ h => h) (Or.inr ⟨by rfl, rfl⟩) s2 ?_
    go_simp
    refine wpAnyH_take (i := 14) (v := undef) rfl (by kernel_rfl) (by kernel_rfl) (by kernel_rfl) (fun _ _ _ h => h) (Or.inr ⟨by rfl, rfl⟩) s2 ?_
    go_simp
    refine wpAnyH_take (i := 15) (v := undef) rfl (by kernel_rfl) (by kernel_rfl) (by kernel_rfl) (fun _ _ _ h => h) (Or.inr ⟨by rfl, rfl⟩) s2 ?_
    go_simp
    refine wpAnyH_take (i := 16) (v := .bool false) rfl (by kernel_rfl) (by kernel_rfl) (by kernel_rfl) (fun _ _ _ h => h) (Or.inl ⟨by rfl, fun w' _ => by go_simp⟩) s2 ?_
    go_simp
    refine wpAnyH_take (i := 17) (v := .bool false) rfl (by kernel_rfl) (by kernel_rfl) (by kernel_rfl) (fun _ _ _ h => h) (Or.inl ⟨by rfl, fun w' _ => by go_simp⟩) s2 ?_
    go_simp
    refine wpAnyH_done (by kernel_rfl) ?_ _
    go_wp2_with fail
    go_ret
    exact ⟨by rw [HF.out]; rfl, hB1.trans (hb2.mono hB1.size)⟩
  | true =>
    have HR := Lib.hid hr
    have HK := Lib.hid (show checkOf true = 0 from rfl)
    have CB := Lib.hid (count_bounds hr)
    have hcb := CB.out
    have HM0 := Lib.hid (show mostOf c = pagesOf c + dirOf c by unfold mostOf; rw [hr]; rfl)
    have q1 : IntKind.i64.wrap (3 * (pagesOf c + dirOf c)) = 3 * (pagesOf c + dirOf c) := IntWalk.i64_in _ ⟨by omega, by omega⟩
    have HA0 := Lib.hid (show ampleOf c = (decide (3 * (pagesOf c + dirOf c) ≤ c.pages) && decide (dirOf c ≤ 222)) by unfold ampleOf; rw [hr, Bool.true_and])
    clear hr
    go_enter Try.func56, Try.ntmps56
    go_wp2_with fail
    refine wp_region_held (S := fun w' => InBox w' w.heap.size c A cap) (by kernel_rfl) ?_
    refine wpAnyH_take (i := 0) (v := .agg #[.int .i64 c.log, .int .i64 c.pages, .int .i64 c.entities, .int .i64 c.gens, .slice A c.comps.length cap]) rfl (by kernel_rfl) (by kernel_rfl) (by kernel_rfl) (fun _ _ _ h => h) (Or.inl ⟨by rfl, fun w' h => by obtain ⟨x0, x1, x2, x3, x4, _⟩ := (h : InBox w' w.heap.size c A cap); go_simp⟩) s1 ?_
    go_simp
    refine wpAnyH_all (rs := [1]) (by kernel_rfl) (by simp) ?_
    intro i hi
    obtain rfl : i = 1 := by simpa using hi
    refine wpOp_step rfl (fun K hK => ?_)
    go_simp
    refine (check_calls s1.val).mono ?_
    rintro e w2 ⟨rfl, hb2⟩
    rw [HR.out, HK.out]
    have s2 := s1.later (hb2.mono (show w.heap.size + 1 ≤ W1.heap.size by have := HS.out; omega))
    have hB2 := hB1.trans (hb2.mono hB1.size)
    refine hK _ _ ⟨s2, ?_⟩
    clear hK K
    refine wpAnyH_take (i := 2) (v := .bool true) rfl (by kernel_rfl) (by kernel_rfl) (by kernel_rfl) (fun _ _ _ h => h) (Or.inl ⟨by rfl, fun w' _ => by go_simp⟩) s2 ?_
    go_simp
    refine wpAnyH_take (i := 3) (v := .bool true) rfl (by kernel_rfl) (by kernel_rfl) (by kernel_rfl) (fun _ _ _ h => h) (Or.inl ⟨by rfl, fun w' _ => by go_simp⟩) s2 ?_
    go_simp
    refine wpAnyH_take (i := 4) (v := .agg #[.int .i64 c.log, .int .i64 c.pages, .int .i64 c.entities, .int .i64 c.gens, .slice A c.comps.length cap]) rfl (by kernel_rfl) (by kernel_rfl) (by kernel_rfl) (fun _ _ _ h => h) (Or.inl ⟨by rfl, fun w' h => by obtain ⟨x0, x1, x2, x3, x4, _⟩ := (h : InBox w' w.heap.size c A cap); go_simp⟩) s2 ?_
    go_simp
    refine wpAnyH_take (i := 7) (v := .pointer (some ⟨w.heap.size, 1, none⟩)) rfl (by kernel_rfl) (by kernel_rfl) (by kernel_rfl) (fun _ _ _ h => h) (Or.inl ⟨by rfl, fun w' _ => by go_simp⟩) s2 ?_
    go_simp
    refine wpAnyH_take (i := 8) (v := .int .i64 c.pages) rfl (by kernel_rfl) (by kernel_rfl) (by kernel_rfl) (fun _ _ _ h => h) (Or.inl ⟨by rfl, fun w' h => by obtain ⟨x0, x1, x2, x3, x4, _⟩ := (h : InBox w' w.heap.size c A cap); go_simp⟩) s2 ?_
    go_simp
    refine wpAnyH_all (rs := [5]) (by kernel_rfl) (by simp) ?_
    intro i hi
    obtain rfl : i = 5 := by simpa using hi
    refine wpOp_step rfl (fun K hK => ?_)
    go_simp
    refine (most_calls s2.val).mono ?_
    rintro e w3 ⟨rfl, hb3⟩
    rw [HM0.out]
    have s3 := s2.later (hb3.mono (show w.heap.size + 1 ≤ w2.heap.size by have := HS.out; have h2 : W1.heap.size ≤ w2.heap.size := hb2.size; omega))
    have hB3 := hB2.trans (hb3.mono hB2.size)
    refine hK _ _ ⟨s3, ?_⟩
    clear hK K
    refine wpAnyH_take (i := 6) (v := .int .i64 (3 * (pagesOf c + dirOf c))) rfl (by kernel_rfl) (by kernel_rfl) (by kernel_rfl) (fun _ _ _ h => h) (Or.inl ⟨by rfl, fun w' _ => by go_simp⟩) s3 ?_
    go_simp
    rcases dec_split (3 * (pagesOf c + dirOf c) ≤ c.pages) with t1 | ⟨t1, d1⟩
    · have d1 : decide (3 * (pagesOf c + dirOf c) ≤ c.pages) = true := decide_eq_true t1
      refine wpAnyH_take (i := 9) (v := .bool true) rfl (by kernel_rfl) (by kernel_rfl) (by kernel_rfl) (fun _ _ _ h => h) (Or.inl ⟨by rfl, fun w' _ => by go_simp⟩) s3 ?_
      go_simp
      refine wpAnyH_take (i := 10) (v := .bool true) rfl (by kernel_rfl) (by kernel_rfl) (by kernel_rfl) (fun _ _ _ h => h) (Or.inl ⟨by rfl, fun w' _ => by go_simp⟩) s3 ?_
      go_simp
      refine wpAnyH_take (i := 11) (v := .bool true) rfl (by kernel_rfl) (by kernel_rfl) (by kernel_rfl) (fun _ _ _ h => h) (Or.inl ⟨by rfl, fun w' _ => by go_simp⟩) s3 ?_
      go_simp
      refine wpAnyH_take (i := 12) (v := .agg #[.int .i64 c.log, .int .i64 c.pages, .int .i64 c.entities, .int .i64 c.gens, .slice A c.comps.length cap]) rfl (by kernel_rfl) (by kernel_rfl) (by kernel_rfl) (fun _ _ _ h => h) (Or.inl ⟨by rfl, fun w' h => by obtain ⟨x0, x1, x2, x3, x4, _⟩ := (h : InBox w' w.heap.size c A cap); go_simp⟩) s3 ?_
      go_simp
      refine wpAnyH_all (rs := [13]) (by kernel_rfl) (by simp) ?_
      intro i hi
      obtain rfl : i = 13 := by simpa using hi
      refine wpOp_step rfl (fun K hK => ?_)
      go_simp
      refine (pcount_calls s3.val HR.out).mono ?_
      rintro e w4 ⟨rfl, hb4⟩
      have s4 := s3.later (hb4.mono (show w.heap.size + 1 ≤ w3.heap.size by have := HS.out; have h2 : W1.heap.size ≤ w2.heap.size := hb2.size; have := hb3.size; omega))
      have hB4 := hB3.trans (hb4.mono hB3.size)
      refine hK _ _ ⟨s4, ?_⟩
      clear hK K
      refine wpAnyH_take (i := 14) (v := .int .i64 (dirOf c)) rfl (by kernel_rfl) (by kernel_rfl) (by kernel_rfl) (fun _ _ _ h => h) (Or.inl ⟨by rfl, fun w' _ => by go_simp; rw [idx_dir]; rfl⟩) s4 ?_
      go_simp
      refine wpAnyH_take (i := 15) (v := .bool (decide (dirOf c ≤ 222))) rfl (by kernel_rfl) (by kernel_rfl) (by kernel_rfl) (fun _ _ _ h => h) (Or.inl ⟨by rfl, fun w' _ => by go_simp⟩) s4 ?_
      go_simp
      refine wpAnyH_take (i := 16) (v := .bool (decide (dirOf c ≤ 222))) rfl (by kernel_rfl) (by kernel_rfl) (by kernel_rfl) (fun _ _ _ h => h) (Or.inl ⟨by rfl, fun w' _ => by go_simp⟩) s4 ?_
      go_simp
      refine wpAnyH_take (i := 17) (v := .bool (decide (dirOf c ≤ 222))) rfl (by kernel_rfl) (by kernel_rfl) (by kernel_rfl) (fun _ _ _ h => h) (Or.inl ⟨by rfl, fun w' _ => by go_simp⟩) s4 ?_
      go_simp
      refine wpAnyH_done (by kernel_rfl) ?_ _
      go_wp2_with fail
      go_ret
      exact ⟨by rw [HA0.out, d1]; rfl, hB4⟩
    · skip
      refine wpAnyH_take (i := 9) (v := .bool false) rfl (by kernel_rfl) (by kernel_rfl) (by kernel_rfl) (fun _ _ _ h => h) (Or.inl ⟨by rfl, fun w' _ => by go_simp⟩) s3 ?_
      go_simp
      refine wpAnyH_take (i := 10) (v := .bool false) rfl (by kernel_rfl) (by kernel_rfl) (by kernel_rfl) (fun _ _ _ h => h) (Or.inl ⟨by rfl, fun w' _ => by go_simp⟩) s3 ?_
      go_simp
      refine wpAnyH_take (i := 11) (v := .bool false) rfl (by kernel_rfl) (by kernel_rfl) (by kernel_rfl) (fun _ _ _ h => h) (Or.inl ⟨by rfl, fun w' _ => by go_simp⟩) s3 ?_
      go_simp
      refine wpAnyH_take (i := 12) (v := undef) rfl (by kernel_rfl) (by kernel_rfl) (by kernel_rfl) (fun _ _ _ h => h) (Or.inr ⟨by rfl, rfl⟩) s3 ?_
      go_simp
      refine wpAnyH_take (i := 13) (v := undef) rfl (by kernel_rfl) (by kernel_rfl) (by kernel_rfl) (fun _ _ _ h => h) (Or.inr ⟨by rfl, rfl⟩) s3 ?_
      go_simp
      refine wpAnyH_take (i := 14) (v := undef) rfl (by kernel_rfl) (by kernel_rfl) (by kernel_rfl) (fun _ _ _ h => h) (Or.inr ⟨by rfl, rfl⟩) s3 ?_
      go_simp
      refine wpAnyH_take (i := 15) (v := undef) rfl (by kernel_rfl) (by kernel_rfl) (by kernel_rfl) (fun _ _ _ h => h) (Or.inr ⟨by rfl, rfl⟩) s3 ?_
      go_simp
      refine wpAnyH_take (i := 16) (v := .bool false) rfl (by kernel_rfl) (by kernel_rfl) (by kernel_rfl) (fun _ _ _ h => h) (Or.inl ⟨by rfl, fun w' _ => by go_simp⟩) s3 ?_
      go_simp
      refine wpAnyH_take (i := 17) (v := .bool false) rfl (by kernel_rfl) (by kernel_rfl) (by kernel_rfl) (fun _ _ _ h => h) (Or.inl ⟨by rfl, fun w' _ => by go_simp⟩) s3 ?_
      go_simp
      refine wpAnyH_done (by kernel_rfl) ?_ _
      go_wp2_with fail
      go_ret
      exact ⟨by rw [HA0.out, d1]; rfl, hB3⟩
end Go.Proofs.Ytecdbfbaclgejaa
