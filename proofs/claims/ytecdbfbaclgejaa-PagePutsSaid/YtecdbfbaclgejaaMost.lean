/- Walks of Most, Ample and Due, both. -/
import Derived.Test.YtecdbfbaclgejaaRCounts
namespace Go.Proofs.Ytecdbfbaclgejaa
open Go.RowKit

/-- A layout in a box, and what reads it. -/
structure InBox (W : World) (B : Nat) (c : DConf) (A : Option Addr) (cap : Nat) : Prop where
  c0 : W.cell? ⟨B, 0, none⟩ = some (.int .i64 c.log)
  c1 : W.cell? ⟨B, 1, none⟩ = some (.int .i64 c.pages)
  c2 : W.cell? ⟨B, 2, none⟩ = some (.int .i64 c.entities)
  c3 : W.cell? ⟨B, 3, none⟩ = some (.int .i64 c.gens)
  c4 : W.cell? ⟨B, 4, none⟩ = some (.slice A c.comps.length cap)
  val : rConf.val (fun b => b < B) W (.agg #[.int .i64 c.log, .int .i64 c.pages, .int .i64 c.entities, .int .i64 c.gens, .slice A c.comps.length cap]) c
theorem InBox.later {W W' : World} {B : Nat} {c : DConf} {A : Option Addr} {cap : Nat} (h : InBox W B c A cap) (hb : Below (B + 1) W W') : InBox W' B c A cap :=
  ⟨(hb.cell (p := ⟨B, 0, none⟩) (Nat.lt_succ_self _)).trans h.c0, (hb.cell (p := ⟨B, 1, none⟩) (Nat.lt_succ_self _)).trans h.c1, (hb.cell (p := ⟨B, 2, none⟩) (Nat.lt_succ_self _)).trans h.c2,
   (hb.cell (p := ⟨B, 3, none⟩) (Nat.lt_succ_self _)).trans h.c3, (hb.cell (p := ⟨B, 4, none⟩) (Nat.lt_succ_self _)).trans h.c4, Rep.val_keep (fun b hq _ => ⟨hq, hb.block b (by omega)⟩) h.val⟩
theorem InBox.made {Q : Nat → Prop} {w : World} {c : DConf} {A : Option Addr} {cap : Nat} (h : rConf.val Q w (.agg #[.int .i64 c.log, .int .i64 c.pages, .int .i64 c.entities, .int .i64 c.gens, .slice A c.comps.length cap]) c) (t : TypeId) :
    InBox (w.alloc (.cells #[.int .i64 c.log, .int .i64 c.pages, .int .i64 c.entities, .int .i64 c.gens, .slice A c.comps.length cap] t)) w.heap.size c A cap :=
  ⟨by simp, by simp, by simp, by simp, by simp, Rep.val_keep (w := w) (fun _ _ hl => ⟨hl.lt, Below.heap_alloc _ _ _ hl.lt⟩) h⟩

set_option maxRecDepth 100000 in
set_option maxHeartbeats 4000000 in
/-- policy.Most -/
theorem most_calls {Q : Nat → Prop} {w : World} {v : Value} {c : DConf} (hx : rConf.val Q w v c) :
    Calls Try.prog 54 #[v] w fun e w' => e = .returned (.int .i64 (mostOf c)) ∧ Below w.heap.size w w' := by
  obtain ⟨A, cap, rfl, _⟩ := rConf_val hx
  have hm := InBox.made hx 88
  have hbel : Below w.heap.size w (w.alloc (.cells #[.int .i64 c.log, .int .i64 c.pages, .int .i64 c.entities, .int .i64 c.gens, .slice A c.comps.length cap] 88)) := (Below.refl _ _).alloc (Nat.le_refl _) _
  have hsz : (w.alloc (.cells #[.int .i64 c.log, .int .i64 c.pages, .int .i64 c.entities, .int .i64 c.gens, .slice A c.comps.length cap] 88)).heap.size = w.heap.size + 1 := by simp
  generalize hW1 : w.alloc (.cells #[.int .i64 c.log, .int .i64 c.pages, .int .i64 c.entities, .int .i64 c.gens, .slice A c.comps.length cap] 88) = W1 at *
  have HM := Lib.hid hm
  have HB := Lib.hid hbel
  have HS := Lib.hid hsz
  obtain ⟨a0, a1, a2, a3, a4, _⟩ := hm
  clear hx hbel hsz
  cases hr : confRight c with
  | false =>
    have HR := Lib.hid hr
    have HF := Lib.hid (show mostOf c = 0 by unfold mostOf; rw [hr]; rfl)
    clear hr
    go_enter Try.func54, Try.ntmps54
    go_wp2_with (go_at_call 121; refine (check_calls HM.out.val).mono ?_; rintro e w2 ⟨rfl, hb2⟩; rw [HR.out])
    go_ret
    exact ⟨by rw [HF.out]; rfl, HB.out.trans (hb2.mono HB.out.size)⟩
  | true =>
    have HR := Lib.hid hr
    have CB := Lib.hid (count_bounds hr)
    have hcb := CB.out
    have HF := Lib.hid (show mostOf c = pagesOf c + dirOf c by unfold mostOf; rw [hr]; rfl)
    have HK := Lib.hid (show checkOf true = 0 from rfl)
    clear hr
    go_enter Try.func54, Try.ntmps54
    go_wp2_with (first
      | (go_at_call 121; refine (check_calls HM.out.val).mono ?_; rintro e w2 ⟨rfl, hb2⟩; rw [HR.out, HK.out]; obtain ⟨b0, b1, b2, b3, b4, hv2⟩ := HM.out.later (hb2.mono (Nat.le_of_eq HS.out.symm)))
      | (go_at_call 122; refine (pcount_calls hv2 HR.out).mono ?_; rintro e w3 ⟨rfl, hb3⟩))
    go_ret
    have hB := HB.out.trans (hb2.mono HB.out.size)
    have hB3 := hB.trans (hb3.mono hB.size)
    exact ⟨by rw [HF.out]; rfl, hB3.alloc hB3.size _⟩

set_option maxRecDepth 100000 in
set_option maxHeartbeats 4000000 in
/-- ref28.Most -/
theorem rmost_calls {Q : Nat → Prop} {w : World} {v : Value} {c : DConf} (hx : rConf.val Q w v c) :
    Calls Try.prog 55 #[v] w fun e w' => e = .returned (.int .i64 (mostOf c)) ∧ Below w.heap.size w w' := by
  obtain ⟨A, cap, rfl, _⟩ := rConf_val hx
  have hm := InBox.made hx 88
  have hbel : Below w.heap.size w (w.alloc (.cells #[.int .i64 c.log, .int .i64 c.pages, .int .i64 c.entities, .int .i64 c.gens, .slice A c.comps.length cap] 88)) := (Below.refl _ _).alloc (Nat.le_refl _) _
  have hsz : (w.alloc (.cells #[.int .i64 c.log, .int .i64 c.pages, .int .i64 c.entities, .int .i64 c.gens, .slice A c.comps.length cap] 88)).heap.size = w.heap.size + 1 := by simp
  generalize hW1 : w.alloc (.cells #[.int .i64 c.log, .int .i64 c.pages, .int .i64 c.entities, .int .i64 c.gens, .slice A c.comps.length cap] 88) = W1 at *
  have HM := Lib.hid hm
  have HB := Lib.hid hbel
  have HS := Lib.hid hsz
  obtain ⟨a0, a1, a2, a3, a4, _⟩ := hm
  clear hx hbel hsz
  cases hr : confRight c with
  | false =>
    have HR := Lib.hid hr
    have HF := Lib.hid (show mostOf c = 0 by unfold mostOf; rw [hr]; rfl)
    clear hr
    go_enter Try.func55, Try.ntmps55
    go_wp2_with (go_at_call 73; refine (right_calls HM.out.val).mono ?_; rintro e w2 ⟨rfl, hb2⟩; rw [HR.out]; obtain ⟨b0, b1, b2, b3, b4, hv2⟩ := HM.out.later (hb2.mono (Nat.le_of_eq HS.out.symm)))
    go_ret
    exact ⟨by rw [HF.out]; rfl, HB.out.trans (hb2.mono HB.out.size)⟩
  | true =>
    have HR := Lib.hid hr
    have CB := Lib.hid (count_bounds hr)
    have hcb := CB.out
    have HF := Lib.hid (show mostOf c = pagesOf c + dirOf c by unfold mostOf; rw [hr]; rfl)
    clear hr
    go_enter Try.func55, Try.ntmps55
    go_wp2_with (first
      | (go_at_call 73; refine (right_calls HM.out.val).mono ?_; rintro e w2 ⟨rfl, hb2⟩; rw [HR.out]; obtain ⟨b0, b1, b2, b3, b4, hv2⟩ := HM.out.later (hb2.mono (Nat.le_of_eq HS.out.symm)))
      | (go_at_call 123; refine (rcounts_calls hv2 HR.out).mono ?_; rintro e w3 ⟨rfl, hb3⟩))
    go_ret
    have hB := HB.out.trans (hb2.mono HB.out.size)
    exact ⟨by rw [HF.out]; rfl, hB.trans (hb3.mono hB.size)⟩

set_option maxRecDepth 100000 in
set_option maxHeartbeats 4000000 in
/-- ref28.Ample -/
theorem rample_calls {Q : Nat → Prop} {w : World} {v : Value} {c : DConf} (hx : rConf.val Q w v c) :
    Calls Try.prog 57 #[v] w fun e w' => e = .returned (.bool (ampleOf c)) ∧ Below w.heap.size w w' := by
  obtain ⟨A, cap, rfl, _⟩ := rConf_val hx
  have hm := InBox.made hx 88
  have hbel : Below w.heap.size w (w.alloc (.cells #[.int .i64 c.log, .int .i64 c.pages, .int .i64 c.entities, .int .i64 c.gens, .slice A c.comps.length cap] 88)) := (Below.refl _ _).alloc (Nat.le_refl _) _
  have hsz : (w.alloc (.cells #[.int .i64 c.log, .int .i64 c.pages, .int .i64 c.entities, .int .i64 c.gens, .slice A c.comps.length cap] 88)).heap.size = w.heap.size + 1 := by simp
  generalize hW1 : w.alloc (.cells #[.int .i64 c.log, .int .i64 c.pages, .int .i64 c.entities, .int .i64 c.gens, .slice A c.comps.length cap] 88) = W1 at *
  have HM := Lib.hid hm
  have HB := Lib.hid hbel
  have HS := Lib.hid hsz
  obtain ⟨a0, a1, a2, a3, a4, _⟩ := hm
  clear hx hbel hsz
  cases hr : confRight c with
  | false =>
    have HR := Lib.hid hr
    have HF := Lib.hid (show ampleOf c = false by unfold ampleOf; rw [hr]; rfl)
    clear hr
    go_enter Try.func57, Try.ntmps57
    go_wp2_with (go_at_call 73; refine (right_calls HM.out.val).mono ?_; rintro e w2 ⟨rfl, hb2⟩; rw [HR.out]; obtain ⟨b0, b1, b2, b3, b4, hv2⟩ := HM.out.later (hb2.mono (Nat.le_of_eq HS.out.symm)))
    go_ret
    exact ⟨by rw [HF.out]; rfl, HB.out.trans (hb2.mono HB.out.size)⟩
  | true =>
    have HR := Lib.hid hr
    have CB := Lib.hid (count_bounds hr)
    have hcb := CB.out
    obtain ⟨r, hrr⟩ : ∃ r, r = ampleOf c := ⟨_, rfl⟩
    rw [← hrr]
    unfold ampleOf at hrr
    rw [hr, Bool.true_and] at hrr
    clear hr
    by_cases t1 : 3 * (pagesOf c + dirOf c) ≤ c.pages <;> by_cases t2 : dirOf c ≤ 222
    all_goals
      have HRR : r = _ := hrr
      simp only [t1, t2, decide_true, decide_false, Bool.and_self, Bool.and_false, Bool.and_true] at HRR
      clear hrr
      subst HRR
      go_enter Try.func57, Try.ntmps57
      go_wp2_with (first
        | (go_at_call 73; refine (right_calls HM.out.val).mono ?_; rintro e w2 ⟨rfl, hb2⟩; rw [HR.out]; obtain ⟨b0, b1, b2, b3, b4, hv2⟩ := HM.out.later (hb2.mono (Nat.le_of_eq HS.out.symm)))
        | (go_at_call 123; refine (rcounts_calls hv2 HR.out).mono ?_; rintro e w3 ⟨rfl, hb3⟩; have c1' := (hb3.cell (p := ⟨w.heap.size, 1, none⟩) (Nat.lt_of_lt_of_le (Nat.lt_of_lt_of_eq (Nat.lt_succ_self _) HS.out.symm) hb2.size)).trans b1))
      go_ret
      have hB := HB.out.trans (hb2.mono HB.out.size)
      exact ⟨by first | rfl | (rw [← (decide_eq_false (by omega) : decide (dirOf c ≤ 222) = false)]; rfl), hB.trans (hb3.mono hB.size)⟩
end Go.Proofs.Ytecdbfbaclgejaa
