/- Walks of pages as sectors, both; the statement on them. Printed by gen_pages.py. -/
import Derived.Test.YtfpmkenobphfnaaPstG14
import Derived.Test.YtfpmkenobphfnaaPstRSealGet
namespace Go.Proofs.Ytfpmkenobphfnaa
open Go.RowKit

def pageBytes (epoch p : Int) (b : List UInt8) : List UInt8 := sealBytes ⟨epoch, p, 2, b⟩
def pageGet (s : List UInt8) (q : Int) : Option (List UInt8) :=
  match sealGet s with
  | none => none
  | some x => if x.kind = 2 ∧ x.no = q then some x.body else none
theorem pageGet_put (epoch p q : Int) (b : List UInt8) (h0 : 0 ≤ p) (h1 : p ≤ 281474976710656) : pageGet (pageBytes epoch p b) q = if p = q then some (b.take 472) else none := by
  unfold pageGet pageBytes
  rw [sealGet_put]
  have e1 : near p maxEpoch = p := near_in h0 h1
  have e2 : near 2 255 = 2 := rfl
  show (if near 2 255 = 2 ∧ near p maxEpoch = q then some (b.take 472) else none) = _
  rw [e1, e2]
  by_cases h : p = q
  · rw [if_pos ⟨rfl, h⟩, if_pos h]
  · rw [if_neg (fun c => h c.2), if_neg h]
def PageRes (w : World) (s : List UInt8) (q : Int) (e : Ending) (w' : World) : Prop :=
  ∃ v, e = .returned (.tuple #[v, .bool (pageGet s q).isSome]) ∧ Rep.byte.list.val (fun k => w.heap.size ≤ k) w' v ((pageGet s q).getD []) ∧ Below w.heap.size w w'

set_option maxRecDepth 100000 in
set_option maxHeartbeats 1000000 in
/-- page.Put -/
theorem pagePut_calls {Q : Nat → Prop} {w : World} {v : Value} {epoch p : Int} {b : List UInt8} (h0 : (Lit.int .i64 epoch).wf = true) (h1 : (Lit.int .i64 p).wf = true) (hx : Rep.byte.list.val Q w v b) :
    Calls Try.prog 90 #[.int .i64 epoch, .int .i64 p, v] w (Res Rep.byte.list (fun k => w.heap.size ≤ k) w (pageBytes epoch p b)) := by
  obtain ⟨A, c, rfl, hs⟩ := Rep.val_sl hx
  have HV := Lib.hid (rSeal_agg (x := ⟨epoch, p, 2, b⟩) h0 h1 rfl hs)
  clear hx hs
  go_enter Try.func90, Try.ntmps90
  go_wp2_with fail
  refine (sealPut_calls HV.out).mono ?_
  rintro e w1 ⟨u, rfl, hu, hb⟩
  go_wp2_with fail
  go_ret
  exact ⟨_, rfl, hu, hb⟩

set_option maxRecDepth 100000 in
set_option maxHeartbeats 1000000 in
/-- ref20.Put -/
theorem rpagePut_calls {Q : Nat → Prop} {w : World} {v : Value} {epoch p : Int} {b : List UInt8} (h0 : (Lit.int .i64 epoch).wf = true) (h1 : (Lit.int .i64 p).wf = true) (hx : Rep.byte.list.val Q w v b) :
    Calls Try.prog 92 #[.int .i64 epoch, .int .i64 p, v] w (Res Rep.byte.list (fun k => w.heap.size ≤ k) w (pageBytes epoch p b)) := by
  obtain ⟨A, c, rfl, hs⟩ := Rep.val_sl hx
  have HV := Lib.hid (rSeal_agg (x := ⟨epoch, p, 2, b⟩) h0 h1 rfl hs)
  clear hx hs
  go_enter Try.func92, Try.ntmps92
  go_wp2_with fail
  refine (rsealPut_calls HV.out).mono ?_
  rintro e w1 ⟨u, rfl, hu, hb⟩
  go_wp2_with fail
  go_ret
  exact ⟨_, rfl, hu, hb⟩

set_option maxRecDepth 100000 in
set_option maxHeartbeats 1000000 in
/-- page.Get -/
theorem pageGet_calls {Q : Nat → Prop} {w : World} {v : Value} {q : Int} {s : List UInt8} (hx : Rep.byte.list.val Q w v s) :
    Calls Try.prog 94 #[v, .int .i64 q] w (PageRes w s q) := by
  have HX := Lib.hid hx
  obtain ⟨A0, c0, rfl, _, _, _⟩ := Rep.val_list hx
  clear hx
  have HZ := Lib.hid (show ∀ w' : World, Rep.byte.list.val (fun x => w.heap.size ≤ x) w' (.slice none 0 0) ([] : List UInt8) from fun w => Rep.val_nil (by simp [maxLen]))
  cases hg : sealGet s with
  | none =>
    have HF := Lib.hid (show pageGet s q = none by unfold pageGet; rw [hg])
    have HG := Lib.hid hg
    clear hg
    go_enter Try.func94, Try.ntmps94
    go_wp2_with fail
    refine (sealGet_calls HX.out).mono ?_
    rintro e w1 ⟨u, rfl, hu, hb⟩
    rw [HG.out] at hu ⊢
    obtain ⟨A, c, rfl, f0, f1, f2, hs⟩ := rSeal_val hu
    simp only [Option.isSome_none]
    have HB := Lib.hid (hb.alloc hb.size (.cells #[.int .i64 ((none : Option DSeal).getD seal0).epoch, .int .i64 ((none : Option DSeal).getD seal0).no, .int .i64 ((none : Option DSeal).getD seal0).kind, .slice A ((none : Option DSeal).getD seal0).body.length c] 224))
    clear hu hs hb
    simp only [Option.getD_none] at *
    generalize seal0 = z at *
    go_wp2_with fail
    go_ret2
    exact ⟨_, by rw [HF.out]; rfl, by rw [HF.out]; exact HZ.out _, HB.out⟩
  | some x =>
    obtain ⟨xe, xn, xk, xb⟩ := x
    by_cases h2 : xk = 2
    case neg =>
      have HF := Lib.hid (show pageGet s q = none by unfold pageGet; rw [hg]; exact if_neg (fun h => h2 h.1))
      have g2 : (xk == 2) = false := by simpa using h2
      clear h2
      have HG := Lib.hid hg
      clear hg
      go_enter Try.func94, Try.ntmps94
      go_wp2_with fail
      refine (sealGet_calls HX.out).mono ?_
      rintro e w1 ⟨u, rfl, hu, hb⟩
      rw [HG.out] at hu ⊢
      simp only [Option.isSome_some, Option.getD_some] at hu ⊢
      obtain ⟨A, c, rfl, f0, f1, f2, hs⟩ := rSeal_val hu
      have HB := Lib.hid (hb.alloc hb.size (.cells #[.int .i64 xe, .int .i64 xn, .int .i64 xk, .slice A xb.length c] 224))
      have HS := Lib.hid (show Rep.byte.list.val (fun k => w.heap.size ≤ k) (w1.alloc (.cells #[.int .i64 xe, .int .i64 xn, .int .i64 xk, .slice A xb.length c] 224)) (.slice A xb.length c) xb from (hs.keep fun k hk hl => ⟨hk, Below.heap_alloc _ _ _ hl.lt⟩).val)
      clear hu hs hb
      go_wp2_with fail
      go_ret2
      exact ⟨_, by rw [HF.out]; rfl, by rw [HF.out]; exact HZ.out _, HB.out⟩
    case pos =>
      by_cases h3 : xn = q
      · have HF := Lib.hid (show pageGet s q = some xb by unfold pageGet; rw [hg]; exact if_pos ⟨h2, h3⟩)
        subst h2
        subst h3
        have HG := Lib.hid hg
        clear hg
        go_enter Try.func94, Try.ntmps94
        go_wp2_with fail
        refine (sealGet_calls HX.out).mono ?_
        rintro e w1 ⟨u, rfl, hu, hb⟩
        rw [HG.out] at hu ⊢
        simp only [Option.isSome_some, Option.getD_some] at hu ⊢
        obtain ⟨A, c, rfl, f0, f1, f2, hs⟩ := rSeal_val hu
        have HB := Lib.hid (hb.alloc hb.size (.cells #[.int .i64 xe, .int .i64 xn, .int .i64 2, .slice A xb.length c] 224))
        have HS := Lib.hid (show Rep.byte.list.val (fun k => w.heap.size ≤ k) (w1.alloc (.cells #[.int .i64 xe, .int .i64 xn, .int .i64 2, .slice A xb.length c] 224)) (.slice A xb.length c) xb from (hs.keep fun k hk hl => ⟨hk, Below.heap_alloc _ _ _ hl.lt⟩).val)
        clear hu hs hb
        go_wp2_with fail
        go_ret2
        exact ⟨_, by rw [HF.out]; rfl, by rw [HF.out]; exact HS.out, HB.out⟩
      · have HF := Lib.hid (show pageGet s q = none by unfold pageGet; rw [hg]; exact if_neg (fun h => h3 h.2))
        have g3 : (xn == q) = false := by simpa using h3
        subst h2
        clear h3
        have HG := Lib.hid hg
        clear hg
        go_enter Try.func94, Try.ntmps94
        go_wp2_with fail
        refine (sealGet_calls HX.out).mono ?_
        rintro e w1 ⟨u, rfl, hu, hb⟩
        rw [HG.out] at hu ⊢
        simp only [Option.isSome_some, Option.getD_some] at hu ⊢
        obtain ⟨A, c, rfl, f0, f1, f2, hs⟩ := rSeal_val hu
        have HB := Lib.hid (hb.alloc hb.size (.cells #[.int .i64 xe, .int .i64 xn, .int .i64 2, .slice A xb.length c] 224))
        have HS := Lib.hid (show Rep.byte.list.val (fun k => w.heap.size ≤ k) (w1.alloc (.cells #[.int .i64 xe, .int .i64 xn, .int .i64 2, .slice A xb.length c] 224)) (.slice A xb.length c) xb from (hs.keep fun k hk hl => ⟨hk, Below.heap_alloc _ _ _ hl.lt⟩).val)
        clear hu hs hb
        go_wp2_with fail
        go_ret2
        exact ⟨_, by rw [HF.out]; rfl, by rw [HF.out]; exact HZ.out _, HB.out⟩

set_option maxRecDepth 100000 in
set_option maxHeartbeats 1000000 in
/-- ref20.Get -/
theorem rpageGet_calls {Q : Nat → Prop} {w : World} {v : Value} {q : Int} {s : List UInt8} (hx : Rep.byte.list.val Q w v s) :
    Calls Try.prog 95 #[v, .int .i64 q] w (PageRes w s q) := by
  have HX := Lib.hid hx
  obtain ⟨A0, c0, rfl, _, _, _⟩ := Rep.val_list hx
  clear hx
  have HZ := Lib.hid (show ∀ w' : World, Rep.byte.list.val (fun x => w.heap.size ≤ x) w' (.slice none 0 0) ([] : List UInt8) from fun w => Rep.val_nil (by simp [maxLen]))
  cases hg : sealGet s with
  | none =>
    have HF := Lib.hid (show pageGet s q = none by unfold pageGet; rw [hg])
    have HG := Lib.hid hg
    clear hg
    go_enter Try.func95, Try.ntmps95
    go_wp2_with fail
    refine (rsealGet_calls HX.out).mono ?_
    rintro e w1 ⟨u, rfl, hu, hb⟩
    rw [HG.out] at hu ⊢
    obtain ⟨A, c, rfl, f0, f1, f2, hs⟩ := rSeal_val hu
    simp only [Option.isSome_none]
    have HB := Lib.hid (hb.alloc hb.size (.cells #[.int .i64 ((none : Option DSeal).getD seal0).epoch, .int .i64 ((none : Option DSeal).getD seal0).no, .int .i64 ((none : Option DSeal).getD seal0).kind, .slice A ((none : Option DSeal).getD seal0).body.length c] 224))
    clear hu hs hb
    simp only [Option.getD_none] at *
    generalize seal0 = z at *
    go_wp2_with fail
    go_ret2
    exact ⟨_, by rw [HF.out]; rfl, by rw [HF.out]; exact HZ.out _, HB.out⟩
  | some x =>
    obtain ⟨xe, xn, xk, xb⟩ := x
    by_cases h2 : xk = 2
    case neg =>
      have HF := Lib.hid (show pageGet s q = none by unfold pageGet; rw [hg]; exact if_neg (fun h => h2 h.1))
      have g2 : (xk == 2) = false := by simpa using h2
      clear h2
      have HG := Lib.hid hg
      clear hg
      go_enter Try.func95, Try.ntmps95
      go_wp2_with fail
      refine (rsealGet_calls HX.out).mono ?_
      rintro e w1 ⟨u, rfl, hu, hb⟩
      rw [HG.out] at hu ⊢
      simp only [Option.isSome_some, Option.getD_some] at hu ⊢
      obtain ⟨A, c, rfl, f0, f1, f2, hs⟩ := rSeal_val hu
      have HB := Lib.hid (hb.alloc hb.size (.cells #[.int .i64 xe, .int .i64 xn, .int .i64 xk, .slice A xb.length c] 224))
      have HS := Lib.hid (show Rep.byte.list.val (fun k => w.heap.size ≤ k) (w1.alloc (.cells #[.int .i64 xe, .int .i64 xn, .int .i64 xk, .slice A xb.length c] 224)) (.slice A xb.length c) xb from (hs.keep fun k hk hl => ⟨hk, Below.heap_alloc _ _ _ hl.lt⟩).val)
      clear hu hs hb
      go_wp2_with fail
      go_ret2
      exact ⟨_, by rw [HF.out]; rfl, by rw [HF.out]; exact HZ.out _, HB.out⟩
    case pos =>
      by_cases h3 : xn = q
      · have HF := Lib.hid (show pageGet s q = some xb by unfold pageGet; rw [hg]; exact if_pos ⟨h2, h3⟩)
        subst h2
        subst h3
        have HG := Lib.hid hg
        clear hg
        go_enter Try.func95, Try.ntmps95
        go_wp2_with fail
        refine (rsealGet_calls HX.out).mono ?_
        rintro e w1 ⟨u, rfl, hu, hb⟩
        rw [HG.out] at hu ⊢
        simp only [Option.isSome_some, Option.getD_some] at hu ⊢
        obtain ⟨A, c, rfl, f0, f1, f2, hs⟩ := rSeal_val hu
        have HB := Lib.hid (hb.alloc hb.size (.cells #[.int .i64 xe, .int .i64 xn, .int .i64 2, .slice A xb.length c] 224))
        have HS := Lib.hid (show Rep.byte.list.val (fun k => w.heap.size ≤ k) (w1.alloc (.cells #[.int .i64 xe, .int .i64 xn, .int .i64 2, .slice A xb.length c] 224)) (.slice A xb.length c) xb from (hs.keep fun k hk hl => ⟨hk, Below.heap_alloc _ _ _ hl.lt⟩).val)
        clear hu hs hb
        go_wp2_with fail
        go_ret2
        exact ⟨_, by rw [HF.out]; rfl, by rw [HF.out]; exact HS.out, HB.out⟩
      · have HF := Lib.hid (show pageGet s q = none by unfold pageGet; rw [hg]; exact if_neg (fun h => h3 h.2))
        have g3 : (xn == q) = false := by simpa using h3
        subst h2
        clear h3
        have HG := Lib.hid hg
        clear hg
        go_enter Try.func95, Try.ntmps95
        go_wp2_with fail
        refine (rsealGet_calls HX.out).mono ?_
        rintro e w1 ⟨u, rfl, hu, hb⟩
        rw [HG.out] at hu ⊢
        simp only [Option.isSome_some, Option.getD_some] at hu ⊢
        obtain ⟨A, c, rfl, f0, f1, f2, hs⟩ := rSeal_val hu
        have HB := Lib.hid (hb.alloc hb.size (.cells #[.int .i64 xe, .int .i64 xn, .int .i64 2, .slice A xb.length c] 224))
        have HS := Lib.hid (show Rep.byte.list.val (fun k => w.heap.size ≤ k) (w1.alloc (.cells #[.int .i64 xe, .int .i64 xn, .int .i64 2, .slice A xb.length c] 224)) (.slice A xb.length c) xb from (hs.keep fun k hk hl => ⟨hk, Below.heap_alloc _ _ _ hl.lt⟩).val)
        clear hu hs hb
        go_wp2_with fail
        go_ret2
        exact ⟨_, by rw [HF.out]; rfl, by rw [HF.out]; exact HZ.out _, HB.out⟩
end Go.Proofs.Ytfpmkenobphfnaa
