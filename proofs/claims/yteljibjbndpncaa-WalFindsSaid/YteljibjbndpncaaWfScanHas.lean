/- Walk of the seal of a place. Printed by gen_scanhas.py. -/
import Derived.Test.YteljibjbndpncaaWfGeom
import Derived.Test.YteljibjbndpncaaWfSealGet
namespace Go.Proofs.Yteljibjbndpncaa
open Go.RowKit

/-- The seal of a place of a log. -/
def hasOf (c : DConf) (l : List (List UInt8)) (lsn : Int) : Option DSeal :=
  if confRight c = true ∧ (l.length : Int) = c.log ∧ 0 ≤ lsn ∧ lsn ≤ 281474976710656 then
    match sealGet (l.getD (lsn % c.log).toNat []) with
    | some x => if x.kind = 1 ∧ x.no = lsn then some x else none
    | none => none
  else none
def HasRes (w : World) (r : Option DSeal) (e : Ending) (w' : World) : Prop :=
  ∃ v, e = .returned (.tuple #[v, .bool r.isSome]) ∧ rSeal.val (fun k => w.heap.size ≤ k) w' v (r.getD seal0) ∧ Below w.heap.size w w'

set_option maxRecDepth 100000 in
set_option maxHeartbeats 4000000 in
/-- scan.Has -/
theorem has_calls {Q R : Nat → Prop} {w : World} {v lv : Value} {c : DConf} {l : List (List UInt8)} {lsn : Int} (hx : rConf.val Q w v c) (hl : Rep.byte.list.list.val R w lv l) :
    Calls Try.prog 98 #[v, lv, .int .i64 lsn] w (HasRes w (hasOf c l lsn)) := by
  obtain ⟨A, cap, rfl, _⟩ := rConf_val hx
  obtain ⟨Al, cl, rfl, hc1, hc2, hA⟩ := Rep.val_list hl
  unfold maxLen at hc2
  have HA := Lib.hid (show ∀ W', Below w.heap.size w W' → Rep.byte.list.At R W' Al l from fun W' ho => Rep.At.keep (w := w) (fun b hb hl => ⟨hb, ho.block b hl.lt⟩) hA)
  have hm0 := InBox.made hx 49
  obtain ⟨W1, hW1⟩ : ∃ W1, (w.alloc (.cells #[.int .i64 c.log, .int .i64 c.pages, .int .i64 c.entities, .int .i64 c.gens, .slice A c.comps.length cap] 49)).alloc (.cells #[.int .i64 0, .int .i64 0, .int .i64 0, .slice none 0 0] 157) = W1 := ⟨_, rfl⟩
  have hb1 : Below w.heap.size w W1 := by rw [← hW1]; exact ((Below.refl _ _).alloc (Nat.le_refl _) _).alloc (by simp) _
  have hm1 : InBox W1 w.heap.size c A cap := by rw [← hW1]; exact hm0.later ((Below.refl _ _).alloc (by simp) _)
  have hz1 : W1.heap.size = w.heap.size + 2 := by rw [← hW1]; simp
  have hr1 : W1.heap[w.heap.size + 1]? = some (.cells #[.int .i64 0, .int .i64 0, .int .i64 0, .slice none 0 0] 157 (0, 0)) := by rw [← hW1]; simpa using heap_alloc_new (w.alloc (.cells #[.int .i64 c.log, .int .i64 c.pages, .int .i64 c.entities, .int .i64 c.gens, .slice A c.comps.length cap] 49)) _
  have HM1 := Lib.hid hm1
  have HB1 := Lib.hid hb1
  have HZ1 := Lib.hid hz1
  have HR1 := Lib.hid hr1
  have HW1 := Lib.hid hW1
  have hfr : Try.f98.results = #[.cell 6 157, .tmp 7] := rfl
  have HFR := Lib.hid hfr
  clear hx hl hA hm0 hb1 hm1 hz1 hr1 hW1 hfr
  by_cases hr : confRight c = true
  case neg =>
    have hr' : confRight c = false := by simpa using hr
    have HF := Lib.hid (show hasOf c l lsn = none by unfold hasOf; rw [if_neg (fun h => hr h.1)])
    have HR := Lib.hid (check_wrong hr')
    clear hr hr'
    go_enter Try.func98, Try.ntmps98
    go_wp2_with fail
    rw [HW1.out]
    refine (check_calls HM1.out.val).mono ?_
    rintro e w2 ⟨rfl, hb2⟩
    rw [HR.out]
    have HB2 := Lib.hid (HB1.out.trans (hb2.mono HB1.out.size))
    obtain ⟨a0, a1, a2, a3, a4, hv2⟩ := HM1.out.later (hb2.mono (by have := HZ1.out; omega))
    have hr2 : w2.heap[w.heap.size + 1]? = some (.cells #[.int .i64 0, .int .i64 0, .int .i64 0, .slice none 0 0] 157 (0, 0)) := (hb2.block _ (by have := HZ1.out; omega)).trans HR1.out
    have HM2 := Lib.hid (show InBox w2 w.heap.size c A cap from ⟨a0, a1, a2, a3, a4, hv2⟩)
    have HR2 := Lib.hid hr2
    clear hv2 hb2
    have e0 := cell_row hr2 0
    have e1 := cell_row hr2 1
    have e2 := cell_row hr2 2
    have e3 := cell_row hr2 3
    have z0 := frozen_row hr2 0
    have z1 := frozen_row hr2 1
    have z2 := frozen_row hr2 2
    have z3 := frozen_row hr2 3
    clear hr2
    go_wp2_with fail
    refine ⟨rfl, .tuple #[.agg #[.int .i64 0, .int .i64 0, .int .i64 0, .slice none 0 0], .bool false], ?_, ⟨_, by rw [HF.out]; rfl, by rw [HF.out]; exact seal0_val, below_set (below_set (below_set (below_set HB2.out (Nat.le_succ _)) (Nat.le_succ _)) (Nat.le_succ _)) (Nat.le_succ _)⟩⟩
    simp only [results, HFR.out]
    go_simp
  have HR := Lib.hid (check_right hr)
  have HRT := Lib.hid hr
  have hf := (right_facts hr).1
  obtain ⟨g1, g2, _⟩ := hf
  clear hr
  by_cases hn : (l.length : Int) = c.log
  case neg =>
    have HF := Lib.hid (show hasOf c l lsn = none by unfold hasOf; rw [if_neg (fun h => hn h.2.1)])
    go_enter Try.func98, Try.ntmps98
    go_wp2_with fail
    rw [HW1.out]
    refine (check_calls HM1.out.val).mono ?_
    rintro e w2 ⟨rfl, hb2⟩
    rw [HR.out]
    have HB2 := Lib.hid (HB1.out.trans (hb2.mono HB1.out.size))
    obtain ⟨a0, a1, a2, a3, a4, hv2⟩ := HM1.out.later (hb2.mono (by have := HZ1.out; omega))
    have hr2 : w2.heap[w.heap.size + 1]? = some (.cells #[.int .i64 0, .int .i64 0, .int .i64 0, .slice none 0 0] 157 (0, 0)) := (hb2.block _ (by have := HZ1.out; omega)).trans HR1.out
    have HM2 := Lib.hid (show InBox w2 w.heap.size c A cap from ⟨a0, a1, a2, a3, a4, hv2⟩)
    have HR2 := Lib.hid hr2
    clear hv2 hb2
    have e0 := cell_row hr2 0
    have e1 := cell_row hr2 1
    have e2 := cell_row hr2 2
    have e3 := cell_row hr2 3
    have z0 := frozen_row hr2 0
    have z1 := frozen_row hr2 1
    have z2 := frozen_row hr2 2
    have z3 := frozen_row hr2 3
    clear hr2
    go_wp2_with fail
    refine ⟨rfl, .tuple #[.agg #[.int .i64 0, .int .i64 0, .int .i64 0, .slice none 0 0], .bool false], ?_, ⟨_, by rw [HF.out]; rfl, by rw [HF.out]; exact seal0_val, below_set (below_set (below_set (below_set HB2.out (Nat.le_succ _)) (Nat.le_succ _)) (Nat.le_succ _)) (Nat.le_succ _)⟩⟩
    simp only [results, HFR.out]
    go_simp
  have HN := Lib.hid hn
  by_cases hp : lsn < 0
  case pos =>
    have HF := Lib.hid (show hasOf c l lsn = none by unfold hasOf; rw [if_neg (fun h => by omega)])
    go_enter Try.func98, Try.ntmps98
    go_wp2_with fail
    rw [HW1.out]
    refine (check_calls HM1.out.val).mono ?_
    rintro e w2 ⟨rfl, hb2⟩
    rw [HR.out]
    have HB2 := Lib.hid (HB1.out.trans (hb2.mono HB1.out.size))
    obtain ⟨a0, a1, a2, a3, a4, hv2⟩ := HM1.out.later (hb2.mono (by have := HZ1.out; omega))
    have hr2 : w2.heap[w.heap.size + 1]? = some (.cells #[.int .i64 0, .int .i64 0, .int .i64 0, .slice none 0 0] 157 (0, 0)) := (hb2.block _ (by have := HZ1.out; omega)).trans HR1.out
    have HM2 := Lib.hid (show InBox w2 w.heap.size c A cap from ⟨a0, a1, a2, a3, a4, hv2⟩)
    have HR2 := Lib.hid hr2
    clear hv2 hb2
    have e0 := cell_row hr2 0
    have e1 := cell_row hr2 1
    have e2 := cell_row hr2 2
    have e3 := cell_row hr2 3
    have z0 := frozen_row hr2 0
    have z1 := frozen_row hr2 1
    have z2 := frozen_row hr2 2
    have z3 := frozen_row hr2 3
    clear hr2
    go_wp2_with fail
    refine ⟨rfl, .tuple #[.agg #[.int .i64 0, .int .i64 0, .int .i64 0, .slice none 0 0], .bool false], ?_, ⟨_, by rw [HF.out]; rfl, by rw [HF.out]; exact seal0_val, below_set (below_set (below_set (below_set HB2.out (Nat.le_succ _)) (Nat.le_succ _)) (Nat.le_succ _)) (Nat.le_succ _)⟩⟩
    simp only [results, HFR.out]
    go_simp
  by_cases hq : 281474976710656 < lsn
  case pos =>
    have HF := Lib.hid (show hasOf c l lsn = none by unfold hasOf; rw [if_neg (fun h => by omega)])
    go_enter Try.func98, Try.ntmps98
    go_wp2_with fail
    rw [HW1.out]
    refine (check_calls HM1.out.val).mono ?_
    rintro e w2 ⟨rfl, hb2⟩
    rw [HR.out]
    have HB2 := Lib.hid (HB1.out.trans (hb2.mono HB1.out.size))
    obtain ⟨a0, a1, a2, a3, a4, hv2⟩ := HM1.out.later (hb2.mono (by have := HZ1.out; omega))
    have hr2 : w2.heap[w.heap.size + 1]? = some (.cells #[.int .i64 0, .int .i64 0, .int .i64 0, .slice none 0 0] 157 (0, 0)) := (hb2.block _ (by have := HZ1.out; omega)).trans HR1.out
    have HM2 := Lib.hid (show InBox w2 w.heap.size c A cap from ⟨a0, a1, a2, a3, a4, hv2⟩)
    have HR2 := Lib.hid hr2
    clear hv2 hb2
    have e0 := cell_row hr2 0
    have e1 := cell_row hr2 1
    have e2 := cell_row hr2 2
    have e3 := cell_row hr2 3
    have z0 := frozen_row hr2 0
    have z1 := frozen_row hr2 1
    have z2 := frozen_row hr2 2
    have z3 := frozen_row hr2 3
    clear hr2
    go_wp2_with fail
    refine ⟨rfl, .tuple #[.agg #[.int .i64 0, .int .i64 0, .int .i64 0, .slice none 0 0], .bool false], ?_, ⟨_, by rw [HF.out]; rfl, by rw [HF.out]; exact seal0_val, below_set (below_set (below_set (below_set HB2.out (Nat.le_succ _)) (Nat.le_succ _)) (Nat.le_succ _)) (Nat.le_succ _)⟩⟩
    simp only [results, HFR.out]
    go_simp
  have hp' : 0 ≤ lsn := by omega
  have hq' : lsn ≤ 281474976710656 := by omega
  clear hp hq
  have HC := Lib.hid (show hasOf c l lsn = match sealGet (l.getD (lsn % c.log).toNat []) with | some x => if x.kind = 1 ∧ x.no = lsn then some x else none | none => none by unfold hasOf; rw [if_pos ⟨HRT.out, HN.out, by omega, by omega⟩])
  have m1 : 0 ≤ lsn % c.log := Int.emod_nonneg _ (by omega)
  have m2 : lsn % c.log < c.log := Int.emod_lt_of_pos _ (by omega)
  have m3 : lsn.tmod c.log = lsn % c.log := Int.tmod_eq_emod_of_nonneg (by omega)
  have m4 : ¬ c.log = 0 := by omega
  obtain ⟨k, hk⟩ : ∃ k : Nat, lsn % c.log = (k : Int) := ⟨(lsn % c.log).toNat, by omega⟩
  rw [hk] at m1 m2 m3
  have hkl : k < l.length := by have := HN.out; omega
  have hkl2 : (k : Int) < (l.length : Int) := by omega
  obtain ⟨s, hs⟩ : ∃ s, s = l[k] := ⟨_, rfl⟩
  have hget : l[k]? = some s := by rw [hs]; exact List.getElem?_eq_getElem hkl
  have HC2 := Lib.hid (show hasOf c l lsn = match sealGet s with | some x => if x.kind = 1 ∧ x.no = lsn then some x else none | none => none by rw [HC.out, hk]; simp [hget])
  have HGET := Lib.hid hget
  have HM3 := Lib.hid m3
  clear hk hs hget hkl m1
  cases hg : sealGet s with
  | none =>
    have HF := Lib.hid (show hasOf c l lsn = none by rw [HC2.out, hg])
    have HG := Lib.hid hg
    clear hg
    go_enter Try.func98, Try.ntmps98
    go_wp2_with fail
    rw [HW1.out]
    refine (check_calls HM1.out.val).mono ?_
    rintro e w2 ⟨rfl, hb2⟩
    rw [HR.out]
    have HB2 := Lib.hid (HB1.out.trans (hb2.mono HB1.out.size))
    obtain ⟨a0, a1, a2, a3, a4, hv2⟩ := HM1.out.later (hb2.mono (by have := HZ1.out; omega))
    have hr2 : w2.heap[w.heap.size + 1]? = some (.cells #[.int .i64 0, .int .i64 0, .int .i64 0, .slice none 0 0] 157 (0, 0)) := (hb2.block _ (by have := HZ1.out; omega)).trans HR1.out
    have HM2 := Lib.hid (show InBox w2 w.heap.size c A cap from ⟨a0, a1, a2, a3, a4, hv2⟩)
    have HR2 := Lib.hid hr2
    clear hv2 hb2
    obtain ⟨bb, off, B5, c5, rfl, hcell, hc5, hm5, hat⟩ := Rep.At.list (HA.out w2 HB2.out) HGET.out
    have HP := Lib.hid (show Rep.byte.list.val R w2 (.slice B5 s.length c5) s from Rep.list_val rfl hc5 hm5 hat)
    clear hat hr2
    go_wp2_with fail
    refine (sealGet_calls HP.out).mono ?_
    rintro e w4 ⟨v4, rfl, hv4, hb4⟩
    have hb4' := HB2.out.size
    rw [HG.out] at hv4 ⊢
    simp only [Option.isSome, Option.getD] at hv4 ⊢
    obtain ⟨A4, c4, hv, f0, f1, f2, f3⟩ := rSeal_val hv4
    try dsimp only at hv
    subst hv
    have HV4 := Lib.hid hv4
    have HB4 := Lib.hid (HB2.out.trans (hb4.mono HB2.out.size))
    have hr4 : w4.heap[w.heap.size + 1]? = some (.cells #[.int .i64 0, .int .i64 0, .int .i64 0, .slice none 0 0] 157 (0, 0)) := (hb4.block _ (by have := IsC.lt ⟨_, _, _, HR2.out⟩; omega)).trans HR2.out
    obtain ⟨W5, hW5⟩ : ∃ W5, w4.alloc (.cells #[.int .i64 seal0.epoch, .int .i64 seal0.no, .int .i64 seal0.kind, .slice A4 seal0.body.length c4] 157) = W5 := ⟨_, rfl⟩
    have hr5 : (w4.alloc (.cells #[.int .i64 seal0.epoch, .int .i64 seal0.no, .int .i64 seal0.kind, .slice A4 seal0.body.length c4] 157)).heap[w.heap.size + 1]? = some (.cells #[.int .i64 0, .int .i64 0, .int .i64 0, .slice none 0 0] 157 (0, 0)) := (Below.heap_alloc _ _ _ (IsC.lt ⟨_, _, _, hr4⟩)).trans hr4
    have HB5 := Lib.hid (show Below w.heap.size w (w4.alloc (.cells #[.int .i64 seal0.epoch, .int .i64 seal0.no, .int .i64 seal0.kind, .slice A4 seal0.body.length c4] 157)) from HB4.out.alloc HB4.out.size _)
    have HR5 := Lib.hid hr5
    have HL4 := Lib.hid (show w.heap.size + 1 < w4.heap.size from IsC.lt ⟨_, _, _, hr4⟩)
    clear hr4 hW5
    have e0 := cell_row hr5 0
    have e1 := cell_row hr5 1
    have e2 := cell_row hr5 2
    have e3 := cell_row hr5 3
    have z0 := frozen_row hr5 0
    have z1 := frozen_row hr5 1
    have z2 := frozen_row hr5 2
    have z3 := frozen_row hr5 3
    clear hr5 f0 f1 f2 f3 hv4 hb4 hb4'
    go_wp2_with fail
    refine ⟨rfl, .tuple #[.agg #[.int .i64 0, .int .i64 0, .int .i64 0, .slice none 0 0], .bool false], ?_, ⟨_, by rw [HF.out]; rfl, by rw [HF.out]; exact seal0_val, below_set (below_set (below_set (below_set HB5.out (Nat.le_succ _)) (Nat.le_succ _)) (Nat.le_succ _)) (Nat.le_succ _)⟩⟩
    simp only [results, HFR.out]
    go_simp
  | some y =>
    have HG := Lib.hid hg
    clear hg
    obtain ⟨ep, no, kd, bd⟩ := y
    by_cases hkd : kd = 1
    case neg =>
      have HF := Lib.hid (show hasOf c l lsn = none by rw [HC2.out, HG.out]; exact if_neg (fun h => hkd h.1))
      go_enter Try.func98, Try.ntmps98
      go_wp2_with fail
      rw [HW1.out]
      refine (check_calls HM1.out.val).mono ?_
      rintro e w2 ⟨rfl, hb2⟩
      rw [HR.out]
      have HB2 := Lib.hid (HB1.out.trans (hb2.mono HB1.out.size))
      obtain ⟨a0, a1, a2, a3, a4, hv2⟩ := HM1.out.later (hb2.mono (by have := HZ1.out; omega))
      have hr2 : w2.heap[w.heap.size + 1]? = some (.cells #[.int .i64 0, .int .i64 0, .int .i64 0, .slice none 0 0] 157 (0, 0)) := (hb2.block _ (by have := HZ1.out; omega)).trans HR1.out
      have HM2 := Lib.hid (show InBox w2 w.heap.size c A cap from ⟨a0, a1, a2, a3, a4, hv2⟩)
      have HR2 := Lib.hid hr2
      clear hv2 hb2
      obtain ⟨bb, off, B5, c5, rfl, hcell, hc5, hm5, hat⟩ := Rep.At.list (HA.out w2 HB2.out) HGET.out
      have HP := Lib.hid (show Rep.byte.list.val R w2 (.slice B5 s.length c5) s from Rep.list_val rfl hc5 hm5 hat)
      clear hat hr2
      go_wp2_with fail
      refine (sealGet_calls HP.out).mono ?_
      rintro e w4 ⟨v4, rfl, hv4, hb4⟩
      have hb4' := HB2.out.size
      rw [HG.out] at hv4 ⊢
      simp only [Option.isSome, Option.getD] at hv4 ⊢
      obtain ⟨A4, c4, hv, f0, f1, f2, f3⟩ := rSeal_val hv4
      try dsimp only at hv
      subst hv
      have HV4 := Lib.hid hv4
      have HB4 := Lib.hid (HB2.out.trans (hb4.mono HB2.out.size))
      have hr4 : w4.heap[w.heap.size + 1]? = some (.cells #[.int .i64 0, .int .i64 0, .int .i64 0, .slice none 0 0] 157 (0, 0)) := (hb4.block _ (by have := IsC.lt ⟨_, _, _, HR2.out⟩; omega)).trans HR2.out
      obtain ⟨W5, hW5⟩ : ∃ W5, w4.alloc (.cells #[.int .i64 ep, .int .i64 no, .int .i64 kd, .slice A4 bd.length c4] 157) = W5 := ⟨_, rfl⟩
      have hr5 : (w4.alloc (.cells #[.int .i64 ep, .int .i64 no, .int .i64 kd, .slice A4 bd.length c4] 157)).heap[w.heap.size + 1]? = some (.cells #[.int .i64 0, .int .i64 0, .int .i64 0, .slice none 0 0] 157 (0, 0)) := (Below.heap_alloc _ _ _ (IsC.lt ⟨_, _, _, hr4⟩)).trans hr4
      have HB5 := Lib.hid (show Below w.heap.size w (w4.alloc (.cells #[.int .i64 ep, .int .i64 no, .int .i64 kd, .slice A4 bd.length c4] 157)) from HB4.out.alloc HB4.out.size _)
      have HR5 := Lib.hid hr5
      have HL4 := Lib.hid (show w.heap.size + 1 < w4.heap.size from IsC.lt ⟨_, _, _, hr4⟩)
      clear hr4 hW5
      have e0 := cell_row hr5 0
      have e1 := cell_row hr5 1
      have e2 := cell_row hr5 2
      have e3 := cell_row hr5 3
      have z0 := frozen_row hr5 0
      have z1 := frozen_row hr5 1
      have z2 := frozen_row hr5 2
      have z3 := frozen_row hr5 3
      clear hr5 f0 f1 f2 f3 hv4 hb4 hb4'
      go_wp2_with fail
      refine ⟨rfl, .tuple #[.agg #[.int .i64 0, .int .i64 0, .int .i64 0, .slice none 0 0], .bool false], ?_, ⟨_, by rw [HF.out]; rfl, by rw [HF.out]; exact seal0_val, below_set (below_set (below_set (below_set HB5.out (Nat.le_succ _)) (Nat.le_succ _)) (Nat.le_succ _)) (Nat.le_succ _)⟩⟩
      simp only [results, HFR.out]
      go_simp
    subst hkd
    by_cases hno : no = lsn
    case neg =>
      have HF := Lib.hid (show hasOf c l lsn = none by rw [HC2.out, HG.out]; exact if_neg (fun h => hno h.2))
      go_enter Try.func98, Try.ntmps98
      go_wp2_with fail
      rw [HW1.out]
      refine (check_calls HM1.out.val).mono ?_
      rintro e w2 ⟨rfl, hb2⟩
      rw [HR.out]
      have HB2 := Lib.hid (HB1.out.trans (hb2.mono HB1.out.size))
      obtain ⟨a0, a1, a2, a3, a4, hv2⟩ := HM1.out.later (hb2.mono (by have := HZ1.out; omega))
      have hr2 : w2.heap[w.heap.size + 1]? = some (.cells #[.int .i64 0, .int .i64 0, .int .i64 0, .slice none 0 0] 157 (0, 0)) := (hb2.block _ (by have := HZ1.out; omega)).trans HR1.out
      have HM2 := Lib.hid (show InBox w2 w.heap.size c A cap from ⟨a0, a1, a2, a3, a4, hv2⟩)
      have HR2 := Lib.hid hr2
      clear hv2 hb2
      obtain ⟨bb, off, B5, c5, rfl, hcell, hc5, hm5, hat⟩ := Rep.At.list (HA.out w2 HB2.out) HGET.out
      have HP := Lib.hid (show Rep.byte.list.val R w2 (.slice B5 s.length c5) s from Rep.list_val rfl hc5 hm5 hat)
      clear hat hr2
      go_wp2_with fail
      refine (sealGet_calls HP.out).mono ?_
      rintro e w4 ⟨v4, rfl, hv4, hb4⟩
      have hb4' := HB2.out.size
      rw [HG.out] at hv4 ⊢
      simp only [Option.isSome, Option.getD] at hv4 ⊢
      obtain ⟨A4, c4, hv, f0, f1, f2, f3⟩ := rSeal_val hv4
      try dsimp only at hv
      subst hv
      have HV4 := Lib.hid hv4
      have HB4 := Lib.hid (HB2.out.trans (hb4.mono HB2.out.size))
      have hr4 : w4.heap[w.heap.size + 1]? = some (.cells #[.int .i64 0, .int .i64 0, .int .i64 0, .slice none 0 0] 157 (0, 0)) := (hb4.block _ (by have := IsC.lt ⟨_, _, _, HR2.out⟩; omega)).trans HR2.out
      obtain ⟨W5, hW5⟩ : ∃ W5, w4.alloc (.cells #[.int .i64 ep, .int .i64 no, .int .i64 1, .slice A4 bd.length c4] 157) = W5 := ⟨_, rfl⟩
      have hr5 : (w4.alloc (.cells #[.int .i64 ep, .int .i64 no, .int .i64 1, .slice A4 bd.length c4] 157)).heap[w.heap.size + 1]? = some (.cells #[.int .i64 0, .int .i64 0, .int .i64 0, .slice none 0 0] 157 (0, 0)) := (Below.heap_alloc _ _ _ (IsC.lt ⟨_, _, _, hr4⟩)).trans hr4
      have HB5 := Lib.hid (show Below w.heap.size w (w4.alloc (.cells #[.int .i64 ep, .int .i64 no, .int .i64 1, .slice A4 bd.length c4] 157)) from HB4.out.alloc HB4.out.size _)
      have HR5 := Lib.hid hr5
      have HL4 := Lib.hid (show w.heap.size + 1 < w4.heap.size from IsC.lt ⟨_, _, _, hr4⟩)
      clear hr4 hW5
      have e0 := cell_row hr5 0
      have e1 := cell_row hr5 1
      have e2 := cell_row hr5 2
      have e3 := cell_row hr5 3
      have z0 := frozen_row hr5 0
      have z1 := frozen_row hr5 1
      have z2 := frozen_row hr5 2
      have z3 := frozen_row hr5 3
      clear hr5 f0 f1 f2 f3 hv4 hb4 hb4'
      go_wp2_with fail
      refine ⟨rfl, .tuple #[.agg #[.int .i64 0, .int .i64 0, .int .i64 0, .slice none 0 0], .bool false], ?_, ⟨_, by rw [HF.out]; rfl, by rw [HF.out]; exact seal0_val, below_set (below_set (below_set (below_set HB5.out (Nat.le_succ _)) (Nat.le_succ _)) (Nat.le_succ _)) (Nat.le_succ _)⟩⟩
      simp only [results, HFR.out]
      go_simp
    subst hno
    have HF := Lib.hid (show hasOf c l no = some ⟨ep, no, 1, bd⟩ by rw [HC2.out, HG.out]; exact if_pos ⟨rfl, rfl⟩)
    go_enter Try.func98, Try.ntmps98
    go_wp2_with fail
    rw [HW1.out]
    refine (check_calls HM1.out.val).mono ?_
    rintro e w2 ⟨rfl, hb2⟩
    rw [HR.out]
    have HB2 := Lib.hid (HB1.out.trans (hb2.mono HB1.out.size))
    obtain ⟨a0, a1, a2, a3, a4, hv2⟩ := HM1.out.later (hb2.mono (by have := HZ1.out; omega))
    have hr2 : w2.heap[w.heap.size + 1]? = some (.cells #[.int .i64 0, .int .i64 0, .int .i64 0, .slice none 0 0] 157 (0, 0)) := (hb2.block _ (by have := HZ1.out; omega)).trans HR1.out
    have HM2 := Lib.hid (show InBox w2 w.heap.size c A cap from ⟨a0, a1, a2, a3, a4, hv2⟩)
    have HR2 := Lib.hid hr2
    clear hv2 hb2
    obtain ⟨bb, off, B5, c5, rfl, hcell, hc5, hm5, hat⟩ := Rep.At.list (HA.out w2 HB2.out) HGET.out
    have HP := Lib.hid (show Rep.byte.list.val R w2 (.slice B5 s.length c5) s from Rep.list_val rfl hc5 hm5 hat)
    clear hat hr2
    go_wp2_with fail
    refine (sealGet_calls HP.out).mono ?_
    rintro e w4 ⟨v4, rfl, hv4, hb4⟩
    have hb4' := HB2.out.size
    rw [HG.out] at hv4 ⊢
    simp only [Option.isSome, Option.getD] at hv4 ⊢
    obtain ⟨A4, c4, hv, f0, f1, f2, f3⟩ := rSeal_val hv4
    try dsimp only at hv
    subst hv
    have HV4 := Lib.hid hv4
    have HB4 := Lib.hid (HB2.out.trans (hb4.mono HB2.out.size))
    have hr4 : w4.heap[w.heap.size + 1]? = some (.cells #[.int .i64 0, .int .i64 0, .int .i64 0, .slice none 0 0] 157 (0, 0)) := (hb4.block _ (by have := IsC.lt ⟨_, _, _, HR2.out⟩; omega)).trans HR2.out
    obtain ⟨W5, hW5⟩ : ∃ W5, w4.alloc (.cells #[.int .i64 ep, .int .i64 no, .int .i64 1, .slice A4 bd.length c4] 157) = W5 := ⟨_, rfl⟩
    have hr5 : (w4.alloc (.cells #[.int .i64 ep, .int .i64 no, .int .i64 1, .slice A4 bd.length c4] 157)).heap[w.heap.size + 1]? = some (.cells #[.int .i64 0, .int .i64 0, .int .i64 0, .slice none 0 0] 157 (0, 0)) := (Below.heap_alloc _ _ _ (IsC.lt ⟨_, _, _, hr4⟩)).trans hr4
    have HB5 := Lib.hid (show Below w.heap.size w (w4.alloc (.cells #[.int .i64 ep, .int .i64 no, .int .i64 1, .slice A4 bd.length c4] 157)) from HB4.out.alloc HB4.out.size _)
    have HR5 := Lib.hid hr5
    have HL4 := Lib.hid (show w.heap.size + 1 < w4.heap.size from IsC.lt ⟨_, _, _, hr4⟩)
    clear hr4 hW5
    have e0 := cell_row hr5 0
    have e1 := cell_row hr5 1
    have e2 := cell_row hr5 2
    have e3 := cell_row hr5 3
    have z0 := frozen_row hr5 0
    have z1 := frozen_row hr5 1
    have z2 := frozen_row hr5 2
    have z3 := frozen_row hr5 3
    clear hr5 f0 f1 f2 f3 hv4 hb4 hb4'
    go_wp2_with fail
    refine ⟨rfl, .tuple #[.agg #[.int .i64 ep, .int .i64 no, .int .i64 1, .slice A4 bd.length c4], .bool true], ?_, ⟨_, by rw [HF.out]; rfl, ?_, below_set (below_set (below_set (below_set HB5.out (Nat.le_succ _)) (Nat.le_succ _)) (Nat.le_succ _)) (Nat.le_succ _)⟩⟩
    · simp only [results, HFR.out]
      go_simp
    · rw [HF.out]
      refine Rep.val_keep (fun x hx hl => ⟨Nat.le_trans HB2.out.size hx, ?_⟩) HV4.out
      have h1 : w2.heap.size ≤ x := hx
      have h2 := IsC.lt ⟨_, _, _, HR2.out⟩
      rw [set4_keep (show x ≠ w.heap.size + 1 by omega)]
      exact Below.heap_alloc _ _ _ hl.lt
end Go.Proofs.Yteljibjbndpncaa
