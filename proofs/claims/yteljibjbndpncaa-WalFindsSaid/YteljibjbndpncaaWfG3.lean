/- Texts on which the proofs stand: Comp, Conf. No condition is laid on any input. -/
import Derived.Test.YteljibjbndpncaaWfG2
import Derived.Test.YteljibjbndpncaaWfTypes
import Derived.Deep.RegionHeld3
import Derived.BigQuiet
import Derived.WalkMore
/- Walks of the small functions on layouts. -/
namespace Go.Proofs.Yteljibjbndpncaa
open Go.RowKit

def letterB (c : Int) : Bool := decide (97 ≤ c ∧ c ≤ 122) || decide (48 ≤ c ∧ c ≤ 57) || decide (c = 95)

/-- comp.letter -/
theorem letter_calls (c : Int) (w : World) (h0 : 0 ≤ c) (h1 : c ≤ 255) :
    Calls Try.prog 130 #[.int .u8 c] w fun e w' => e = .returned (.bool (letterB c)) ∧ w' = w := by
  obtain ⟨r, hr⟩ : ∃ r, r = letterB c := ⟨_, rfl⟩
  rw [← hr]
  unfold letterB at hr
  by_cases a1 : 97 ≤ c <;> by_cases a2 : c ≤ 122 <;> by_cases a3 : 48 ≤ c <;> by_cases a4 : c ≤ 57 <;> by_cases a5 : c = 95 <;> first | omega | skip
  all_goals
    simp [a1, a2, a3, a4, a5] at hr
    subst hr
    go_enter Try.func130, Try.ntmps130
    go_wp2_with fail
    go_ret
    exact ⟨by first | rfl | (rw [← (show (c == 95) = false by simp [a5])]; rfl), rfl⟩

def withinB (n lo hi : Int) : Bool := decide (lo ≤ n ∧ n ≤ hi)
/-- comp.within -/
theorem within_calls (n lo hi : Int) (w : World) :
    Calls Try.prog 111 #[.int .i64 n, .int .i64 lo, .int .i64 hi] w fun e w' => e = .returned (.bool (withinB n lo hi)) ∧ w' = w := by
  obtain ⟨r, hr⟩ : ∃ r, r = withinB n lo hi := ⟨_, rfl⟩
  rw [← hr]
  unfold withinB at hr
  by_cases a1 : lo ≤ n <;> by_cases a2 : n ≤ hi
  all_goals
    simp [a1, a2] at hr
    subst hr
    go_enter Try.func111, Try.ntmps111
    go_wp2_with fail
    go_ret
    exact ⟨rfl, rfl⟩

def nameB (s : List UInt8) : Bool := decide (1 ≤ s.length ∧ s.length ≤ 16) && s.all fun c => letterB (c.toNat : Int)

theorem all_take_succ {α : Type} {p : α → Bool} {s : List α} {k : Nat} (hk : k < s.length) (h : (s.take k).all p = true) (hc : p s[k] = true) : (s.take (k + 1)).all p = true := by
  rw [List.take_succ_eq_append_getElem hk, List.all_append, h]
  simp [hc]
theorem not_all {α : Type} {p : α → Bool} {s : List α} {k : Nat} (hk : k < s.length) (hc : p s[k] = false) : s.all p = false := by
  rw [Bool.eq_false_iff]
  intro h
  have := List.all_eq_true.1 h s[k] (List.getElem_mem hk)
  rw [hc] at this; cases this

theorem byte_le (x : UInt8) : (x.toNat : Int) ≤ 255 := by have := x.toNat_lt; omega

set_option maxRecDepth 10000 in
set_option maxHeartbeats 2000000 in
/-- comp.Name -/
theorem name_calls (s : List UInt8) (w : World) (hs : s.length ≤ maxLen) :
    Calls Try.prog 112 #[.string ⟨s.toArray⟩] w fun e w' => e = .returned (.bool (nameB s)) ∧ w' = w := by
  have hs' : (s.length : Int) ≤ 9223372036854775807 := by unfold maxLen at hs; omega
  have hsz : (ByteArray.mk s.toArray).size = s.length := by simp [ByteArray.size]
  by_cases hnil : s = []
  · subst hnil
    go_enter Try.func112, Try.ntmps112
    go_wp2_with fail
    go_ret
    exact ⟨rfl, rfl⟩
  have hemp : s.isEmpty = false := by simpa using hnil
  have hpos : 0 < s.length := List.length_pos_iff.2 hnil
  by_cases hlong : (16 : Int) < s.length
  · have hr : nameB s = false := by
      unfold nameB
      rw [decide_eq_false (by omega)]; rfl
    have HR := Lib.hid hr
    clear hr
    go_enter Try.func112, Try.ntmps112
    go_wp2_with fail
    go_ret
    exact ⟨by rw [HR.out]; rfl, rfl⟩
  · have hr : nameB s = s.all fun c => letterB (c.toNat : Int) := by
      unfold nameB
      rw [decide_eq_true (by omega), Bool.true_and]
    have HR := Lib.hid hr
    clear hr
    go_enter Try.func112, Try.ntmps112
    go_wp2_with fail
    go_loopw [13] (fun i wr => ∃ k : Nat, i = .int .i64 k ∧ k ≤ s.length ∧ Hid ((s.take k).all (fun c => letterB (c.toNat : Int)) = true) ∧ wr = w)
      (fun i _ => s.length - (intOf i).toNat)
    case atStart => exact ⟨0, rfl, by omega, rfl, rfl⟩
    case round =>
      obtain ⟨k, rfl, hk, hall, rfl⟩ := hrel
      by_cases hlt : (k : Int) < s.length
      · have hk' : k < s.length := by omega
        have L : ∀ w, Calls Try.prog 130 #[.int .u8 (((ByteArray.mk s.toArray)[k]'(by rw [hsz]; omega)).toNat : Int)] w fun e w' => e = .returned (.bool (letterB (s[k].toNat : Int))) ∧ w' = w :=
          fun w => letter_calls (s[k].toNat : Int) w (by omega) (byte_le s[k])
        cases hc : letterB (s[k].toNat : Int) with
        | true =>
          have HA := Lib.hid (all_take_succ (p := fun c : UInt8 => letterB (c.toNat : Int)) hk' hall hc)
          rw [hc] at L
          have HL := Lib.hid L
          clear hc hall L
          go_wp2_with (go_at_call 130; refine (HL.out _).mono ?_; rintro e w' ⟨rfl, rfl⟩)
          exact ⟨⟨k + 1, by go_num, by omega, HA.out, trivial⟩, by simp [intOf]; omega⟩
        | false =>
          have HF := Lib.hid (not_all (p := fun c : UInt8 => letterB (c.toNat : Int)) hk' hc)
          rw [hc] at L
          have HL := Lib.hid L
          clear hc hall L
          go_wp2_with (go_at_call 130; refine (HL.out _).mono ?_; rintro e w' ⟨rfl, rfl⟩)
          go_ret
          exact ⟨by rw [HR.out, HF.out]; rfl, rfl⟩
      · obtain rfl : k = s.length := by omega
        have HF := Lib.hid (show (s.all fun c => letterB (c.toNat : Int)) = true by have := hall.out; rwa [List.take_length] at this)
        clear hall
        go_wp2_with fail
        go_ret
        exact ⟨by rw [HR.out, HF.out]; rfl, rfl⟩
theorem dec_split (p : Prop) [Decidable p] : p ∨ (¬ p ∧ decide p = false) := by
  by_cases h : p
  · exact .inl h
  · exact .inr ⟨h, decide_eq_false h⟩

set_option maxRecDepth 10000 in
set_option maxHeartbeats 2000000 in
/-- ref07.Name -/
theorem rname_calls (s : List UInt8) (w : World) (hs : s.length ≤ maxLen) :
    Calls Try.prog 56 #[.string ⟨s.toArray⟩] w fun e w' => e = .returned (.bool (nameB s)) ∧ ∃ n, w' = w.drewN n := by
  have hs' : (s.length : Int) ≤ 9223372036854775807 := by unfold maxLen at hs; omega
  have hsz : (ByteArray.mk s.toArray).size = s.length := by simp [ByteArray.size]
  go_enter Try.func56, Try.ntmps56
  go_wp2_with fail
  go_loopw [3] (fun i wr => ∃ k n : Nat, i = .int .i64 k ∧ k ≤ s.length ∧ Hid ((s.take k).all (fun c => letterB (c.toNat : Int)) = true) ∧ wr = w.drewN n)
    (fun i _ => s.length - (intOf i).toNat)
  case atStart => exact ⟨0, 0, rfl, by omega, rfl, rfl⟩
  case round =>
    obtain ⟨k, n, rfl, hk, hall, rfl⟩ := hrel
    by_cases hlt : (k : Int) < s.length
    · have hk' : k < s.length := by omega
      have hx : (((ByteArray.mk s.toArray)[k]'(by rw [hsz]; omega)).toNat : Int) = (s[k].toNat : Int) := rfl
      have hb := byte_le s[k]
      have hall' := all_take_succ (p := fun c : UInt8 => letterB (c.toNat : Int)) hk' hall
      have hf := not_all (p := fun c : UInt8 => letterB (c.toNat : Int)) hk'
      rcases dec_split (97 ≤ (((ByteArray.mk s.toArray)[k]'(by rw [hsz]; omega)).toNat : Int)) with a1 | ⟨a1, d1⟩ <;>
      rcases dec_split ((((ByteArray.mk s.toArray)[k]'(by rw [hsz]; omega)).toNat : Int) ≤ 122) with a2 | ⟨a2, d2⟩ <;>
      rcases dec_split (48 ≤ (((ByteArray.mk s.toArray)[k]'(by rw [hsz]; omega)).toNat : Int)) with a3 | ⟨a3, d3⟩ <;>
      rcases dec_split ((((ByteArray.mk s.toArray)[k]'(by rw [hsz]; omega)).toNat : Int) ≤ 57) with a4 | ⟨a4, d4⟩ <;>
      rcases dec_split ((((ByteArray.mk s.toArray)[k]'(by rw [hsz]; omega)).toNat : Int) = 95) with a5 | ⟨a5, d5⟩ <;> (try (exfalso; rw [hx] at *; omega))
      all_goals
        first
        | (have hl : letterB (s[k].toNat : Int) = true := by rw [hx] at *; unfold letterB; simp only [Bool.or_eq_true, decide_eq_true_eq]; omega
           have HA := Lib.hid (hall' hl)
           clear hall' hf hl hall hx hb
           go_wp2_with fail
           go_quiet (fail)
           go_wp2_with fail
           all_goals first
             | exact ⟨⟨k + 1, _, by go_num, by omega, HA.out, rfl⟩, by simp [intOf]; omega⟩
             | (exfalso; rename_i h; simp at h; omega))
        | (have hl : letterB (s[k].toNat : Int) = false := by rw [hx] at *; unfold letterB; simp only [Bool.or_eq_false_iff, decide_eq_false_iff_not]; omega
           have HF := Lib.hid (hf hl)
           clear hall' hf hl hall hx hb
           go_wp2_with fail
           go_quiet (fail)
           go_wp2_with fail
           all_goals first
             | (go_ret; exact ⟨by rw [nameB, HF.out, Bool.and_false]; rfl, _, rfl⟩)
             | (exfalso; rename_i h; simp at h; omega))
    · obtain rfl : k = s.length := by omega
      have HF := Lib.hid (show (s.all fun c => letterB (c.toNat : Int)) = true by have := hall.out; rwa [List.take_length] at this)
      clear hall
      rcases dec_split ((1 : Int) ≤ s.length) with a1 | ⟨a1, d1⟩ <;>
      rcases dec_split ((s.length : Int) ≤ 16) with a2 | ⟨a2, d2⟩
      all_goals
        first
        | (have hr : nameB s = true := by rw [nameB, HF.out, Bool.and_true]; simp only [decide_eq_true_eq]; omega
           have HR := Lib.hid hr
           clear hr
           go_wp2_with fail
           go_ret
           exact ⟨by rw [HR.out]; rfl, _, rfl⟩)
        | (have hr : nameB s = false := by rw [nameB, HF.out, Bool.and_true]; simp only [decide_eq_false_iff_not]; omega
           have HR := Lib.hid hr
           clear hr
           go_wp2_with fail
           go_ret
           exact ⟨by rw [HR.out]; rfl, _, rfl⟩)
end Go.Proofs.Yteljibjbndpncaa
/- Walks of the checks of a layout. -/
namespace Go.Proofs.Yteljibjbndpncaa
open Go.RowKit

def compOk (l : List DComp) (i : Nat) : Bool := match l[i]? with
  | some x => (l.take i).all (fun y => decide (y.name ≠ x.name)) && nameB x.name && withinB x.size 0 64
  | none => true
def confRange (c : DConf) : Bool := withinB c.log 2 1024 && withinB c.pages 4 1024 && withinB c.entities 1 1024 && withinB c.gens 1 1073741824 && decide (c.comps.length ≤ 32)
def confRight (c : DConf) : Bool := confRange c && (List.range c.comps.length).all (compOk c.comps)
def checkOf (b : Bool) : Int := if b then 0 else 1

theorem range_all_succ {p : Nat → Bool} {k : Nat} (h : (List.range k).all p = true) (hk : p k = true) : (List.range (k + 1)).all p = true := by
  rw [List.range_succ, List.all_append, h]; simp [hk]
theorem range_not_all {p : Nat → Bool} {k n : Nat} (hk : k < n) (h : p k = false) : (List.range n).all p = false := by
  rw [Bool.eq_false_iff]
  intro hh
  have := List.all_eq_true.1 hh k (List.mem_range.2 hk)
  rw [h] at this; cases this

theorem compOk_dup {l : List DComp} {j k : Nat} {x y : DComp} (hjk : j < k) (hk : k < l.length) (hx : l[k] = x) (hj : j < l.length) (hy : l[j] = y) (h : y.name = x.name) : compOk l k = false := by
  unfold compOk
  rw [List.getElem?_eq_getElem hk, hx]
  have : ((l.take k).all fun y => decide (y.name ≠ x.name)) = false := by
    rw [Bool.eq_false_iff]
    intro hh
    have hm : y ∈ l.take k := by rw [← hy]; exact List.mem_take_iff_getElem.2 ⟨j, by omega, rfl⟩
    have := List.all_eq_true.1 hh y hm
    simp [h] at this
  simp only [this, Bool.false_and]

set_option maxRecDepth 100000 in
set_option maxHeartbeats 4000000 in
/-- comp.Check -/
theorem check_calls {Q : Nat → Prop} {w : World} {v : Value} {c : DConf} (hx : rConf.val Q w v c) :
    Calls Try.prog 85 #[v] w fun e w' => e = .returned (.int .i64 (checkOf (confRight c))) ∧ Below w.heap.size w w' := by
  obtain ⟨A, cap, rfl, f0, f1, f2, f3, hc1, hc2, hA⟩ := rConf_val hx
  unfold maxLen at hc2
  have hlen : (c.comps.length : Int) ≤ 9223372036854775807 := by omega
  cases h0 : withinB c.log 2 1024 <;> cases h1 : withinB c.pages 4 1024 <;> cases h2 : withinB c.entities 1 1024 <;> cases h3 : withinB c.gens 1 1073741824
  case true.true.true.true =>
    have H0 := Lib.hid h0
    have H1 := Lib.hid h1
    have H2 := Lib.hid h2
    have H3 := Lib.hid h3
    by_cases hlong : (32 : Int) < c.comps.length
    · have hr : confRight c = false := by simp [confRight, confRange]; intros; omega
      have HR := Lib.hid hr
      clear hr h0 h1 h2 h3 hx hA
      go_enter Try.func85, Try.ntmps85
      go_wp2_with fail
      go_step3
      go_wp2_with (go_at_call 111; refine (within_calls _ _ _ _).mono ?_; rintro e w' ⟨rfl, rfl⟩; first | rw [H0.out] | rw [H1.out] | rw [H2.out] | rw [H3.out])
      try rw [Exit.noGoto_ret]
      go_ret
      exact ⟨by rw [HR.out]; rfl, (Below.refl _ _).alloc (Nat.le_refl _) _⟩
    · have hr : confRight c = (List.range c.comps.length).all (compOk c.comps) := by
        have : decide (c.comps.length ≤ 32) = true := by simp; omega
        simp [confRight, confRange, h0, h1, h2, h3, this]
      have HR := Lib.hid hr
      have HX := Lib.hid hA
      clear hr h0 h1 h2 h3 hx hA
      go_enter Try.func85, Try.ntmps85
      go_wp2_with fail
      go_step3
      go_wp2_with (go_at_call 111; refine (within_calls _ _ _ _).mono ?_; rintro e w' ⟨rfl, rfl⟩; first | rw [H0.out] | rw [H1.out] | rw [H2.out] | rw [H3.out])
      obtain ⟨W1, hW1⟩ : ∃ W1, w.alloc (.cells #[.int .i64 c.log, .int .i64 c.pages, .int .i64 c.entities, .int .i64 c.gens, .slice A c.comps.length cap] 49) = W1 := ⟨_, rfl⟩
      have hcell : W1.cell? ⟨w.heap.size, 4, none⟩ = some (.slice A c.comps.length cap) := by rw [← hW1]; simp
      have hbel : Below w.heap.size w W1 := by rw [← hW1]; exact (Below.refl _ _).alloc (Nat.le_refl _) _
      have hsz : W1.heap.size = w.heap.size + 1 := by rw [← hW1]; simp
      rw [hW1]
      clear hW1
      go_wp2_with fail
      go_step3
      go_wp2_with fail
      go_loopw [40] (fun i wr => ∃ k : Nat, i = .int .i64 k ∧ k ≤ c.comps.length ∧ Hid ((List.range k).all (compOk c.comps) = true) ∧ Below (w.heap.size + 1) W1 wr)
        (fun i _ => c.comps.length - (intOf i).toNat)
      case atStart => exact ⟨0, rfl, by omega, rfl, Below.refl _ _⟩
      case round =>
        obtain ⟨k, rfl, hk, hall, hb1⟩ := hrel
        by_cases hlt : (k : Int) < c.comps.length
        · have hk' : k < c.comps.length := by omega
          have hAw : rComp.At (fun b => b < w.heap.size) wr A c.comps := Rep.At.keep (w := w) (fun b _ hb => ⟨hb.lt, (hb1.block b (by have := hb.lt; omega)).trans (hbel.block b hb.lt)⟩) HX.out
          obtain ⟨b, off, rfl, hb, cx0, cx1, g0, g1⟩ := rComp_at hAw (List.getElem?_eq_getElem hk')
          generalize hxx : c.comps[k] = x at *
          have HXX := Lib.hid hxx
          clear hxx
          have hcw : wr.cell? ⟨w.heap.size, 4, none⟩ = some (.slice (some ⟨b, off, none⟩) c.comps.length cap) := (hb1.cell (p := ⟨w.heap.size, 4, none⟩) (Nat.lt_succ_self _)).trans hcell
          have hlw : w.heap.size < wr.heap.size := by have := hb1.size; omega
          have hca : ∀ o, (wr.alloc o).cell? ⟨w.heap.size, 4, none⟩ = some (.slice (some ⟨b, off, none⟩) c.comps.length cap) := fun o => (World.cell?_of_block (w := wr) (Below.heap_alloc _ _ _ hlw)).trans hcw
          have HB1 := Lib.hid hb1
          have HAW := Lib.hid hAw
          clear hb1 hAw
          go_wp2_with fail
          rename World => wo
          obtain ⟨W2, hW2⟩ : ∃ W2, wo.alloc (.cells #[.string ⟨x.name.toArray⟩, .int .i64 x.size] 99) = W2 := ⟨_, rfl⟩
          have d0 : W2.cell? ⟨wo.heap.size, 0, none⟩ = some (.string ⟨x.name.toArray⟩) := by rw [← hW2]; simp
          have d1 : W2.cell? ⟨wo.heap.size, 1, none⟩ = some (.int .i64 x.size) := by rw [← hW2]; simp
          have hb2 : Below wo.heap.size wo W2 := by rw [← hW2]; exact (Below.refl _ _).alloc (Nat.le_refl _) _
          have hs2 : W2.heap.size = wo.heap.size + 1 := by rw [← hW2]; simp
          rw [hW2]
          clear hW2 hca hcw cx0 cx1
          have HAW2 := Lib.hid (HAW.out.keep (w := wo) (w' := W2) (Q' := fun b => b < wo.heap.size) fun b _ hb => ⟨hb.lt, hb2.block b hb.lt⟩)
          have HB2 := Lib.hid hb2
          clear hb2
          go_loopw [50] (fun i wr2 => ∃ j : Nat, i = .int .i64 j ∧ j ≤ k ∧ Hid ((c.comps.take j).all (fun y => decide (y.name ≠ x.name)) = true) ∧ Below (wo.heap.size + 1) W2 wr2)
            (fun i _ => k - (intOf i).toNat)
          case atStart => exact ⟨0, rfl, by omega, rfl, Below.refl _ _⟩
          case round =>
            obtain ⟨j, rfl, hj, hdif, hb3⟩ := hrel
            by_cases hjk : (j : Int) < k
            · have hj' : j < c.comps.length := by omega
              have hA3 := HAW2.out.keep (w := W2) (w' := wr) (Q' := fun _ => True) fun b hq hb => ⟨trivial, hb3.block b (by omega)⟩
              obtain ⟨b', off', heq, hb', cy0, cy1, g3, g4⟩ := rComp_at hA3 (List.getElem?_eq_getElem hj')
              cases heq
              generalize hyy : c.comps[j] = y at *
              have HYY := Lib.hid hyy
              have d0' := (hb3.cell (p := ⟨wo.heap.size, 0, none⟩) (Nat.lt_succ_self _)).trans d0
              have hlw3 : wo.heap.size < wr.heap.size := by have := hb3.size; omega
              have hca : ∀ o, (wr.alloc o).cell? ⟨wo.heap.size, 0, none⟩ = some (.string ⟨x.name.toArray⟩) := fun o => (World.cell?_of_block (w := wr) (Below.heap_alloc _ _ _ hlw3)).trans d0'
              have HB3 := Lib.hid hb3
              clear hyy hA3 hb3
              by_cases hq : y.name = x.name
              · have HF := Lib.hid (show confRight c = false by rw [HR.out]; exact range_not_all hk' (compOk_dup (j := j) (by omega) hk' HXX.out hj' HYY.out hq))
                replace hq : (x.name == y.name) = true := by simp [hq]
                go_wp2_with fail
                try rw [Exit.noGoto_ret]
                go_ret
                refine ⟨by rw [HF.out]; rfl, ?_⟩
                exact ((((hbel.trans (HB1.out.mono (by omega))).trans (HB2.out.mono (by omega))).trans (HB3.out.mono (by omega))).alloc (by omega) _)
              · have HD := Lib.hid (show ((c.comps.take (j + 1)).all fun y => decide (y.name ≠ x.name)) = true from all_take_succ (p := fun y : DComp => decide (y.name ≠ x.name)) hj' hdif (by rw [HYY.out]; simpa using hq))
                replace hq : (x.name == y.name) = false := by simpa using fun h => hq h.symm
                go_wp2_with fail
                exact ⟨⟨j + 1, by go_num, by omega, HD, HB3.out.alloc (by omega) _⟩, by simp [intOf]; omega⟩
            · obtain rfl : j = k := by omega
              have e0 := (hb3.cell (p := ⟨wo.heap.size, 0, none⟩) (Nat.lt_succ_self _)).trans d0
              have e1 := (hb3.cell (p := ⟨wo.heap.size, 1, none⟩) (Nat.lt_succ_self _)).trans d1
              have HB3 := Lib.hid hb3
              have hcomp : compOk c.comps j = (nameB x.name && withinB x.size 0 64) := by
                unfold compOk
                rw [List.getElem?_eq_getElem hk', HXX.out]
                simp only [hdif.out, Bool.true_and]
              have HW : Below (w.heap.size + 1) W1 wr := (HB1.out.trans (HB2.out.mono (by omega))).trans (hb3.mono (by omega))
              have HBW := Lib.hid HW
              clear hb3 HW
              by_cases hn : nameB x.name = true
              · by_cases hw : withinB x.size 0 64 = true
                · have HA := Lib.hid (range_all_succ hall (by rw [hcomp, hn, hw]; rfl))
                  have HN := Lib.hid hn
                  have HWI := Lib.hid hw
                  clear hcomp hn hw
                  go_wp2_with (first
                    | (go_at_call 112; refine (name_calls _ _ g0).mono ?_; rintro e w' ⟨rfl, rfl⟩; rw [HN.out])
                    | (go_at_call 111; refine (within_calls _ _ _ _).mono ?_; rintro e w' ⟨rfl, rfl⟩; rw [HWI.out]))
                  exact ⟨⟨j + 1, by go_num, by omega, HA, HBW.out⟩, by simp [intOf]; omega⟩
                · have HF := Lib.hid (show confRight c = false by rw [HR.out]; exact range_not_all hk' (by rw [hcomp, hn]; simpa using hw))
                  have HN := Lib.hid hn
                  have HWI := Lib.hid (show withinB x.size 0 64 = false by simpa using hw)
                  clear hcomp hn hw
                  go_wp2_with (first
                    | (go_at_call 112; refine (name_calls _ _ g0).mono ?_; rintro e w' ⟨rfl, rfl⟩; rw [HN.out])
                    | (go_at_call 111; refine (within_calls _ _ _ _).mono ?_; rintro e w' ⟨rfl, rfl⟩; rw [HWI.out]))
                  try rw [Exit.noGoto_ret]
                  go_ret
                  exact ⟨by rw [HF.out]; rfl, hbel.trans (HBW.out.mono (by omega))⟩
              · have HF := Lib.hid (show confRight c = false by rw [HR.out]; exact range_not_all hk' (by rw [hcomp]; simp [hn]))
                have HN := Lib.hid (show nameB x.name = false by simpa using hn)
                clear hcomp hn
                go_wp2_with (go_at_call 112; refine (name_calls _ _ g0).mono ?_; rintro e w' ⟨rfl, rfl⟩; rw [HN.out])
                try rw [Exit.noGoto_ret]
                go_ret
                exact ⟨by rw [HF.out]; rfl, hbel.trans (HBW.out.mono (by omega))⟩
        · obtain rfl : k = c.comps.length := by omega
          have HF := Lib.hid (show confRight c = true by rw [HR.out]; exact hall.out)
          have HB1 := Lib.hid hb1
          clear hb1
          go_wp2_with fail
          try rw [Exit.noGoto_ret]
          go_ret
          exact ⟨by rw [HF.out]; rfl, hbel.trans (HB1.out.mono (by omega))⟩
  all_goals
    have hr : confRight c = false := by simp [confRight, confRange, h0, h1, h2, h3]
    have HR := Lib.hid hr
    have H0 := Lib.hid h0
    have H1 := Lib.hid h1
    have H2 := Lib.hid h2
    have H3 := Lib.hid h3
    clear hr h0 h1 h2 h3 hx hA
    go_enter Try.func85, Try.ntmps85
    go_wp2_with fail
    go_step3
    go_wp2_with (go_at_call 111; refine (within_calls _ _ _ _).mono ?_; rintro e w' ⟨rfl, rfl⟩; first | rw [H0.out] | rw [H1.out] | rw [H2.out] | rw [H3.out])
    try rw [Exit.noGoto_ret]
    go_ret
    exact ⟨by rw [HR.out]; rfl, (Below.refl _ _).alloc (Nat.le_refl _) _⟩
end Go.Proofs.Yteljibjbndpncaa
