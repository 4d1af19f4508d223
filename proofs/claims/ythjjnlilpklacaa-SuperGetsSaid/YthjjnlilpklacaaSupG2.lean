/- Texts on which the proofs stand: Comp, Conf, RConf, RRight, PutConf, RPutConf, Count, PCount, RCounts, Most, Idx. No condition is laid on any input. -/
import Derived.Test.YthjjnlilpklacaaSupG1
import Derived.Test.YthjjnlilpklacaaSupPage
import Derived.Test.YthjjnlilpklacaaSupText
import Derived.Deep.RegionHeld3
import Derived.BigQuiet
import Derived.WalkMore
/- Walks of the small functions on layouts. -/
namespace Go.Proofs.Ythjjnlilpklacaa
open Go.RowKit

def letterB (c : Int) : Bool := decide (97 ≤ c ∧ c ≤ 122) || decide (48 ≤ c ∧ c ≤ 57) || decide (c = 95)

/-- comp.letter -/
theorem letter_calls (c : Int) (w : World) (h0 : 0 ≤ c) (h1 : c ≤ 255) :
    Calls Try.prog 179 #[.int .u8 c] w fun e w' => e = .returned (.bool (letterB c)) ∧ w' = w := by
  obtain ⟨r, hr⟩ : ∃ r, r = letterB c := ⟨_, rfl⟩
  rw [← hr]
  unfold letterB at hr
  by_cases a1 : 97 ≤ c <;> by_cases a2 : c ≤ 122 <;> by_cases a3 : 48 ≤ c <;> by_cases a4 : c ≤ 57 <;> by_cases a5 : c = 95 <;> first | omega | skip
  all_goals
    simp [a1, a2, a3, a4, a5] at hr
    subst hr
    go_enter Try.func179, Try.ntmps179
    go_wp2_with fail
    go_ret
    exact ⟨by first | rfl | (rw [← (show (c == 95) = false by simp [a5])]; rfl), rfl⟩

def withinB (n lo hi : Int) : Bool := decide (lo ≤ n ∧ n ≤ hi)
/-- comp.within -/
theorem within_calls (n lo hi : Int) (w : World) :
    Calls Try.prog 148 #[.int .i64 n, .int .i64 lo, .int .i64 hi] w fun e w' => e = .returned (.bool (withinB n lo hi)) ∧ w' = w := by
  obtain ⟨r, hr⟩ : ∃ r, r = withinB n lo hi := ⟨_, rfl⟩
  rw [← hr]
  unfold withinB at hr
  by_cases a1 : lo ≤ n <;> by_cases a2 : n ≤ hi
  all_goals
    simp [a1, a2] at hr
    subst hr
    go_enter Try.func148, Try.ntmps148
    go_wp2_with fail
    go_ret
    exact ⟨rfl, rfl⟩

def nameB (s : List UInt8) : Bool := decide (1 ≤ s.length ∧ s.length ≤ 16) && s.all fun c => letterB (c.toNat : Int)

theorem all_take_succ {α : Type} {p : α → Bool} {s : List α} {k : Nat} (hk : k < s.length) (h : (s.take k).all p = true) (hc : p s[k] = true) : (s.take (k + 1)).all p = true := by
  rw [List.take_succ_eq_append_getElem hk, List.all_append, h]
  simp [hc]
theorem not_all {α : Type} {p : α → Bool} {s : List α} {k : Nat} (hk : k < s.length) (hc : p s[k] = false) : s.all p = false := by
  rw [Bool.eq_false_iff]
  intro h
  have := List.all_eq_true.1 h s[k] (List.getElem_mem hk)
  rw [hc] at this; cases this

theorem byte_le (x : UInt8) : (x.toNat : Int) ≤ 255 := by have := x.toNat_lt; omega

set_option maxRecDepth 10000 in
set_option maxHeartbeats 2000000 in
/-- comp.Name -/
theorem name_calls (s : List UInt8) (w : World) (hs : s.length ≤ maxLen) :
    Calls Try.prog 149 #[.string ⟨s.toArray⟩] w fun e w' => e = .returned (.bool (nameB s)) ∧ w' = w := by
  have hs' : (s.length : Int) ≤ 9223372036854775807 := by unfold maxLen at hs; omega
  have hsz : (ByteArray.mk s.toArray).size = s.length := by simp [ByteArray.size]
  by_cases hnil : s = []
  · subst hnil
    go_enter Try.func149, Try.ntmps149
    go_wp2_with fail
    go_ret
    exact ⟨rfl, rfl⟩
  have hemp : s.isEmpty = false := by simpa using hnil
  have hpos : 0 < s.length := List.length_pos_iff.2 hnil
  by_cases hlong : (16 : Int) < s.length
  · have hr : nameB s = false := by
      unfold nameB
      rw [decide_eq_false (by omega)]; rfl
    have HR := Lib.hid hr
    clear hr
    go_enter Try.func149, Try.ntmps149
    go_wp2_with fail
    go_ret
    exact ⟨by rw [HR.out]; rfl, rfl⟩
  · have hr : nameB s = s.all fun c => letterB (c.toNat : Int) := by
      unfold nameB
      rw [decide_eq_true (by omega), Bool.true_and]
    have HR := Lib.hid hr
    clear hr
    go_enter Try.func149, Try.ntmps149
    go_wp2_with fail
    go_loopw [13] (fun i wr => ∃ k : Nat, i = .int .i64 k ∧ k ≤ s.length ∧ Hid ((s.take k).all (fun c => letterB (c.toNat : Int)) = true) ∧ wr = w)
      (fun i _ => s.length - (intOf i).toNat)
    case atStart => exact ⟨0, rfl, by omega, rfl, rfl⟩
    case round =>
      obtain ⟨k, rfl, hk, hall, rfl⟩ := hrel
      by_cases hlt : (k : Int) < s.length
      · have hk' : k < s.length := by omega
        have L : ∀ w, Calls Try.prog 179 #[.int .u8 (((ByteArray.mk s.toArray)[k]'(by rw [hsz]; omega)).toNat : Int)] w fun e w' => e = .returned (.bool (letterB (s[k].toNat : Int))) ∧ w' = w :=
          fun w => letter_calls (s[k].toNat : Int) w (by omega) (byte_le s[k])
        cases hc : letterB (s[k].toNat : Int) with
        | true =>
          have HA := Lib.hid (all_take_succ (p := fun c : UInt8 => letterB (c.toNat : Int)) hk' hall hc)
          rw [hc] at L
          have HL := Lib.hid L
          clear hc hall L
          go_wp2_with (go_at_call 179; refine (HL.out _).mono ?_; rintro e w' ⟨rfl, rfl⟩)
          exact ⟨⟨k + 1, by go_num, by omega, HA.out, trivial⟩, by simp [intOf]; omega⟩
        | false =>
          have HF := Lib.hid (not_all (p := fun c : UInt8 => letterB (c.toNat : Int)) hk' hc)
          rw [hc] at L
          have HL := Lib.hid L
          clear hc hall L
          go_wp2_with (go_at_call 179; refine (HL.out _).mono ?_; rintro e w' ⟨rfl, rfl⟩)
          go_ret
          exact ⟨by rw [HR.out, HF.out]; rfl, rfl⟩
      · obtain rfl : k = s.length := by omega
        have HF := Lib.hid (show (s.all fun c => letterB (c.toNat : Int)) = true by have := hall.out; rwa [List.take_length] at this)
        clear hall
        go_wp2_with fail
        go_ret
        exact ⟨by rw [HR.out, HF.out]; rfl, rfl⟩
theorem dec_split (p : Prop) [Decidable p] : p ∨ (¬ p ∧ decide p = false) := by
  by_cases h : p
  · exact .inl h
  · exact .inr ⟨h, decide_eq_false h⟩

set_option maxRecDepth 10000 in
set_option maxHeartbeats 2000000 in
/-- ref07.Name -/
theorem rname_calls (s : List UInt8) (w : World) (hs : s.length ≤ maxLen) :
    Calls Try.prog 156 #[.string ⟨s.toArray⟩] w fun e w' => e = .returned (.bool (nameB s)) ∧ ∃ n, w' = w.drewN n := by
  have hs' : (s.length : Int) ≤ 9223372036854775807 := by unfold maxLen at hs; omega
  have hsz : (ByteArray.mk s.toArray).size = s.length := by simp [ByteArray.size]
  go_enter Try.func156, Try.ntmps156
  go_wp2_with fail
  go_loopw [3] (fun i wr => ∃ k n : Nat, i = .int .i64 k ∧ k ≤ s.length ∧ Hid ((s.take k).all (fun c => letterB (c.toNat : Int)) = true) ∧ wr = w.drewN n)
    (fun i _ => s.length - (intOf i).toNat)
  case atStart => exact ⟨0, 0, rfl, by omega, rfl, rfl⟩
  case round =>
    obtain ⟨k, n, rfl, hk, hall, rfl⟩ := hrel
    by_cases hlt : (k : Int) < s.length
    · have hk' : k < s.length := by omega
      have hx : (((ByteArray.mk s.toArray)[k]'(by rw [hsz]; omega)).toNat : Int) = (s[k].toNat : Int) := rfl
      have hb := byte_le s[k]
      have hall' := all_take_succ (p := fun c : UInt8 => letterB (c.toNat : Int)) hk' hall
      have hf := not_all (p := fun c : UInt8 => letterB (c.toNat : Int)) hk'
      rcases dec_split (97 ≤ (((ByteArray.mk s.toArray)[k]'(by rw [hsz]; omega)).toNat : Int)) with a1 | ⟨a1, d1⟩ <;>
      rcases dec_split ((((ByteArray.mk s.toArray)[k]'(by rw [hsz]; omega)).toNat : Int) ≤ 122) with a2 | ⟨a2, d2⟩ <;>
      rcases dec_split (48 ≤ (((ByteArray.mk s.toArray)[k]'(by rw [hsz]; omega)).toNat : Int)) with a3 | ⟨a3, d3⟩ <;>
      rcases dec_split ((((ByteArray.mk s.toArray)[k]'(by rw [hsz]; omega)).toNat : Int) ≤ 57) with a4 | ⟨a4, d4⟩ <;>
      rcases dec_split ((((ByteArray.mk s.toArray)[k]'(by rw [hsz]; omega)).toNat : Int) = 95) with a5 | ⟨a5, d5⟩ <;> (try (exfalso; rw [hx] at *; omega))
      all_goals
        first
        | (have hl : letterB (s[k].toNat : Int) = true := by rw [hx] at *; unfold letterB; simp only [Bool.or_eq_true, decide_eq_true_eq]; omega
           have HA := Lib.hid (hall' hl)
           clear hall' hf hl hall hx hb
           go_wp2_with fail
           go_quiet (fail)
           go_wp2_with fail
           all_goals first
             | exact ⟨⟨k + 1, _, by go_num, by omega, HA.out, rfl⟩, by simp [intOf]; omega⟩
             | (exfalso; rename_i h; simp at h; omega))
        | (have hl : letterB (s[k].toNat : Int) = false := by rw [hx] at *; unfold letterB; simp only [Bool.or_eq_false_iff, decide_eq_false_iff_not]; omega
           have HF := Lib.hid (hf hl)
           clear hall' hf hl hall hx hb
           go_wp2_with fail
           go_quiet (fail)
           go_wp2_with fail
           all_goals first
             | (go_ret; exact ⟨by rw [nameB, HF.out, Bool.and_false]; rfl, _, rfl⟩)
             | (exfalso; rename_i h; simp at h; omega))
    · obtain rfl : k = s.length := by omega
      have HF := Lib.hid (show (s.all fun c => letterB (c.toNat : Int)) = true by have := hall.out; rwa [List.take_length] at this)
      clear hall
      rcases dec_split ((1 : Int) ≤ s.length) with a1 | ⟨a1, d1⟩ <;>
      rcases dec_split ((s.length : Int) ≤ 16) with a2 | ⟨a2, d2⟩
      all_goals
        first
        | (have hr : nameB s = true := by rw [nameB, HF.out, Bool.and_true]; simp only [decide_eq_true_eq]; omega
           have HR := Lib.hid hr
           clear hr
           go_wp2_with fail
           go_ret
           exact ⟨by rw [HR.out]; rfl, _, rfl⟩)
        | (have hr : nameB s = false := by rw [nameB, HF.out, Bool.and_true]; simp only [decide_eq_false_iff_not]; omega
           have HR := Lib.hid hr
           clear hr
           go_wp2_with fail
           go_ret
           exact ⟨by rw [HR.out]; rfl, _, rfl⟩)
end Go.Proofs.Ythjjnlilpklacaa
/- Walks of the checks of a layout. -/
namespace Go.Proofs.Ythjjnlilpklacaa
open Go.RowKit

def compOk (l : List DComp) (i : Nat) : Bool := match l[i]? with
  | some x => (l.take i).all (fun y => decide (y.name ≠ x.name)) && nameB x.name && withinB x.size 0 64
  | none => true
def confRange (c : DConf) : Bool := withinB c.log 2 1024 && withinB c.pages 4 1024 && withinB c.entities 1 1024 && withinB c.gens 1 1073741824 && decide (c.comps.length ≤ 32)
def confRight (c : DConf) : Bool := confRange c && (List.range c.comps.length).all (compOk c.comps)
def checkOf (b : Bool) : Int := if b then 0 else 1

theorem range_all_succ {p : Nat → Bool} {k : Nat} (h : (List.range k).all p = true) (hk : p k = true) : (List.range (k + 1)).all p = true := by
  rw [List.range_succ, List.all_append, h]; simp [hk]
theorem range_not_all {p : Nat → Bool} {k n : Nat} (hk : k < n) (h : p k = false) : (List.range n).all p = false := by
  rw [Bool.eq_false_iff]
  intro hh
  have := List.all_eq_true.1 hh k (List.mem_range.2 hk)
  rw [h] at this; cases this

theorem compOk_dup {l : List DComp} {j k : Nat} {x y : DComp} (hjk : j < k) (hk : k < l.length) (hx : l[k] = x) (hj : j < l.length) (hy : l[j] = y) (h : y.name = x.name) : compOk l k = false := by
  unfold compOk
  rw [List.getElem?_eq_getElem hk, hx]
  have : ((l.take k).all fun y => decide (y.name ≠ x.name)) = false := by
    rw [Bool.eq_false_iff]
    intro hh
    have hm : y ∈ l.take k := by rw [← hy]; exact List.mem_take_iff_getElem.2 ⟨j, by omega, rfl⟩
    have := List.all_eq_true.1 hh y hm
    simp [h] at this
  simp only [this, Bool.false_and]

set_option maxRecDepth 100000 in
set_option maxHeartbeats 4000000 in
/-- comp.Check -/
theorem check_calls {Q : Nat → Prop} {w : World} {v : Value} {c : DConf} (hx : rConf.val Q w v c) :
    Calls Try.prog 108 #[v] w fun e w' => e = .returned (.int .i64 (checkOf (confRight c))) ∧ Below w.heap.size w w' := by
  obtain ⟨A, cap, rfl, f0, f1, f2, f3, hc1, hc2, hA⟩ := rConf_val hx
  unfold maxLen at hc2
  have hlen : (c.comps.length : Int) ≤ 9223372036854775807 := by omega
  cases h0 : withinB c.log 2 1024 <;> cases h1 : withinB c.pages 4 1024 <;> cases h2 : withinB c.entities 1 1024 <;> cases h3 : withinB c.gens 1 1073741824
  case true.true.true.true =>
    have H0 := Lib.hid h0
    have H1 := Lib.hid h1
    have H2 := Lib.hid h2
    have H3 := Lib.hid h3
    by_cases hlong : (32 : Int) < c.comps.length
    · have hr : confRight c = false := by simp [confRight, confRange]; intros; omega
      have HR := Lib.hid hr
      clear hr h0 h1 h2 h3 hx hA
      go_enter Try.func108, Try.ntmps108
      go_wp2_with fail
      go_step3
      go_wp2_with (go_at_call 148; refine (within_calls _ _ _ _).mono ?_; rintro e w' ⟨rfl, rfl⟩; first | rw [H0.out] | rw [H1.out] | rw [H2.out] | rw [H3.out])
      try rw [Exit.noGoto_ret]
      go_ret
      exact ⟨by rw [HR.out]; rfl, (Below.refl _ _).alloc (Nat.le_refl _) _⟩
    · have hr : confRight c = (List.range c.comps.length).all (compOk c.comps) := by
        have : decide (c.comps.length ≤ 32) = true := by simp; omega
        simp [confRight, confRange, h0, h1, h2, h3, this]
      have HR := Lib.hid hr
      have HX := Lib.hid hA
      clear hr h0 h1 h2 h3 hx hA
      go_enter Try.func108, Try.ntmps108
      go_wp2_with fail
      go_step3
      go_wp2_with (go_at_call 148; refine (within_calls _ _ _ _).mono ?_; rintro e w' ⟨rfl, rfl⟩; first | rw [H0.out] | rw [H1.out] | rw [H2.out] | rw [H3.out])
      obtain ⟨W1, hW1⟩ : ∃ W1, w.alloc (.cells #[.int .i64 c.log, .int .i64 c.pages, .int .i64 c.entities, .int .i64 c.gens, .slice A c.comps.length cap] 73) = W1 := ⟨_, rfl⟩
      have hcell : W1.cell? ⟨w.heap.size, 4, none⟩ = some (.slice A c.comps.length cap) := by rw [← hW1]; simp
      have hbel : Below w.heap.size w W1 := by rw [← hW1]; exact (Below.refl _ _).alloc (Nat.le_refl _) _
      have hsz : W1.heap.size = w.heap.size + 1 := by rw [← hW1]; simp
      rw [hW1]
      clear hW1
      go_wp2_with fail
      go_step3
      go_wp2_with fail
      go_loopw [40] (fun i wr => ∃ k : Nat, i = .int .i64 k ∧ k ≤ c.comps.length ∧ Hid ((List.range k).all (compOk c.comps) = true) ∧ Below (w.heap.size + 1) W1 wr)
        (fun i _ => c.comps.length - (intOf i).toNat)
      case atStart => exact ⟨0, rfl, by omega, rfl, Below.refl _ _⟩
      case round =>
        obtain ⟨k, rfl, hk, hall, hb1⟩ := hrel
        by_cases hlt : (k : Int) < c.comps.length
        · have hk' : k < c.comps.length := by omega
          have hAw : rComp.At (fun b => b < w.heap.size) wr A c.comps := Rep.At.keep (w := w) (fun b _ hb => ⟨hb.lt, (hb1.block b (by have := hb.lt; omega)).trans (hbel.block b hb.lt)⟩) HX.out
          obtain ⟨b, off, rfl, hb, cx0, cx1, g0, g1⟩ := rComp_at hAw (List.getElem?_eq_getElem hk')
          generalize hxx : c.comps[k] = x at *
          have HXX := Lib.hid hxx
          clear hxx
          have hcw : wr.cell? ⟨w.heap.size, 4, none⟩ = some (.slice (some ⟨b, off, none⟩) c.comps.length cap) := (hb1.cell (p := ⟨w.heap.size, 4, none⟩) (Nat.lt_succ_self _)).trans hcell
          have hlw : w.heap.size < wr.heap.size := by have := hb1.size; omega
          have hca : ∀ o, (wr.alloc o).cell? ⟨w.heap.size, 4, none⟩ = some (.slice (some ⟨b, off, none⟩) c.comps.length cap) := fun o => (World.cell?_of_block (w := wr) (Below.heap_alloc _ _ _ hlw)).trans hcw
          have HB1 := Lib.hid hb1
          have HAW := Lib.hid hAw
          clear hb1 hAw
          go_wp2_with fail
          rename World => wo
          obtain ⟨W2, hW2⟩ : ∃ W2, wo.alloc (.cells #[.string ⟨x.name.toArray⟩, .int .i64 x.size] 151) = W2 := ⟨_, rfl⟩
          have d0 : W2.cell? ⟨wo.heap.size, 0, none⟩ = some (.string ⟨x.name.toArray⟩) := by rw [← hW2]; simp
          have d1 : W2.cell? ⟨wo.heap.size, 1, none⟩ = some (.int .i64 x.size) := by rw [← hW2]; simp
          have hb2 : Below wo.heap.size wo W2 := by rw [← hW2]; exact (Below.refl _ _).alloc (Nat.le_refl _) _
          have hs2 : W2.heap.size = wo.heap.size + 1 := by rw [← hW2]; simp
          rw [hW2]
          clear hW2 hca hcw cx0 cx1
          have HAW2 := Lib.hid (HAW.out.keep (w := wo) (w' := W2) (Q' := fun b => b < wo.heap.size) fun b _ hb => ⟨hb.lt, hb2.block b hb.lt⟩)
          have HB2 := Lib.hid hb2
          clear hb2
          go_loopw [50] (fun i wr2 => ∃ j : Nat, i = .int .i64 j ∧ j ≤ k ∧ Hid ((c.comps.take j).all (fun y => decide (y.name ≠ x.name)) = true) ∧ Below (wo.heap.size + 1) W2 wr2)
            (fun i _ => k - (intOf i).toNat)
          case atStart => exact ⟨0, rfl, by omega, rfl, Below.refl _ _⟩
          case round =>
            obtain ⟨j, rfl, hj, hdif, hb3⟩ := hrel
            by_cases hjk : (j : Int) < k
            · have hj' : j < c.comps.length := by omega
              have hA3 := HAW2.out.keep (w := W2) (w' := wr) (Q' := fun _ => True) fun b hq hb => ⟨trivial, hb3.block b (by omega)⟩
              obtain ⟨b', off', heq, hb', cy0, cy1, g3, g4⟩ := rComp_at hA3 (List.getElem?_eq_getElem hj')
              cases heq
              generalize hyy : c.comps[j] = y at *
              have HYY := Lib.hid hyy
              have d0' := (hb3.cell (p := ⟨wo.heap.size, 0, none⟩) (Nat.lt_succ_self _)).trans d0
              have hlw3 : wo.heap.size < wr.heap.size := by have := hb3.size; omega
              have hca : ∀ o, (wr.alloc o).cell? ⟨wo.heap.size, 0, none⟩ = some (.string ⟨x.name.toArray⟩) := fun o => (World.cell?_of_block (w := wr) (Below.heap_alloc _ _ _ hlw3)).trans d0'
              have HB3 := Lib.hid hb3
              clear hyy hA3 hb3
              by_cases hq : y.name = x.name
              · have HF := Lib.hid (show confRight c = false by rw [HR.out]; exact range_not_all hk' (compOk_dup (j := j) (by omega) hk' HXX.out hj' HYY.out hq))
                replace hq : (x.name == y.name) = true := by simp [hq]
                go_wp2_with fail
                try rw [Exit.noGoto_ret]
                go_ret
                refine ⟨by rw [HF.out]; rfl, ?_⟩
                exact ((((hbel.trans (HB1.out.mono (by omega))).trans (HB2.out.mono (by omega))).trans (HB3.out.mono (by omega))).alloc (by omega) _)
              · have HD := Lib.hid (show ((c.comps.take (j + 1)).all fun y => decide (y.name ≠ x.name)) = true from all_take_succ (p := fun y : DComp => decide (y.name ≠ x.name)) hj' hdif (by rw [HYY.out]; simpa using hq))
                replace hq : (x.name == y.name) = false := by simpa using fun h => hq h.symm
                go_wp2_with fail
                exact ⟨⟨j + 1, by go_num, by omega, HD, HB3.out.alloc (by omega) _⟩, by simp [intOf]; omega⟩
            · obtain rfl : j = k := by omega
              have e0 := (hb3.cell (p := ⟨wo.heap.size, 0, none⟩) (Nat.lt_succ_self _)).trans d0
              have e1 := (hb3.cell (p := ⟨wo.heap.size, 1, none⟩) (Nat.lt_succ_self _)).trans d1
              have HB3 := Lib.hid hb3
              have hcomp : compOk c.comps j = (nameB x.name && withinB x.size 0 64) := by
                unfold compOk
                rw [List.getElem?_eq_getElem hk', HXX.out]
                simp only [hdif.out, Bool.true_and]
              have HW : Below (w.heap.size + 1) W1 wr := (HB1.out.trans (HB2.out.mono (by omega))).trans (hb3.mono (by omega))
              have HBW := Lib.hid HW
              clear hb3 HW
              by_cases hn : nameB x.name = true
              · by_cases hw : withinB x.size 0 64 = true
                · have HA := Lib.hid (range_all_succ hall (by rw [hcomp, hn, hw]; rfl))
                  have HN := Lib.hid hn
                  have HWI := Lib.hid hw
                  clear hcomp hn hw
                  go_wp2_with (first
                    | (go_at_call 149; refine (name_calls _ _ g0).mono ?_; rintro e w' ⟨rfl, rfl⟩; rw [HN.out])
                    | (go_at_call 148; refine (within_calls _ _ _ _).mono ?_; rintro e w' ⟨rfl, rfl⟩; rw [HWI.out]))
                  exact ⟨⟨j + 1, by go_num, by omega, HA, HBW.out⟩, by simp [intOf]; omega⟩
                · have HF := Lib.hid (show confRight c = false by rw [HR.out]; exact range_not_all hk' (by rw [hcomp, hn]; simpa using hw))
                  have HN := Lib.hid hn
                  have HWI := Lib.hid (show withinB x.size 0 64 = false by simpa using hw)
                  clear hcomp hn hw
                  go_wp2_with (first
                    | (go_at_call 149; refine (name_calls _ _ g0).mono ?_; rintro e w' ⟨rfl, rfl⟩; rw [HN.out])
                    | (go_at_call 148; refine (within_calls _ _ _ _).mono ?_; rintro e w' ⟨rfl, rfl⟩; rw [HWI.out]))
                  try rw [Exit.noGoto_ret]
                  go_ret
                  exact ⟨by rw [HF.out]; rfl, hbel.trans (HBW.out.mono (by omega))⟩
              · have HF := Lib.hid (show confRight c = false by rw [HR.out]; exact range_not_all hk' (by rw [hcomp]; simp [hn]))
                have HN := Lib.hid (show nameB x.name = false by simpa using hn)
                clear hcomp hn
                go_wp2_with (go_at_call 149; refine (name_calls _ _ g0).mono ?_; rintro e w' ⟨rfl, rfl⟩; rw [HN.out])
                try rw [Exit.noGoto_ret]
                go_ret
                exact ⟨by rw [HF.out]; rfl, hbel.trans (HBW.out.mono (by omega))⟩
        · obtain rfl : k = c.comps.length := by omega
          have HF := Lib.hid (show confRight c = true by rw [HR.out]; exact hall.out)
          have HB1 := Lib.hid hb1
          clear hb1
          go_wp2_with fail
          try rw [Exit.noGoto_ret]
          go_ret
          exact ⟨by rw [HF.out]; rfl, hbel.trans (HB1.out.mono (by omega))⟩
  all_goals
    have hr : confRight c = false := by simp [confRight, confRange, h0, h1, h2, h3]
    have HR := Lib.hid hr
    have H0 := Lib.hid h0
    have H1 := Lib.hid h1
    have H2 := Lib.hid h2
    have H3 := Lib.hid h3
    clear hr h0 h1 h2 h3 hx hA
    go_enter Try.func108, Try.ntmps108
    go_wp2_with fail
    go_step3
    go_wp2_with (go_at_call 148; refine (within_calls _ _ _ _).mono ?_; rintro e w' ⟨rfl, rfl⟩; first | rw [H0.out] | rw [H1.out] | rw [H2.out] | rw [H3.out])
    try rw [Exit.noGoto_ret]
    go_ret
    exact ⟨by rw [HR.out]; rfl, (Below.refl _ _).alloc (Nat.le_refl _) _⟩
end Go.Proofs.Ythjjnlilpklacaa
/- Walks of the reference's checks of a layout. -/
namespace Go.Proofs.Ythjjnlilpklacaa
open Go.RowKit

/-- What ref07.Find answers. -/
def FindRes (l : List DComp) (s : List UInt8) (w : World) (e : Ending) (w' : World) : Prop := Below w.heap.size w w' ∧ ∃ (i : Nat) (b : Bool), e = .returned (.tuple #[.int .i64 i, .bool b]) ∧
  ((b = true ∧ (l.take i).all (fun y => decide (y.name ≠ s)) = true ∧ ∃ h : i < l.length, l[i].name = s) ∨ (b = false ∧ l.all (fun y => decide (y.name ≠ s)) = true))

set_option maxRecDepth 100000 in
set_option maxHeartbeats 4000000 in
/-- ref07.Find -/
theorem find_calls {Q : Nat → Prop} {w : World} {v : Value} {c : DConf} {s : List UInt8} (hx : rConf.val Q w v c) :
    Calls Try.prog 155 #[v, .string ⟨s.toArray⟩] w (FindRes c.comps s w) := by
  obtain ⟨A, cap, rfl, f0, f1, f2, f3, hc1, hc2, hA⟩ := rConf_val hx
  unfold maxLen at hc2
  have hlen : (c.comps.length : Int) ≤ 9223372036854775807 := by omega
  obtain ⟨W1, hW1⟩ : ∃ W1, w.alloc (.cells #[.int .i64 c.log, .int .i64 c.pages, .int .i64 c.entities, .int .i64 c.gens, .slice A c.comps.length cap] 73) = W1 := ⟨_, rfl⟩
  have hcell : W1.cell? ⟨w.heap.size, 4, none⟩ = some (.slice A c.comps.length cap) := by rw [← hW1]; simp
  have hbel : Below w.heap.size w W1 := by rw [← hW1]; exact (Below.refl _ _).alloc (Nat.le_refl _) _
  have hsz : W1.heap.size = w.heap.size + 1 := by rw [← hW1]; simp
  have HX := Lib.hid hA
  clear hx hA
  go_enter Try.func155, Try.ntmps155
  go_wp2_with fail
  try rw [hW1]
  clear hW1
  go_loopw [6] (fun i wr => ∃ k : Nat, i = .int .i64 k ∧ k ≤ c.comps.length ∧ Hid ((c.comps.take k).all (fun y => decide (y.name ≠ s)) = true) ∧ wr = W1)
    (fun i _ => c.comps.length - (intOf i).toNat)
  case atStart => exact ⟨0, rfl, by omega, rfl, rfl⟩
  case round =>
    obtain ⟨k, rfl, hk, hall, rfl⟩ := hrel
    by_cases hlt : (k : Int) < c.comps.length
    · have hk' : k < c.comps.length := by omega
      have hAw : rComp.At (fun b => b < w.heap.size) wr A c.comps := Rep.At.keep (w := w) (fun b _ hb => ⟨hb.lt, hbel.block b hb.lt⟩) HX.out
      obtain ⟨b, off, rfl, hb, cx0, cx1, g0, g1⟩ := rComp_at hAw (List.getElem?_eq_getElem hk')
      generalize hxx : c.comps[k] = x at *
      have HXX := Lib.hid hxx
      clear hxx hAw
      by_cases hq : x.name = s
      · have HQ := Lib.hid hq
        replace hq : (x.name == s) = true := by simp [hq]
        go_wp2_with fail
        go_ret2
        refine ⟨hbel, k, true, rfl, .inl ⟨rfl, hall, hk', by rw [HXX.out]; exact HQ.out⟩⟩
      · have HD := Lib.hid (show ((c.comps.take (k + 1)).all fun y => decide (y.name ≠ s)) = true from all_take_succ (p := fun y : DComp => decide (y.name ≠ s)) hk' hall (by rw [HXX.out]; simpa using hq))
        replace hq : (x.name == s) = false := by simpa using hq
        go_wp2_with fail
        exact ⟨⟨k + 1, by go_num, by omega, HD, trivial⟩, by simp [intOf]; omega⟩
    · obtain rfl : k = c.comps.length := by omega
      have HF := Lib.hid (show (c.comps.all fun y => decide (y.name ≠ s)) = true by have := hall.out; rwa [List.take_length] at this)
      clear hall
      go_wp2_with fail
      go_ret2
      exact ⟨hbel, 0, false, rfl, .inr ⟨rfl, HF.out⟩⟩

def muchConf (c : DConf) : Bool := (c.comps.take 50).any (fun y => decide (100 < y.name.length)) || decide (40 < c.comps.length)

set_option maxRecDepth 100000 in
set_option maxHeartbeats 4000000 in
/-- ref07.Much -/
theorem much_calls {Q : Nat → Prop} {w : World} {v : Value} {c : DConf} (hx : rConf.val Q w v c) :
    Calls Try.prog 40 #[v] w fun e w' => e = .returned (.bool (muchConf c)) ∧ Below w.heap.size w w' := by
  obtain ⟨A, cap, rfl, f0, f1, f2, f3, hc1, hc2, hA⟩ := rConf_val hx
  unfold maxLen at hc2
  have hlen : (c.comps.length : Int) ≤ 9223372036854775807 := by omega
  obtain ⟨W1, hW1⟩ : ∃ W1, w.alloc (.cells #[.int .i64 c.log, .int .i64 c.pages, .int .i64 c.entities, .int .i64 c.gens, .slice A c.comps.length cap] 73) = W1 := ⟨_, rfl⟩
  have hcell : W1.cell? ⟨w.heap.size, 4, none⟩ = some (.slice A c.comps.length cap) := by rw [← hW1]; simp
  have hbel : Below w.heap.size w W1 := by rw [← hW1]; exact (Below.refl _ _).alloc (Nat.le_refl _) _
  have hsz : W1.heap.size = w.heap.size + 1 := by rw [← hW1]; simp
  have HX := Lib.hid hA
  clear hx hA
  go_enter Try.func40, Try.ntmps40
  go_wp2_with fail
  try rw [hW1]
  clear hW1
  go_loopw [3] (fun i wr => ∃ k : Nat, i = .int .i64 k ∧ k ≤ c.comps.length ∧ k ≤ 50 ∧ Hid ((c.comps.take k).any (fun y => decide (100 < y.name.length)) = false) ∧ wr = W1)
    (fun i _ => c.comps.length - (intOf i).toNat)
  case atStart => exact ⟨0, rfl, by omega, by omega, rfl, rfl⟩
  case round =>
    obtain ⟨k, rfl, hk, hk50, hall, rfl⟩ := hrel
    by_cases hlt : (k : Int) < c.comps.length
    · have hk' : k < c.comps.length := by omega
      by_cases hlt5 : (k : Int) < 50
      · have hAw : rComp.At (fun b => b < w.heap.size) wr A c.comps := Rep.At.keep (w := w) (fun b _ hb => ⟨hb.lt, hbel.block b hb.lt⟩) HX.out
        obtain ⟨b, off, rfl, hb, cx0, cx1, g0, g1⟩ := rComp_at hAw (List.getElem?_eq_getElem hk')
        generalize hxx : c.comps[k] = x at *
        have HXX := Lib.hid hxx
        clear hxx hAw
        by_cases hq : (100 : Int) < x.name.length
        · have HR := Lib.hid (show muchConf c = true by
            unfold muchConf
            have : (c.comps.take 50).any (fun y => decide (100 < y.name.length)) = true := List.any_eq_true.2 ⟨x, List.mem_take_iff_getElem.2 ⟨k, by omega, HXX.out⟩, by simp; omega⟩
            rw [this]; rfl)
          go_wp2_with fail
          go_ret
          exact ⟨by rw [HR.out]; rfl, hbel⟩
        · have HD := Lib.hid (show (c.comps.take (k + 1)).any (fun y => decide (100 < y.name.length)) = false by
            rw [List.take_succ_eq_append_getElem hk', List.any_append, hall.out, HXX.out]; simp; omega)
          go_wp2_with fail
          exact ⟨⟨k + 1, by go_num, by omega, by omega, HD, trivial⟩, by simp [intOf]; omega⟩
      · have HR := Lib.hid (show muchConf c = true by unfold muchConf; rw [decide_eq_true (show 40 < c.comps.length by omega), Bool.or_true])
        have h40 : (40 : Int) < c.comps.length := by omega
        go_wp2_with fail
        go_ret
        exact ⟨by rw [HR.out]; rfl, hbel⟩
    · obtain rfl : k = c.comps.length := by omega
      have HR := Lib.hid (show muchConf c = decide ((40 : Int) < c.comps.length) by
        unfold muchConf
        have := hall.out
        rw [List.take_length] at this
        rw [List.take_of_length_le hk50, this, Bool.false_or]
        congr 1
        simp; omega)
      clear hall
      go_wp2_with fail
      go_ret
      exact ⟨by rw [HR.out]; rfl, hbel⟩
end Go.Proofs.Ythjjnlilpklacaa
/- Walk of the reference's check of a layout. -/
namespace Go.Proofs.Ythjjnlilpklacaa
open Go.RowKit

set_option maxRecDepth 100000 in
set_option maxHeartbeats 8000000 in
/-- ref07.Right -/
theorem right_calls {Q : Nat → Prop} {w : World} {v : Value} {c : DConf} (hx : rConf.val Q w v c) :
    Calls Try.prog 112 #[v] w fun e w' => e = .returned (.bool (confRight c)) ∧ Below w.heap.size w w' := by
  obtain ⟨A, cap, rfl, f0, f1, f2, f3, hc1, hc2, hA⟩ := rConf_val hx
  unfold maxLen at hc2
  have hlen : (c.comps.length : Int) ≤ 9223372036854775807 := by omega
  have HX := Lib.hid hA
  clear hx hA
  by_cases a0 : c.log < 2
  · have HF := Lib.hid (show confRight c = false by
      have : confRange c = false := by
        rw [Bool.eq_false_iff]
        simp only [confRange, withinB, ne_eq, Bool.and_eq_true, decide_eq_true_eq]
        omega
      unfold confRight; rw [this, Bool.false_and])
    go_enter Try.func112, Try.ntmps112
    go_wp2_with fail
    go_ret
    exact ⟨by rw [HF.out]; rfl, (Below.refl _ _).alloc (Nat.le_refl _) _⟩
  by_cases a1 : 1024 < c.log
  · have HF := Lib.hid (show confRight c = false by
      have : confRange c = false := by
        rw [Bool.eq_false_iff]
        simp only [confRange, withinB, ne_eq, Bool.and_eq_true, decide_eq_true_eq]
        omega
      unfold confRight; rw [this, Bool.false_and])
    go_enter Try.func112, Try.ntmps112
    go_wp2_with fail
    go_ret
    exact ⟨by rw [HF.out]; rfl, (Below.refl _ _).alloc (Nat.le_refl _) _⟩
  by_cases a2 : c.pages < 4
  · have HF := Lib.hid (show confRight c = false by
      have : confRange c = false := by
        rw [Bool.eq_false_iff]
        simp only [confRange, withinB, ne_eq, Bool.and_eq_true, decide_eq_true_eq]
        omega
      unfold confRight; rw [this, Bool.false_and])
    go_enter Try.func112, Try.ntmps112
    go_wp2_with fail
    go_ret
    exact ⟨by rw [HF.out]; rfl, (Below.refl _ _).alloc (Nat.le_refl _) _⟩
  by_cases a3 : 1024 < c.pages
  · have HF := Lib.hid (show confRight c = false by
      have : confRange c = false := by
        rw [Bool.eq_false_iff]
        simp only [confRange, withinB, ne_eq, Bool.and_eq_true, decide_eq_true_eq]
        omega
      unfold confRight; rw [this, Bool.false_and])
    go_enter Try.func112, Try.ntmps112
    go_wp2_with fail
    go_ret
    exact ⟨by rw [HF.out]; rfl, (Below.refl _ _).alloc (Nat.le_refl _) _⟩
  by_cases a4 : c.entities < 1
  · have HF := Lib.hid (show confRight c = false by
      have : confRange c = false := by
        rw [Bool.eq_false_iff]
        simp only [confRange, withinB, ne_eq, Bool.and_eq_true, decide_eq_true_eq]
        omega
      unfold confRight; rw [this, Bool.false_and])
    go_enter Try.func112, Try.ntmps112
    go_wp2_with fail
    go_ret
    exact ⟨by rw [HF.out]; rfl, (Below.refl _ _).alloc (Nat.le_refl _) _⟩
  by_cases a5 : 1024 < c.entities
  · have HF := Lib.hid (show confRight c = false by
      have : confRange c = false := by
        rw [Bool.eq_false_iff]
        simp only [confRange, withinB, ne_eq, Bool.and_eq_true, decide_eq_true_eq]
        omega
      unfold confRight; rw [this, Bool.false_and])
    go_enter Try.func112, Try.ntmps112
    go_wp2_with fail
    go_ret
    exact ⟨by rw [HF.out]; rfl, (Below.refl _ _).alloc (Nat.le_refl _) _⟩
  by_cases a6 : c.gens < 1
  · have HF := Lib.hid (show confRight c = false by
      have : confRange c = false := by
        rw [Bool.eq_false_iff]
        simp only [confRange, withinB, ne_eq, Bool.and_eq_true, decide_eq_true_eq]
        omega
      unfold confRight; rw [this, Bool.false_and])
    go_enter Try.func112, Try.ntmps112
    go_wp2_with fail
    go_ret
    exact ⟨by rw [HF.out]; rfl, (Below.refl _ _).alloc (Nat.le_refl _) _⟩
  by_cases a7 : 1073741824 < c.gens
  · have HF := Lib.hid (show confRight c = false by
      have : confRange c = false := by
        rw [Bool.eq_false_iff]
        simp only [confRange, withinB, ne_eq, Bool.and_eq_true, decide_eq_true_eq]
        omega
      unfold confRight; rw [this, Bool.false_and])
    go_enter Try.func112, Try.ntmps112
    go_wp2_with fail
    go_ret
    exact ⟨by rw [HF.out]; rfl, (Below.refl _ _).alloc (Nat.le_refl _) _⟩
  by_cases a8 : (32 : Int) < c.comps.length
  · have HF := Lib.hid (show confRight c = false by
      have : confRange c = false := by
        rw [Bool.eq_false_iff]
        simp only [confRange, withinB, ne_eq, Bool.and_eq_true, decide_eq_true_eq]
        omega
      unfold confRight; rw [this, Bool.false_and])
    go_enter Try.func112, Try.ntmps112
    go_wp2_with fail
    go_ret
    exact ⟨by rw [HF.out]; rfl, (Below.refl _ _).alloc (Nat.le_refl _) _⟩
  have HR := Lib.hid (show confRight c = (List.range c.comps.length).all (compOk c.comps) by
    have : confRange c = true := by
      simp only [confRange, withinB, Bool.and_eq_true, decide_eq_true_eq]
      omega
    unfold confRight; rw [this, Bool.true_and])
  obtain ⟨W1, hW1⟩ : ∃ W1, w.alloc (.cells #[.int .i64 c.log, .int .i64 c.pages, .int .i64 c.entities, .int .i64 c.gens, .slice A c.comps.length cap] 73) = W1 := ⟨_, rfl⟩
  have hbel : Below w.heap.size w W1 := by rw [← hW1]; exact (Below.refl _ _).alloc (Nat.le_refl _) _
  have hsz : W1.heap.size = w.heap.size + 1 := by rw [← hW1]; simp
  have e0 : W1.cell? ⟨w.heap.size, 0, none⟩ = some (.int .i64 c.log) := by rw [← hW1]; simp
  have e1 : W1.cell? ⟨w.heap.size, 1, none⟩ = some (.int .i64 c.pages) := by rw [← hW1]; simp
  have e2 : W1.cell? ⟨w.heap.size, 2, none⟩ = some (.int .i64 c.entities) := by rw [← hW1]; simp
  have e3 : W1.cell? ⟨w.heap.size, 3, none⟩ = some (.int .i64 c.gens) := by rw [← hW1]; simp
  have e4 : W1.cell? ⟨w.heap.size, 4, none⟩ = some (.slice A c.comps.length cap) := by rw [← hW1]; simp
  go_enter Try.func112, Try.ntmps112
  go_wp2_with fail
  try rw [hW1]
  clear hW1
  go_wp2_with fail
  go_loopw [3] (fun i wr => ∃ k : Nat, i = .int .i64 k ∧ k ≤ c.comps.length ∧ Hid ((List.range k).all (compOk c.comps) = true) ∧ Below (w.heap.size + 1) W1 wr)
    (fun i _ => c.comps.length - (intOf i).toNat)
  case atStart => exact ⟨0, rfl, by omega, rfl, Below.refl _ _⟩
  case round =>
    obtain ⟨k, rfl, hk, hall, hb1⟩ := hrel
    have E0 := (hb1.cell (p := ⟨w.heap.size, 0, none⟩) (Nat.lt_succ_self _)).trans e0
    have E1 := (hb1.cell (p := ⟨w.heap.size, 1, none⟩) (Nat.lt_succ_self _)).trans e1
    have E2 := (hb1.cell (p := ⟨w.heap.size, 2, none⟩) (Nat.lt_succ_self _)).trans e2
    have E3 := (hb1.cell (p := ⟨w.heap.size, 3, none⟩) (Nat.lt_succ_self _)).trans e3
    have E4 := (hb1.cell (p := ⟨w.heap.size, 4, none⟩) (Nat.lt_succ_self _)).trans e4
    have hb0 : Below w.heap.size w wr := hbel.trans (hb1.mono (by omega))
    have HB1 := Lib.hid hb1
    clear hb1
    by_cases hlt : (k : Int) < c.comps.length
    · have hk' : k < c.comps.length := by omega
      have hAw : rComp.At (fun b => b < w.heap.size) wr A c.comps := Rep.At.keep (w := w) (fun b _ hb => ⟨hb.lt, hb0.block b hb.lt⟩) HX.out
      obtain ⟨b, off, rfl, hb, cx0, cx1, g0, g1⟩ := rComp_at hAw (List.getElem?_eq_getElem hk')
      generalize hxx : c.comps[k] = x at *
      have HXX := Lib.hid hxx
      have HV := Lib.hid (show ∀ W, Below wr.heap.size wr W → rConf.val (fun _ => True) W (.agg #[.int .i64 c.log, .int .i64 c.pages, .int .i64 c.entities, .int .i64 c.gens, .slice (some ⟨b, off, none⟩) c.comps.length cap]) c from
        fun W hW => rConf_agg f0 f1 f2 f3 ⟨hc1, by unfold maxLen; omega, hAw.keep (w := wr) (w' := W) fun b _ hb => ⟨trivial, hW.block b hb.lt⟩⟩)
      have hl : w.heap.size < wr.heap.size := by have := HB1.out.size; omega
      have hbl := hb.lt
      clear hxx hAw
      go_wp2_with fail
      go_region_held3 (fun w' => w'.cell? ⟨w.heap.size, 0, none⟩ = some (.int .i64 c.log) ∧ w'.cell? ⟨w.heap.size, 1, none⟩ = some (.int .i64 c.pages) ∧ w'.cell? ⟨w.heap.size, 2, none⟩ = some (.int .i64 c.entities) ∧ w'.cell? ⟨w.heap.size, 3, none⟩ = some (.int .i64 c.gens) ∧ w'.cell? ⟨w.heap.size, 4, none⟩ = some (.slice (some ⟨b, off, none⟩) c.comps.length cap) ∧ w'.cell? ⟨b, off + k * 2, none⟩ = some (.string ⟨x.name.toArray⟩) ∧ Below wr.heap.size wr w')
        (first
          | exact ⟨E0, E1, E2, E3, E4, cx0, (Below.refl _ _).drew⟩
          | exact ⟨(hbf.cell (p := ⟨w.heap.size, 0, none⟩) hl).trans E0, (hbf.cell (p := ⟨w.heap.size, 1, none⟩) hl).trans E1, (hbf.cell (p := ⟨w.heap.size, 2, none⟩) hl).trans E2, (hbf.cell (p := ⟨w.heap.size, 3, none⟩) hl).trans E3, (hbf.cell (p := ⟨w.heap.size, 4, none⟩) hl).trans E4, (hbf.cell (p := ⟨b, off + k * 2, none⟩) hbl).trans cx0, (Below.refl wr.heap.size wr).drew.trans hbf⟩)
        (first | (go_at_call 155; refine (find_calls (HV.out _ ((Below.refl _ _).drew))).mono ?_; rintro e w' ⟨hbf, i, bb, rfl, hfr⟩))
      rename_i hHeld
      have hW : Below wr.heap.size wr w' := (Below.refl wr.heap.size wr).drew.trans hbf
      have F4 := (hW.cell (p := ⟨w.heap.size, 4, none⟩) hl).trans E4
      have G0 := (hW.cell (p := ⟨b, off + k * 2, none⟩) hbl).trans cx0
      have G1 := (hW.cell (p := ⟨b, off + k * 2 + 1, none⟩) hbl).trans cx1
      have HBW := Lib.hid (HB1.out.trans (hW.mono (by omega)))
      clear hbf hHeld hW E0 E1 E2 E3 E4 cx0 cx1
      rcases hfr with ⟨rfl, hpre, hi, hname⟩ | ⟨_, hno⟩
      · have hik : i ≤ k := by
          rcases Nat.lt_or_ge k i with h | h
          · have hm : x ∈ c.comps.take i := by rw [← HXX.out]; exact List.mem_take_iff_getElem.2 ⟨k, by omega, rfl⟩
            have := List.all_eq_true.1 hpre x hm
            simp at this
          · exact h
        rcases Nat.lt_or_ge i k with hlt2 | hge2
        · have HF := Lib.hid (show confRight c = false by rw [HR.out]; exact range_not_all hk' (compOk_dup hlt2 hk' HXX.out hi rfl hname))
          have hne : ((i : Int) != (k : Int)) = true := by simp; omega
          clear hpre hname hi
          go_wp2_with fail
          go_ret
          exact ⟨by rw [HF.out]; rfl, hbel.trans (HBW.out.mono (by omega))⟩
        · obtain rfl : i = k := by omega
          have hcomp : compOk c.comps i = (nameB x.name && withinB x.size 0 64) := by
            unfold compOk
            rw [List.getElem?_eq_getElem hk', HXX.out]
            simp only [hpre, Bool.true_and]
          have hne : ((i : Int) != (i : Int)) = false := by simp
          clear hpre hname hi hge2
          cases hn : nameB x.name with
          | false =>
            have HN := Lib.hid hn
            have HF := Lib.hid (show confRight c = false by rw [HR.out]; exact range_not_all hk' (by rw [hcomp, hn]; rfl))
            clear hn hcomp
            go_wp2_with (go_at_call 156; refine (rname_calls _ _ g0).mono ?_; rintro e w2 ⟨rfl, nd, rfl⟩; rw [HN.out])
            go_ret
            exact ⟨by rw [HF.out]; rfl, below_drewN (hbel.trans (HBW.out.mono (by omega))) _⟩
          | true =>
            have HN := Lib.hid hn
            by_cases s0 : x.size < 0
            · have HF := Lib.hid (show confRight c = false by rw [HR.out]; exact range_not_all hk' (by rw [hcomp, hn]; simp [withinB]; omega))
              clear hn hcomp
              go_wp2_with (go_at_call 156; refine (rname_calls _ _ g0).mono ?_; rintro e w2 ⟨rfl, nd, rfl⟩; rw [HN.out])
              go_ret
              exact ⟨by rw [HF.out]; rfl, below_drewN (hbel.trans (HBW.out.mono (by omega))) _⟩
            by_cases s1 : 64 < x.size
            · have HF := Lib.hid (show confRight c = false by rw [HR.out]; exact range_not_all hk' (by rw [hcomp, hn]; simp [withinB]; omega))
              clear hn hcomp
              go_wp2_with (go_at_call 156; refine (rname_calls _ _ g0).mono ?_; rintro e w2 ⟨rfl, nd, rfl⟩; rw [HN.out])
              go_ret
              exact ⟨by rw [HF.out]; rfl, below_drewN (hbel.trans (HBW.out.mono (by omega))) _⟩
            have HA := Lib.hid (range_all_succ hall (by rw [hcomp, hn]; simp [withinB]; omega))
            clear hn hcomp
            go_wp2_with (go_at_call 156; refine (rname_calls _ _ g0).mono ?_; rintro e w2 ⟨rfl, nd, rfl⟩; rw [HN.out])
            exact ⟨⟨i + 1, by go_num, by omega, HA, below_drewN HBW.out _⟩, by simp [intOf]; omega⟩
      · exfalso
        have hm : x ∈ c.comps := by rw [← HXX.out]; exact List.getElem_mem hk'
        have := List.all_eq_true.1 hno x hm
        simp at this
    · obtain rfl : k = c.comps.length := by omega
      have HF := Lib.hid (show confRight c = true by rw [HR.out]; exact hall.out)
      clear hall
      go_wp2_with fail
      go_ret
      exact ⟨by rw [HF.out]; rfl, hb0⟩
end Go.Proofs.Ythjjnlilpklacaa
/- Walks of a layout as0 bytes. -/
namespace Go.Proofs.Ythjjnlilpklacaa
open Go.RowKit

/-- 'append(s, xs...)' of values without blocks of their own, as0 a step of a region that draws its order. -/
theorem step_spread_leaf {α : Type} {r : Rep α} {e base : Nat} {Q Q' : Nat → Prop} {P : Program} {w : World} {ops : Array Oper} {o : Oper} {a : Act} {K : Act → World → Prop} {R : Exit → Act → World → Prop} {E : Prop} (hleaf : r.Leaf) (hg : o.guard = none) (s x : Operand) (t : TypeId)
    (ho : o.op = .call { callee := .builtin .append, args := #[s, x], argTypes := #[t, t] })
    (z : Value) (size bytes : Nat) (ht : P.underlying t = some (.slice e)) (hi : (P.info? e).map (fun i => (i.zero, i.size, i.bytes)) = some (some z, size, bytes)) (hzs : z.cells.size = size) (hsz : 0 < size)
    (hr : r.size = size) (v : Value) (xs : List α) (hs : a.eval s = v) (h : r.acc e base Q w v xs) (u : Value) (ys : List α) (hx : a.eval x = u) (hy : r.list.val Q' w u ys)
    (h63 : xs.length + ys.length ≤ maxLen) (hbytes : (xs.length + ys.length) * bytes ≤ 140737488355328) (hbase : base ≤ w.heap.size)
    (H : ∀ v' w', r.acc e base Q w' v' (xs ++ ys) → w.grownBy w' v.ownBlock → (v'.ownBlock = v.ownBlock ∨ v'.ownBlock = some w.heap.size) → K (a.put o.dst v') w') :
    if Region.wanted o (yielded ops a.tmps) = true then Oper.wp P o a w K R else E := by
  have hw : Region.wanted o (yielded ops a.tmps) = true := by simp [Region.wanted, hg]
  rw [if_pos hw]
  obtain ⟨A, c, rfl, h1, h2, es, h3, h4⟩ := Rep.val_list hy
  obtain ⟨v', w', q1, q2, q3, q4⟩ := Rep.acc_more (P := P) (ty := o.type) (c := c) ht hi hzs hsz hr h rfl (Rep.row_leaf hleaf h3)
    (fun hn => by obtain ⟨b, off, q1, _, _, q2⟩ := h4 hn; exact ⟨b, off, q1, q2⟩) h63 hbytes hbase
  unfold Oper.wp execOp
  simp only [ho, resolve, invoke, builtin, Sem.run_bind, Sem.run_pure, Result.andThen_ok, List.map_toArray, List.map_cons, List.map_nil, hs, hx, q1]
  exact H v' w' q2 q3 q4

def compBytes (x : DComp) : List UInt8 := textBytes x.name ++ num 1 x.size
def headOf (c : DConf) : List Int := [c.log, c.pages, c.entities, c.gens]
def headBytes (c : DConf) : List UInt8 := ((headOf c).map (num 4)).flatten ++ num 1 c.comps.length
def confBytes (c : DConf) : List UInt8 := headBytes c ++ (c.comps.map compBytes).flatten

theorem textBytes_length (s : List UInt8) : (textBytes s).length ≤ 65543 := by
  have := num_length 2 (s.take 65535).length
  simp only [textBytes, List.length_append, List.length_take] at *
  omega
theorem compBytes_length (x : DComp) : (compBytes x).length ≤ 65551 := by
  have h1 := textBytes_length x.name
  have h2 := num_length 1 x.size
  simp only [compBytes, List.length_append]; omega
theorem flatten_le {α : Type} (f : α → List UInt8) (n : Nat) (h : ∀ x, (f x).length ≤ n) : ∀ l : List α, ((l.map f).flatten).length ≤ n * l.length
  | [] => by simp
  | x :: l => by
    have := flatten_le f n h l
    have := h x
    simp only [List.map_cons, List.flatten_cons, List.length_append, List.length_cons, Nat.mul_succ]; omega
theorem take_flatten_succ {α : Type} (f : α → List UInt8) {l : List α} {k : Nat} (hk : k < l.length) : ((l.take (k + 1)).map f).flatten = ((l.take k).map f).flatten ++ f l[k] := by
  rw [List.take_succ_eq_append_getElem hk, List.map_append, List.flatten_append]; simp

theorem wf4 : (Lit.int .i64 4).wf = true := rfl
theorem wf1 : (Lit.int .i64 1).wf = true := rfl

end Go.Proofs.Ythjjnlilpklacaa
/- Walk of the reference's layout as0 bytes. -/
namespace Go.Proofs.Ythjjnlilpklacaa
open Go.RowKit

theorem rnum_at {w : World} {width n : Int} {B : Nat} (hB : B ≤ w.heap.size) (hw : (Lit.int .i64 width).wf = true) (hn : (Lit.int .i64 n).wf = true) :
    Calls Try.prog 107 #[.int .i64 width, .int .i64 n] w fun e w' => ∃ u, e = .returned u ∧ Rep.byte.acc 5 B (fun _ => False) w' u (num width n) ∧ Below w.heap.size w w' :=
  (rnum_calls hw hn).mono fun _ _ ⟨u, h1, h2, h3⟩ => ⟨u, h1, Rep.acc_base hB h2, h3⟩
end Go.Proofs.Ythjjnlilpklacaa
/- Walks of the counts of pages. -/
namespace Go.Proofs.Ythjjnlilpklacaa
open Go.RowKit

def setsAt (c : DConf) (k : Nat) : Int := min (2 ^ k) c.entities
def sumSizes : List DComp → Int
  | [] => 0
  | x :: l => x.size + sumSizes l
theorem sumSizes_append : ∀ l m : List DComp, sumSizes (l ++ m) = sumSizes l + sumSizes m
  | [], m => by simp [sumSizes]
  | x :: l, m => by simp only [List.cons_append, sumSizes, sumSizes_append l m]; omega
theorem sumSizes_succ {l : List DComp} {k : Nat} (hk : k < l.length) : sumSizes (l.take (k + 1)) = sumSizes (l.take k) + l[k].size := by
  rw [List.take_succ_eq_append_getElem hk, sumSizes_append]; simp [sumSizes]
def streamsOf (c : DConf) : Int := 2 + setsAt c c.comps.length * (c.comps.length + 1)
def dataOf (c : DConf) : Int := (confBytes c).length + 8 + c.entities * (16 + sumSizes c.comps)
def pagesOf (c : DConf) : Int := streamsOf c + dataOf c / 472
def dirOf (c : DConf) : Int := pageCount (2 + 16 * streamsOf c + 2 * pagesOf c)
def mostOf (c : DConf) : Int := if confRight c then pagesOf c + dirOf c else 0
def ampleOf (c : DConf) : Bool := confRight c && decide (3 * (pagesOf c + dirOf c) ≤ c.pages) && decide (dirOf c ≤ 222)

theorem right_facts {c : DConf} (h : confRight c = true) : (2 ≤ c.log ∧ c.log ≤ 1024 ∧ 4 ≤ c.pages ∧ c.pages ≤ 1024 ∧ 1 ≤ c.entities ∧ c.entities ≤ 1024 ∧ 1 ≤ c.gens ∧ c.gens ≤ 1073741824 ∧ c.comps.length ≤ 32) ∧
    ∀ (k : Nat) (hk : k < c.comps.length), 0 ≤ c.comps[k].size ∧ c.comps[k].size ≤ 64 ∧ c.comps[k].name.length ≤ 16 := by
  simp only [confRight, Bool.and_eq_true] at h
  obtain ⟨h1, h2⟩ := h
  refine ⟨?_, fun k hk => ?_⟩
  · simp only [confRange, withinB, Bool.and_eq_true, decide_eq_true_eq] at h1; omega
  · have h3 := List.all_eq_true.1 h2 k (List.mem_range.2 hk)
    unfold compOk at h3
    rw [List.getElem?_eq_getElem hk] at h3
    simp only [Bool.and_eq_true] at h3
    obtain ⟨⟨_, h4⟩, h5⟩ := h3
    simp only [withinB, decide_eq_true_eq] at h5
    simp only [nameB, Bool.and_eq_true, decide_eq_true_eq] at h4
    exact ⟨h5.1, h5.2, h4.1.2⟩

theorem sumSizes_bound {c : DConf} (h : confRight c = true) : ∀ k, k ≤ c.comps.length → 0 ≤ sumSizes (c.comps.take k) ∧ sumSizes (c.comps.take k) ≤ 64 * k
  | 0, _ => by simp [sumSizes]
  | k + 1, hk => by
    have h1 := sumSizes_bound h k (by omega)
    have h2 := (right_facts h).2 k (by omega)
    rw [sumSizes_succ (by omega)]; omega

theorem setsAt_bound {c : DConf} (h : confRight c = true) (k : Nat) : 1 ≤ setsAt c k ∧ setsAt c k ≤ 1024 ∧ setsAt c k ≤ c.entities := by
  have h1 := (right_facts h).1
  have h2 : (1 : Int) ≤ 2 ^ k := by exact_mod_cast Nat.one_le_two_pow
  unfold setsAt; omega
theorem setsAt_zero {c : DConf} (h : confRight c = true) : setsAt c 0 = 1 := by
  have h1 := (right_facts h).1
  unfold setsAt
  simp only [Int.pow_zero]; omega
theorem setsAt_succ {c : DConf} (h : confRight c = true) (k : Nat) : setsAt c (k + 1) = min (2 * setsAt c k) c.entities := by
  have h1 := (right_facts h).1
  have h2 : (1 : Int) ≤ 2 ^ k := by exact_mod_cast Nat.one_le_two_pow
  unfold setsAt
  rw [Int.pow_succ]; omega

theorem mul_bounds {a b A B : Int} (h1 : 0 ≤ a) (h2 : a ≤ A) (h3 : 0 ≤ b) (h4 : b ≤ B) : 0 ≤ a * b ∧ a * b ≤ A * B :=
  ⟨Int.mul_nonneg h1 h3, Int.mul_le_mul h2 h4 h3 (by omega)⟩

theorem confBytes_length {c : DConf} (h : c.comps.length ≤ 32) : (confBytes c).length ≤ 2100000 := by
  have h1 := flatten_le compBytes 65551 compBytes_length c.comps
  have h2 := flatten_le (num 4) 8 (num_length 4) (headOf c)
  have h3 := num_length 1 c.comps.length
  have h4 : (headOf c).length = 4 := rfl
  simp only [confBytes, headBytes, List.length_append] at *; omega

theorem count_bounds {c : DConf} (h : confRight c = true) : 2 ≤ streamsOf c ∧ streamsOf c ≤ 33794 ∧ 0 ≤ dataOf c ∧ dataOf c ≤ 4300000 ∧ 0 ≤ pagesOf c ∧ pagesOf c ≤ 50000 ∧ 0 ≤ dirOf c ∧ dirOf c ≤ 10000 := by
  have h1 := right_facts h
  have h2 := setsAt_bound h c.comps.length
  have h3 := mul_bounds (a := setsAt c c.comps.length) (b := (c.comps.length : Int) + 1) (A := 1024) (B := 33) (by omega) (by omega) (by omega) (by omega)
  have h4 := sumSizes_bound h c.comps.length (Nat.le_refl _)
  rw [List.take_length] at h4
  have h5 := mul_bounds (a := c.entities) (b := 16 + sumSizes c.comps) (A := 1024) (B := 2064) (by omega) (by omega) (by omega) (by omega)
  have h6 := confBytes_length (c := c) (by omega)
  have hs : 2 ≤ streamsOf c ∧ streamsOf c ≤ 33794 := by unfold streamsOf; omega
  have hd : 0 ≤ dataOf c ∧ dataOf c ≤ 4300000 := by unfold dataOf; omega
  have hp : 0 ≤ pagesOf c ∧ pagesOf c ≤ 50000 := by unfold pagesOf; omega
  refine ⟨hs.1, hs.2, hd.1, hd.2, hp.1, hp.2, ?_⟩
  unfold dirOf pageCount
  split <;> omega
end Go.Proofs.Ythjjnlilpklacaa
/- Walk of policy.count. -/
namespace Go.Proofs.Ythjjnlilpklacaa
open Go.RowKit

theorem heap_setCell_row {w : World} {b i e : Nat} {cs : Array Value} {v : Value} {f : Nat × Nat} (h : w.heap[b]? = some (.cells cs e f)) : (w.setCell ⟨b, i, none⟩ v).heap[b]? = some (.cells (cs.setIfInBounds i v) e f) := by
  simp [World.setCell, Array.getElem?_modify, h]

end Go.Proofs.Ythjjnlilpklacaa
/- Walk of the reference's counts. -/
namespace Go.Proofs.Ythjjnlilpklacaa
open Go.RowKit

theorem pow_le {k n : Nat} (h : k ≤ n) : (2 : Int) ^ k ≤ 2 ^ n := by exact_mod_cast Nat.pow_le_pow_right (by decide) h
theorem setsAt_full {c : DConf} {k n : Nat} (hk : k ≤ n) (h : c.entities ≤ 2 ^ k) : setsAt c n = c.entities := by
  have := pow_le hk
  unfold setsAt; omega
theorem setsAt_pow {c : DConf} {n : Nat} (h : 2 ^ n ≤ c.entities) : setsAt c n = 2 ^ n := by unfold setsAt; omega
theorem data_sum (e s l : Int) : l + 8 + 16 * e + e * s = l + 8 + e * (16 + s) := by rw [Int.mul_add]; omega
theorem mul_step (e s x b : Int) : b + e * s + e * x = b + e * (s + x) := by rw [Int.mul_add]; omega

end Go.Proofs.Ythjjnlilpklacaa
/- Walks of Most, Ample and Due, both. -/
namespace Go.Proofs.Ythjjnlilpklacaa
open Go.RowKit

/-- A layout in a box, and what reads it. -/
structure InBox (W : World) (B : Nat) (c : DConf) (A : Option Addr) (cap : Nat) : Prop where
  c0 : W.cell? ⟨B, 0, none⟩ = some (.int .i64 c.log)
  c1 : W.cell? ⟨B, 1, none⟩ = some (.int .i64 c.pages)
  c2 : W.cell? ⟨B, 2, none⟩ = some (.int .i64 c.entities)
  c3 : W.cell? ⟨B, 3, none⟩ = some (.int .i64 c.gens)
  c4 : W.cell? ⟨B, 4, none⟩ = some (.slice A c.comps.length cap)
  val : rConf.val (fun b => b < B) W (.agg #[.int .i64 c.log, .int .i64 c.pages, .int .i64 c.entities, .int .i64 c.gens, .slice A c.comps.length cap]) c
theorem InBox.later {W W' : World} {B : Nat} {c : DConf} {A : Option Addr} {cap : Nat} (h : InBox W B c A cap) (hb : Below (B + 1) W W') : InBox W' B c A cap :=
  ⟨(hb.cell (p := ⟨B, 0, none⟩) (Nat.lt_succ_self _)).trans h.c0, (hb.cell (p := ⟨B, 1, none⟩) (Nat.lt_succ_self _)).trans h.c1, (hb.cell (p := ⟨B, 2, none⟩) (Nat.lt_succ_self _)).trans h.c2,
   (hb.cell (p := ⟨B, 3, none⟩) (Nat.lt_succ_self _)).trans h.c3, (hb.cell (p := ⟨B, 4, none⟩) (Nat.lt_succ_self _)).trans h.c4, Rep.val_keep (fun b hq _ => ⟨hq, hb.block b (by omega)⟩) h.val⟩
theorem InBox.made {Q : Nat → Prop} {w : World} {c : DConf} {A : Option Addr} {cap : Nat} (h : rConf.val Q w (.agg #[.int .i64 c.log, .int .i64 c.pages, .int .i64 c.entities, .int .i64 c.gens, .slice A c.comps.length cap]) c) (t : TypeId) :
    InBox (w.alloc (.cells #[.int .i64 c.log, .int .i64 c.pages, .int .i64 c.entities, .int .i64 c.gens, .slice A c.comps.length cap] t)) w.heap.size c A cap :=
  ⟨by simp, by simp, by simp, by simp, by simp, Rep.val_keep (w := w) (fun _ _ hl => ⟨hl.lt, Below.heap_alloc _ _ _ hl.lt⟩) h⟩

end Go.Proofs.Ythjjnlilpklacaa
/- An element of an array by value. -/
namespace Go.Proofs.Ythjjnlilpklacaa
open Go.RowKit

set_option maxRecDepth 100000 in
/-- policy.Due, ref28.Due -/
def dueOf (p : DPolicy) (room frames : Int) : Bool := decide (room < p.room) || (decide (0 < p.frames) && decide (p.frames ≤ frames))

end Go.Proofs.Ythjjnlilpklacaa
