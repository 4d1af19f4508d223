/- Texts on which the proofs stand: Idx, CmdCheck, FrameCheck, Geom. No condition is laid on any input. -/
import Derived.Test.YtfpmkenobphfnaaDpG12
/- An element of an array by value. -/
namespace Go.Proofs.Ytfpmkenobphfnaa
open Go.RowKit

set_option maxRecDepth 100000 in
/-- policy.Due, ref28.Due -/
def dueOf (p : DPolicy) (room frames : Int) : Bool := decide (room < p.room) || (decide (0 < p.frames) && decide (p.frames ≤ frames))

end Go.Proofs.Ytfpmkenobphfnaa
/- Walks of the checks of commands and of frames, both. -/
namespace Go.Proofs.Ytfpmkenobphfnaa
open Go.RowKit

def knownB (k : Int) : Bool := decide (0 ≤ k) && decide (k ≤ 3)
def checkCmd (x : DCmd) : Int := if knownB x.kind then (if 64 < x.data.length then 13 else 0) else 1
def firstBad : List DCmd → Int
  | [] => 0
  | x :: xs => if checkCmd x = 0 then firstBad xs else checkCmd x
def checkFrame (l : List DCmd) : Int := if 64 < l.length then 13 else firstBad l

theorem firstBad_none : ∀ {l : List DCmd}, (∀ x ∈ l, checkCmd x = 0) → firstBad l = 0
  | [], _ => rfl
  | x :: xs, h => by
    unfold firstBad
    rw [if_pos (h x (by simp))]
    exact firstBad_none fun y hy => h y (by simp [hy])
theorem firstBad_at : ∀ {l : List DCmd} {k : Nat} (hk : k < l.length), (∀ x ∈ l.take k, checkCmd x = 0) → checkCmd l[k] ≠ 0 → firstBad l = checkCmd l[k]
  | [], k, hk, _, _ => by simp at hk
  | x :: xs, 0, hk, _, h => by
    unfold firstBad
    rw [if_neg (show ¬ checkCmd x = 0 from h)]; rfl
  | x :: xs, k + 1, hk, h, h2 => by
    unfold firstBad
    rw [if_pos (h x (by simp))]
    exact firstBad_at (by simp at hk; omega) (fun y hy => h y (by simp [hy])) h2
theorem firstBad_zero : ∀ {l : List DCmd}, firstBad l = 0 → ∀ x ∈ l, checkCmd x = 0
  | [], _, x, hx => by simp at hx
  | y :: ys, h, x, hx => by
    unfold firstBad at h
    split at h
    · rename_i h0
      rcases List.mem_cons.1 hx with rfl | hx
      · exact h0
      · exact firstBad_zero h x hx
    · rename_i h0; exact absurd h h0

set_option maxRecDepth 100000 in
/-- cmd.known -/
theorem known_calls (k : Int) (w : World) :
    Calls Try.prog 272 #[.int .i64 k] w fun e w' => e = .returned (.bool (knownB k)) ∧ w' = w := by
  obtain ⟨r, hr⟩ : ∃ r, r = knownB k := ⟨_, rfl⟩
  rw [← hr]
  unfold knownB at hr
  rcases dec_split (0 ≤ k) with t1 | ⟨t1, d1⟩ <;> rcases dec_split (k ≤ 3) with t2 | ⟨t2, d2⟩
  all_goals
    simp [*] at hr
    subst hr
    go_enter Try.func272, Try.ntmps272
    go_wp2_with fail
    go_ret
    exact ⟨by first | rfl | (simp only [*]; rfl), rfl⟩

/-- A command in a box. -/
structure CmdBox (W : World) (B : Nat) (x : DCmd) (A : Option Addr) (c : Nat) : Prop where
  c0 : W.cell? ⟨B, 0, none⟩ = some (.int .i64 x.kind)
  c1 : W.cell? ⟨B, 1, none⟩ = some (.bool x.loc)
  c2 : W.cell? ⟨B, 2, none⟩ = some (.int .i64 x.id.index)
  c3 : W.cell? ⟨B, 3, none⟩ = some (.int .i64 x.id.gen)
  c4 : W.cell? ⟨B, 4, none⟩ = some (.int .i64 x.comp)
  c5 : W.cell? ⟨B, 5, none⟩ = some (.slice A x.data.length c)
  val : rCmd.val (fun b => b < B) W (.agg #[.int .i64 x.kind, .bool x.loc, .int .i64 x.id.index, .int .i64 x.id.gen, .int .i64 x.comp, .slice A x.data.length c]) x
theorem CmdBox.later {W W' : World} {B : Nat} {x : DCmd} {A : Option Addr} {c : Nat} (h : CmdBox W B x A c) (hb : Below (B + 1) W W') : CmdBox W' B x A c :=
  ⟨(hb.cell (p := ⟨B, 0, none⟩) (Nat.lt_succ_self _)).trans h.c0, (hb.cell (p := ⟨B, 1, none⟩) (Nat.lt_succ_self _)).trans h.c1, (hb.cell (p := ⟨B, 2, none⟩) (Nat.lt_succ_self _)).trans h.c2,
   (hb.cell (p := ⟨B, 3, none⟩) (Nat.lt_succ_self _)).trans h.c3, (hb.cell (p := ⟨B, 4, none⟩) (Nat.lt_succ_self _)).trans h.c4, (hb.cell (p := ⟨B, 5, none⟩) (Nat.lt_succ_self _)).trans h.c5, Rep.val_keep (fun b hq _ => ⟨hq, hb.block b (by omega)⟩) h.val⟩
theorem CmdBox.made {Q : Nat → Prop} {w : World} {x : DCmd} {A : Option Addr} {c : Nat} (h : rCmd.val Q w (.agg #[.int .i64 x.kind, .bool x.loc, .int .i64 x.id.index, .int .i64 x.id.gen, .int .i64 x.comp, .slice A x.data.length c]) x) (t : TypeId) :
    CmdBox (w.alloc (.cells #[.int .i64 x.kind, .bool x.loc, .int .i64 x.id.index, .int .i64 x.id.gen, .int .i64 x.comp, .slice A x.data.length c] t)) w.heap.size x A c :=
  ⟨by simp, by simp, by simp, by simp, by simp, by simp, Rep.val_keep (w := w) (fun _ _ hl => ⟨hl.lt, Below.heap_alloc _ _ _ hl.lt⟩) h⟩

set_option maxRecDepth 100000 in
set_option maxHeartbeats 1000000 in
/-- ref13.Check -/
theorem rcmdCheck_calls {Q : Nat → Prop} {w : World} {v : Value} {x : DCmd} (hx : rCmd.val Q w v x) :
    Calls Try.prog 121 #[v] w fun e w' => e = .returned (.int .i64 (checkCmd x)) ∧ Below w.heap.size w w' := by
  obtain ⟨A, c, rfl, _, _, _, _, hs⟩ := rCmd_val hx
  have hm := CmdBox.made hx 177
  have hs1 := hs.1
  have hs2 := hs.2.1
  unfold maxLen at hs2
  have hbel : Below w.heap.size w (w.alloc (.cells #[.int .i64 x.kind, .bool x.loc, .int .i64 x.id.index, .int .i64 x.id.gen, .int .i64 x.comp, .slice A x.data.length c] 177)) := (Below.refl _ _).alloc (Nat.le_refl _) _
  obtain ⟨W1, hW1⟩ : ∃ W1, w.alloc (.cells #[.int .i64 x.kind, .bool x.loc, .int .i64 x.id.index, .int .i64 x.id.gen, .int .i64 x.comp, .slice A x.data.length c] 177) = W1 := ⟨_, rfl⟩
  rw [hW1] at hm hbel
  obtain ⟨c0, c1, c2, c3, c4, c5, _⟩ := hm
  have HB := Lib.hid hbel
  clear hbel hx hs
  obtain ⟨r, hr⟩ : ∃ r, r = checkCmd x := ⟨_, rfl⟩
  rw [← hr]
  unfold checkCmd knownB at hr
  rcases dec_split (x.kind < 0) with t1 | ⟨t1, d1⟩ <;> rcases dec_split (3 < x.kind) with t2 | ⟨t2, d2⟩ <;> rcases dec_split ((64 : Int) < x.data.length) with t3 | ⟨t3, d3⟩
  all_goals
    try omega
  all_goals
    simp at hr
    (first | rw [if_pos (by omega), if_pos (by omega)] at hr | rw [if_pos (by omega), if_neg (by omega)] at hr | rw [if_neg (by omega)] at hr)
    subst hr
    go_enter Try.func121, Try.ntmps121
    go_wp2_with fail
    try rw [hW1]
    clear hW1
    go_wp2_with fail
    go_ret
    exact ⟨by first | rfl | (simp only [*]; rfl), HB.out⟩
end Go.Proofs.Ytfpmkenobphfnaa
/- Walks of the checks of frames, both; what is too much; what a number of bytes needs; what is due. -/
namespace Go.Proofs.Ytfpmkenobphfnaa
open Go.RowKit

theorem checkFrame_long {l : List DCmd} (h : (64 : Int) < l.length) : checkFrame l = 13 := by unfold checkFrame; rw [if_pos (by omega)]
theorem checkFrame_bad {l : List DCmd} (h : ¬ (64 : Int) < l.length) {k : Nat} (hk : k < l.length) (h1 : ∀ x ∈ l.take k, checkCmd x = 0) (h2 : checkCmd l[k] ≠ 0) : checkFrame l = checkCmd l[k] := by
  unfold checkFrame; rw [if_neg (by omega)]; exact firstBad_at hk h1 h2
theorem checkFrame_good {l : List DCmd} (h : ¬ (64 : Int) < l.length) {k : Nat} (hk : ¬ k < l.length) (h1 : ∀ x ∈ l.take k, checkCmd x = 0) : checkFrame l = 0 := by
  unfold checkFrame; rw [if_neg (by omega)]
  rw [List.take_of_length_le (by omega)] at h1
  exact firstBad_none h1
theorem checks_more {l : List DCmd} {k : Nat} (hk : k < l.length) (h1 : ∀ x ∈ l.take k, checkCmd x = 0) (h2 : checkCmd l[k] = 0) : ∀ x ∈ l.take (k + 1), checkCmd x = 0 := by
  intro x hx
  rw [List.take_add_one, List.getElem?_eq_getElem hk] at hx
  rcases List.mem_append.1 hx with hx | hx
  · exact h1 x hx
  · simp at hx; rw [hx]; exact h2
theorem checkCmd_wf (x : DCmd) : (Lit.int .i64 (checkCmd x)).wf = true := by
  unfold checkCmd; split <;> (try split) <;> rfl

set_option maxRecDepth 100000 in
set_option maxHeartbeats 1000000 in
/-- ref14.Check -/
theorem rframeCheck_calls {Q : Nat → Prop} {w : World} {v : Value} {l : List DCmd} (hx : rCmd.list.val Q w v l) :
    Calls Try.prog 55 #[v] w fun e w' => e = .returned (.int .i64 (checkFrame l)) ∧ Below w.heap.size w w' := by
  obtain ⟨A, c, rfl, hc1, hc2, hA⟩ := Rep.val_list hx
  unfold maxLen at hc2
  by_cases hlong : (64 : Int) < l.length
  · have HF := Lib.hid (checkFrame_long hlong)
    clear hx hA
    go_enter Try.func55, Try.ntmps55
    go_wp2_with fail
    go_ret
    exact ⟨by rw [HF.out]; rfl, Below.refl _ _⟩
  · have HA := Lib.hid hA
    clear hx hA
    go_enter Try.func55, Try.ntmps55
    go_wp2_with fail
    go_loopw [3] (fun i wr => ∃ k : Nat, i = .int .i64 k ∧ k ≤ l.length ∧ Hid (∀ x ∈ l.take k, checkCmd x = 0) ∧ Below w.heap.size w wr)
      (fun i _ => l.length - (intOf i).toNat)
    case atStart => exact ⟨0, rfl, by omega, (by intro x hx; simp at hx), Below.refl _ _⟩
    case round =>
      obtain ⟨k, rfl, hk, hall, hb1⟩ := hrel
      by_cases hlt : (k : Int) < l.length
      · have hk' : k < l.length := by omega
        obtain ⟨b, off, A6, c6, rfl, _, d0, d1, d2, d3, d4, d5, f0, f1, f2, f3, sp⟩ := rCmd_at (HA.out.below hb1 fun _ _ h => h.lt) (List.getElem?_eq_getElem hk')
        have HBad := Lib.hid (checkFrame_bad (show ¬ (64 : Int) < l.length by omega) hk' hall)
        have HMore := Lib.hid (checks_more hk' hall)
        have HA1 := Lib.hid (HA.out.below hb1 fun _ _ h => h.lt)
        generalize hxx : l[k] = x at *
        have HX := Lib.hid ((List.getElem?_eq_getElem hk').trans (congrArg some hxx))
        have HV := Lib.hid (rCmd_agg f0 f1 f2 f3 sp)
        have HB1 := Lib.hid hb1
        clear sp f0 f1 f2 f3 hb1 hall hxx
        by_cases h0 : checkCmd x = 0
        · have H0 := Lib.hid h0
          clear h0
          go_wp2_with fail
          refine (rcmdCheck_calls HV.out).mono ?_
          rintro e w1 ⟨rfl, hb2⟩
          rw [H0.out]
          have HB3 := Lib.hid (HB1.out.trans (hb2.mono HB1.out.size))
          clear hb2
          go_wp2_with fail
          exact ⟨⟨k + 1, by go_num, by omega, HMore.out H0.out, HB3.out⟩, by simp [intOf]; omega⟩
        · have H0 := Lib.hid h0
          have HF := Lib.hid (HBad.out h0)
          have g0 : (checkCmd x == 0) = false := by simp [h0]
          clear h0
          go_wp2_with fail
          refine (rcmdCheck_calls HV.out).mono ?_
          rintro e w1 ⟨rfl, hb2⟩
          have HB3 := Lib.hid (HB1.out.trans (hb2.mono HB1.out.size))
          obtain ⟨b', off', A7, c7, he, _, z0, z1, z2, z3, z4, z5, f0, f1, f2, f3, sp⟩ := rCmd_at (HA1.out.below hb2 fun _ _ h => h.lt) HX.out
          cases he
          have HV2 := Lib.hid (rCmd_agg f0 f1 f2 f3 sp)
          clear hb2 d0 d1 d2 d3 d4 d5 sp f0 f1 f2 f3
          go_wp2_with fail
          refine (rcmdCheck_calls HV2.out).mono ?_
          rintro e w2 ⟨rfl, hb4⟩
          have HB4 := Lib.hid (HB3.out.trans (hb4.mono HB3.out.size))
          go_wp2_with fail
          go_ret
          exact ⟨by rw [HF.out]; rfl, HB4.out⟩
      · have HF := Lib.hid (checkFrame_good (show ¬ (64 : Int) < l.length by omega) (show ¬ k < l.length by omega) hall)
        go_wp2_with fail
        go_ret
        exact ⟨by rw [HF.out]; rfl, hb1⟩

def MuchCmds (w : World) (l : List DCmd) (e : Ending) (w' : World) : Prop := ∃ r : Bool, e = .returned (.bool r) ∧ (r = false → l.length ≤ 70) ∧ w' = w
set_option maxRecDepth 100000 in
/-- ref13.Much -/
theorem muchCmds_calls {Q : Nat → Prop} {w : World} {v : Value} {l : List DCmd} (hx : rCmd.list.val Q w v l) :
    Calls Try.prog 54 #[v] w (MuchCmds w l) := by
  obtain ⟨A, c, rfl, hc1, hc2, hA⟩ := Rep.val_list hx
  unfold maxLen at hc2
  have HA := Lib.hid hA
  clear hx hA
  go_enter Try.func54, Try.ntmps54
  go_wp2_with fail
  go_loop [3] (fun i => ∃ k : Nat, i = .int .i64 k ∧ k ≤ l.length ∧ k ≤ 100) (fun i => l.length - (intOf i).toNat)
  case atStart => exact ⟨0, rfl, by omega, by omega⟩
  case round =>
    obtain ⟨k, rfl, hk, hk5⟩ := hrel
    by_cases hlt : (k : Int) < l.length
    · by_cases h50 : (k : Int) < 100
      · have hk' : k < l.length := by omega
        obtain ⟨b, off, A6, c6, rfl, _, d0, d1, d2, d3, d4, d5, _, _, _, _, sp⟩ := rCmd_at HA.out (List.getElem?_eq_getElem hk')
        have hp1 := sp.1
        have hp2 := sp.2.1
        unfold maxLen at hp2
        generalize l[k] = x at *
        clear sp
        by_cases h2 : (200 : Int) < x.data.length
        · go_wp2_with fail
          go_ret
          exact ⟨true, rfl, (fun h => (by cases h)), rfl⟩
        · go_wp2_with fail
          go_round
          case rel => exact ⟨k + 1, by go_num, by omega, by omega⟩
          case measure => simp [intOf]; omega
      · have h20 : (70 : Int) < l.length := by omega
        go_wp2_with fail
        go_ret
        exact ⟨true, rfl, (fun h => (by cases h)), rfl⟩
    · by_cases h20 : (70 : Int) < l.length
      · go_wp2_with fail
        go_ret
        exact ⟨true, rfl, (fun h => (by cases h)), rfl⟩
      · go_wp2_with fail
        go_ret
        exact ⟨false, rfl, fun _ => by omega, rfl⟩

def needOf (n : Int) : Int := if n ≤ 460 then 1 else (n - 1) / 460 + 1
theorem need_large {n : Int} (h : 460 < n) (hb : n ≤ 9223372036854775807) : 2 ≤ needOf n ∧ needOf n ≤ n ∧ needOf n = (n - 1) / 460 + 1 := by
  unfold needOf; rw [if_neg (by omega)]; omega
set_option maxRecDepth 100000 in
/-- geom.Need -/
theorem need_calls {n : Int} (h0 : n ≤ 9223372036854775807) (w : World) :
    Calls Try.prog 177 #[.int .i64 n] w fun e w' => e = .returned (.int .i64 (needOf n)) ∧ w' = w := by
  by_cases h : n ≤ 460
  · have HF := Lib.hid (show needOf n = 1 by unfold needOf; rw [if_pos h])
    go_enter Try.func177, Try.ntmps177
    go_wp2_with fail
    go_ret
    exact ⟨by rw [HF.out]; rfl, rfl⟩
  · have HF := Lib.hid (need_large (by omega) h0).2.2
    go_enter Try.func177, Try.ntmps177
    go_wp2_with fail
    go_ret
    exact ⟨by rw [HF.out]; rfl, rfl⟩
end Go.Proofs.Ytfpmkenobphfnaa
/- Walks of where things lie on a disk. -/
namespace Go.Proofs.Ytfpmkenobphfnaa
open Go.RowKit

def placeB (n : Int) : Bool := decide (0 ≤ n) && decide (n ≤ 281474976710656)
def sectorsOf (c : DConf) : Int := 2 + c.log + c.pages
def logOf (c : DConf) (lsn : Int) : Int := if confRight c && placeB lsn then 2 + lsn % c.log else -1
def roomOf (c : DConf) (head tail : Int) : Int := if confRight c && (placeB head && (placeB tail && (decide (head ≤ tail) && decide (tail - head ≤ c.log)))) then c.log - (tail - head) else -1

set_option maxRecDepth 100000 in
/-- geom.place -/
theorem place_calls (k : Int) (w : World) : Calls Try.prog 175 #[.int .i64 k] w fun e w' => e = .returned (.bool (placeB k)) ∧ w' = w := by
  obtain ⟨r, hr⟩ : ∃ r, r = placeB k := ⟨_, rfl⟩
  rw [← hr]
  unfold placeB at hr
  rcases dec_split (0 ≤ k) with t1 | ⟨t1, d1⟩ <;> rcases dec_split (k ≤ 281474976710656) with t2 | ⟨t2, d2⟩
  all_goals
    simp [*] at hr
    subst hr
    go_enter Try.func175, Try.ntmps175
    go_wp2_with fail
    go_ret
    exact ⟨by first | rfl | (simp only [*]; rfl), rfl⟩
set_option maxRecDepth 100000 in
/-- wal.place -/
theorem walPlace_calls (k : Int) (w : World) : Calls Try.prog 120 #[.int .i64 k] w fun e w' => e = .returned (.bool (placeB k)) ∧ w' = w := by
  obtain ⟨r, hr⟩ : ∃ r, r = placeB k := ⟨_, rfl⟩
  rw [← hr]
  unfold placeB at hr
  rcases dec_split (0 ≤ k) with t1 | ⟨t1, d1⟩ <;> rcases dec_split (k ≤ 281474976710656) with t2 | ⟨t2, d2⟩
  all_goals
    simp [*] at hr
    subst hr
    go_enter Try.func120, Try.ntmps120
    go_wp2_with fail
    go_ret
    exact ⟨by first | rfl | (simp only [*]; rfl), rfl⟩

theorem check_right {c : DConf} (h : confRight c = true) : checkOf (confRight c) = 0 := by rw [h]; rfl
theorem check_wrong {c : DConf} (h : confRight c = false) : checkOf (confRight c) = 1 := by rw [h]; rfl

set_option maxRecDepth 100000 in
set_option maxHeartbeats 1000000 in
/-- geom.right -/
theorem geomRight_calls {Q : Nat → Prop} {w : World} {v : Value} {c : DConf} (hx : rConf.val Q w v c) :
    Calls Try.prog 174 #[v] w fun e w' => e = .returned (.bool (confRight c)) ∧ Below w.heap.size w w' := by
  obtain ⟨A, cap, rfl, _⟩ := rConf_val hx
  have hm := InBox.made hx 24
  have hbel : Below w.heap.size w (w.alloc (.cells #[.int .i64 c.log, .int .i64 c.pages, .int .i64 c.entities, .int .i64 c.gens, .slice A c.comps.length cap] 24)) := (Below.refl _ _).alloc (Nat.le_refl _) _
  generalize hW1 : w.alloc (.cells #[.int .i64 c.log, .int .i64 c.pages, .int .i64 c.entities, .int .i64 c.gens, .slice A c.comps.length cap] 24) = W1 at *
  have HM := Lib.hid hm
  have HB := Lib.hid hbel
  obtain ⟨a0, a1, a2, a3, a4, _⟩ := hm
  clear hx hbel
  cases hr : confRight c with
  | false =>
    have HR := Lib.hid (check_wrong hr)
    clear hr
    go_enter Try.func174, Try.ntmps174
    go_wp2_with (go_at_call 100; refine (check_calls HM.out.val).mono ?_; rintro e w2 ⟨rfl, hb2⟩; rw [HR.out])
    go_ret
    exact ⟨rfl, HB.out.trans (hb2.mono HB.out.size)⟩
  | true =>
    have HR := Lib.hid (check_right hr)
    clear hr
    go_enter Try.func174, Try.ntmps174
    go_wp2_with (go_at_call 100; refine (check_calls HM.out.val).mono ?_; rintro e w2 ⟨rfl, hb2⟩; rw [HR.out])
    go_ret
    exact ⟨rfl, HB.out.trans (hb2.mono HB.out.size)⟩

set_option maxRecDepth 100000 in
set_option maxHeartbeats 1000000 in
/-- comp.Sectors -/
theorem sectors_calls {Q : Nat → Prop} {w : World} {v : Value} {c : DConf} (hx : rConf.val Q w v c) (hr : confRight c = true) :
    Calls Try.prog 173 #[v] w fun e w' => e = .returned (.int .i64 (sectorsOf c)) ∧ Below w.heap.size w w' := by
  obtain ⟨A, cap, rfl, _⟩ := rConf_val hx
  have hm := InBox.made hx 24
  have hbel : Below w.heap.size w (w.alloc (.cells #[.int .i64 c.log, .int .i64 c.pages, .int .i64 c.entities, .int .i64 c.gens, .slice A c.comps.length cap] 24)) := (Below.refl _ _).alloc (Nat.le_refl _) _
  generalize hW1 : w.alloc (.cells #[.int .i64 c.log, .int .i64 c.pages, .int .i64 c.entities, .int .i64 c.gens, .slice A c.comps.length cap] 24) = W1 at *
  have HB := Lib.hid hbel
  have hf := (right_facts hr).1
  obtain ⟨g1, g2, g3, g4, _⟩ := hf
  obtain ⟨a0, a1, a2, a3, a4, _⟩ := hm
  have HF := Lib.hid (show sectorsOf c = 2 + c.log + c.pages from rfl)
  clear hx hbel hr
  go_enter Try.func173, Try.ntmps173
  go_wp2_with fail
  go_ret
  exact ⟨by rw [HF.out]; rfl, HB.out⟩

set_option maxRecDepth 100000 in
set_option maxHeartbeats 1000000 in
/-- geom.Log -/
theorem geomLog_calls {Q : Nat → Prop} {w : World} {v : Value} {c : DConf} {lsn : Int} (hx : rConf.val Q w v c) :
    Calls Try.prog 128 #[v, .int .i64 lsn] w fun e w' => e = .returned (.int .i64 (logOf c lsn)) ∧ Below w.heap.size w w' := by
  obtain ⟨A, cap, rfl, _⟩ := rConf_val hx
  have hm := InBox.made hx 24
  have hbel : Below w.heap.size w (w.alloc (.cells #[.int .i64 c.log, .int .i64 c.pages, .int .i64 c.entities, .int .i64 c.gens, .slice A c.comps.length cap] 24)) := (Below.refl _ _).alloc (Nat.le_refl _) _
  have hsz : (w.alloc (.cells #[.int .i64 c.log, .int .i64 c.pages, .int .i64 c.entities, .int .i64 c.gens, .slice A c.comps.length cap] 24)).heap.size = w.heap.size + 1 := by simp
  generalize hW1 : w.alloc (.cells #[.int .i64 c.log, .int .i64 c.pages, .int .i64 c.entities, .int .i64 c.gens, .slice A c.comps.length cap] 24) = W1 at *
  have HM := Lib.hid hm
  have HB := Lib.hid hbel
  have HS := Lib.hid hsz
  obtain ⟨a0, a1, a2, a3, a4, _⟩ := hm
  clear hx hbel hsz
  cases hr : confRight c with
  | false =>
    have HR := Lib.hid hr
    have HF := Lib.hid (show logOf c lsn = -1 by unfold logOf; rw [hr]; rfl)
    clear hr
    go_enter Try.func128, Try.ntmps128
    go_wp2_with (go_at_call 174; refine (geomRight_calls HM.out.val).mono ?_; rintro e w2 ⟨rfl, hb2⟩; rw [HR.out])
    go_ret
    exact ⟨by rw [HF.out]; rfl, HB.out.trans (hb2.mono HB.out.size)⟩
  | true =>
    have HR := Lib.hid hr
    have hf := (right_facts hr).1
    obtain ⟨g1, g2, _⟩ := hf
    cases hp : placeB lsn with
    | false =>
      have HP := Lib.hid hp
      have HF := Lib.hid (show logOf c lsn = -1 by unfold logOf; rw [hr, hp]; rfl)
      clear hr hp
      go_enter Try.func128, Try.ntmps128
      go_wp2_with (first
        | (go_at_call 174; refine (geomRight_calls HM.out.val).mono ?_; rintro e w2 ⟨rfl, hb2⟩; rw [HR.out])
        | (go_at_call 175; refine (place_calls _ _).mono ?_; rintro e w3 ⟨rfl, hw⟩; have hw2 := hw.symm; subst hw2; clear hw; rw [HP.out]))
      go_ret
      exact ⟨by rw [HF.out]; rfl, HB.out.trans (hb2.mono HB.out.size)⟩
    | true =>
      have HP := Lib.hid hp
      have HF := Lib.hid (show logOf c lsn = 2 + lsn % c.log by unfold logOf; rw [hr, hp]; rfl)
      have hp2 : 0 ≤ lsn ∧ lsn ≤ 281474976710656 := by simp [placeB] at hp; omega
      obtain ⟨p1, p2⟩ := hp2
      have m1 : 0 ≤ lsn % c.log := Int.emod_nonneg _ (by omega)
      have m2 : lsn % c.log < c.log := Int.emod_lt_of_pos _ (by omega)
      have m3 : lsn.tmod c.log = lsn % c.log := Int.tmod_eq_emod_of_nonneg p1
      have m4 : ¬ c.log = 0 := by omega
      clear hr hp
      go_enter Try.func128, Try.ntmps128
      go_wp2_with (first
        | (go_at_call 174; refine (geomRight_calls HM.out.val).mono ?_; rintro e w2 ⟨rfl, hb2⟩; rw [HR.out]; obtain ⟨b0, b1, b2, b3, b4, hv2⟩ := HM.out.later (hb2.mono (Nat.le_of_eq HS.out.symm)))
        | (go_at_call 175; refine (place_calls _ _).mono ?_; rintro e w3 ⟨rfl, hw⟩; have hw2 := hw.symm; subst hw2; clear hw; rw [HP.out]))
      go_ret
      exact ⟨by rw [HF.out]; rfl, HB.out.trans (hb2.mono HB.out.size)⟩
end Go.Proofs.Ytfpmkenobphfnaa
