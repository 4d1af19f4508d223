/- Walks of the checks of commands and of frames, both. -/
import Derived.Test.YtecdbfbaclgejaaIdx
namespace Go.Proofs.Ytecdbfbaclgejaa
open Go.RowKit

def knownB (k : Int) : Bool := decide (0 ≤ k) && decide (k ≤ 3)
def checkCmd (x : DCmd) : Int := if knownB x.kind then (if 64 < x.data.length then 13 else 0) else 1
def firstBad : List DCmd → Int
  | [] => 0
  | x :: xs => if checkCmd x = 0 then firstBad xs else checkCmd x
def checkFrame (l : List DCmd) : Int := if 64 < l.length then 13 else firstBad l

theorem firstBad_none : ∀ {l : List DCmd}, (∀ x ∈ l, checkCmd x = 0) → firstBad l = 0
  | [], _ => rfl
  | x :: xs, h => by
    unfold firstBad
    rw [if_pos (h x (by simp))]
    exact firstBad_none fun y hy => h y (by simp [hy])
theorem firstBad_at : ∀ {l : List DCmd} {k : Nat} (hk : k < l.length), (∀ x ∈ l.take k, checkCmd x = 0) → checkCmd l[k] ≠ 0 → firstBad l = checkCmd l[k]
  | [], k, hk, _, _ => by simp at hk
  | x :: xs, 0, hk, _, h => by
    unfold firstBad
    rw [if_neg (show ¬ checkCmd x = 0 from h)]; rfl
  | x :: xs, k + 1, hk, h, h2 => by
    unfold firstBad
    rw [if_pos (h x (by simp))]
    exact firstBad_at (by simp at hk; omega) (fun y hy => h y (by simp [hy])) h2
theorem firstBad_zero : ∀ {l : List DCmd}, firstBad l = 0 → ∀ x ∈ l, checkCmd x = 0
  | [], _, x, hx => by simp at hx
  | y :: ys, h, x, hx => by
    unfold firstBad at h
    split at h
    · rename_i h0
      rcases List.mem_cons.1 hx with rfl | hx
      · exact h0
      · exact firstBad_zero h x hx
    · rename_i h0; exact absurd h h0

set_option maxRecDepth 100000 in
/-- cmd.known -/
theorem known_calls (k : Int) (w : World) :
    Calls Try.prog 220 #[.int .i64 k] w fun e w' => e = .returned (.bool (knownB k)) ∧ w' = w := by
  obtain ⟨r, hr⟩ : ∃ r, r = knownB k := ⟨_, rfl⟩
  rw [← hr]
  unfold knownB at hr
  rcases dec_split (0 ≤ k) with t1 | ⟨t1, d1⟩ <;> rcases dec_split (k ≤ 3) with t2 | ⟨t2, d2⟩
  all_goals
    simp [*] at hr
    subst hr
    go_enter Try.func220, Try.ntmps220
    go_wp2_with fail
    go_ret
    exact ⟨by first | rfl | (simp only [*]; rfl), rfl⟩

/-- A command in a box. -/
structure CmdBox (W : World) (B : Nat) (x : DCmd) (A : Option Addr) (c : Nat) : Prop where
  c0 : W.cell? ⟨B, 0, none⟩ = some (.int .i64 x.kind)
  c1 : W.cell? ⟨B, 1, none⟩ = some (.bool x.loc)
  c2 : W.cell? ⟨B, 2, none⟩ = some (.int .i64 x.id.index)
  c3 : W.cell? ⟨B, 3, none⟩ = some (.int .i64 x.id.gen)
  c4 : W.cell? ⟨B, 4, none⟩ = some (.int .i64 x.comp)
  c5 : W.cell? ⟨B, 5, none⟩ = some (.slice A x.data.length c)
  val : rCmd.val (fun b => b < B) W (.agg #[.int .i64 x.kind, .bool x.loc, .int .i64 x.id.index, .int .i64 x.id.gen, .int .i64 x.comp, .slice A x.data.length c]) x
theorem CmdBox.later {W W' : World} {B : Nat} {x : DCmd} {A : Option Addr} {c : Nat} (h : CmdBox W B x A c) (hb : Below (B + 1) W W') : CmdBox W' B x A c :=
  ⟨(hb.cell (p := ⟨B, 0, none⟩) (Nat.lt_succ_self _)).trans h.c0, (hb.cell (p := ⟨B, 1, none⟩) (Nat.lt_succ_self _)).trans h.c1, (hb.cell (p := ⟨B, 2, none⟩) (Nat.lt_succ_self _)).trans h.c2,
   (hb.cell (p := ⟨B, 3, none⟩) (Nat.lt_succ_self _)).trans h.c3, (hb.cell (p := ⟨B, 4, none⟩) (Nat.lt_succ_self _)).trans h.c4, (hb.cell (p := ⟨B, 5, none⟩) (Nat.lt_succ_self _)).trans h.c5, Rep.val_keep (fun b hq _ => ⟨hq, hb.block b (by omega)⟩) h.val⟩
theorem CmdBox.made {Q : Nat → Prop} {w : World} {x : DCmd} {A : Option Addr} {c : Nat} (h : rCmd.val Q w (.agg #[.int .i64 x.kind, .bool x.loc, .int .i64 x.id.index, .int .i64 x.id.gen, .int .i64 x.comp, .slice A x.data.length c]) x) (t : TypeId) :
    CmdBox (w.alloc (.cells #[.int .i64 x.kind, .bool x.loc, .int .i64 x.id.index, .int .i64 x.id.gen, .int .i64 x.comp, .slice A x.data.length c] t)) w.heap.size x A c :=
  ⟨by simp, by simp, by simp, by simp, by simp, by simp, Rep.val_keep (w := w) (fun _ _ hl => ⟨hl.lt, Below.heap_alloc _ _ _ hl.lt⟩) h⟩

set_option maxRecDepth 100000 in
set_option maxHeartbeats 1000000 in
/-- cmd.Check -/
theorem cmdCheck_calls {Q : Nat → Prop} {w : World} {v : Value} {x : DCmd} (hx : rCmd.val Q w v x) :
    Calls Try.prog 183 #[v] w fun e w' => e = .returned (.int .i64 (checkCmd x)) ∧ Below w.heap.size w w' := by
  obtain ⟨A, c, rfl, _, _, _, _, hs⟩ := rCmd_val hx
  have hm := CmdBox.made hx 179
  have hs1 := hs.1
  have hs2 := hs.2.1
  unfold maxLen at hs2
  have hbel : Below w.heap.size w (w.alloc (.cells #[.int .i64 x.kind, .bool x.loc, .int .i64 x.id.index, .int .i64 x.id.gen, .int .i64 x.comp, .slice A x.data.length c] 179)) := (Below.refl _ _).alloc (Nat.le_refl _) _
  obtain ⟨W1, hW1⟩ : ∃ W1, w.alloc (.cells #[.int .i64 x.kind, .bool x.loc, .int .i64 x.id.index, .int .i64 x.id.gen, .int .i64 x.comp, .slice A x.data.length c] 179) = W1 := ⟨_, rfl⟩
  rw [hW1] at hm hbel
  obtain ⟨c0, c1, c2, c3, c4, c5, _⟩ := hm
  have HB := Lib.hid hbel
  clear hbel hx hs
  cases hk : knownB x.kind
  case false =>
    have HK := Lib.hid hk
    have HF := Lib.hid (show checkCmd x = 1 by unfold checkCmd; rw [hk]; rfl)
    clear hk
    go_enter Try.func183, Try.ntmps183
    go_wp2_with fail
    try rw [hW1]
    clear hW1
    go_wp2_with fail
    go_wp2_with (go_at_call 220; refine (known_calls _ _).mono ?_; rintro e w' ⟨rfl, rfl⟩; rw [HK.out])
    try rw [Exit.noGoto_ret]
    go_ret
    exact ⟨by rw [HF.out]; rfl, HB.out⟩
  case true =>
    have HK := Lib.hid hk
    by_cases h64 : (64 : Int) < x.data.length
    · have HF := Lib.hid (show checkCmd x = 13 by unfold checkCmd; rw [hk, if_pos rfl, if_pos (by omega)])
      clear hk
      go_enter Try.func183, Try.ntmps183
      go_wp2_with fail
      try rw [hW1]
      clear hW1
      go_wp2_with fail
      go_wp2_with (go_at_call 220; refine (known_calls _ _).mono ?_; rintro e w' ⟨rfl, rfl⟩; rw [HK.out])
      try rw [Exit.noGoto_ret]
      go_ret
      exact ⟨by rw [HF.out]; rfl, HB.out⟩
    · have HF := Lib.hid (show checkCmd x = 0 by unfold checkCmd; rw [hk, if_pos rfl, if_neg (by omega)])
      clear hk
      go_enter Try.func183, Try.ntmps183
      go_wp2_with fail
      try rw [hW1]
      clear hW1
      go_wp2_with fail
      go_wp2_with (go_at_call 220; refine (known_calls _ _).mono ?_; rintro e w' ⟨rfl, rfl⟩; rw [HK.out])
      try rw [Exit.noGoto_ret]
      go_ret
      exact ⟨by rw [HF.out]; rfl, HB.out⟩

set_option maxRecDepth 100000 in
set_option maxHeartbeats 1000000 in
/-- ref13.Check -/
theorem rcmdCheck_calls {Q : Nat → Prop} {w : World} {v : Value} {x : DCmd} (hx : rCmd.val Q w v x) :
    Calls Try.prog 132 #[v] w fun e w' => e = .returned (.int .i64 (checkCmd x)) ∧ Below w.heap.size w w' := by
  obtain ⟨A, c, rfl, _, _, _, _, hs⟩ := rCmd_val hx
  have hm := CmdBox.made hx 179
  have hs1 := hs.1
  have hs2 := hs.2.1
  unfold maxLen at hs2
  have hbel : Below w.heap.size w (w.alloc (.cells #[.int .i64 x.kind, .bool x.loc, .int .i64 x.id.index, .int .i64 x.id.gen, .int .i64 x.comp, .slice A x.data.length c] 179)) := (Below.refl _ _).alloc (Nat.le_refl _) _
  obtain ⟨W1, hW1⟩ : ∃ W1, w.alloc (.cells #[.int .i64 x.kind, .bool x.loc, .int .i64 x.id.index, .int .i64 x.id.gen, .int .i64 x.comp, .slice A x.data.length c] 179) = W1 := ⟨_, rfl⟩
  rw [hW1] at hm hbel
  obtain ⟨c0, c1, c2, c3, c4, c5, _⟩ := hm
  have HB := Lib.hid hbel
  clear hbel hx hs
  obtain ⟨r, hr⟩ : ∃ r, r = checkCmd x := ⟨_, rfl⟩
  rw [← hr]
  unfold checkCmd knownB at hr
  rcases dec_split (x.kind < 0) with t1 | ⟨t1, d1⟩ <;> rcases dec_split (3 < x.kind) with t2 | ⟨t2, d2⟩ <;> rcases dec_split ((64 : Int) < x.data.length) with t3 | ⟨t3, d3⟩
  all_goals
    try omega
  all_goals
    simp at hr
    (first | rw [if_pos (by omega), if_pos (by omega)] at hr | rw [if_pos (by omega), if_neg (by omega)] at hr | rw [if_neg (by omega)] at hr)
    subst hr
    go_enter Try.func132, Try.ntmps132
    go_wp2_with fail
    try rw [hW1]
    clear hW1
    go_wp2_with fail
    go_ret
    exact ⟨by first | rfl | (simp only [*]; rfl), HB.out⟩
end Go.Proofs.Ytecdbfbaclgejaa
