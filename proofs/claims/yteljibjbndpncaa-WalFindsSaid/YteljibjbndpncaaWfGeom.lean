/- Walks of where things lie on a disk. -/
import Derived.Test.YteljibjbndpncaaWfG8
import Derived.Test.YteljibjbndpncaaWfG9
namespace Go.Proofs.Yteljibjbndpncaa
open Go.RowKit

def placeB (n : Int) : Bool := decide (0 ≤ n) && decide (n ≤ 281474976710656)
def sectorsOf (c : DConf) : Int := 2 + c.log + c.pages
def logOf (c : DConf) (lsn : Int) : Int := if confRight c && placeB lsn then 2 + lsn % c.log else -1
def roomOf (c : DConf) (head tail : Int) : Int := if confRight c && (placeB head && (placeB tail && (decide (head ≤ tail) && decide (tail - head ≤ c.log)))) then c.log - (tail - head) else -1

set_option maxRecDepth 100000 in
/-- geom.place -/
theorem place_calls (k : Int) (w : World) : Calls Try.prog 89 #[.int .i64 k] w fun e w' => e = .returned (.bool (placeB k)) ∧ w' = w := by
  obtain ⟨r, hr⟩ : ∃ r, r = placeB k := ⟨_, rfl⟩
  rw [← hr]
  unfold placeB at hr
  rcases dec_split (0 ≤ k) with t1 | ⟨t1, d1⟩ <;> rcases dec_split (k ≤ 281474976710656) with t2 | ⟨t2, d2⟩
  all_goals
    simp [*] at hr
    subst hr
    go_enter Try.func89, Try.ntmps89
    go_wp2_with fail
    go_ret
    exact ⟨by first | rfl | (simp only [*]; rfl), rfl⟩
set_option maxRecDepth 100000 in
/-- wal.place -/
theorem walPlace_calls (k : Int) (w : World) : Calls Try.prog 60 #[.int .i64 k] w fun e w' => e = .returned (.bool (placeB k)) ∧ w' = w := by
  obtain ⟨r, hr⟩ : ∃ r, r = placeB k := ⟨_, rfl⟩
  rw [← hr]
  unfold placeB at hr
  rcases dec_split (0 ≤ k) with t1 | ⟨t1, d1⟩ <;> rcases dec_split (k ≤ 281474976710656) with t2 | ⟨t2, d2⟩
  all_goals
    simp [*] at hr
    subst hr
    go_enter Try.func60, Try.ntmps60
    go_wp2_with fail
    go_ret
    exact ⟨by first | rfl | (simp only [*]; rfl), rfl⟩

theorem check_right {c : DConf} (h : confRight c = true) : checkOf (confRight c) = 0 := by rw [h]; rfl
theorem check_wrong {c : DConf} (h : confRight c = false) : checkOf (confRight c) = 1 := by rw [h]; rfl

set_option maxRecDepth 100000 in
set_option maxHeartbeats 1000000 in
/-- geom.right -/
theorem geomRight_calls {Q : Nat → Prop} {w : World} {v : Value} {c : DConf} (hx : rConf.val Q w v c) :
    Calls Try.prog 88 #[v] w fun e w' => e = .returned (.bool (confRight c)) ∧ Below w.heap.size w w' := by
  obtain ⟨A, cap, rfl, _⟩ := rConf_val hx
  have hm := InBox.made hx 49
  have hbel : Below w.heap.size w (w.alloc (.cells #[.int .i64 c.log, .int .i64 c.pages, .int .i64 c.entities, .int .i64 c.gens, .slice A c.comps.length cap] 49)) := (Below.refl _ _).alloc (Nat.le_refl _) _
  generalize hW1 : w.alloc (.cells #[.int .i64 c.log, .int .i64 c.pages, .int .i64 c.entities, .int .i64 c.gens, .slice A c.comps.length cap] 49) = W1 at *
  have HM := Lib.hid hm
  have HB := Lib.hid hbel
  obtain ⟨a0, a1, a2, a3, a4, _⟩ := hm
  clear hx hbel
  cases hr : confRight c with
  | false =>
    have HR := Lib.hid (check_wrong hr)
    clear hr
    go_enter Try.func88, Try.ntmps88
    go_wp2_with (go_at_call 85; refine (check_calls HM.out.val).mono ?_; rintro e w2 ⟨rfl, hb2⟩; rw [HR.out])
    go_ret
    exact ⟨rfl, HB.out.trans (hb2.mono HB.out.size)⟩
  | true =>
    have HR := Lib.hid (check_right hr)
    clear hr
    go_enter Try.func88, Try.ntmps88
    go_wp2_with (go_at_call 85; refine (check_calls HM.out.val).mono ?_; rintro e w2 ⟨rfl, hb2⟩; rw [HR.out])
    go_ret
    exact ⟨rfl, HB.out.trans (hb2.mono HB.out.size)⟩

set_option maxRecDepth 100000 in
set_option maxHeartbeats 1000000 in
/-- comp.Sectors -/
theorem sectors_calls {Q : Nat → Prop} {w : World} {v : Value} {c : DConf} (hx : rConf.val Q w v c) (hr : confRight c = true) :
    Calls Try.prog 87 #[v] w fun e w' => e = .returned (.int .i64 (sectorsOf c)) ∧ Below w.heap.size w w' := by
  obtain ⟨A, cap, rfl, _⟩ := rConf_val hx
  have hm := InBox.made hx 49
  have hbel : Below w.heap.size w (w.alloc (.cells #[.int .i64 c.log, .int .i64 c.pages, .int .i64 c.entities, .int .i64 c.gens, .slice A c.comps.length cap] 49)) := (Below.refl _ _).alloc (Nat.le_refl _) _
  generalize hW1 : w.alloc (.cells #[.int .i64 c.log, .int .i64 c.pages, .int .i64 c.entities, .int .i64 c.gens, .slice A c.comps.length cap] 49) = W1 at *
  have HB := Lib.hid hbel
  have hf := (right_facts hr).1
  obtain ⟨g1, g2, g3, g4, _⟩ := hf
  obtain ⟨a0, a1, a2, a3, a4, _⟩ := hm
  have HF := Lib.hid (show sectorsOf c = 2 + c.log + c.pages from rfl)
  clear hx hbel hr
  go_enter Try.func87, Try.ntmps87
  go_wp2_with fail
  go_ret
  exact ⟨by rw [HF.out]; rfl, HB.out⟩

set_option maxRecDepth 100000 in
set_option maxHeartbeats 1000000 in
/-- geom.Log -/
theorem geomLog_calls {Q : Nat → Prop} {w : World} {v : Value} {c : DConf} {lsn : Int} (hx : rConf.val Q w v c) :
    Calls Try.prog 70 #[v, .int .i64 lsn] w fun e w' => e = .returned (.int .i64 (logOf c lsn)) ∧ Below w.heap.size w w' := by
  obtain ⟨A, cap, rfl, _⟩ := rConf_val hx
  have hm := InBox.made hx 49
  have hbel : Below w.heap.size w (w.alloc (.cells #[.int .i64 c.log, .int .i64 c.pages, .int .i64 c.entities, .int .i64 c.gens, .slice A c.comps.length cap] 49)) := (Below.refl _ _).alloc (Nat.le_refl _) _
  have hsz : (w.alloc (.cells #[.int .i64 c.log, .int .i64 c.pages, .int .i64 c.entities, .int .i64 c.gens, .slice A c.comps.length cap] 49)).heap.size = w.heap.size + 1 := by simp
  generalize hW1 : w.alloc (.cells #[.int .i64 c.log, .int .i64 c.pages, .int .i64 c.entities, .int .i64 c.gens, .slice A c.comps.length cap] 49) = W1 at *
  have HM := Lib.hid hm
  have HB := Lib.hid hbel
  have HS := Lib.hid hsz
  obtain ⟨a0, a1, a2, a3, a4, _⟩ := hm
  clear hx hbel hsz
  cases hr : confRight c with
  | false =>
    have HR := Lib.hid hr
    have HF := Lib.hid (show logOf c lsn = -1 by unfold logOf; rw [hr]; rfl)
    clear hr
    go_enter Try.func70, Try.ntmps70
    go_wp2_with (go_at_call 88; refine (geomRight_calls HM.out.val).mono ?_; rintro e w2 ⟨rfl, hb2⟩; rw [HR.out])
    go_ret
    exact ⟨by rw [HF.out]; rfl, HB.out.trans (hb2.mono HB.out.size)⟩
  | true =>
    have HR := Lib.hid hr
    have hf := (right_facts hr).1
    obtain ⟨g1, g2, _⟩ := hf
    cases hp : placeB lsn with
    | false =>
      have HP := Lib.hid hp
      have HF := Lib.hid (show logOf c lsn = -1 by unfold logOf; rw [hr, hp]; rfl)
      clear hr hp
      go_enter Try.func70, Try.ntmps70
      go_wp2_with (first
        | (go_at_call 88; refine (geomRight_calls HM.out.val).mono ?_; rintro e w2 ⟨rfl, hb2⟩; rw [HR.out])
        | (go_at_call 89; refine (place_calls _ _).mono ?_; rintro e w3 ⟨rfl, hw⟩; have hw2 := hw.symm; subst hw2; clear hw; rw [HP.out]))
      go_ret
      exact ⟨by rw [HF.out]; rfl, HB.out.trans (hb2.mono HB.out.size)⟩
    | true =>
      have HP := Lib.hid hp
      have HF := Lib.hid (show logOf c lsn = 2 + lsn % c.log by unfold logOf; rw [hr, hp]; rfl)
      have hp2 : 0 ≤ lsn ∧ lsn ≤ 281474976710656 := by simp [placeB] at hp; omega
      obtain ⟨p1, p2⟩ := hp2
      have m1 : 0 ≤ lsn % c.log := Int.emod_nonneg _ (by omega)
      have m2 : lsn % c.log < c.log := Int.emod_lt_of_pos _ (by omega)
      have m3 : lsn.tmod c.log = lsn % c.log := Int.tmod_eq_emod_of_nonneg p1
      have m4 : ¬ c.log = 0 := by omega
      clear hr hp
      go_enter Try.func70, Try.ntmps70
      go_wp2_with (first
        | (go_at_call 88; refine (geomRight_calls HM.out.val).mono ?_; rintro e w2 ⟨rfl, hb2⟩; rw [HR.out]; obtain ⟨b0, b1, b2, b3, b4, hv2⟩ := HM.out.later (hb2.mono (Nat.le_of_eq HS.out.symm)))
        | (go_at_call 89; refine (place_calls _ _).mono ?_; rintro e w3 ⟨rfl, hw⟩; have hw2 := hw.symm; subst hw2; clear hw; rw [HP.out]))
      go_ret
      exact ⟨by rw [HF.out]; rfl, HB.out.trans (hb2.mono HB.out.size)⟩
end Go.Proofs.Yteljibjbndpncaa
