/- An element of an array by value. -/
import Derived.Test.YtecdbfbaclgejaaMost
namespace Go.Proofs.Ytecdbfbaclgejaa
open Go.RowKit

theorem idx_dir (w : World) (a b c d : Int) : (Instr.index 169 (.agg #[.int .i64 a, .int .i64 b, .int .i64 c, .int .i64 d]) (.int .i64 3)).run Try.prog w = .ok (.int .i64 d) w := by
  have h : Try.prog.underlying 169 = some (.array 4 3) := by kernel_rfl
  have hi : (Try.prog.info? 3).map (·.size) = some 1 := by kernel_rfl
  obtain ⟨i, hi1, hi2⟩ := Option.map_eq_some_iff.1 hi
  have h3 := Try.underlying3
  simp [Instr.index, run_underlying h, asIntOf, go_sem, part, sizeOf, typeInfo, hi1, hi2, isAgg, run_underlying h3]

set_option maxRecDepth 100000 in
/-- policy.Due, ref28.Due -/
def dueOf (p : DPolicy) (room frames : Int) : Bool := decide (room < p.room) || (decide (0 < p.frames) && decide (p.frames ≤ frames))

set_option maxRecDepth 100000 in
set_option maxHeartbeats 1000000 in
theorem due_calls {Q : Nat → Prop} {w : World} {v : Value} {p : DPolicy} {room frames : Int} (hx : rPolicy.val Q w v p) :
    Calls Try.prog 65 #[v, .int .i64 room, .int .i64 frames] w fun e w' => e = .returned (.bool (dueOf p room frames)) ∧ Below w.heap.size w w' := by
  obtain ⟨rfl, f0, f1⟩ := rPolicy_val hx
  clear hx
  obtain ⟨r, hr⟩ : ∃ r, r = dueOf p room frames := ⟨_, rfl⟩
  rw [← hr]
  unfold dueOf at hr
  rcases dec_split (room < p.room) with t1 | ⟨t1, d1⟩ <;> rcases dec_split (0 < p.frames) with t2 | ⟨t2, d2⟩ <;> rcases dec_split (p.frames ≤ frames) with t3 | ⟨t3, d3⟩
  all_goals
    simp [*] at hr
    subst hr
    go_enter Try.func65, Try.ntmps65
    go_wp2_with fail
    go_ret
    exact ⟨by first | rfl | (simp only [*]; rfl), (Below.refl _ _).alloc (Nat.le_refl _) _⟩
end Go.Proofs.Ytecdbfbaclgejaa
