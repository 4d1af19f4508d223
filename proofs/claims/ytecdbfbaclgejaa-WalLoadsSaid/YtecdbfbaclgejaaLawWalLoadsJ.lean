/- 'vivariumlaw19.WalLoads' answers true at every input, and its arguments read behind the call as they read before it. No condition is laid on the input. -/
import Derived.Test.YtecdbfbaclgejaaWalLoadsJ8
namespace Go.Proofs.Ytecdbfbaclgejaa.WalLoadsLaw
open Go.ChangeShapes Go.WideShapes Go.ChangeAt Go.RowKit

set_option maxRecDepth 100000 in
theorem lifted (os : Os) (started : os.Started) (H : Type) (enc : TypeId × Value → H) :
    ReturnsInHanded {} Try.checked os 11 .any (Rows.walLoadsSpec.pre6 enc Try.prog Try.f11 Rows.walLoadsRow.domain false) (Rows.walLoadsSpec.post enc Try.prog Try.f11 false true false false) := by
  refine returnsInHanded_of_change (C := Try.checked) own started (by kernel_rfl) Try.func11
    (ChangeSpec.witness6 (enc := enc) (C := Try.checked) false ⟨#[], #[.agg #[.int .i64 0, .int .i64 0, .int .i64 0, .int .i64 0, .slice none 0 0], .slice none 0 0, .int .i64 0], []⟩ 8 (by kernel_rfl) (by kernel_rfl) (by kernel_rfl) (by kernel_rfl)) ?_
  intro W base args ds gs before hval0 hW _ _
  have hval : ∀ (j : Nat) t v, Try.f11.params[j]? = some t → args[j]? = some v → Value.okWide Try.prog W .any base t v := hval0
  have hW' := hW
  obtain ⟨p, q, hA0, hV, rfl, _, _⟩ := hW
  have hA : DataW.TrodAll enc Try.prog W 0 (fun _ => true) true Try.f11.params.toList args.toList ds p := hA0
  rw [Try.params11] at hA hval
  have hA2 := hA
  obtain ⟨v0, vs0, d0, ds0, p0, q0, hargs, rfl, rfl, h0, r0⟩ := trodAll_cons hA
  obtain ⟨v1, vs1, d1, ds1, p1, q1, rfl, rfl, rfl, h1, r1⟩ := trodAll_cons r0
  obtain ⟨v2, vs2, d2, ds2, p2, q2, rfl, rfl, rfl, h2, r2⟩ := trodAll_cons r1
  obtain ⟨rfl, rfl, rfl⟩ := trodAll_nil r2
  obtain rfl : args = #[v0, v1, v2] := by cases args; simp_all
  obtain ⟨rfl, rfl⟩ := trodVars_none hV
  obtain ⟨y0, k0⟩ := Rep.opens of_Conf (Rep.wrap_agg Try.underlying88 (fun _ => rfl)) (hval 0 88 v0 rfl rfl) h0
  obtain ⟨y1, k1⟩ := Rep.opens (Rep.of_list Try.underlying22 (by kernel_rfl) (by decide) (Rep.of_byte Try.underlying5 (by kernel_rfl))) (Rep.wrap_list Try.underlying22) (hval 1 22 v1 rfl rfl) h1
  obtain ⟨y2, k2⟩ := Rep.opens (Rep.of_int Try.underlying3 (by kernel_rfl)) (Rep.wrap_int Try.underlying3) (hval 2 3 v2 rfl rfl) h2
  obtain ⟨rfl, w2⟩ := Rep.val_int k2
  refine (walLoads_calls k0 k1 w2).mono fun e W' ⟨he, bel⟩ => ?_
  subst he
  exact ⟨_, rfl, _, _, _, [], _, [], hW', trodAll_mk1 (shut_bool Try.underlying4 _), trodAll_below laidOut bel (of_decide_eq_true (by kernel_rfl)) hA2, rfl, bel.frame _, fun h => by cases h⟩

theorem over : Rows.walLoadsRow.holds Try.pinned (OpenSpec.ofChange Rows.walLoadsSpec) :=
  OpenClaim.holds_of_wide 11 Try.f11 rfl rfl rfl rfl rfl rfl rfl ⟨rfl, rfl, rfl, rfl, rfl⟩ rfl rfl rfl rfl rfl (by kernel_rfl) Try.func11 (by kernel_rfl)
    (of_decide_eq_true (by kernel_rfl)) (by unfold Func.isWrapper; first | (rw [if_pos (by decide +kernel)]; kernel_rfl) | (rw [if_neg (by decide +kernel)]; exact ⟨rfl, rfl⟩))
    (fun os started H enc _ => lifted os started H enc)

end WalLoadsLaw
/-- The statement. -/
theorem walLoads_holds : Rows.WalLoadsSaid := WalLoadsLaw.over
end Go.Proofs.Ytecdbfbaclgejaa
