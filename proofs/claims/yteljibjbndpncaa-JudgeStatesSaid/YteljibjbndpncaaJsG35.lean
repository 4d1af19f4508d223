/- Texts on which the proofs stand: LiftJudgeStates. No condition is laid on any input. -/
import Derived.Test.YteljibjbndpncaaJsG34
namespace Go.Proofs.Yteljibjbndpncaa.JudgeStatesLaw
open Go.ChangeShapes Go.WideShapes Go.ChangeAt Go.RowKit

set_option maxRecDepth 100000 in
theorem lifted (os : Os) (started : os.Started) (H : Type) (enc : TypeId × Value → H) :
    ReturnsInHanded {} Try.checked os 6 .any (Rows.judgeStatesSpec.pre6 enc Try.prog Try.f6 Rows.judgeStatesRow.domain false) (Rows.judgeStatesSpec.post enc Try.prog Try.f6 false true false false) := by
  refine returnsInHanded_of_change (C := Try.checked) own started (by kernel_rfl) Try.func6
    (ChangeSpec.witness6 (enc := enc) (C := Try.checked) false ⟨#[], #[.agg #[.int .i64 0, .int .i64 0, .int .i64 0, .int .i64 0, .slice none 0 0], .slice none 0 0, .agg #[.slice none 0 0, .slice none 0 0, .slice none 0 0], .int .i64 0], []⟩ 8 (by kernel_rfl) (by kernel_rfl) (by kernel_rfl) (by kernel_rfl)) ?_
  intro W base args ds gs before hval0 hW _ _
  have hval : ∀ (j : Nat) t v, Try.f6.params[j]? = some t → args[j]? = some v → Value.okWide Try.prog W .any base t v := hval0
  have hW' := hW
  obtain ⟨p, q, hA0, hV, rfl, _, _⟩ := hW
  have hA : DataW.TrodAll enc Try.prog W 0 (fun _ => true) true Try.f6.params.toList args.toList ds p := hA0
  rw [Try.params6] at hA hval
  have hA2 := hA
  obtain ⟨v0, vs0, d0, ds0, p0, q0, hargs, rfl, rfl, h0, r0⟩ := trodAll_cons hA
  obtain ⟨v1, vs1, d1, ds1, p1, q1, rfl, rfl, rfl, h1, r1⟩ := trodAll_cons r0
  obtain ⟨v2, vs2, d2, ds2, p2, q2, rfl, rfl, rfl, h2, r2⟩ := trodAll_cons r1
  obtain ⟨v3, vs3, d3, ds3, p3, q3, rfl, rfl, rfl, h3, r3⟩ := trodAll_cons r2
  obtain ⟨rfl, rfl, rfl⟩ := trodAll_nil r3
  obtain rfl : args = #[v0, v1, v2, v3] := by cases args; simp_all
  obtain ⟨rfl, rfl⟩ := trodVars_none hV
  obtain ⟨y0, k0⟩ := Rep.opens of_Conf (Rep.wrap_agg Try.underlying49 (fun _ => rfl)) (hval 0 49 v0 rfl rfl) h0
  obtain ⟨y1, k1⟩ := Rep.opens (Rep.of_list Try.underlying51 (by kernel_rfl) (by decide) (Rep.of_list Try.underlying59 (by kernel_rfl) (by decide) of_Cmd)) (Rep.wrap_list Try.underlying51) (hval 1 51 v1 rfl rfl) h1
  obtain ⟨y2, k2⟩ := Rep.opens of_State (Rep.wrap_agg Try.underlying75 (fun _ => rfl)) (hval 2 75 v2 rfl rfl) h2
  obtain ⟨y3, k3⟩ := Rep.opens (Rep.of_int Try.underlying3 (by kernel_rfl)) (Rep.wrap_int Try.underlying3) (hval 3 3 v3 rfl rfl) h3
  obtain ⟨rfl, w3⟩ := Rep.val_int k3
  refine (judgeStates_calls k0 k1 k2 w3).mono fun e W' ⟨he, bel⟩ => ?_
  subst he
  exact ⟨_, rfl, _, _, _, [], _, [], hW', trodAll_mk1 (shut_bool Try.underlying4 _), trodAll_below laidOut bel (of_decide_eq_true (by kernel_rfl)) hA2, rfl, bel.frame _, fun h => by cases h⟩

end JudgeStatesLaw
end Go.Proofs.Yteljibjbndpncaa
