/- 'vivariumlaw04.DiskSafe' answers true at every input, and its arguments read behind the call as they read before it. No condition is laid on the input. -/
import Derived.Test.YtecdbfbaclgejaaDiskSafeJ7
namespace Go.Proofs.Ytecdbfbaclgejaa.DiskSafeLaw
open Go.ChangeShapes Go.WideShapes Go.ChangeAt Go.RowKit

set_option maxRecDepth 100000 in
theorem lifted (os : Os) (started : os.Started) (H : Type) (enc : TypeId × Value → H) :
    ReturnsInHanded {} Try.checked os 13 .any (Rows.diskSafeSpec.pre6 enc Try.prog Try.f13 Rows.diskSafeRow.domain false) (Rows.diskSafeSpec.post enc Try.prog Try.f13 false true false false) := by
  refine returnsInHanded_of_change (C := Try.checked) own started (by kernel_rfl) Try.func13
    (ChangeSpec.witness6 (enc := enc) (C := Try.checked) false ⟨#[], #[.int .u8 0, .slice none 0 0, .slice none 0 0, .slice none 0 0], []⟩ 8 (by kernel_rfl) (by kernel_rfl) (by kernel_rfl) (by kernel_rfl)) ?_
  intro W base args ds gs before hval0 hW _ _
  have hval : ∀ (j : Nat) t v, Try.f13.params[j]? = some t → args[j]? = some v → Value.okWide Try.prog W .any base t v := hval0
  have hW' := hW
  obtain ⟨p, q, hA0, hV, rfl, _, _⟩ := hW
  have hA : DataW.TrodAll enc Try.prog W 0 (fun _ => true) true Try.f13.params.toList args.toList ds p := hA0
  rw [Try.params13] at hA hval
  have hA2 := hA
  obtain ⟨v0, vs0, d0, ds0, p0, q0, hargs, rfl, rfl, h0, r0⟩ := trodAll_cons hA
  obtain ⟨v1, vs1, d1, ds1, p1, q1, rfl, rfl, rfl, h1, r1⟩ := trodAll_cons r0
  obtain ⟨v2, vs2, d2, ds2, p2, q2, rfl, rfl, rfl, h2, r2⟩ := trodAll_cons r1
  obtain ⟨v3, vs3, d3, ds3, p3, q3, rfl, rfl, rfl, h3, r3⟩ := trodAll_cons r2
  obtain ⟨rfl, rfl, rfl⟩ := trodAll_nil r3
  obtain rfl : args = #[v0, v1, v2, v3] := by cases args; simp_all
  obtain ⟨rfl, rfl⟩ := trodVars_none hV
  obtain ⟨y0, k0⟩ := Rep.opens (Rep.of_byte Try.underlying5 (by kernel_rfl)) (Rep.wrap_int Try.underlying5) (hval 0 5 v0 rfl rfl) h0
  obtain rfl := Rep.val_byte k0
  obtain ⟨y1, k1⟩ := Rep.opens (Rep.of_list Try.underlying118 (by kernel_rfl) (by decide) of_DiskStep) (Rep.wrap_list Try.underlying118) (hval 1 118 v1 rfl rfl) h1
  obtain ⟨y2, k2⟩ := Rep.opens (Rep.of_list Try.underlying118 (by kernel_rfl) (by decide) of_DiskStep) (Rep.wrap_list Try.underlying118) (hval 2 118 v2 rfl rfl) h2
  obtain ⟨y3, k3⟩ := Rep.opens (Rep.of_list Try.underlying119 (by kernel_rfl) (by decide) of_Fate) (Rep.wrap_list Try.underlying119) (hval 3 119 v3 rfl rfl) h3
  refine (diskSafe_calls k1 k2 k3).mono fun e W' ⟨he, bel⟩ => ?_
  subst he
  exact ⟨_, rfl, _, _, _, [], _, [], hW', trodAll_mk1 (shut_bool Try.underlying4 _), trodAll_below laidOut bel (of_decide_eq_true (by kernel_rfl)) hA2, rfl, bel.frame _, fun h => by cases h⟩

theorem over : Rows.diskSafeRow.holds Try.pinned (OpenSpec.ofChange Rows.diskSafeSpec) :=
  OpenClaim.holds_of_wide 13 Try.f13 rfl rfl rfl rfl rfl rfl rfl ⟨rfl, rfl, rfl, rfl, rfl⟩ rfl rfl rfl rfl rfl (by kernel_rfl) Try.func13 (by kernel_rfl)
    (of_decide_eq_true (by kernel_rfl)) (by unfold Func.isWrapper; first | (rw [if_pos (by decide +kernel)]; kernel_rfl) | (rw [if_neg (by decide +kernel)]; exact ⟨rfl, rfl⟩))
    (fun os started H enc _ => lifted os started H enc)

end DiskSafeLaw
/-- The statement. -/
theorem diskSafe_holds : Rows.DiskSafeSaid := DiskSafeLaw.over
end Go.Proofs.Ytecdbfbaclgejaa
