/- Texts on which the proofs stand: WatchEvents, LiftWatchEvents. No condition is laid on any input. -/
import Derived.Test.YtfpmkenobphfnaaWeG1
import Derived.Test.YtfpmkenobphfnaaWeG20
import Derived.Test.YtfpmkenobphfnaaWeREvents
/- Walk of the statement on who is watched. Printed by gen_watchevents.py. -/
namespace Go.Proofs.Ytfpmkenobphfnaa
open Go.RowKit

set_option maxRecDepth 100000 in
set_option maxHeartbeats 2000000 in
theorem watchEvents_nat {Q : Nat → Prop} {w : World} {va vb : Value} {a b : DState} {yes no : Nat} {f : Int} (hva : rState.val Q w va a) (hvb : rState.val Q w vb b) (hy : yes < 18446744073709551616) (hn : no < 18446744073709551616) (hf : (Lit.int .i64 f).wf = true) :
    Calls Try.prog 9 #[va, vb, .int .u64 (yes : Int), .int .u64 (no : Int), .int .i64 f] w fun e w' => e = .returned (.bool true) ∧ Below w.heap.size w w' := by
  have HVA := Lib.hid (Rep.val_any hva)
  have HVB := Lib.hid (Rep.val_any hvb)
  have HYN := Lib.hid (show yes < 18446744073709551616 ∧ no < 18446744073709551616 from ⟨hy, hn⟩)
  have HF := Lib.hid hf
  obtain ⟨A1, c1, A2, c2, A3, c3, rfl, _, _, _⟩ := rState_val hva
  obtain ⟨B1, d1, B2, d2, B3, d3, rfl, _, _, _⟩ := rState_val hvb
  obtain ⟨W1, hW1⟩ : ∃ W1, (w.alloc (.cells #[.slice A1 a.gens.length c1, .slice A2 a.free.length c2, .slice A3 a.ents.length c3] 109)).alloc (.cells #[.slice B1 b.gens.length d1, .slice B2 b.free.length d2, .slice B3 b.ents.length d3] 109) = W1 := ⟨_, rfl⟩
  have hz : (w.alloc (.cells #[.slice A1 a.gens.length c1, .slice A2 a.free.length c2, .slice A3 a.ents.length c3] 109)).heap.size = w.heap.size + 1 := by simp
  have hb1 : Below w.heap.size w W1 := by rw [← hW1]; exact ((Below.refl _ _).alloc (Nat.le_refl _) _).alloc (by rw [hz]; omega) _
  have hz1 : W1.heap.size = w.heap.size + 2 := by rw [← hW1]; simp
  have hr0 : W1.heap[w.heap.size]? = some (.cells #[.slice A1 a.gens.length c1, .slice A2 a.free.length c2, .slice A3 a.ents.length c3] 109 (0, 0)) := by rw [← hW1]; exact (heap_alloc_old _ _ (by rw [hz]; omega)).trans (heap_alloc_new w _)
  have hr1 : W1.heap[w.heap.size + 1]? = some (.cells #[.slice B1 b.gens.length d1, .slice B2 b.free.length d2, .slice B3 b.ents.length d3] 109 (0, 0)) := by rw [← hW1, ← hz]; exact heap_alloc_new _ _
  have KS := Lib.hid (show ∀ W, Below W1.heap.size W1 W → (W.cell? ⟨w.heap.size, 0, none⟩ = some (.slice A1 a.gens.length c1) ∧ W.cell? ⟨w.heap.size, 1, none⟩ = some (.slice A2 a.free.length c2) ∧ W.cell? ⟨w.heap.size, 2, none⟩ = some (.slice A3 a.ents.length c3)) ∧ W.cell? ⟨w.heap.size + 1, 0, none⟩ = some (.slice B1 b.gens.length d1) ∧ W.cell? ⟨w.heap.size + 1, 1, none⟩ = some (.slice B2 b.free.length d2) ∧ W.cell? ⟨w.heap.size + 1, 2, none⟩ = some (.slice B3 b.ents.length d3) from fun W h => by
    have e := (h.block _ (by omega)).trans hr0
    have f := (h.block _ (by omega)).trans hr1
    exact ⟨⟨cell_row e 0, cell_row e 1, cell_row e 2⟩, cell_row f 0, cell_row f 1, cell_row f 2⟩)
  have FIN := Lib.hid (show ∀ W, Below W1.heap.size W1 W → Below w.heap.size w W from fun W h => hb1.trans (h.mono hb1.size))
  have KA := Lib.hid (show ∀ W, Below W1.heap.size W1 W → rState.val (fun b => b < w.heap.size) W (.agg #[.slice A1 a.gens.length c1, .slice A2 a.free.length c2, .slice A3 a.ents.length c3]) a from fun W h => Rep.val_below HVA.out (FIN.out W h) (fun _ hb _ => hb))
  have KB := Lib.hid (show ∀ W, Below W1.heap.size W1 W → rState.val (fun b => b < w.heap.size) W (.agg #[.slice B1 b.gens.length d1, .slice B2 b.free.length d2, .slice B3 b.ents.length d3]) b from fun W h => Rep.val_below HVB.out (FIN.out W h) (fun _ hb _ => hb))
  have HZ := Lib.hid hz1
  obtain ⟨⟨q0, q1, q2⟩, q3, q4, q5⟩ := KS.out W1 (Below.refl _ _)
  clear hva hvb hy hn hf hz hb1 hz1 hr0 hr1
  go_enter Try.func9, Try.ntmps9
  go_wp2_with fail
  try rw [hW1]
  clear hW1
  try go_wp2_with fail
  refine (muchSt_calls (KA.out W1 (Below.refl _ _))).mono ?_
  rintro en w2 ⟨m1, rfl, hm1, hb2⟩
  have HB2 := Lib.hid hb2
  clear hb2 q0 q1 q2 q3 q4 q5
  obtain ⟨⟨q0, q1, q2⟩, q3, q4, q5⟩ := KS.out w2 HB2.out
  cases m1 with
  | true =>
    clear hm1
    go_wp2_with fail
    refine (live37_calls _).mono ?_
    rintro en w3 ⟨rfl, hb3⟩
    have HB3 := Lib.hid (HB2.out.trans (hb3.mono HB2.out.size))
    clear hb3 q0 q1 q2 q3 q4 q5
    go_wp2_with fail
    go_ret
    exact ⟨rfl, FIN.out _ HB3.out⟩
  | false =>
    have HM1 := Lib.hid (hm1 rfl)
    clear hm1
    go_wp2_with fail
    refine (muchSt_calls (KB.out w2 HB2.out)).mono ?_
    rintro en w3 ⟨m2, rfl, hm2, hb3⟩
    have HB3 := Lib.hid (HB2.out.trans (hb3.mono HB2.out.size))
    clear hb3 q0 q1 q2 q3 q4 q5
    cases m2 with
    | true =>
      clear hm2
      go_wp2_with fail
      refine (live37_calls _).mono ?_
      rintro en w4 ⟨rfl, hb4⟩
      have HB4 := Lib.hid (HB3.out.trans (hb4.mono HB3.out.size))
      clear hb4
      go_wp2_with fail
      go_ret
      exact ⟨rfl, FIN.out _ HB4.out⟩
    | false =>
      have HM2 := Lib.hid (hm2 rfl)
      have HLN := Lib.hid (show (a.ents ++ b.ents).length ≤ 1000000000 by rw [List.length_append]; have := HM1.out.1; have := (hm2 rfl).1; omega)
      clear hm2
      have FW := Lib.hid (show ∀ W, Below w3.heap.size w3 W → Below W1.heap.size W1 W from fun W h => HB3.out.trans (h.mono HB3.out.size))
      have KC := Lib.hid (show ∀ W, Below w3.heap.size w3 W → (W.cell? ⟨w.heap.size, 0, none⟩ = some (.slice A1 a.gens.length c1) ∧ W.cell? ⟨w.heap.size, 1, none⟩ = some (.slice A2 a.free.length c2) ∧ W.cell? ⟨w.heap.size, 2, none⟩ = some (.slice A3 a.ents.length c3)) ∧ W.cell? ⟨w.heap.size + 1, 0, none⟩ = some (.slice B1 b.gens.length d1) ∧ W.cell? ⟨w.heap.size + 1, 1, none⟩ = some (.slice B2 b.free.length d2) ∧ W.cell? ⟨w.heap.size + 1, 2, none⟩ = some (.slice B3 b.ents.length d3) from fun W h => KS.out W (FW.out W h))
      go_wp2_with fail
      refine wp_region_held_drew (S := fun W => Below w3.heap.size w3 W) (by kernel_rfl) (Below.refl _ _).drew (fun s0 => ?_)
      refine wpAnyH_take (i := 0) (v := .agg #[.slice A1 a.gens.length c1, .slice A2 a.free.length c2, .slice A3 a.ents.length c3]) rfl (by kernel_rfl) (by kernel_rfl) (by kernel_rfl) (fun _ _ _ h => h) (Or.inl ⟨by rfl, fun w' h => by obtain ⟨⟨z0, z1, z2⟩, y0, y1, y2⟩ := KC.out w' h; go_simp⟩) s0 ?_
      go_simp
      refine wpAnyH_take (i := 1) (v := .agg #[.slice B1 b.gens.length d1, .slice B2 b.free.length d2, .slice B3 b.ents.length d3]) rfl (by kernel_rfl) (by kernel_rfl) (by kernel_rfl) (fun _ _ _ h => h) (Or.inl ⟨by rfl, fun w' h => by obtain ⟨⟨z0, z1, z2⟩, y0, y1, y2⟩ := KC.out w' h; go_simp⟩) s0 ?_
      go_simp
      refine wpAnyH_take (i := 2) (v := .int .u64 yes) rfl (by kernel_rfl) (by kernel_rfl) (by kernel_rfl) (fun _ _ _ h => h) (Or.inl ⟨by rfl, fun w' _ => by go_simp <;> omega⟩) s0 ?_
      go_simp
      refine wpAnyH_take (i := 3) (v := .int .u64 no) rfl (by kernel_rfl) (by kernel_rfl) (by kernel_rfl) (fun _ _ _ h => h) (Or.inl ⟨by rfl, fun w' _ => by go_simp <;> omega⟩) s0 ?_
      go_simp
      refine wpAnyH_take (i := 4) (v := .int .i64 f) rfl (by kernel_rfl) (by kernel_rfl) (by kernel_rfl) (fun _ _ _ h => h) (Or.inl ⟨by rfl, fun w' _ => by go_simp <;> omega⟩) s0 ?_
      go_simp
      refine wpAnyH_take (i := 6) (v := .agg #[.slice A1 a.gens.length c1, .slice A2 a.free.length c2, .slice A3 a.ents.length c3]) rfl (by kernel_rfl) (by kernel_rfl) (by kernel_rfl) (fun _ _ _ h => h) (Or.inl ⟨by rfl, fun w' h => by obtain ⟨⟨z0, z1, z2⟩, y0, y1, y2⟩ := KC.out w' h; go_simp⟩) s0 ?_
      go_simp
      refine wpAnyH_take (i := 7) (v := .agg #[.slice B1 b.gens.length d1, .slice B2 b.free.length d2, .slice B3 b.ents.length d3]) rfl (by kernel_rfl) (by kernel_rfl) (by kernel_rfl) (fun _ _ _ h => h) (Or.inl ⟨by rfl, fun w' h => by obtain ⟨⟨z0, z1, z2⟩, y0, y1, y2⟩ := KC.out w' h; go_simp⟩) s0 ?_
      go_simp
      refine wpAnyH_take (i := 8) (v := .int .u64 yes) rfl (by kernel_rfl) (by kernel_rfl) (by kernel_rfl) (fun _ _ _ h => h) (Or.inl ⟨by rfl, fun w' _ => by go_simp <;> omega⟩) s0 ?_
      go_simp
      refine wpAnyH_take (i := 9) (v := .int .u64 no) rfl (by kernel_rfl) (by kernel_rfl) (by kernel_rfl) (fun _ _ _ h => h) (Or.inl ⟨by rfl, fun w' _ => by go_simp <;> omega⟩) s0 ?_
      go_simp
      refine wpAnyH_take (i := 10) (v := .int .i64 f) rfl (by kernel_rfl) (by kernel_rfl) (by kernel_rfl) (fun _ _ _ h => h) (Or.inl ⟨by rfl, fun w' _ => by go_simp <;> omega⟩) s0 ?_
      go_simp
      refine wpAnyH_all (rs := [5]) (by kernel_rfl) (by simp) ?_
      intro i hi
      obtain rfl : i = 5 := by simpa using hi
      clear hi
      refine wpOp_step rfl (fun K hK => ?_)
      go_simp
      refine (wevents_calls (KA.out _ (FW.out _ s0)) (KB.out _ (FW.out _ s0)) HYN.out.1 HYN.out.2 HF.out HLN.out).mono ?_
      rintro en w5 ⟨u5, ns, rfl, hpw, hmem, hu5, hb5⟩
      have s1 : Below w3.heap.size w3 w5 := s0.trans (hb5.mono s0.size)
      have HU5 := Lib.hid hu5
      have HPW := Lib.hid hpw
      have HMEM := Lib.hid hmem
      clear hu5 hpw hmem hb5
      refine hK _ _ ⟨s1, ?_⟩
      clear hK K
      refine wpAnyH_all (rs := [11]) (by kernel_rfl) (by simp) ?_
      intro i hi
      obtain rfl : i = 11 := by simpa using hi
      clear hi
      refine wpOp_step rfl (fun K hK => ?_)
      go_simp
      refine (revents_calls (KA.out _ (FW.out _ s1)) (KB.out _ (FW.out _ s1)) HYN.out.1 HYN.out.2 HF.out HM1.out HM2.out).mono ?_
      rintro en w6 ⟨u6, ms, rfl, hpw, hmem, hu6, hb6⟩
      rw [strict_same hpw HPW.out (fun x => (hmem x).trans (HMEM.out x).symm)] at hu6
      have s2 : Below w3.heap.size w3 w6 := s1.trans (hb6.mono s1.size)
      have HU6 := Lib.hid hu6
      have HU56 := Lib.hid (Rep.val_below HU5.out hb6 (fun b _ hl => hl.lt))
      clear hu6 hpw hmem hb6
      refine hK _ _ ⟨s2, ?_⟩
      clear hK K
      refine wpAnyH_all (rs := [12]) (by kernel_rfl) (by simp) ?_
      intro i hi
      obtain rfl : i = 12 := by simpa using hi
      clear hi
      refine wpOp_step rfl (fun K hK => ?_)
      go_simp
      refine (rsame37_calls HU56.out HU6.out).mono ?_
      rintro en w7 ⟨rfl, hb7⟩
      have s3 : Below w3.heap.size w3 w7 := s2.trans (hb7.mono s2.size)
      clear hb7
      refine hK _ _ ⟨s3, ?_⟩
      clear hK K
      refine wpAnyH_take (i := 13) (v := .bool true) rfl (by kernel_rfl) (by kernel_rfl) (by kernel_rfl) (fun _ _ _ h => h) (Or.inl ⟨by rfl, fun w' _ => by go_simp <;> omega⟩) s3 ?_
      go_simp
      refine wpAnyH_all (rs := [14]) (by kernel_rfl) (by simp) ?_
      intro i hi
      obtain rfl : i = 14 := by simpa using hi
      clear hi
      refine wpOp_step rfl (fun K hK => ?_)
      go_simp
      refine (live37_calls _).mono ?_
      rintro en w8 ⟨rfl, hb8⟩
      have s4 : Below w3.heap.size w3 w8 := s3.trans (hb8.mono s3.size)
      clear hb8
      refine hK _ _ ⟨s4, ?_⟩
      clear hK K
      refine wpAnyH_take (i := 15) (v := .bool true) rfl (by kernel_rfl) (by kernel_rfl) (by kernel_rfl) (fun _ _ _ h => h) (Or.inl ⟨by rfl, fun w' _ => by go_simp <;> omega⟩) s4 ?_
      go_simp
      refine wpAnyH_take (i := 16) (v := .bool true) rfl (by kernel_rfl) (by kernel_rfl) (by kernel_rfl) (fun _ _ _ h => h) (Or.inl ⟨by rfl, fun w' _ => by go_simp <;> omega⟩) s4 ?_
      go_simp
      refine wpAnyH_done (by kernel_rfl) ?_ _
      go_wp2_with fail
      go_ret
      exact ⟨rfl, FIN.out _ (FW.out _ s4)⟩

/-- WatchEvents -/
theorem watchEvents_calls {Qa Qb : Nat → Prop} {w : World} {va vb : Value} {a b : DState} {yes no f : Int} (hva : rState.val Qa w va a) (hvb : rState.val Qb w vb b) (hy : (Lit.int .u64 yes).wf = true) (hn : (Lit.int .u64 no).wf = true) (hf : (Lit.int .i64 f).wf = true) :
    Calls Try.prog 9 #[va, vb, .int .u64 yes, .int .u64 no, .int .i64 f] w fun e w' => e = .returned (.bool true) ∧ Below w.heap.size w w' := by
  have h1 : 0 ≤ yes ∧ yes < 18446744073709551616 := by
    simp [Lit.wf, IntKind.min, IntKind.max, IntKind.signed, IntKind.bits] at hy
    omega
  have h3 : 0 ≤ no ∧ no < 18446744073709551616 := by
    simp [Lit.wf, IntKind.min, IntKind.max, IntKind.signed, IntKind.bits] at hn
    omega
  obtain ⟨y, rfl⟩ : ∃ y : Nat, yes = (y : Int) := ⟨yes.toNat, by omega⟩
  obtain ⟨n, rfl⟩ : ∃ n : Nat, no = (n : Int) := ⟨no.toNat, by omega⟩
  exact watchEvents_nat (Q := fun b => b < w.heap.size) (Rep.val_any hva) (Rep.val_any hvb) (by omega) (by omega) hf
end Go.Proofs.Ytfpmkenobphfnaa
/- The walk of 'vivariumlaw37.WatchEvents', lifted to the machine. -/
namespace Go.Proofs.Ytfpmkenobphfnaa.WatchEventsLaw
open Go.ChangeShapes Go.WideShapes Go.ChangeAt Go.RowKit

set_option maxRecDepth 100000 in
theorem lifted (os : Os) (started : os.Started) (H : Type) (enc : TypeId × Value → H) :
    ReturnsInHanded {} Try.checked os 9 .any (Rows.watchEventsSpec.pre6 enc Try.prog Try.f9 Rows.watchEventsRow.domain false) (Rows.watchEventsSpec.post enc Try.prog Try.f9 false true false false) := by
  refine returnsInHanded_of_change (C := Try.checked) own started (by kernel_rfl) Try.func9
    (ChangeSpec.witness6 (enc := enc) (C := Try.checked) false ⟨#[], #[.agg #[.slice none 0 0, .slice none 0 0, .slice none 0 0], .agg #[.slice none 0 0, .slice none 0 0, .slice none 0 0], .int .u64 0, .int .u64 0, .int .i64 0], []⟩ 8 (by kernel_rfl) (by kernel_rfl) (by kernel_rfl) (by kernel_rfl)) ?_
  intro W base args ds gs before hval0 hW _ _
  have hval : ∀ (j : Nat) t v, Try.f9.params[j]? = some t → args[j]? = some v → Value.okWide Try.prog W .any base t v := hval0
  have hW' := hW
  obtain ⟨p, q, hA0, hV, rfl, _, _⟩ := hW
  have hA : DataW.TrodAll enc Try.prog W 0 (fun _ => true) true Try.f9.params.toList args.toList ds p := hA0
  rw [Try.params9] at hA hval
  have hA2 := hA
  obtain ⟨v0, vs0, d0, ds0, p0, q0, hargs, rfl, rfl, h0, r0⟩ := trodAll_cons hA
  obtain ⟨v1, vs1, d1, ds1, p1, q1, rfl, rfl, rfl, h1, r1⟩ := trodAll_cons r0
  obtain ⟨v2, vs2, d2, ds2, p2, q2, rfl, rfl, rfl, h2, r2⟩ := trodAll_cons r1
  obtain ⟨v3, vs3, d3, ds3, p3, q3, rfl, rfl, rfl, h3, r3⟩ := trodAll_cons r2
  obtain ⟨v4, vs4, d4, ds4, p4, q4, rfl, rfl, rfl, h4, r4⟩ := trodAll_cons r3
  obtain ⟨rfl, rfl, rfl⟩ := trodAll_nil r4
  obtain rfl : args = #[v0, v1, v2, v3, v4] := by cases args; simp_all
  obtain ⟨rfl, rfl⟩ := trodVars_none hV
  obtain ⟨y0, k0⟩ := Rep.opens of_State (Rep.wrap_agg Try.underlying109 (fun _ => rfl)) (hval 0 109 v0 rfl rfl) h0
  obtain ⟨y1, k1⟩ := Rep.opens of_State (Rep.wrap_agg Try.underlying109 (fun _ => rfl)) (hval 1 109 v1 rfl rfl) h1
  obtain ⟨y2, k2⟩ := Rep.opens (Rep.of_int Try.underlying65 (by kernel_rfl)) (Rep.wrap_int Try.underlying65) (hval 2 65 v2 rfl rfl) h2
  obtain ⟨rfl, w2⟩ := Rep.val_int k2
  obtain ⟨y3, k3⟩ := Rep.opens (Rep.of_int Try.underlying65 (by kernel_rfl)) (Rep.wrap_int Try.underlying65) (hval 3 65 v3 rfl rfl) h3
  obtain ⟨rfl, w3⟩ := Rep.val_int k3
  obtain ⟨y4, k4⟩ := Rep.opens (Rep.of_int Try.underlying3 (by kernel_rfl)) (Rep.wrap_int Try.underlying3) (hval 4 3 v4 rfl rfl) h4
  obtain ⟨rfl, w4⟩ := Rep.val_int k4
  refine (watchEvents_calls k0 k1 w2 w3 w4).mono fun e W' ⟨he, bel⟩ => ?_
  subst he
  exact ⟨_, rfl, _, _, _, [], _, [], hW', trodAll_mk1 (shut_bool Try.underlying4 _), trodAll_below laidOut bel (of_decide_eq_true (by kernel_rfl)) hA2, rfl, bel.frame _, fun h => by cases h⟩

end WatchEventsLaw
end Go.Proofs.Ytfpmkenobphfnaa
