/- Texts on which the proofs stand: DirPuts, LiftDirPuts. No condition is laid on any input. -/
import Derived.Test.YtfpmkenobphfnaaDpG1
import Derived.Test.YtfpmkenobphfnaaDpRDirRight
/- The statement on entries as0 bytes, there and back, walked. -/
namespace Go.Proofs.Ytfpmkenobphfnaa
open Go.RowKit

theorem ents_sig {Q : Nat → Prop} {w : World} {v : Value} {l : List DEntry} (h : rEntry.list.val Q w v l) : ∀ x ∈ l, 0 ≤ x.key.sig ∧ x.key.sig < 18446744073709551616 := by
  intro x hx
  obtain ⟨A, c, rfl, _, _, hA⟩ := Rep.val_list h
  obtain ⟨i, hi, rfl⟩ := List.getElem_of_mem hx
  obtain ⟨_, _, _, _, _, _, _, _, _, _, _, _, f1, _⟩ := rEntry_at hA (List.getElem?_eq_getElem hi)
  simp [Lit.wf, IntKind.min, IntKind.max, IntKind.signed, IntKind.bits] at f1
  omega
theorem much_not {l : List DEntry} (h : muchEnts l = false) : l.length ≤ 30 ∧ ∀ x ∈ l, x.pages.length ≤ 50 := by
  unfold muchEnts at h
  rw [Bool.or_eq_false_iff, decide_eq_false_iff_not] at h
  obtain ⟨h1, h2⟩ := h
  refine ⟨by omega, fun x hx => ?_⟩
  rw [List.take_of_length_le (by omega), List.any_eq_false] at h2
  have := h2 x hx
  simp at this; omega
theorem allPages_bound : ∀ {l : List DEntry}, (∀ x ∈ l, x.pages.length ≤ 50) → (allPages l).length ≤ 50 * l.length
  | [], _ => by simp [allPages]
  | x :: l, h => by
    have ih := allPages_bound (l := l) (fun y hy => h y (by simp [hy]))
    have h1 := h x (by simp)
    have : allPages (x :: l) = x.pages ++ allPages l := by simp [allPages]
    rw [this, List.length_append, List.length_cons]; omega
theorem dirBytes_bound {l : List DEntry} (h : ∀ x ∈ l, x.pages.length ≤ 50) : (dirBytes l).length ≤ 2 + 116 * l.length := by
  have key : ∀ {l : List DEntry}, (∀ x ∈ l, x.pages.length ≤ 50) → ((l.map entBytes).flatten).length ≤ 116 * l.length := by
    intro l
    induction l with
    | nil => intro _; simp
    | cons x l ih =>
      intro h
      have h1 := h x (by simp)
      have h2 := ih (fun y hy => h y (by simp [hy]))
      rw [List.map_cons, List.flatten_cons, List.length_append, entBytes_len, List.length_cons]; omega
  have := key h
  unfold dirBytes
  rw [List.length_append, num_len2]; omega

set_option maxRecDepth 100000 in
set_option maxHeartbeats 4000000 in
/-- DirPuts -/
theorem dirPuts_calls {Qc Q : Nat → Prop} {w : World} {vc v : Value} {c : DConf} {l : List DEntry} (hc : rConf.val Qc w vc c) (hl : rEntry.list.val Q w v l) :
    Calls Try.prog 4 #[vc, v] w fun e w' => e = .returned (.bool true) ∧ Below w.heap.size w w' := by
  have HSG := Lib.hid (ents_sig hl)
  have HLV := Lib.hid (Rep.val_any hl)
  obtain ⟨AL, cl, rfl, hcl, hml, _⟩ := Rep.val_list hl
  unfold maxLen at hml
  obtain ⟨A, cap, rfl, _⟩ := rConf_val hc
  have hm := InBox.made hc 24
  have hbel : Below w.heap.size w (w.alloc (.cells #[.int .i64 c.log, .int .i64 c.pages, .int .i64 c.entities, .int .i64 c.gens, .slice A c.comps.length cap] 24)) := (Below.refl _ _).alloc (Nat.le_refl _) _
  have hsz : (w.alloc (.cells #[.int .i64 c.log, .int .i64 c.pages, .int .i64 c.entities, .int .i64 c.gens, .slice A c.comps.length cap] 24)).heap.size = w.heap.size + 1 := by simp
  generalize hW1 : w.alloc (.cells #[.int .i64 c.log, .int .i64 c.pages, .int .i64 c.entities, .int .i64 c.gens, .slice A c.comps.length cap] 24) = W1 at *
  have HB := Lib.hid hbel
  have KM := Lib.hid (show ∀ W, Below W1.heap.size W1 W → InBox W w.heap.size c A cap from fun W h => hm.later (h.mono (Nat.le_of_eq hsz.symm)))
  have KL := Lib.hid (show ∀ W, Below W1.heap.size W1 W → rEntry.list.val (fun b => b < w.heap.size) W (.slice AL l.length cl) l from fun W h => Rep.val_below (B := w.heap.size) HLV.out (hbel.trans (h.mono hbel.size)) fun _ h _ => h)
  have FIN := Lib.hid (show ∀ W, Below W1.heap.size W1 W → Below w.heap.size w W from fun W h => hbel.trans (h.mono hbel.size))
  obtain ⟨a0, a1, a2, a3, a4, _⟩ := hm
  clear hc hl hbel hsz
  go_enter Try.func4, Try.ntmps4
  go_wp2_with fail
  try rw [hW1]
  clear hW1
  try go_wp2_with fail
  refine (much_calls (KM.out _ (Below.refl _ _)).val).mono ?_
  rintro e w1 ⟨rfl, hb1⟩
  generalize muchConf c = mc
  have D1 := Lib.hid hb1
  clear hb1 a0 a1 a2 a3 a4
  cases mc with
  | true =>
    go_wp2_with fail
    refine (live25 _).mono ?_
    rintro e w9 ⟨rfl, hb9⟩
    go_wp2_with fail
    go_ret
    exact ⟨rfl, FIN.out _ (D1.out.trans (hb9.mono D1.out.size))⟩
  | false =>
  go_wp2_with fail
  refine (muchEnts_calls (KL.out _ D1.out)).mono ?_
  rintro e w2 ⟨rfl, hw⟩
  subst hw
  cases hme : muchEnts l with
  | true =>
    go_wp2_with fail
    refine (live25 _).mono ?_
    rintro e w9 ⟨rfl, hb9⟩
    go_wp2_with fail
    go_ret
    exact ⟨rfl, FIN.out _ (D1.out.trans (hb9.mono D1.out.size))⟩
  | false =>
  obtain ⟨hl30, hl50⟩ := much_not hme
  have HL30 := Lib.hid hl30
  have HL50 := Lib.hid hl50
  have HPG := Lib.hid (show (allPages l).length ≤ 1500 by have := allPages_bound hl50; omega)
  have HDB := Lib.hid (show (dirBytes l).length ≤ 3482 by have := dirBytes_bound hl50; omega)
  have HRT := Lib.hid (show dirRight c l = true → (∀ x ∈ l, x.long ≤ 4294967295) → dirGet (dirBytes l) = (l, 0) from fun h h2 => by
    refine dir_get_put (by omega) (right_fits h ?_ (fun x hx => ⟨(HSG.out x hx).1, (HSG.out x hx).2, by have := h2 x hx; omega, by have := hl50 x hx; omega⟩))
    unfold dirRight at h
    simp only [Bool.and_eq_true] at h
    exact (right_log_pages h.1.1).2.2.2.1)
  clear hme hl30 hl50
  go_wp2_with fail
  refine (dput_calls (KL.out _ D1.out) (by have := HDB.out; omega) (by have := HL30.out; omega)).mono ?_
  rintro e w3 ⟨u3, rfl, hu3, hb3⟩
  have D3 := Lib.hid (D1.out.trans (hb3.mono D1.out.size))
  have HU3 := Lib.hid hu3
  have HRB := Lib.hid (show ∀ (Q : Nat → Prop) (W : World) (v : Value), rEntry.list.val Q W v l → Calls Try.prog 30 #[v] W (ResA Rep.byte 5 W (dirBytes l)) from fun _ _ _ h => rdput_calls h (by have := HDB.out; omega) (by have := HL30.out; omega))
  have HSZ := Lib.hid (show ∀ (Q : Nat → Prop) (W : World) (v : Value), rEntry.list.val Q W v l → Calls Try.prog 31 #[v] W fun e w' => e = .returned (.int .i64 (dirBytes l).length) ∧ Below W.heap.size W w' from fun _ _ _ h => dsize_calls h (by have := HDB.out; omega) (by have := HL30.out; omega))
  generalize dirBytes l = bs at *
  obtain ⟨A3, c3, rfl, _, _, _⟩ := Rep.val_list hu3
  obtain ⟨r, hr⟩ : ∃ r, dirRight c l = r := ⟨_, rfl⟩
  have HR := Lib.hid hr
  obtain ⟨q, hq⟩ : ∃ q, allPages l = q := ⟨_, rfl⟩
  have HQ := Lib.hid hq
  have HRR : (r != r) = false := by cases r <;> rfl
  have C3 := Lib.hid (show ∀ W', Below w3.heap.size w3 W' → Below W1.heap.size W1 W' from fun W' h => D3.out.trans (h.mono D3.out.size))
  have C9 : ∀ W', Below w3.heap.size w3 W' → W'.cell? ⟨w.heap.size, 0, none⟩ = some (.int .i64 c.log) ∧ W'.cell? ⟨w.heap.size, 1, none⟩ = some (.int .i64 c.pages) ∧ W'.cell? ⟨w.heap.size, 2, none⟩ = some (.int .i64 c.entities) ∧ W'.cell? ⟨w.heap.size, 3, none⟩ = some (.int .i64 c.gens) ∧ W'.cell? ⟨w.heap.size, 4, none⟩ = some (.slice A c.comps.length cap) := fun W' hb => by
    obtain ⟨a0, a1, a2, a3, a4, _⟩ := KM.out W' (C3.out W' hb)
    exact ⟨a0, a1, a2, a3, a4⟩
  clear hu3 hb3 hr hq
  have hbd := (Below.refl w3.heap.size w3).drew
  go_wp2_with fail
  go_region_held3 (fun W' => Below w3.heap.size w3 W')
    ((first | with_reducible assumption | with_reducible exact d4 | with_reducible exact d5 | with_reducible exact d6 | with_reducible exact d7 | with_reducible exact d8))
    (first
      | (go_at_call 30; refine (HRB.out _ _ _ (KL.out _ (C3.out _ ‹Below w3.heap.size w3 _›))).mono ?_; rintro e w4 ⟨u4, rfl, hu4, hb4⟩; have HU4 := Lib.hid hu4; have d4 := Below.trans ‹Below w3.heap.size w3 _› (hb4.mono (Below.size ‹Below w3.heap.size w3 _›)); obtain ⟨A4, c4, rfl, _, _⟩ := Rep.acc_form hu4; clear hu4 hb4)
      | (go_at_call 21; refine (sameBytes (Rep.val_below (B := w3.heap.size) HU3.out d4 (fun b _ hl => hl.lt)) (Rep.acc_val HU4.out)).mono ?_; rintro e w6 ⟨rfl, hw⟩; subst hw; rw [show decide (bs = bs) = true from decide_eq_true rfl])
      | (go_at_call 31; refine (HSZ.out _ _ _ (KL.out _ (C3.out _ ‹Below w3.heap.size w3 _›))).mono ?_; rintro e w5 ⟨rfl, hb5⟩; have d5 := Below.trans ‹Below w3.heap.size w3 _› (hb5.mono (Below.size ‹Below w3.heap.size w3 _›)); clear hb5)
      | (go_at_call 32; refine (dright_calls (KM.out _ (C3.out _ ‹Below w3.heap.size w3 _›)).val (KL.out _ (C3.out _ ‹Below w3.heap.size w3 _›)) (by have := HPG.out; omega)).mono ?_; rintro e w5 ⟨rfl, hb5⟩; rw [HR.out]; have d6 := Below.trans ‹Below w3.heap.size w3 _› (hb5.mono (Below.size ‹Below w3.heap.size w3 _›)); clear hb5)
      | (go_at_call 33; refine (rdright_calls (KM.out _ (C3.out _ ‹Below w3.heap.size w3 _›)).val (KL.out _ (C3.out _ ‹Below w3.heap.size w3 _›))).mono ?_; rintro e w5 ⟨rfl, hb5⟩; rw [HR.out]; have d7 := Below.trans ‹Below w3.heap.size w3 _› (hb5.mono (Below.size ‹Below w3.heap.size w3 _›)); clear hb5)
      | (go_at_call 34; refine (dpages_calls (KL.out _ (C3.out _ ‹Below w3.heap.size w3 _›)) (by have := HPG.out; omega)).mono ?_; rintro e w5 ⟨u5, rfl, hu5, hb5⟩; rw [HQ.out] at hu5; have HU5 := Lib.hid hu5; have d8 := Below.trans ‹Below w3.heap.size w3 _› (hb5.mono (Below.size ‹Below w3.heap.size w3 _›)); obtain ⟨A5, c5, rfl, _, _⟩ := Rep.acc_form hu5; clear hu5 hb5)
      | (go_at_call 35; refine (rdpages_calls (KL.out _ (C3.out _ d8)) (by have := HPG.out; omega)).mono ?_; rintro e w6 ⟨u6, rfl, hu6, hb6⟩; rw [HQ.out] at hu6; have HU6 := Lib.hid hu6; have HB6 := Lib.hid hb6; have d9 := Below.trans d8 (hb6.mono (Below.size d8)); obtain ⟨A6, c6, rfl, _, _⟩ := Rep.acc_form hu6; clear hu6 hb6)
      | (go_at_call 22; refine (sameList (Rep.acc_val (Rep.acc_later HU5.out HB6.out)) (Rep.acc_val HU6.out)).mono ?_; rintro e w8 ⟨rfl, nq, rfl⟩; rw [show decide (q = q) = true from decide_eq_true rfl]; have dA := below_drewN d9 nq))
  obtain ⟨W8, hW8⟩ : ∃ W8, w6.drewN nq = W8 := ⟨_, rfl⟩
  rw [hW8] at dA
  have D8 := Lib.hid (C3.out _ dA)
  have HU8 := Lib.hid (Rep.val_below (B := w3.heap.size) HU3.out dA (fun b _ hl => hl.lt))
  rw [hW8]
  obtain ⟨gl, gn, hg⟩ : ∃ gl gn, dirGet bs = (gl, gn) := ⟨_, _, rfl⟩
  have HGE := Lib.hid hg
  have HGC := Lib.hid (dget_calls HU8.out (by have := HDB.out; omega))
  rw [HGE.out] at HGC
  dsimp only at HGC
  clear hW8 dA hbd C9 C3 HU3 HU4 HU5 HU6 HB6 HRB HSZ D3 hg d4 d5 d6 d7 d8 d9 HRR
  go_wp2_with fail
  go_loop [6] (fun i => ∃ k : Nat, i = .int .i64 k ∧ k ≤ l.length ∧ Hid (∀ x ∈ l.take k, x.long ≤ 4294967295)) (fun i => l.length - (intOf i).toNat)
  case atStart => exact ⟨0, rfl, Nat.zero_le _, Lib.hid (by simp)⟩
  case round =>
    obtain ⟨k, rfl, hk, hv⟩ := hrel
    by_cases hlt : (k : Int) < l.length
    · obtain ⟨x, hx⟩ : ∃ x, l[k]? = some x := ⟨_, List.getElem?_eq_getElem (by omega)⟩
      obtain ⟨A', c', he, _, _, hat⟩ := Rep.val_list (KL.out _ D8.out)
      cases he
      obtain ⟨b, off, Ap, cp, rfl, hbc, e0, e1, e2, e3, e4, _, _, _, _, hs⟩ := rEntry_at hat hx
      have HTK := Lib.hid (show x.long ≤ 4294967295 → ∀ y ∈ l.take (k + 1), y.long ≤ 4294967295 from fun h y hy => by
        rw [List.take_succ_eq_append_getElem (by omega), List.mem_append, List.mem_singleton] at hy
        rcases hy with hy | hy
        · exact hv.out y hy
        · rw [hy, (List.getElem?_eq_some_iff.1 hx).2]; exact h)
      clear hat hx hs hbc
      by_cases hlong : 4294967295 < x.long
      · go_wp2_with fail
        refine (live25 _).mono ?_
        rintro e w9 ⟨rfl, hb9⟩
        go_wp2_with fail
        go_ret
        exact ⟨rfl, FIN.out _ (D8.out.trans (hb9.mono D8.out.size))⟩
      · have HT2 := Lib.hid (HTK.out (by omega))
        go_wp2_with fail
        exact ⟨⟨k + 1, by go_num, by omega, HT2⟩, by simp [intOf]; omega⟩
    · obtain rfl : k = l.length := by omega
      rw [List.take_length] at hv
      go_wp2_with fail
      refine HGC.out.mono ?_
      rintro e w9 ⟨u9, rfl, hu9, hb9⟩
      have D9 := Lib.hid (D8.out.trans (hb9.mono D8.out.size))
      have HU9 := Lib.hid hu9
      obtain ⟨A9, c9, rfl, _, _, _⟩ := Rep.val_list hu9
      obtain ⟨a0, a1, a2, a3, a4, _⟩ := KM.out _ D9.out
      clear hu9 hb9
      go_wp2_with fail
      refine (rdright_calls (KM.out _ D9.out).val (KL.out _ D9.out)).mono ?_
      rintro e w10 ⟨rfl, hb10⟩
      rw [HR.out]
      have DX := Lib.hid (D9.out.trans (hb10.mono D9.out.size))
      have HUX := Lib.hid (Rep.val_below HU9.out hb10 (fun b _ hl => hl.lt))
      clear hb10 a0 a1 a2 a3 a4
      cases r with
      | false =>
        go_wp2_with fail
        refine (live25 _).mono ?_
        rintro e w11 ⟨rfl, hb11⟩
        go_wp2_with fail
        go_ret
        exact ⟨rfl, FIN.out _ (DX.out.trans (hb11.mono DX.out.size))⟩
      | true =>
        have hg2 := HRT.out HR.out hv.out
        rw [HGE.out] at hg2
        obtain ⟨rfl, rfl⟩ : gl = l ∧ gn = 0 := by simpa using hg2
        clear hg2
        go_wp2_with fail
        refine (entSame_calls HUX.out (KL.out _ DX.out)).mono ?_
        rintro e w11 ⟨rfl, nq2, rfl⟩
        rw [show decide (gl = gl) = true from decide_eq_true rfl]
        have DY := Lib.hid (below_drewN DX.out nq2)
        go_wp2_with (go_at_call 38; refine (code25_calls _ _).mono ?_; rintro e w' ⟨rfl, rfl⟩)
        refine (live25 _).mono ?_
        rintro e w12 ⟨rfl, hb12⟩
        go_wp2_with fail
        go_ret
        exact ⟨rfl, FIN.out _ (DY.out.trans (hb12.mono DY.out.size))⟩
end Go.Proofs.Ytfpmkenobphfnaa
/- The walk of 'vivariumlaw25.DirPuts', lifted to the machine. -/
namespace Go.Proofs.Ytfpmkenobphfnaa.DirPutsLaw
open Go.ChangeShapes Go.WideShapes Go.ChangeAt Go.RowKit

set_option maxRecDepth 100000 in
theorem lifted (os : Os) (started : os.Started) (H : Type) (enc : TypeId × Value → H) :
    ReturnsInHanded {} Try.checked os 4 .any (Rows.dirPutsSpec.pre6 enc Try.prog Try.f4 Rows.dirPutsRow.domain false) (Rows.dirPutsSpec.post enc Try.prog Try.f4 false true false false) := by
  refine returnsInHanded_of_change (C := Try.checked) own started (by kernel_rfl) Try.func4
    (ChangeSpec.witness6 (enc := enc) (C := Try.checked) false ⟨#[], #[.agg #[.int .i64 0, .int .i64 0, .int .i64 0, .int .i64 0, .slice none 0 0], .slice none 0 0], []⟩ 8 (by kernel_rfl) (by kernel_rfl) (by kernel_rfl) (by kernel_rfl)) ?_
  intro W base args ds gs before hval0 hW _ _
  have hval : ∀ (j : Nat) t v, Try.f4.params[j]? = some t → args[j]? = some v → Value.okWide Try.prog W .any base t v := hval0
  have hW' := hW
  obtain ⟨p, q, hA0, hV, rfl, _, _⟩ := hW
  have hA : DataW.TrodAll enc Try.prog W 0 (fun _ => true) true Try.f4.params.toList args.toList ds p := hA0
  rw [Try.params4] at hA hval
  have hA2 := hA
  obtain ⟨v0, vs0, d0, ds0, p0, q0, hargs, rfl, rfl, h0, r0⟩ := trodAll_cons hA
  obtain ⟨v1, vs1, d1, ds1, p1, q1, rfl, rfl, rfl, h1, r1⟩ := trodAll_cons r0
  obtain ⟨rfl, rfl, rfl⟩ := trodAll_nil r1
  obtain rfl : args = #[v0, v1] := by cases args; simp_all
  obtain ⟨rfl, rfl⟩ := trodVars_none hV
  obtain ⟨y0, k0⟩ := Rep.opens of_Conf (Rep.wrap_agg Try.underlying24 (fun _ => rfl)) (hval 0 24 v0 rfl rfl) h0
  obtain ⟨y1, k1⟩ := Rep.opens (Rep.of_list Try.underlying59 (by kernel_rfl) (by decide) of_Entry) (Rep.wrap_list Try.underlying59) (hval 1 59 v1 rfl rfl) h1
  refine (dirPuts_calls k0 k1).mono fun e W' ⟨he, bel⟩ => ?_
  subst he
  exact ⟨_, rfl, _, _, _, [], _, [], hW', trodAll_mk1 (shut_bool Try.underlying4 _), trodAll_below laidOut bel (of_decide_eq_true (by kernel_rfl)) hA2, rfl, bel.frame _, fun h => by cases h⟩

end DirPutsLaw
end Go.Proofs.Ytfpmkenobphfnaa
