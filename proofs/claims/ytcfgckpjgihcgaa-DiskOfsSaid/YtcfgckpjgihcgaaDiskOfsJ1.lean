/- Texts on which the proof of DiskOfs stands, part 1: DiskOfs, LiftDiskOfs. No condition is laid on any input. -/
import Derived.Test.YtcfgckpjgihcgaaDskJ8
/- The statement on a device of any bytes, and on one that is nil, walked. -/
namespace Go.Proofs.Ytcfgckpjgihcgaa
open Go.RowKit

theorem chunks_len (b : List UInt8) : (chunks b).length = b.length / 512 := by unfold chunks; simp
theorem chunks_sec {b x : List UInt8} (h : x ∈ chunks b) : x.length = 512 := by
  unfold chunks at h
  obtain ⟨k, hk, rfl⟩ := List.mem_map.1 h
  have := List.mem_range.1 hk
  unfold chunk
  rw [List.length_take, List.length_drop]; omega
/-- What the reads of both tell. -/
theorem mirror_read {st : DiskSt} {d : DDisk} (h : Mirror st d) (i : Int) : (readSt st i).2 = (goW d ⟨0, i, [], []⟩).2 := by
  have := (mirror_step h ⟨0, i, [], []⟩).2
  unfold outSt at this
  simpa using this
theorem zero_step (w : World) (Q : Nat → Prop) {i : Int} (hi : (Lit.int .i64 i).wf = true) : rStep.val Q w (.agg #[.int .i64 0, .int .i64 i, .slice none 0 0, .slice none 0 0]) ⟨0, i, [], []⟩ :=
  rStep_agg (x := ⟨0, i, [], []⟩) rfl hi (A_b := none) (c_b := 0) ⟨Nat.zero_le _, Nat.zero_le _, [], rfl, fun h => absurd h (by simp)⟩ (A_fates := none) (c_fates := 0) ⟨Nat.zero_le _, Nat.zero_le _, [], rfl, fun h => absurd h (by simp)⟩

def k_in (w w1 : World) (M k : Nat) : Prop := k < w.heap.size ∨ (w1.heap.size ≤ k ∧ k < M + 1)
set_option maxRecDepth 100000 in
set_option maxHeartbeats 4000000 in
/-- DiskOfs -/
theorem diskOfs_calls {Q : Nat → Prop} {w : World} {v : Value} {b : List UInt8} {i : Int} (hx : Rep.byte.list.val Q w v b) (hi : (Lit.int .i64 i).wf = true) :
    Calls Try.prog 9 #[v, .int .i64 i] w fun e w' => e = .returned (.bool true) ∧ Below w.heap.size w w' := by
  have HX := Lib.hid (Rep.val_any hx)
  have HI := Lib.hid hi
  obtain ⟨A0, c0, rfl, hc0, hm0, _⟩ := Rep.val_list hx
  unfold maxLen at hm0
  clear hx hi
  by_cases hlen : (4000 : Int) < b.length
  · go_enter Try.func9, Try.ntmps9
    go_wp2_with (go_at_call 67; refine (live04_calls _).mono ?_; rintro e w' ⟨rfl, hb⟩)
    go_ret
    exact ⟨rfl, hb⟩
  · have HL := Lib.hid (show b.length ≤ 4000 by omega)
    go_enter Try.func9, Try.ntmps9
    go_wp2_with fail
    refine (dof_calls HX.out (by have := HL.out; omega)).mono ?_
    rintro e w1 ⟨P, F, B, rfl, hd, hF, hb1⟩
    have HD1 := Lib.hid (show DevAt (fun k => k < w.heap.size) w1 P 0 (newSt (chunks b)) from ⟨fun k hk => Nat.lt_of_lt_of_le hk hb1.size, F, B, hd, fun k hk hk' => by have := hF k hk; omega⟩)
    have HB1 := Lib.hid hb1
    clear hd hF hb1
    go_wp2_with fail
    refine (rof04_calls (Rep.val_below (B := w.heap.size) HX.out HB1.out (fun _ h _ => h)) (by have := HL.out; omega)).mono ?_
    rintro e w2 ⟨z, rfl, hz, hb2⟩
    have HM0 := Lib.hid (show Mirror (newSt (chunks b)) (ofD (chunks b)) from ⟨rfl, fun _ => rfl, fun x hx => (by cases hx), rfl, rfl, rfl, rfl⟩)
    obtain ⟨n, hn⟩ : ∃ n : Nat, b.length / 512 = n := ⟨_, rfl⟩
    have HLS := Lib.hid (show (ofD (chunks b)).safe.length = n from (chunks_len b).trans hn)
    have HN := Lib.hid (show n ≤ 100 by have := HL.out; omega)
    have hnI : (b.length : Int) / 512 = (n : Int) := by omega
    have hnW : IntKind.i64.wrap (n : Int) = n := IntWalk.i64_in _ ⟨by omega, by omega⟩
    clear hn
    have HLW := Lib.hid (show (ofD (chunks b)).wait.length = 0 from rfl)
    have HSEC := Lib.hid (show ∀ x ∈ (newSt (chunks b)).safe, x.length = 512 from fun x hx => chunks_sec hx)
    have HWT := Lib.hid (show ∀ j, ∀ x ∈ (newSt (chunks b)).wait j, x.length ≤ 100000 from fun j x hx => (by cases hx))
    generalize newSt (chunks b) = s0 at *
    generalize ofD (chunks b) = d0 at *
    obtain ⟨B0, k0, B1, k1, rfl, q0, q1, f2, f3, f4⟩ := rDisk_val hz
    have HB2 := Lib.hid hb2.size
    have h3 : Below w2.heap.size w2 (w2.alloc (.cells #[.slice B0 d0.safe.length k0, .slice B1 d0.wait.length k1, .int .i64 d0.fuse, .bool d0.off, .int .i64 d0.reads, .int .i64 d0.writes] 104)) := (Below.refl _ _).alloc (Nat.le_refl _) _
    have HBX := Lib.hid (heap_alloc_new w2 (.cells #[.slice B0 d0.safe.length k0, .slice B1 d0.wait.length k1, .int .i64 d0.fuse, .bool d0.off, .int .i64 d0.reads, .int .i64 d0.writes] 104))
    have HV3 := Lib.hid (Rep.val_keep (w := w2) (w' := w2.alloc (.cells #[.slice B0 d0.safe.length k0, .slice B1 d0.wait.length k1, .int .i64 d0.fuse, .bool d0.off, .int .i64 d0.reads, .int .i64 d0.writes] 104)) (Q' := fun k => w1.heap.size ≤ k ∧ k < w2.heap.size) (fun k hk hl => ⟨⟨hk, hl.lt⟩, h3.block k hl.lt⟩) hz)
    have HB3 := Lib.hid (hb2.trans (h3.mono hb2.size))
    have HD3 := Lib.hid (HD1.out.grow (K' := fun k => k < w.heap.size ∨ (w1.heap.size ≤ k ∧ k < w2.heap.size + 1)) (hb2.trans (h3.mono hb2.size)) (fun k hk => hk.imp id fun e => ⟨e.1, by simpa using e.2⟩))
    clear hz hb2 q0 q1 f2 f3 f4 h3
    go_wp2_with fail
    generalize w2.alloc (.cells #[.slice B0 d0.safe.length k0, .slice B1 d0.wait.length k1, .int .i64 d0.fuse, .bool d0.off, .int .i64 d0.reads, .int .i64 d0.writes] 104) = w3 at *
    generalize w2.heap.size = M at *
    refine (dev_read HD3.out HI.out (fun x hx => by have := HSEC.out x hx; omega) HWT.out).mono ?_
    rintro e w4 ⟨u4, rfl, hu4, hd4, hk4⟩
    rw [mirror_read HM0.out i] at hu4 ⊢
    have HD4 := Lib.hid hd4
    have HU4 := Lib.hid hu4
    have HSAFE := Lib.hid (show (readSt s0 i).1.safe = d0.safe from (readSt_alike s0 i).1.trans HM0.out.safe)
    have HB4 := Lib.hid (show Below w.heap.size w w4 from HB1.out.trans ((HB3.out.mono HB1.out.size).trans (hk4.below (base := w.heap.size) fun k hk => .inl hk)))
    have hMK : k_in w w1 M M := .inr ⟨by have := HB2.out; omega, Nat.lt_succ_self _⟩
    have HBX4 := Lib.hid ((hk4.block M hMK).trans HBX.out)
    have HML := Lib.hid (hd4.lt M hMK)
    have HV4 := Lib.hid (hk4.val (Q := fun k => w1.heap.size ≤ k ∧ k < M) (fun k hk => .inr ⟨hk.1, Nat.lt_succ_of_lt hk.2⟩) HV3.out)
    have C4 : ∀ W', Below w4.heap.size w4 W' → W'.cell? ⟨M, 0, none⟩ = some (.slice B0 d0.safe.length k0) ∧ W'.cell? ⟨M, 1, none⟩ = some (.slice B1 d0.wait.length k1) ∧ W'.cell? ⟨M, 2, none⟩ = some (.int .i64 d0.fuse) ∧ W'.cell? ⟨M, 3, none⟩ = some (.bool d0.off) ∧ W'.cell? ⟨M, 4, none⟩ = some (.int .i64 d0.reads) ∧ W'.cell? ⟨M, 5, none⟩ = some (.int .i64 d0.writes) := fun W' hb => by
      have h := (hb.block M HML.out).trans HBX4.out
      exact ⟨cell_row h 0, cell_row h 1, cell_row h 2, cell_row h 3, cell_row h 4, cell_row h 5⟩
    have b4 := Below.refl w4.heap.size w4
    obtain ⟨A4, c4, rfl, _, _, _⟩ := Rep.val_list hu4
    have HKY := Lib.hid HM0.out.keys
    clear hu4 hd4 hk4 hMK HV3 HBX HD3 HM0
    go_wp2_with fail
    refine (rgo_calls (x := ⟨0, i, [], []⟩) (Q' := fun _ => False) HV4.out (zero_step _ _ HI.out) (fun k hk => by have := HML.out; omega) (fun k hk => hk.elim) (by rw [HLW.out]; decide) (by rw [HLS.out]; have := HN.out; omega) HKY.out).mono ?_
    rintro e w5 ⟨z, u5, rfl, hz, hu5, hb5⟩
    generalize (goW d0 ⟨0, i, [], []⟩).1 = d' at *
    generalize (goW d0 ⟨0, i, [], []⟩).2.1 = want at *
    generalize (goW d0 ⟨0, i, [], []⟩).2.2 = er at *
    obtain ⟨E0, m0, E1, m1, rfl, q0, q1, f2, f3, f4⟩ := rDisk_val hz
    obtain ⟨A5, c5, rfl, _, _, _⟩ := Rep.val_list hu5
    have h6 : Below w5.heap.size w5 (w5.alloc (.cells #[.slice E0 d'.safe.length m0, .slice E1 d'.wait.length m1, .int .i64 d'.fuse, .bool d'.off, .int .i64 d'.reads, .int .i64 d'.writes] 104)) := (Below.refl _ _).alloc (Nat.le_refl _) _
    have HB6 := Lib.hid (hb5.trans (h6.mono hb5.size))
    have HU6 := Lib.hid (Rep.val_keep (w' := w5.alloc (.cells #[.slice E0 d'.safe.length m0, .slice E1 d'.wait.length m1, .int .i64 d'.fuse, .bool d'.off, .int .i64 d'.reads, .int .i64 d'.writes] 104)) (Q' := fun _ => True) (fun k _ hl => ⟨trivial, h6.block k hl.lt⟩) hu5)
    clear hz hu5 q0 q1 f2 f3 f4 h6 b4 hb5
    go_wp2_with (first
      | (go_at_call 82; refine (nil_fuse _).mono ?_; rintro e w' ⟨rfl, rfl⟩)
      | (go_at_call 83; refine (nil_crash _).mono ?_; rintro e w' ⟨rfl, rfl⟩)
      | (go_at_call 81; refine (nil_read _).mono ?_; rintro e w' ⟨rfl, rfl⟩)
      | (go_at_call 85; refine (nil_write _).mono ?_; rintro e w' ⟨rfl, rfl⟩)
      | (go_at_call 86; refine (nil_sync _).mono ?_; rintro e w' ⟨rfl, rfl⟩)
      | (go_at_call 78; refine (nil_size _).mono ?_; rintro e w' ⟨rfl, rfl⟩)
      | (go_at_call 71; refine (nil_off _).mono ?_; rintro e w' ⟨rfl, rfl⟩)
      | (go_at_call 74; refine (nil_dirty _).mono ?_; rintro e w' ⟨rfl, rfl⟩)
      | (go_at_call 76; refine (nil_bytes04 _).mono ?_; rintro e w' ⟨rfl, rfl⟩)
      | (go_at_call 72; refine (nil_reads _).mono ?_; rintro e w' ⟨rfl, rfl⟩)
      | (go_at_call 73; refine (nil_writes _).mono ?_; rintro e w' ⟨rfl, rfl⟩)
      | (go_at_call 84; refine (code04 4 _).mono ?_; rintro e w' ⟨rfl, rfl⟩))
    obtain ⟨W6, hW6⟩ : ∃ W6, w5.alloc (.cells #[.slice E0 d'.safe.length m0, .slice E1 d'.wait.length m1, .int .i64 d'.fuse, .bool d'.off, .int .i64 d'.reads, .int .i64 d'.writes] 104) = W6 := ⟨_, rfl⟩
    rw [hW6] at HB6 HU6 ⊢
    clear hW6
    obtain ⟨fl, hfl⟩ : ∃ fl, d0.safe.flatten = fl := ⟨_, rfl⟩
    have HFL := Lib.hid hfl
    have HFB := Lib.hid (show d0.safe.flatten.length ≤ 51200 from by
      have h := flatten_length (ls := d0.safe) (by rw [← HSAFE.out, (readSt_alike s0 i).1]; exact HSEC.out)
      rw [h, HLS.out]
      have := HN.out
      omega)
    have hbd := (Below.refl W6.heap.size W6).drew
    have C6 : ∀ W', Below W6.heap.size W6 W' → W'.cell? ⟨M, 0, none⟩ = some (.slice B0 d0.safe.length k0) ∧ W'.cell? ⟨M, 1, none⟩ = some (.slice B1 d0.wait.length k1) ∧ W'.cell? ⟨M, 2, none⟩ = some (.int .i64 d0.fuse) ∧ W'.cell? ⟨M, 3, none⟩ = some (.bool d0.off) ∧ W'.cell? ⟨M, 4, none⟩ = some (.int .i64 d0.reads) ∧ W'.cell? ⟨M, 5, none⟩ = some (.int .i64 d0.writes) := fun W' hb => C4 W' (HB6.out.trans (hb.mono HB6.out.size))
    clear C4 hfl
    go_wp2_with fail
    go_region_held3 (fun W' => Below W6.heap.size W6 W')
      ((first | with_reducible assumption | with_reducible exact D6.out | with_reducible exact D7.out | with_reducible exact D8.out))
      (first
        | (go_at_call 76; refine (dev_bytes (HD4.out.below (HB6.out.trans (Below.mono ‹Below W6.heap.size W6 _› HB6.out.size))) (by rw [HSAFE.out]; have := HFB.out; omega)).mono ?_; rintro e w6 ⟨u6, rfl, hu6, hb6⟩; rw [HSAFE.out, HFL.out] at hu6; have HUB := Lib.hid hu6; have D6 := Lib.hid (Below.trans ‹Below W6.heap.size W6 _› (hb6.mono (Below.size ‹Below W6.heap.size W6 _›))); have d6 := D6.out; obtain ⟨A8, c8, rfl, _, _⟩ := Rep.acc_form hu6; clear hu6 hb6)
        | (go_at_call 77; refine (rbytes_calls (Rep.val_below (B := w4.heap.size) HV4.out (HB6.out.trans (D6.out.mono HB6.out.size)) (fun k hk _ => by have := HML.out; omega)) (fun k hk => by have := HML.out; have := D6.out.size; have := HB6.out.size; omega) (by have := HFB.out; omega)).mono ?_; rintro e w7 ⟨u7, rfl, hu7, hb7⟩; rw [HFL.out] at hu7; have HU7 := Lib.hid hu7; have HB7 := Lib.hid hb7; have D7 := Lib.hid (D6.out.trans (hb7.mono D6.out.size)); have d7 := D7.out; obtain ⟨A9, c9, rfl, _, _⟩ := Rep.acc_form hu7; clear hu7 hb7)
        | (go_at_call_of 21 (Value.slice A8 fl.length c8); refine (sameBytes (Rep.acc_val (Rep.acc_later HUB.out HB7.out)) (Rep.acc_val HU7.out)).mono ?_; rintro e w8 ⟨rfl, hw⟩; subst hw; rw [show decide (fl = fl) = true from decide_eq_true rfl])
        | (go_at_call 21; refine (sameBytes (Rep.val_below (B := w4.heap.size) HU4.out (HB6.out.trans (Below.mono ‹Below W6.heap.size W6 _› HB6.out.size)) (fun k _ hl => hl.lt)) (Rep.val_below (B := W6.heap.size) HU6.out ‹Below W6.heap.size W6 _› (fun k _ hl => hl.lt))).mono ?_; rintro e w8 ⟨rfl, hw⟩; subst hw; rw [show decide (want = want) = true from decide_eq_true rfl])
        | (go_at_call 78; refine (dev_size (HD4.out.below (HB6.out.trans (Below.mono ‹Below W6.heap.size W6 _› HB6.out.size)))).mono ?_; rintro e w8 ⟨rfl, hw⟩; subst hw; rw [HSAFE.out, HLS.out])
        | (go_at_call 84; refine (code04 _ _).mono ?_; rintro e w8 ⟨rfl, hw⟩; subst hw)
        | (go_at_call 67; refine (live04_calls _).mono ?_; rintro e w8 ⟨rfl, hb8⟩; have D8 := Lib.hid (Below.trans ‹Below W6.heap.size W6 _› (hb8.mono (Below.size ‹Below W6.heap.size W6 _›))); clear hb8))
    go_wp2_with fail
    go_ret
    exact ⟨rfl, HB4.out.trans ((HB6.out.trans (D8.out.mono HB6.out.size)).mono HB4.out.size)⟩
end Go.Proofs.Ytcfgckpjgihcgaa
/- The walk of 'vivariumlaw04.DiskOfs', lifted to the machine. -/
namespace Go.Proofs.Ytcfgckpjgihcgaa.DiskOfsLaw
open Go.ChangeShapes Go.WideShapes Go.ChangeAt Go.RowKit

set_option maxRecDepth 100000 in
theorem lifted (os : Os) (started : os.Started) (H : Type) (enc : TypeId × Value → H) :
    ReturnsInHanded {} Try.checked os 9 .any (Rows.diskOfsSpec.pre6 enc Try.prog Try.f9 Rows.diskOfsRow.domain false) (Rows.diskOfsSpec.post enc Try.prog Try.f9 false true false false) := by
  refine returnsInHanded_of_change (C := Try.checked) own started (by kernel_rfl) Try.func9
    (ChangeSpec.witness6 (enc := enc) (C := Try.checked) false ⟨#[], #[.slice none 0 0, .int .i64 0], []⟩ 8 (by kernel_rfl) (by kernel_rfl) (by kernel_rfl) (by kernel_rfl)) ?_
  intro W base args ds gs before hval0 hW _ _
  have hval : ∀ (j : Nat) t v, Try.f9.params[j]? = some t → args[j]? = some v → Value.okWide Try.prog W .any base t v := hval0
  have hW' := hW
  obtain ⟨p, q, hA0, hV, rfl, _, _⟩ := hW
  have hA : DataW.TrodAll enc Try.prog W 0 (fun _ => true) true Try.f9.params.toList args.toList ds p := hA0
  rw [Try.params9] at hA hval
  have hA2 := hA
  obtain ⟨v0, vs0, d0, ds0, p0, q0, hargs, rfl, rfl, h0, r0⟩ := trodAll_cons hA
  obtain ⟨v1, vs1, d1, ds1, p1, q1, rfl, rfl, rfl, h1, r1⟩ := trodAll_cons r0
  obtain ⟨rfl, rfl, rfl⟩ := trodAll_nil r1
  obtain rfl : args = #[v0, v1] := by cases args; simp_all
  obtain ⟨rfl, rfl⟩ := trodVars_none hV
  obtain ⟨y0, k0⟩ := Rep.opens (Rep.of_list Try.underlying22 (by kernel_rfl) (by decide) (Rep.of_byte Try.underlying5 (by kernel_rfl))) (Rep.wrap_list Try.underlying22) (hval 0 22 v0 rfl rfl) h0
  obtain ⟨y1, k1⟩ := Rep.opens (Rep.of_int Try.underlying3 (by kernel_rfl)) (Rep.wrap_int Try.underlying3) (hval 1 3 v1 rfl rfl) h1
  obtain ⟨rfl, w1⟩ := Rep.val_int k1
  refine (diskOfs_calls k0 w1).mono fun e W' ⟨he, bel⟩ => ?_
  subst he
  exact ⟨_, rfl, _, _, _, [], _, [], hW', trodAll_mk1 (shut_bool Try.underlying4 _), trodAll_below laidOut bel (of_decide_eq_true (by kernel_rfl)) hA2, rfl, bel.frame _, fun h => by cases h⟩

end DiskOfsLaw
end Go.Proofs.Ytcfgckpjgihcgaa
