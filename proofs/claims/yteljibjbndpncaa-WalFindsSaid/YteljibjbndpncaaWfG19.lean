/- Texts on which the proofs stand: ScanOne, PartMath. No condition is laid on any input. -/
import Derived.Test.YteljibjbndpncaaWfFGet
import Derived.Test.YteljibjbndpncaaWfG16
import Derived.Test.YteljibjbndpncaaWfScanHas
/- Walk of the record that begins at a place. Printed by gen_scanone.py. -/
namespace Go.Proofs.Yteljibjbndpncaa
open Go.RowKit

theorem Rep.acc_only {α : Type} {r : Rep α} {e base : Nat} {Q : Nat → Prop} {w : World} {v : Value} {x : α} (hr : r.size = 1) (hb : base ≤ w.heap.size) (h : r.val Q w v x) (hv : v.cells = #[v]) :
    r.acc e base (fun b => Q b ∧ b < w.heap.size) (w.alloc (.cells #[v] e)) (.slice (some ⟨w.heap.size, 0, none⟩) 1 1) [x] := by
  obtain ⟨cs, he, hrd⟩ := h
  have hb2 : cs = [v] := by
    have := r.back hrd
    rw [← he, hv] at this
    exact this.symm
  subst hb2
  refine ⟨[v], ⟨by simp [hr], .inr ⟨w.heap.size, 1, #[v], rfl, hb, heap_alloc_new w _, Nat.le_refl _, by simp [maxLen], by simp [hr], by simp [hr]⟩⟩, Rep.row_one_elem ?_⟩
  exact r.keep (fun b hb' hl => ⟨⟨⟨hb', hl.lt⟩, fun e => by have := hl.lt; have e2 : w.heap.size = b := Option.some.inj e; omega⟩, Below.heap_alloc _ _ _ hl.lt⟩) hrd

def OneNone (w : World) (e : Ending) (w' : World) : Prop := e = .returned (.tuple #[.slice none 0 0, .int .i64 0, .int .i64 0, .bool false]) ∧ Below w.heap.size w w'
set_option maxRecDepth 100000 in
set_option maxHeartbeats 4000000 in
/-- scan.One, where there is none -/
theorem one_none {Q R : Nat → Prop} {w : World} {v lv : Value} {c : DConf} {l : List (List UInt8)} {lsn epoch seq most : Int} (hx : rConf.val Q w v c) (hl : Rep.byte.list.list.val R w lv l) (hh : hasOf c l lsn = none) :
    Calls Try.prog 71 #[v, lv, .int .i64 lsn, .int .i64 epoch, .int .i64 seq, .int .i64 most] w (OneNone w) := by
  obtain ⟨A, cap, rfl, _⟩ := rConf_val hx
  obtain ⟨Al, cl, rfl, hc1, hc2, hA⟩ := Rep.val_list hl
  unfold maxLen at hc2
  have hm0 := InBox.made hx 49
  obtain ⟨W1, hW1⟩ : ∃ W1, w.alloc (.cells #[.int .i64 c.log, .int .i64 c.pages, .int .i64 c.entities, .int .i64 c.gens, .slice A c.comps.length cap] 49) = W1 := ⟨_, rfl⟩
  have hb1 : Below w.heap.size w W1 := by rw [← hW1]; exact (Below.refl _ _).alloc (Nat.le_refl _) _
  have HA := Lib.hid (show Rep.byte.list.At R W1 Al l from Rep.At.keep (w := w) (fun b hb hl => ⟨hb, hb1.block b hl.lt⟩) hA)
  rw [hW1] at hm0
  have HM1 := Lib.hid hm0
  have HB1 := Lib.hid hb1
  have HW1 := Lib.hid hW1
  have HH := Lib.hid hh
  clear hx hl hA hm0 hb1 hW1 hh
  go_enter Try.func71, Try.ntmps71
  go_wp2_with fail
  rw [HW1.out]
  refine (has_calls HM1.out.val (Rep.list_val rfl hc1 (by unfold maxLen; omega) HA.out)).mono ?_
  rintro e w2 ⟨v2, rfl, hv2, hb2⟩
  rw [HH.out] at hv2 ⊢
  simp only [Option.isSome, Option.getD] at hv2 ⊢
  obtain ⟨A0, c0, rfl, _⟩ := rSeal_val hv2
  have HB3 := Lib.hid ((HB1.out.trans (hb2.mono HB1.out.size)).alloc (HB1.out.trans (hb2.mono HB1.out.size)).size (.cells #[.int .i64 seal0.epoch, .int .i64 seal0.no, .int .i64 seal0.kind, .slice A0 seal0.body.length c0] 157))
  clear hv2 hb2
  go_wp2_with fail
  refine bodyPost_ret (results_tmp4 rfl _ _ _) rfl ?_
  exact ⟨rfl, HB3.out⟩

def OneSome (w : World) (b : List UInt8) (n ep : Int) (e : Ending) (w' : World) : Prop :=
  ∃ u, e = .returned (.tuple #[u, .int .i64 n, .int .i64 ep, .bool true]) ∧ Rep.byte.list.val (fun k => w.heap.size ≤ k) w' u b ∧ Below w.heap.size w w'
set_option maxRecDepth 100000 in
set_option maxHeartbeats 4000000 in
/-- scan.One, of a record that is whole -/
theorem one_calls {Q R : Nat → Prop} {w : World} {v lv : Value} {c : DConf} {l : List (List UInt8)} {lsn epoch seq most ep : Int} {ps : List (List UInt8)} {p0 : List UInt8} (hx : rConf.val Q w v c) (hl : Rep.byte.list.list.val R w lv l)
    (h0 : ps[0]? = some p0) (hh : pheadOf p0 = (0, (ps.length : Int), seq, true)) (h12 : ∀ p ∈ ps, 12 < p.length ∧ p.length ≤ 472) (hpl : ps.length ≤ 1024) (hs : splitOf seq (bodies ps) = ps) (hseq : (Lit.int .i64 seq).wf = true)
    (hep : epoch ≤ ep) (hm : (ps.length : Int) ≤ most) (hf : (frameGet (bodies ps)).2 = 0) (hlsn : 0 ≤ lsn ∧ lsn ≤ 281474976710656) (hhas : ∀ (i : Nat) p, ps[i]? = some p → hasOf c l (lsn + (i : Int)) = some ⟨ep, lsn + (i : Int), 1, p⟩) :
    Calls Try.prog 71 #[v, lv, .int .i64 lsn, .int .i64 epoch, .int .i64 seq, .int .i64 most] w (OneSome w (bodies ps) ps.length ep) := by
  obtain ⟨A, cap, rfl, _⟩ := rConf_val hx
  obtain ⟨Al, cl, rfl, hc1, hc2, hA⟩ := Rep.val_list hl
  unfold maxLen at hc2
  have hm0 := InBox.made hx 49
  obtain ⟨W1, hW1⟩ : ∃ W1, w.alloc (.cells #[.int .i64 c.log, .int .i64 c.pages, .int .i64 c.entities, .int .i64 c.gens, .slice A c.comps.length cap] 49) = W1 := ⟨_, rfl⟩
  have hb1 : Below w.heap.size w W1 := by rw [← hW1]; exact (Below.refl _ _).alloc (Nat.le_refl _) _
  have hz1 : W1.heap.size = w.heap.size + 1 := by rw [← hW1]; simp
  have HV := Lib.hid (show ∀ W', Below w.heap.size w W' → Rep.byte.list.list.val R W' (.slice Al l.length cl) l from fun W' ho => Rep.list_val rfl hc1 (by unfold maxLen; omega) (Rep.At.keep (w := w) (fun b hb hl => ⟨hb, ho.block b hl.lt⟩) hA))
  rw [hW1] at hm0
  have HM1 := Lib.hid hm0
  have HB1 := Lib.hid hb1
  have HZ1 := Lib.hid hz1
  have HW1 := Lib.hid hW1
  have HHAS := Lib.hid hhas
  have HH := Lib.hid hh
  have H12 := Lib.hid h12
  have HPL := Lib.hid hpl
  have HS := Lib.hid hs
  have HSQ := Lib.hid hseq
  have HF := Lib.hid hf
  have HLSN := Lib.hid hlsn
  have HI0 := Lib.hid h0
  have HBL := Lib.hid (show (bodies ps).length ≤ 1000000000 by have := bodies_len (l := ps) (fun p hp => (h12 p hp).2) ps.length; rw [List.take_length] at this; omega)
  have hH0 := hhas 0 p0 h0
  rw [show lsn + ((0 : Nat) : Int) = lsn by simp] at hH0
  have HH0 := Lib.hid hH0
  have hpos : 0 < ps.length := (List.getElem?_eq_some_iff.1 h0).1
  have d1 : ¬ ep < epoch := by omega
  have d2 : ¬ most < (ps.length : Int) := by omega
  have HD := Lib.hid (show 0 < ps.length from hpos)
  clear hx hl hA hm0 hb1 hz1 hW1 hhas hh h12 hpl hs hseq hep hm hf hlsn h0 hH0 hpos
  obtain ⟨n, hn⟩ : ∃ n, n = ps.length := ⟨_, rfl⟩
  rw [← hn] at d2 HH HPL HD ⊢
  have HN := Lib.hid hn
  clear hn
  go_enter Try.func71, Try.ntmps71
  go_wp2_with fail
  rw [HW1.out]
  refine (has_calls HM1.out.val (HV.out W1 HB1.out)).mono ?_
  rintro e w2 ⟨v2, rfl, hv2, hb2⟩
  rw [HH0.out] at hv2 ⊢
  simp only [Option.isSome, Option.getD] at hv2 ⊢
  obtain ⟨A0, c0, hv, f0, f1, f2, f3⟩ := rSeal_val hv2
  dsimp only at hv f0 f1 f2 f3
  subst hv
  have HB2 := Lib.hid (HB1.out.trans (hb2.mono HB1.out.size))
  have HZ2 := Lib.hid hb2.size
  obtain ⟨X, hX⟩ : ∃ X, X = w2.heap.size := ⟨_, rfl⟩
  have HX := Lib.hid hX
  obtain ⟨W3, hW3⟩ : ∃ W3, w2.alloc (.cells #[.int .i64 ep, .int .i64 lsn, .int .i64 1, .slice A0 p0.length c0] 157) = W3 := ⟨_, rfl⟩
  have hb3 : Below w2.heap.size w2 W3 := by rw [← hW3]; exact (Below.refl _ _).alloc (Nat.le_refl _) _
  have hr3 : W3.heap[X]? = some (.cells #[.int .i64 ep, .int .i64 lsn, .int .i64 1, .slice A0 p0.length c0] 157 (0, 0)) := by rw [← hW3, hX]; exact heap_alloc_new _ _
  have HM3 := Lib.hid (HM1.out.later ((hb2.mono (by have := HZ1.out; omega)).trans (hb3.mono (by have := HZ1.out; have := hb2.size; omega))))
  have HB3 := Lib.hid (HB2.out.trans (hb3.mono HB2.out.size))
  have HR3 := Lib.hid hr3
  have HZ3 := Lib.hid (show W3.heap.size = X + 1 by rw [← hW3, hX]; simp)
  have HP0 := Lib.hid (show Rep.byte.list.val (fun k => W1.heap.size ≤ k ∧ k < X) W3 (.slice A0 p0.length c0) p0 from Rep.val_keep (w := w2) (fun k hk hl => ⟨⟨hk, by have := hl.lt; omega⟩, hb3.block k hl.lt⟩) f3.val)
  have HW3 := Lib.hid hW3
  clear hv2 hb2 f0 f1 f2 f3 hb3 hr3 hW3 hX
  go_wp2_with fail
  rw [HW3.out, ← HX.out]
  refine (head_calls HP0.out).mono ?_
  rintro e w4 ⟨rfl, hb4⟩
  rw [HH.out]
  have HB4 := Lib.hid hb4
  have hr4 := (hb4.block X (by have := HZ3.out; omega)).trans HR3.out
  have y0 := cell_row hr4 0
  have y3 := cell_row hr4 3
  have HP4 := Lib.hid (show Rep.byte.list.val (fun k => W1.heap.size ≤ k ∧ k < X) w4 (.slice A0 p0.length c0) p0 from Rep.val_keep (w := W3) (fun k hk hl => ⟨hk, hb4.block k hl.lt⟩) HP0.out)
  have HACC0 := Lib.hid (Rep.acc_only (e := 33) (base := X + 1) rfl (by have := HB4.out.size; have := HZ3.out; omega) HP4.out rfl)
  clear hb4 hr4
  go_wp2_with fail
  go_loopw [13, 19, 20] (fun u13 u19 u20 wr => ∃ k : Nat, u13 = .int .i64 n ∧ u20 = .int .i64 k ∧ 1 ≤ k ∧ k ≤ n ∧ Rep.byte.list.acc 33 (X + 1) (fun b => w.heap.size ≤ b) wr u19 (ps.take k) ∧ Below (X + 1) W3 wr) (fun _ _ i _ => n - (intOf i).toNat)
  case atStart =>
    refine ⟨1, rfl, rfl, Nat.le_refl _, HD.out, ?_, (HB4.out.mono (by have := HZ3.out; omega)).alloc (by have := HB4.out.size; have := HZ3.out; omega) _⟩
    rw [show ps.take 1 = [p0] by
      obtain ⟨h1, h2⟩ := List.getElem?_eq_some_iff.1 HI0.out
      rw [List.take_succ_eq_append_getElem h1, h2]; rfl]
    exact Rep.acc_keep (fun _ _ _ => rfl) (fun b hb _ => by have := hb.1.1; have := HZ1.out; omega) HACC0.out
  case round =>
    obtain ⟨k, rfl, rfl, hk1, hk2, hacc, hbel⟩ := hrel
    have HACC := Lib.hid hacc
    have HB := Lib.hid hbel
    have hlen : (ps.take k).length = k := by rw [List.length_take, ← HN.out]; omega
    obtain ⟨Au, cu, rfl, hcu, hmu⟩ := Rep.acc_form hacc
    rw [hlen] at HACC hcu ⊢
    have HLEN := Lib.hid hlen
    have HMR := Lib.hid (HM3.out.later (hbel.mono (by have := HZ3.out; have := HZ2.out; have := HZ1.out; have := HX.out; omega)))
    have HBR := Lib.hid (HB3.out.trans (hbel.mono (by have := HZ3.out; have := HZ2.out; have := HZ1.out; have := HX.out; omega)))
    have hrr := (hbel.block X (by omega)).trans HR3.out
    have HRR := Lib.hid hrr
    obtain ⟨a0, a1, a2, a3, a4, _⟩ := HMR.out
    clear hacc hbel hlen
    by_cases hlt : (k : Int) < n
    · obtain ⟨p, hp⟩ : ∃ p, ps[k]? = some p := ⟨_, List.getElem?_eq_getElem (by have := HN.out; omega)⟩
      have HHK := Lib.hid (HHAS.out k p hp)
      have HPK := Lib.hid hp
      have hkb : (k : Int) ≤ 1024 := by have := HPL.out; omega
      obtain ⟨l1, l2⟩ := HLSN.out
      clear hp hrr
      go_wp2_with fail
      clear a0 a1 a2 a3 a4
      refine (has_calls HMR.out.val (HV.out wr HBR.out)).mono ?_
      rintro e w5 ⟨v5, rfl, hv5, hb5⟩
      rw [HHK.out] at hv5 ⊢
      simp only [Option.isSome, Option.getD] at hv5 ⊢
      obtain ⟨A5, c5, hv, f0, f1, f2, f3⟩ := rSeal_val hv5
      dsimp only at hv f0 f1 f2 f3
      subst hv
      have HB5 := Lib.hid (hb5.alloc hb5.size (.cells #[.int .i64 ep, .int .i64 (lsn + k), .int .i64 1, .slice A5 p.length c5] 157))
      have HXL := Lib.hid (show X < wr.heap.size from IsC.lt ⟨_, _, _, HRR.out⟩)
      have hr6 : (w5.alloc (.cells #[.int .i64 ep, .int .i64 (lsn + k), .int .i64 1, .slice A5 p.length c5] 157)).heap[X]? = some (.cells #[.int .i64 ep, .int .i64 lsn, .int .i64 1, .slice A0 p0.length c0] 157 (0, 0)) := (HB5.out.block X HXL.out).trans HRR.out
      have y0 := cell_row hr6 0
      have HV6 := Lib.hid (show Rep.byte.list.val (fun x => w.heap.size ≤ x ∧ (Value.slice Au k cu).ownBlock ≠ some x) (w5.alloc (.cells #[.int .i64 ep, .int .i64 (lsn + k), .int .i64 1, .slice A5 p.length c5] 157)) (.slice A5 p.length c5) p from Rep.val_keep (w := w5) (fun x hx hl => ⟨⟨by have := HBR.out.size; have hx' : wr.heap.size ≤ x := hx; omega, fun he => by have := (Rep.acc_own HACC.out x he).2; have hx' : wr.heap.size ≤ x := hx; omega⟩, Below.heap_alloc _ _ _ hl.lt⟩) f3.val)
      have HACC6 := Lib.hid (Rep.acc_later HACC.out HB5.out)
      have M63 := Lib.hid (show (ps.take k).length + 1 ≤ maxLen ∧ ((ps.take k).length + 1) * 24 ≤ 140737488355328 by rw [HLEN.out]; unfold maxLen; omega)
      have SZ := Lib.hid (show X + 1 ≤ (w5.alloc (.cells #[.int .i64 ep, .int .i64 (lsn + k), .int .i64 1, .slice A5 p.length c5] 157)).heap.size by have := HB5.out.size; have := HXL.out; omega)
      clear hv5 f0 f1 f2 f3 hr6 hb5
      go_wp2_with (refine wpList_snoc (e := 33) (base := X + 1) (Q := fun x => w.heap.size ≤ x) (r := Rep.byte.list) rfl rfl _ _ 39 _ rfl rfl rfl (.slice none 0 0) 1 24 Try.underlying39 info22 rfl (by decide) rfl _ (ps.take k) HACC6.out p _ (by exact rfl) HV6.out (by exact rfl) (by exact rfl) M63.out.1 M63.out.2 SZ.out ?_; intro s7 w7 hacc7 hgr7 hat7)
      refine ⟨⟨k + 1, rfl, by go_num, by omega, by omega, ?_, ?_⟩, by simp [intOf]; omega⟩
      · obtain ⟨h1, h2⟩ := List.getElem?_eq_some_iff.1 HPK.out
        rw [List.take_succ_eq_append_getElem h1, h2]
        exact hacc7
      · exact ((HB.out.trans (HB5.out.mono (by have := HXL.out; omega)))).grown hgr7 SZ.out (fun x hx => (Rep.acc_own HACC.out x hx).1)
    · obtain rfl : k = n := by omega
      rw [show ps.take k = ps by rw [HN.out, List.take_length]] at HACC
      clear a0 a1 a2 a3 a4
      clear hrr
      have HVJ := Lib.hid (Rep.acc_val HACC.out)
      go_wp2_with fail
      refine (join_calls HVJ.out HI0.out HH.out H12.out (by have := HN.out; have := HPL.out; omega) HS.out HSQ.out).mono ?_
      rintro e w8 ⟨u8, rfl, hu8, hb8⟩
      have HU8 := Lib.hid hu8
      have HB8 := Lib.hid hb8
      clear hu8 hb8
      go_wp2_with fail
      refine (fget_calls HU8.out HBL.out).mono ?_
      rintro e w9 ⟨u9, rfl, hu9, hb9⟩
      rw [HF.out]
      have hr9 : w9.heap[X]? = some (.cells #[.int .i64 ep, .int .i64 lsn, .int .i64 1, .slice A0 p0.length c0] 157 (0, 0)) := (hb9.block X (by have := HB8.out.size; have : X < wr.heap.size := IsC.lt ⟨_, _, _, HRR.out⟩; omega)).trans ((HB8.out.block X (IsC.lt ⟨_, _, _, HRR.out⟩)).trans HRR.out)
      have y0 := cell_row hr9 0
      have HB9 := Lib.hid (HB8.out.trans (hb9.mono HB8.out.size))
      have HU9 := Lib.hid (show Rep.byte.list.val (fun k => w.heap.size ≤ k) w9.drew u8 (bodies ps) from Rep.val_keep (w := w8) (fun x hx hl => ⟨Nat.le_trans HBR.out.size hx, hb9.block x hl.lt⟩) HU8.out)
      clear hu9 hb9 hr9
      go_wp2_with fail
      refine wp_region_held_drew (S := fun W' => W' = w9.drew) (by kernel_rfl) rfl (fun s0 => ?_)
      refine wpAnyH_take (i := 0) (v := u8) rfl (by kernel_rfl) (by kernel_rfl) (by kernel_rfl) (fun _ _ _ h => h) (Or.inl ⟨by rfl, fun w' _ => by go_simp <;> omega⟩) s0 ?_
      go_simp
      refine wpAnyH_take (i := 1) (v := .int .i64 k) rfl (by kernel_rfl) (by kernel_rfl) (by kernel_rfl) (fun _ _ _ h => h) (Or.inl ⟨by rfl, fun w' _ => by go_simp <;> omega⟩) s0 ?_
      go_simp
      refine wpAnyH_take (i := 2) (v := .pointer (some ⟨X, 0, none⟩)) rfl (by kernel_rfl) (by kernel_rfl) (by kernel_rfl) (fun _ _ _ h => h) (Or.inl ⟨by rfl, fun w' _ => by go_simp <;> omega⟩) s0 ?_
      go_simp
      refine wpAnyH_take (i := 3) (v := .int .i64 ep) rfl (by kernel_rfl) (by kernel_rfl) (by kernel_rfl) (fun _ _ _ h => h) (Or.inl ⟨by rfl, fun w' h => by rw [show w' = w9.drew from h]; go_simp⟩) s0 ?_
      go_simp
      refine wpAnyH_take (i := 4) (v := u8) rfl (by kernel_rfl) (by kernel_rfl) (by kernel_rfl) (fun _ _ _ h => h) (Or.inl ⟨by rfl, fun w' _ => by go_simp <;> omega⟩) s0 ?_
      go_simp
      refine wpAnyH_take (i := 5) (v := .int .i64 k) rfl (by kernel_rfl) (by kernel_rfl) (by kernel_rfl) (fun _ _ _ h => h) (Or.inl ⟨by rfl, fun w' _ => by go_simp <;> omega⟩) s0 ?_
      go_simp
      refine wpAnyH_take (i := 6) (v := .int .i64 ep) rfl (by kernel_rfl) (by kernel_rfl) (by kernel_rfl) (fun _ _ _ h => h) (Or.inl ⟨by rfl, fun w' _ => by go_simp <;> omega⟩) s0 ?_
      go_simp
      refine wpAnyH_take (i := 7) (v := .bool true) rfl (by kernel_rfl) (by kernel_rfl) (by kernel_rfl) (fun _ _ _ h => h) (Or.inl ⟨by rfl, fun w' _ => by go_simp <;> omega⟩) s0 ?_
      go_simp
      refine wpAnyH_done (by kernel_rfl) ?_ _
      go_wp2_with fail
      refine bodyPost_ret (results_tmp4 rfl _ _ _) rfl ?_
      exact ⟨_, rfl, HU9.out, (HBR.out.trans (HB9.out.mono HBR.out.size)).drew⟩
end Go.Proofs.Yteljibjbndpncaa
/- What stands ahead in a record's pieces, and what they hold together: the plain law. -/
namespace Go.Proofs.Yteljibjbndpncaa
open Go.RowKit

theorem part_len {seq : Int} {b : List UInt8} {i : Nat} : (partOf seq b i).length = 12 + min 460 (b.length - 460 * i) := by
  unfold partOf
  simp only [List.length_append, num_len2, num_len8, List.length_take, List.length_drop]
  omega
theorem part_drop {seq : Int} {b : List UInt8} {i : Nat} : (partOf seq b i).drop 12 = (b.drop (460 * i)).take 460 := by
  unfold partOf
  rw [← List.append_assoc, ← List.append_assoc, List.drop_append_of_le_length (by simp [num_len2, num_len8])]
  rw [List.drop_of_length_le (by simp [num_len2, num_len8])]; rfl
theorem part_head {seq : Int} {b : List UInt8} {i : Nat} (hi : (i : Int) < needOf b.length) (hn : needOf b.length ≤ 1024) (hs : 0 ≤ seq ∧ seq ≤ maxEpoch) :
    pheadOf (partOf seq b i) = ((i : Int), needOf b.length, seq, true) := by
  obtain ⟨n, hN⟩ : ∃ n : Nat, needOf b.length = n := ⟨(needOf b.length).toNat, by omega⟩
  rw [hN] at hi hn ⊢
  have hsq : near seq maxEpoch = seq := near_in hs.1 hs.2
  obtain ⟨s, hS⟩ : ∃ s : Nat, seq = s := ⟨seq.toNat, by omega⟩
  have hs2 : s ≤ 281474976710656 := by have := hs.2; unfold maxEpoch at this; omega
  have e : partOf seq b i = num 2 (i : Int) ++ (num 2 (n : Int) ++ (num 8 (s : Int) ++ (b.drop (460 * i)).take 460)) := by unfold partOf; rw [hN, hsq, hS]
  have n0 : natAt (partOf seq b i) 0 2 = i := by
    rw [e]; exact natAt_num (A := []) (w := 2) rfl (by decide) (by decide) (by omega)
  have n1 : natAt (partOf seq b i) 2 2 = n := by
    rw [e]; exact natAt_num (w := 2) (num_len2 _) (by decide) (by decide) (by omega)
  have n2 : natAt (partOf seq b i) 4 8 = s := by
    rw [e, ← List.append_assoc]; exact natAt_num (w := 8) (by simp [num_len2]) (by decide) (by decide) (by omega)
  have h2 : i64of s = (s : Int) := IntWalk.i64_in _ ⟨by omega, by omega⟩
  have hl := part_len (seq := seq) (b := b) (i := i)
  unfold pheadOf
  rw [if_neg (by omega), n0, n1, n2, h2, if_neg (by omega), hS]
theorem take_step {α : Type} (l : List α) (k m : Nat) : l.take (k * m) ++ (l.drop (m * k)).take m = l.take ((k + 1) * m) := by
  rw [Nat.mul_comm m k, Nat.succ_mul, List.take_add]
theorem bodies_map {seq : Int} {b : List UInt8} (k : Nat) : bodies ((List.range k).map (partOf seq b)) = b.take (k * 460) := by
  induction k with
  | zero => simp [bodies]
  | succ k ih =>
    rw [range_snoc]
    unfold bodies at ih ⊢
    rw [List.flatMap_append, ih]
    simp only [List.flatMap_cons, List.flatMap_nil, List.append_nil]
    rw [part_drop, take_step]
theorem bodies_split {seq : Int} {b : List UInt8} (hn : needOf b.length ≤ 1024) : bodies (splitOf seq b) = b := by
  unfold splitOf
  rw [if_neg (by omega), bodies_map, List.take_of_length_le]
  have := need_bounds (n := b.length)
  omega
theorem split_len {seq : Int} {b : List UInt8} (hn : needOf b.length ≤ 1024) : ((splitOf seq b).length : Int) = needOf b.length := by
  unfold splitOf
  have := need_bounds (n := b.length)
  rw [if_neg (by omega), List.length_map, List.length_range]; omega
theorem split_get {seq : Int} {b : List UInt8} (hn : needOf b.length ≤ 1024) {i : Nat} (hi : (i : Int) < needOf b.length) : (splitOf seq b)[i]? = some (partOf seq b i) := by
  unfold splitOf
  rw [if_neg (by omega), List.getElem?_map, List.getElem?_range (by omega)]; rfl
theorem split_mem {seq : Int} {b : List UInt8} (hb : 0 < b.length) (p : List UInt8) (hp : p ∈ splitOf seq b) : 12 < p.length ∧ p.length ≤ 472 := by
  unfold splitOf at hp
  split at hp
  · simp at hp
  · obtain ⟨i, hi, rfl⟩ := List.mem_map.1 hp
    have h1 := List.mem_range.1 hi
    have h2 := need_bounds (n := b.length)
    have h3 := part_len (seq := seq) (b := b) (i := i)
    constructor <;> omega
end Go.Proofs.Yteljibjbndpncaa
