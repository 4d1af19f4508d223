/- Texts on which the proofs stand: StoreDisk, StoreWrite, DiskLaw. No condition is laid on any input. -/
import Derived.Test.YtghbfbohnoebiaaGreatSnG36
import Derived.Test.YtghbfbohnoebiaaGreatSnG37
import Derived.Test.YtghbfbohnoebiaaGreatSnG41
namespace Go.Proofs.YtghbfbohnoebiaaGreat
open Go.RowKit

theorem Only.andthen {D D' : Nat → Prop} {X Y Z : World} (h : Only D X Y) (k : Only D' Y Z) (hd : ∀ b, D' b → D b ∨ X.heap.size ≤ b) : Only D X Z :=
  ⟨k.os.trans h.os, k.tape.trans h.tape, k.output.trans h.output, Nat.le_trans h.size k.size, fun b hl hf => (k.block b (Nat.lt_of_lt_of_le hl h.size) (fun e => (hd b e).elim hf (fun e => by omega))).trans (h.block b hl hf)⟩
/-- Each of the first k, up to the first error. -/
def eachTo {σ : Type} (f : σ → Nat → σ × Int) (st : σ) : Nat → σ × Int
  | 0 => (st, 0)
  | k + 1 => if (eachTo f st k).2 = 0 then f (eachTo f st k).1 k else eachTo f st k
section
variable {σ : Type} {f : σ → Nat → σ × Int} {st s : σ} {k : Nat}
theorem eachTo_next (h : eachTo f st k = (s, 0)) : eachTo f st (k + 1) = f s k := by
  show (if _ then _ else _) = _
  rw [h, if_pos rfl]
theorem eachTo_bad (h : eachTo f st k = (s, 0)) (h2 : (f s k).2 ≠ 0) : ∀ m, k < m → eachTo f st m = f s k
  | 0, hm => by omega
  | m + 1, hm => by
    by_cases hk : k = m
    · subst hk; exact eachTo_next h
    · have ih := eachTo_bad h h2 m (by omega)
      show (if _ then _ else _) = _
      rw [if_neg (by rw [ih]; exact h2), ih]
end
def wipeS (st : DiskSt) : DiskSt × Int := if (eachTo (fun s (k : Nat) => writeSt s k []) st 2).2 = 0 then syncRes (eachTo (fun s (k : Nat) => writeSt s k []) st 2).1 else eachTo (fun s (k : Nat) => writeSt s k []) st 2
def turnS (st : DiskSt) (slot : Int) (x : DSuper) : DiskSt × Int :=
  if (syncRes st).2 = 0 then (if (writeSt (syncRes st).1 (1 - slot) (superBytes x)).2 = 0 then syncRes (writeSt (syncRes st).1 (1 - slot) (superBytes x)).1 else writeSt (syncRes st).1 (1 - slot) (superBytes x)) else syncRes st
def writeFn (c : DConf) (epoch : Int) (pages : List Int) (pieces : List (List UInt8)) (s : DiskSt) (k : Nat) : DiskSt × Int := pageWriteSt s c epoch (pages.getD k 0) (pieces.getD k [])
def writeS (c : DConf) (epoch : Int) (pages : List Int) (pieces : List (List UInt8)) (st : DiskSt) : DiskSt × Int := eachTo (writeFn c epoch pages pieces) st pieces.length
/-- Behind steps of the device. -/
def DStepsD (D : Nat → Prop) (P n : Nat) (W : World) (r : DiskSt × Int) (e : Ending) (W' : World) : Prop :=
  e = .returned (.int .i64 r.2) ∧ (∃ D', DevD D' W' P n r.1 ∧ ∀ b, D' b → D b ∨ W.heap.size ≤ b) ∧ Only D W W'

section
variable {D : Nat → Prop} {W : World} {P n : Nat} {st : DiskSt}
/-- store.supers -/
theorem supersD_calls (h : DevD D W P n st) (hok : SecOk st) : Calls Tryz.prog 49 #[.pointer (some ⟨P, 0, none⟩)] W fun e W' =>
    ∃ u, e = .returned (.tuple #[u, .int .i64 (allSt st [0, 1]).2.2]) ∧ Rep.byte.list.list.val (fun b => W.heap.size ≤ b) W' u (allSt st [0, 1]).2.1 ∧ DevD D W' P n (allSt st [0, 1]).1 ∧ Only D W W' := by
  obtain ⟨h1, F, B, h2, h3⟩ := h
  refine (supers_calls h2 hok.1 hok.2).mono ?_
  rintro e w1 ⟨u, rfl, hu, hd, ho⟩
  exact ⟨u, rfl, hu, ⟨fun b hb => Nat.lt_of_lt_of_le (h1 b hb) ho.size, F, B, hd, h3⟩, ho.sub fun b hb => h3 b (.inl hb)⟩
/-- page.Write -/
theorem pageWriteD_calls {Qc Q : Nat → Prop} {vc v : Value} {c : DConf} {epoch p : Int} {b : List UInt8} (h : DevD D W P n st) (hn : n ≤ 1000000000) (hc : rConf.val Qc W vc c) (he : (Lit.int .i64 epoch).wf = true) (hp : (Lit.int .i64 p).wf = true) (hx : Rep.byte.list.val Q W v b) :
    Calls Tryz.prog 166 #[.pointer (some ⟨P, 0, none⟩), vc, .int .i64 epoch, .int .i64 p, v] W (DStepD D P (n + 1) W (pageWriteSt st c epoch p b)) := by
  obtain ⟨h1, F, B, h2, h3⟩ := h
  have hk : DevAt (fun b => b < W.heap.size ∧ ¬ D b) W P n st := ⟨fun b hb => hb.1, F, B, h2, fun b hb hk => hk.2 (h3 b hb)⟩
  refine (pageWrite_calls hk hn hc he hp hx).mono ?_
  rintro e w1 ⟨rfl, ⟨_, F', B', hd', hf'⟩, hkp⟩
  refine ⟨rfl, ⟨fun b => F' b ∨ B' b, ⟨?_, F', B', hd', fun b hb => hb⟩, fun b hb => ?_⟩, ⟨hkp.os, hkp.tape, hkp.output, hkp.size, fun b hl hf => hkp.block b ⟨hl, hf⟩⟩⟩
  · obtain ⟨_, _, _, _, hh⟩ := hd'; exact hh.lt
  · by_cases hD : D b
    · exact .inl hD
    · right
      by_cases hl : b < W.heap.size
      · exact absurd ⟨hl, hD⟩ (hf' b hb)
      · omega

set_option maxRecDepth 100000 in
set_option maxHeartbeats 1000000 in
/-- store.wipe -/
theorem wipe_calls (h : DevD D W P n st) (hn : n ≤ 900000000) : Calls Tryz.prog 51 #[.pointer (some ⟨P, 0, none⟩)] W (DStepsD D P (n + 2) W (wipeS st)) := by
  have HD := Lib.hid h
  have HN := Lib.hid hn
  have HWS := Lib.hid (show wipeS st = if (eachTo (fun s (k : Nat) => writeSt s k []) st 2).2 = 0 then syncRes (eachTo (fun s (k : Nat) => writeSt s k []) st 2).1 else eachTo (fun s (k : Nat) => writeSt s k []) st 2 from rfl)
  obtain ⟨f, hf⟩ : ∃ f : DiskSt → Nat → DiskSt × Int, f = fun s (k : Nat) => writeSt s k [] := ⟨_, rfl⟩
  rw [← hf] at HWS
  have HF := Lib.hid (show ∀ s (k : Nat), f s k = writeSt s k [] from fun s k => by rw [hf])
  clear h hn hf
  go_enter Tryz.func51, Tryz.ntmps51
  go_wp2_with fail
  go_loopw [5] (fun i wr => ∃ (k : Nat) (s : DiskSt) (D' : Nat → Prop), i = .int .i64 k ∧ k ≤ 2 ∧ Hid (DevD D' wr P (n + k) s) ∧ Hid (∀ b, D' b → D b ∨ W.heap.size ≤ b) ∧ Hid (Only D W wr) ∧ Hid (eachTo f st k = (s, 0))) (fun i _ => 2 - (intOf i).toNat)
  case atStart => exact ⟨0, st, D, rfl, Nat.zero_le _, HD, Lib.hid (fun _ hb => .inl hb), Lib.hid (Only.refl _ _), Lib.hid rfl⟩
  case round =>
    obtain ⟨k, s, D', rfl, hk, HD', HSUB, HO, HE⟩ := hrel
    by_cases hlt : (k : Int) < 2
    · have iw : IntKind.i64.wrap ((k : Int) + 1) = (k : Int) + 1 := IntWalk.i64_in _ ⟨by omega, by omega⟩
      go_wp2_with fail
      refine (geomSuper_calls (i := k) (by omega) _).mono ?_
      rintro e w1 ⟨rfl, hw⟩
      obtain rfl := hw.symm
      clear hw
      go_wp2_with fail
      refine (devd_write (b := []) HD'.out (wf_i64 (by omega) (by omega)) (by have := HN.out; omega) (Rep.val_nil (Q := fun _ => False) (by simp [maxLen])) (fun _ h => h.elim)).mono ?_
      rintro e w2 ⟨rfl, ⟨D2, hd2, hs2⟩, ho2⟩
      have HD2 := Lib.hid hd2
      have HS2 := Lib.hid (show ∀ b, D2 b → D b ∨ W.heap.size ≤ b from fun b hb => (hs2 b hb).elim (HSUB.out b) (fun e => .inr (Nat.le_trans HO.out.size e)))
      have HO2 := Lib.hid (HO.out.andthen ho2 HSUB.out)
      have HN2 := Lib.hid (eachTo_next HE.out)
      have HB2 := Lib.hid (eachTo_bad (f := f) HE.out)
      rw [HF.out] at HN2 HB2
      generalize writeSt s (k : Int) [] = r at *
      obtain ⟨s2, er⟩ := r
      dsimp only at *
      clear hd2 hs2 ho2
      by_cases he0 : er = 0
      · subst he0
        go_wp2_with fail
        exact ⟨⟨k + 1, s2, D2, by go_num, by omega, HD2, HS2, HO2, HN2⟩, by simp [intOf]; omega⟩
      · have g0 : (er == 0) = false := by simpa using he0
        have HR := Lib.hid (show wipeS st = (s2, er) by rw [HWS.out, HB2.out he0 2 (by omega), if_neg he0])
        have hkk : n + k + 1 ≤ n + 2 := by omega
        have HKK := Lib.hid hkk
        clear he0 hkk
        go_wp2_with fail
        go_ret
        exact ⟨by rw [HR.out]; rfl, ⟨D2, by rw [HR.out]; exact HD2.out.more HKK.out, HS2.out⟩, HO2.out⟩
    · obtain rfl : k = 2 := by omega
      have HR := Lib.hid (show wipeS st = syncRes s by rw [HWS.out, HE.out, if_pos rfl])
      go_wp2_with fail
      refine (devd_sync HD'.out).mono ?_
      rintro e w2 ⟨rfl, ⟨D2, hd2, hs2⟩, ho2⟩
      have HD2 := Lib.hid hd2
      have HS2 := Lib.hid (show ∀ b, D2 b → D b ∨ W.heap.size ≤ b from fun b hb => (hs2 b hb).elim (HSUB.out b) (fun e => .inr (Nat.le_trans HO.out.size e)))
      have HO2 := Lib.hid (HO.out.andthen ho2 HSUB.out)
      generalize syncRes s = r at *
      clear hd2 hs2 ho2
      go_wp2_with fail
      go_ret
      exact ⟨by rw [HR.out]; rfl, ⟨D2, by rw [HR.out]; exact HD2.out, HS2.out⟩, HO2.out⟩

set_option maxRecDepth 100000 in
set_option maxHeartbeats 2000000 in
/-- store.turn -/
theorem turn_calls {Q : Nat → Prop} {S : Nat} {slot : Int} {v : Value} {x : DSuper} (h : DevD D W P n st) (hn : n ≤ 900000000) (hs : ¬ D S) (hd : W.cell? ⟨S, 0, none⟩ = some (.pointer (some ⟨P, 0, none⟩))) (hsl : W.cell? ⟨S, 7, none⟩ = some (.int .i64 slot)) (h01 : slot = 0 ∨ slot = 1)
    (hx : rSuper.val Q W v x) (hq : ∀ b, Q b → ¬ D b) (hl : x.dir.length ≤ 1000000) :
    Calls Tryz.prog 54 #[.pointer (some ⟨S, 0, none⟩), v] W (DStepsD D P (n + 1) W (turnS st slot x)) := by
  obtain ⟨Ad, cd, rfl, _⟩ := rSuper_val hx
  obtain ⟨m, hm, hm2⟩ : ∃ m : Nat, m < 2 ∧ 1 - slot = (m : Int) := ⟨(1 - slot).toNat, by omega, by omega⟩
  obtain ⟨W1, hW1⟩ : ∃ W1, W.alloc (.cells #[.int .i64 x.epoch, .int .i64 x.gen, .int .i64 x.log, .int .i64 x.pages, .int .i64 x.head, .int .i64 x.seq, .int .i64 x.long, .slice Ad x.dir.length cd] 37) = W1 := ⟨_, rfl⟩
  have hb1 : Below W.heap.size W W1 := by rw [← hW1]; exact (Below.refl _ _).alloc (Nat.le_refl _) _
  have hr1 : W1.heap[W.heap.size]? = some (.cells #[.int .i64 x.epoch, .int .i64 x.gen, .int .i64 x.log, .int .i64 x.pages, .int .i64 x.head, .int .i64 x.seq, .int .i64 x.long, .slice Ad x.dir.length cd] 37 (0, 0)) := by rw [← hW1]; exact heap_alloc_new _ _
  have HB1 := Lib.hid hb1
  have HD1 := Lib.hid (h.below hb1)
  have HXN := Lib.hid (show ¬ D W.heap.size from fun hh => by have := h.1 _ hh; omega)
  have HR1 := Lib.hid hr1
  have e0 := cell_call hb1 hd
  have HE := Lib.hid (show ∀ V, Only D W1 V → V.cell? ⟨S, 0, none⟩ = some (.pointer (some ⟨P, 0, none⟩)) ∧ V.cell? ⟨S, 7, none⟩ = some (.int .i64 slot) from fun V ho => ⟨cell_only ho hs e0, cell_only ho hs (cell_call hb1 hsl)⟩)
  have HX := Lib.hid (show ∀ V, Only D W1 V → rSuper.val (fun b => ¬ D b) V (.agg #[.int .i64 x.epoch, .int .i64 x.gen, .int .i64 x.log, .int .i64 x.pages, .int .i64 x.head, .int .i64 x.seq, .int .i64 x.long, .slice Ad x.dir.length cd]) x from fun V ho => Rep.val_keep (fun b hb hl => ⟨hq b hb, (ho.block b (Nat.lt_of_lt_of_le hl.lt hb1.size) (hq b hb)).trans (hb1.block b hl.lt)⟩) hx)
  have HRX := Lib.hid (show ∀ V, Only D W1 V → V.heap[W.heap.size]? = some (.cells #[.int .i64 x.epoch, .int .i64 x.gen, .int .i64 x.log, .int .i64 x.pages, .int .i64 x.head, .int .i64 x.seq, .int .i64 x.long, .slice Ad x.dir.length cd] 37 (0, 0)) from fun V ho => (ho.block _ (by rw [← hW1]; simp) HXN.out).trans hr1)
  have HN := Lib.hid hn
  have HLL := Lib.hid hl
  have HM := Lib.hid hm2
  have HML := Lib.hid hm
  have HTS := Lib.hid (show turnS st slot x = if (syncRes st).2 = 0 then (if (writeSt (syncRes st).1 (1 - slot) (superBytes x)).2 = 0 then syncRes (writeSt (syncRes st).1 (1 - slot) (superBytes x)).1 else writeSt (syncRes st).1 (1 - slot) (superBytes x)) else syncRes st from rfl)
  rw [hm2] at HTS
  have iws : IntKind.i64.wrap (1 - slot) = (m : Int) := by rw [hm2]; exact IntWalk.i64_in _ ⟨by omega, by omega⟩
  have HIW := Lib.hid iws
  clear h hn hs hd hsl h01 hx hq hl hb1 hr1 hm2 hm iws
  go_enter Tryz.func54, Tryz.ntmps54
  go_wp2_with fail
  try rw [hW1]
  clear hW1
  try go_wp2_with fail
  refine (devd_sync HD1.out).mono ?_
  rintro e w2 ⟨rfl, ⟨D2, hd2, hs2⟩, ho2⟩
  have HD2 := Lib.hid hd2
  have HS2 := Lib.hid (show ∀ b, D2 b → D b ∨ W1.heap.size ≤ b from hs2)
  have HO2 := Lib.hid (show Only D W1 w2 from ho2)
  generalize hsr : syncRes st = r at *
  obtain ⟨s2, er⟩ := r
  dsimp only at *
  have HOW := Lib.hid (show ∀ V, Only D W1 V → Only D W V from fun V h => (Only.of_below HB1.out).trans h)
  have HSW := Lib.hid (show ∀ D' : Nat → Prop, (∀ b, D' b → D b ∨ W1.heap.size ≤ b) → ∀ b, D' b → D b ∨ W.heap.size ≤ b from fun D' h b hb => (h b hb).imp id (fun e => Nat.le_trans HB1.out.size e))
  clear hd2 hs2 ho2 hsr e0
  by_cases he0 : er = 0
  case neg =>
    have g0 : (er == 0) = false := by simpa using he0
    have HR := Lib.hid (show turnS st slot x = (s2, er) by rw [HTS.out, if_neg he0])
    clear he0
    go_wp2_with fail
    go_ret
    exact ⟨by rw [HR.out]; rfl, ⟨D2, by rw [HR.out]; exact HD2.out.more (Nat.le_succ _), HSW.out D2 HS2.out⟩, HOW.out _ HO2.out⟩
  case pos =>
    subst he0
    have HT2 := Lib.hid (show turnS st slot x = if (writeSt s2 (m : Int) (superBytes x)).2 = 0 then syncRes (writeSt s2 (m : Int) (superBytes x)).1 else writeSt s2 (m : Int) (superBytes x) by rw [HTS.out, if_pos rfl])
    go_wp2_with fail
    refine wp_region_held_drew (S := fun V => Only D W1 V) (by kernel_rfl) (HO2.out.trans ((Only.refl _ _).drw)) (fun s0 => ?_)
    obtain ⟨v1, hv1⟩ : ∃ V, V = w2.drew := ⟨_, rfl⟩
    rw [← hv1] at s0 ⊢
    have t1 : Only D W1 v1 := s0
    have HV1 := Lib.hid (show DevD D2 v1 P n s2 by rw [hv1]; exact HD2.out.below ((Below.refl _ _).drew))
    have HZ1 := Lib.hid (show v1.heap.size = w2.heap.size by rw [hv1]; rfl)
    clear hv1 s0
    refine tkHV (i := 0) (v := .pointer (some ⟨S, 0, none⟩)) rfl t1 ?_
    go_simp
    refine tkHV (i := 1) (v := .pointer (some ⟨S, 0, none⟩)) rfl t1 ?_
    go_simp
    refine tkHV (i := 2) (v := .pointer (some ⟨S, 0, none⟩)) rfl t1 ?_
    go_simp
    refine tkH (i := 3) (v := .pointer (some ⟨P, 0, none⟩)) rfl (Or.inl ⟨by rfl, fun w' h => by obtain ⟨x0, x1⟩ := HE.out w' h; go_simp⟩) t1 ?_
    go_simp
    refine tkHV (i := 4) (v := .pointer (some ⟨S, 0, none⟩)) rfl t1 ?_
    go_simp
    refine tkHV (i := 5) (v := .pointer (some ⟨S, 0, none⟩)) rfl t1 ?_
    go_simp
    refine tkHV (i := 6) (v := .pointer (some ⟨S, 7, none⟩)) rfl t1 ?_
    go_simp
    refine tkH (i := 7) (v := .int .i64 slot) rfl (Or.inl ⟨by rfl, fun w' h => by obtain ⟨x0, x1⟩ := HE.out w' h; go_simp⟩) t1 ?_
    go_simp
    have hiw := HIW.out
    refine tkHV (i := 8) (v := .int .i64 m) rfl t1 ?_
    go_simp
    clear hiw
    refine tkH (i := 10) (v := .agg #[.int .i64 x.epoch, .int .i64 x.gen, .int .i64 x.log, .int .i64 x.pages, .int .i64 x.head, .int .i64 x.seq, .int .i64 x.long, .slice Ad x.dir.length cd]) rfl (Or.inl ⟨by rfl, fun w' h => by have e := HRX.out w' h; have e0 := cell_row e 0; have e1 := cell_row e 1; have e2 := cell_row e 2; have e3 := cell_row e 3; have e4 := cell_row e 4; have e5 := cell_row e 5; have e6 := cell_row e 6; have e7 := cell_row e 7; go_simp⟩) t1 ?_
    go_simp
    refine wpAnyH_all (rs := [9]) (by kernel_rfl) (by simp) ?_
    intro i2 hi2
    obtain rfl : i2 = 9 := by simpa using hi2
    clear hi2
    refine wpOp_step rfl (fun K hK => ?_)
    go_simp
    refine (geomSuper_calls HML.out _).mono ?_
    rintro e v2 ⟨rfl, hw⟩
    obtain rfl := hw.symm
    clear hw
    refine hK _ _ ⟨t1, ?_⟩
    clear hK K
    refine wpAnyH_all (rs := [11]) (by kernel_rfl) (by simp) ?_
    intro i2 hi2
    obtain rfl : i2 = 11 := by simpa using hi2
    clear hi2
    refine wpOp_step rfl (fun K hK => ?_)
    go_simp
    refine (superPut_calls (HX.out _ t1) HLL.out).mono ?_
    rintro e v3 ⟨u3, rfl, hu3, hb3⟩
    have t3 : Only D W1 v3 := t1.trans (Only.of_below hb3)
    have HV3 := Lib.hid (HV1.out.below hb3)
    have HU3 := Lib.hid hu3
    clear hb3 hu3
    refine hK _ _ ⟨t3, ?_⟩
    clear hK K
    refine wpAnyH_all (rs := [12]) (by kernel_rfl) (by simp) ?_
    intro i2 hi2
    obtain rfl : i2 = 12 := by simpa using hi2
    clear hi2
    refine wpOp_step rfl (fun K hK => ?_)
    go_simp
    refine (devd_write HV3.out (wf_i64 (by omega) (by have := HML.out; omega)) (by have := HN.out; omega) HU3.out (fun k hk hD => by have := HV1.out.1 k hD; omega)).mono ?_
    rintro e v4 ⟨rfl, ⟨D4, hd4, hs4⟩, ho4⟩
    have t4 : Only D W1 v4 := t3.andthen ho4 HS2.out
    have HD4 := Lib.hid hd4
    have HS4 := Lib.hid (show ∀ b, D4 b → D b ∨ W1.heap.size ≤ b from fun b hb => (hs4 b hb).elim (HS2.out b) (fun e => .inr (Nat.le_trans t3.size e)))
    generalize writeSt s2 (m : Int) (superBytes x) = r4 at *
    obtain ⟨s4, er4⟩ := r4
    dsimp only at *
    clear hd4 hs4 ho4
    refine hK _ _ ⟨t4, ?_⟩
    clear hK K
    refine tkHV (i := 13) (v := .int .i64 er4) rfl t4 ?_
    go_simp
    refine wpAnyH_done (by kernel_rfl) ?_ _
    by_cases he4 : er4 = 0
    case neg =>
      have g0 : (er4 == 0) = false := by simpa using he4
      have HR := Lib.hid (show turnS st slot x = (s4, er4) by rw [HT2.out, if_neg he4])
      clear he4
      go_wp2_with fail
      go_ret
      exact ⟨by rw [HR.out]; rfl, ⟨D4, by rw [HR.out]; exact HD4.out, HSW.out D4 HS4.out⟩, HOW.out _ t4⟩
    case pos =>
      subst he4
      have HR := Lib.hid (show turnS st slot x = syncRes s4 by rw [HT2.out, if_pos rfl])
      have T4 := Lib.hid t4
      obtain ⟨x0, x1⟩ := HE.out _ t4
      clear t4 t3 t1
      go_wp2_with fail
      refine (devd_sync HD4.out).mono ?_
      rintro e w5 ⟨rfl, ⟨D5, hd5, hs5⟩, ho5⟩
      have HD5 := Lib.hid hd5
      have HS5 := Lib.hid (show ∀ b, D5 b → D b ∨ W1.heap.size ≤ b from fun b hb => (hs5 b hb).elim (HS4.out b) (fun e => .inr (Nat.le_trans T4.out.size e)))
      have HO5 := Lib.hid (T4.out.andthen ho5 HS4.out)
      generalize syncRes s4 = r5 at *
      clear hd5 hs5 ho5
      go_wp2_with fail
      go_ret
      exact ⟨by rw [HR.out]; rfl, ⟨D5, by rw [HR.out]; exact HD5.out, HSW.out D5 HS5.out⟩, HOW.out _ HO5.out⟩
end
end Go.Proofs.YtghbfbohnoebiaaGreat
namespace Go.Proofs.YtghbfbohnoebiaaGreat
open Go.RowKit

set_option maxRecDepth 100000 in
set_option maxHeartbeats 2000000 in
/-- store.write -/
theorem swrite_calls {D Qp Qb : Nat → Prop} {W : World} {P n S : Nat} {st : DiskSt} {c0 c1 ep : Int} {vp vb : Value} {pages : List Int} {pieces : List (List UInt8)} (h : DevD D W P n st) (hn : n + pieces.length ≤ 900000000) (hs : ¬ D S)
    (hd : W.cell? ⟨S, 0, none⟩ = some (.pointer (some ⟨P, 0, none⟩))) (e1 : W.cell? ⟨S, 1, none⟩ = some (.int .i64 c0)) (e2 : W.cell? ⟨S, 2, none⟩ = some (.int .i64 c1)) (e3 : W.cell? ⟨S, 3, none⟩ = some (.int .i64 1)) (e4 : W.cell? ⟨S, 4, none⟩ = some (.int .i64 1)) (e5 : W.cell? ⟨S, 5, none⟩ = some (.slice none 0 0)) (e6 : W.cell? ⟨S, 6, none⟩ = some (.int .i64 ep))
    (hwe : (Lit.int .i64 ep).wf = true) (hw0 : (Lit.int .i64 c0).wf = true) (hw1 : (Lit.int .i64 c1).wf = true)
    (hp : (Rep.int .i64).list.val Qp W vp pages) (hqp : ∀ b, Qp b → ¬ D b) (hb : Rep.byte.list.list.val Qb W vb pieces) (hqb : ∀ b, Qb b → ¬ D b) (hle : pieces.length ≤ pages.length) :
    Calls Tryz.prog 116 #[.pointer (some ⟨S, 0, none⟩), vp, vb] W (DStepsD D P (n + pieces.length) W (writeS (conf27 c0 c1) ep pages pieces st)) := by
  obtain ⟨Ap, cp, rfl, hp1, hp2, hpA⟩ := Rep.val_list hp
  obtain ⟨Ab, cb, rfl, hb1, hb2, hbA⟩ := Rep.val_list hb
  unfold maxLen at hp2 hb2
  have HD := Lib.hid h
  have HN := Lib.hid hn
  have HE := Lib.hid (show ∀ V, Only D W V → V.cell? ⟨S, 0, none⟩ = some (.pointer (some ⟨P, 0, none⟩)) ∧ V.cell? ⟨S, 1, none⟩ = some (.int .i64 c0) ∧ V.cell? ⟨S, 2, none⟩ = some (.int .i64 c1) ∧ V.cell? ⟨S, 3, none⟩ = some (.int .i64 1) ∧ V.cell? ⟨S, 4, none⟩ = some (.int .i64 1) ∧ V.cell? ⟨S, 5, none⟩ = some (.slice none 0 0) ∧ V.cell? ⟨S, 6, none⟩ = some (.int .i64 ep) from
    fun V ho => ⟨cell_only ho hs hd, cell_only ho hs e1, cell_only ho hs e2, cell_only ho hs e3, cell_only ho hs e4, cell_only ho hs e5, cell_only ho hs e6⟩)
  have HPA := Lib.hid (show ∀ V, Only D W V → (Rep.int .i64).At (fun b => ¬ D b) V Ap pages from fun V ho => Rep.At.keep (fun b hq hl => ⟨hqp b hq, ho.block b hl.lt (hqp b hq)⟩) hpA)
  have HBA := Lib.hid (show ∀ V, Only D W V → Rep.byte.list.At (fun b => ¬ D b) V Ab pieces from fun V ho => Rep.At.keep (fun b hq hl => ⟨hqb b hq, ho.block b hl.lt (hqb b hq)⟩) hbA)
  have HWF := Lib.hid (show (Lit.int .i64 ep).wf = true ∧ (Lit.int .i64 c0).wf = true ∧ (Lit.int .i64 c1).wf = true from ⟨hwe, hw0, hw1⟩)
  have HWS := Lib.hid (show writeS (conf27 c0 c1) ep pages pieces st = eachTo (writeFn (conf27 c0 c1) ep pages pieces) st pieces.length from rfl)
  clear h hn hs hd e1 e2 e3 e4 e5 e6 hp hb hqp hqb hpA hbA hwe hw0 hw1
  generalize hN : pieces.length = N at *
  have HNN := Lib.hid hN
  clear hN
  go_enter Tryz.func116, Tryz.ntmps116
  go_wp2_with fail
  go_loopw [12] (fun i wr => ∃ (k : Nat) (s : DiskSt) (D' : Nat → Prop), i = .int .i64 k ∧ k ≤ N ∧ Hid (DevD D' wr P (n + k) s) ∧ Hid (∀ b, D' b → D b ∨ W.heap.size ≤ b) ∧ Hid (Only D W wr) ∧ Hid (eachTo (writeFn (conf27 c0 c1) ep pages pieces) st k = (s, 0))) (fun i _ => N - (intOf i).toNat)
  case atStart => exact ⟨0, st, D, rfl, Nat.zero_le _, HD, Lib.hid (fun _ hb => .inl hb), Lib.hid (Only.refl _ _), Lib.hid rfl⟩
  case round =>
    obtain ⟨k, s, D', rfl, hk, HD', HSUB, HO, HE'⟩ := hrel
    by_cases hlt : (k : Int) < N
    · have iw : IntKind.i64.wrap ((k : Int) + 1) = (k : Int) + 1 := IntWalk.i64_in _ ⟨by omega, by omega⟩
      obtain ⟨y, hy⟩ : ∃ y, pieces[k]? = some y := ⟨_, List.getElem?_eq_getElem (by have := HNN.out; omega)⟩
      obtain ⟨p, hp⟩ : ∃ p, pages[k]? = some p := ⟨_, List.getElem?_eq_getElem (by omega)⟩
      obtain ⟨bb, bo, u, rfl, hcb, hvb⟩ := bytes_at (HBA.out _ HO.out) hy
      obtain ⟨pb, po, rfl, _, _, hpw⟩ := int_at (HPA.out _ HO.out) hp
      have HCP := Lib.hid (show ∀ V, Only D W V → V.cell? ⟨pb, po + k, none⟩ = some (.int .i64 p) from fun V ho => by
        obtain ⟨b2, o2, he, _, hc, _⟩ := int_at (HPA.out V ho) hp
        obtain ⟨rfl, rfl⟩ : pb = b2 ∧ po = o2 := by injection he with h; injection h with h1 h2; exact ⟨h1, h2⟩
        exact hc)
      have HPW := Lib.hid hpw
      have HVB := Lib.hid hvb
      obtain ⟨Au, cu, rfl, _, _, _⟩ := Rep.val_list hvb
      have HFN := Lib.hid (show writeFn (conf27 c0 c1) ep pages pieces s k = pageWriteSt s (conf27 c0 c1) ep p y by
        unfold writeFn
        rw [List.getD_eq_getElem?_getD, List.getD_eq_getElem?_getD, hp, hy]; rfl)
      have hkp : (k : Int) < pages.length := by omega
      clear hy hp hpw hvb
      go_wp2_with fail
      refine wp_region_held_drew (S := fun V => Only D W V) (by kernel_rfl) (HO.out.trans ((Only.refl _ _).drw)) (fun s0 => ?_)
      obtain ⟨v1, hv1⟩ : ∃ V, V = wr.drew := ⟨_, rfl⟩
      rw [← hv1] at s0 ⊢
      have t1 : Only D W v1 := s0
      have HV1 := Lib.hid (show DevD D' v1 P (n + k) s by rw [hv1]; exact HD'.out.below ((Below.refl _ _).drew))
      have HY1 := Lib.hid (show Rep.byte.list.val (fun b => ¬ D b) v1 (.slice Au y.length cu) y from by rw [hv1]; exact Rep.val_keep (w := wr) (fun b hb _ => ⟨hb, rfl⟩) HVB.out)
      clear hv1 s0
      refine tkHV (i := 0) (v := .pointer (some ⟨S, 0, none⟩)) rfl t1 ?_
      go_simp
      refine tkHV (i := 1) (v := .pointer (some ⟨S, 0, none⟩)) rfl t1 ?_
      go_simp
      refine tkHV (i := 2) (v := .pointer (some ⟨S, 0, none⟩)) rfl t1 ?_
      go_simp
      refine tkH (i := 3) (v := .pointer (some ⟨P, 0, none⟩)) rfl (Or.inl ⟨by rfl, fun w' h => by obtain ⟨x0, x1, x2, x3, x4, x5, x6⟩ := HE.out w' h; go_simp⟩) t1 ?_
      go_simp
      refine tkHV (i := 4) (v := .pointer (some ⟨S, 0, none⟩)) rfl t1 ?_
      go_simp
      refine tkHV (i := 5) (v := .pointer (some ⟨S, 0, none⟩)) rfl t1 ?_
      go_simp
      refine tkHV (i := 6) (v := .pointer (some ⟨S, 1, none⟩)) rfl t1 ?_
      go_simp
      refine tkH (i := 7) (v := .agg #[.int .i64 c0, .int .i64 c1, .int .i64 1, .int .i64 1, .slice none 0 0]) rfl (Or.inl ⟨by rfl, fun w' h => by obtain ⟨x0, x1, x2, x3, x4, x5, x6⟩ := HE.out w' h; go_simp⟩) t1 ?_
      go_simp
      refine tkHV (i := 8) (v := .pointer (some ⟨S, 0, none⟩)) rfl t1 ?_
      go_simp
      refine tkHV (i := 9) (v := .pointer (some ⟨S, 0, none⟩)) rfl t1 ?_
      go_simp
      refine tkHV (i := 10) (v := .pointer (some ⟨S, 6, none⟩)) rfl t1 ?_
      go_simp
      refine tkH (i := 11) (v := .int .i64 ep) rfl (Or.inl ⟨by rfl, fun w' h => by obtain ⟨x0, x1, x2, x3, x4, x5, x6⟩ := HE.out w' h; go_simp⟩) t1 ?_
      go_simp
      refine tkHV (i := 12) (v := .slice (some ⟨pb, po, none⟩) pages.length cp) rfl t1 ?_
      go_simp
      refine tkHV (i := 13) (v := .int .i64 k) rfl t1 ?_
      go_simp
      refine tkHV (i := 14) (v := .pointer (some ⟨pb, po + k, none⟩)) rfl t1 ?_
      go_simp
      refine tkH (i := 15) (v := .int .i64 p) rfl (Or.inl ⟨by rfl, fun w' h => by have x0 := HCP.out w' h; go_simp⟩) t1 ?_
      go_simp
      refine tkHV (i := 16) (v := .slice Au y.length cu) rfl t1 ?_
      go_simp
      refine wpAnyH_all (rs := [17]) (by kernel_rfl) (by simp) ?_
      intro i2 hi2
      obtain rfl : i2 = 17 := by simpa using hi2
      clear hi2
      refine wpOp_step rfl (fun K hK => ?_)
      go_simp
      refine (pageWriteD_calls HV1.out (by have := HN.out; omega) (conf27_val (Q := fun _ => True) HWF.out.2.1 HWF.out.2.2) HWF.out.1 HPW.out HY1.out).mono ?_
      rintro e v2 ⟨rfl, ⟨D2, hd2, hs2⟩, ho2⟩
      have t2 : Only D W v2 := t1.andthen ho2 HSUB.out
      have HD2 := Lib.hid hd2
      have HS2 := Lib.hid (show ∀ b, D2 b → D b ∨ W.heap.size ≤ b from fun b hb => (hs2 b hb).elim (HSUB.out b) (fun e => .inr (Nat.le_trans t1.size e)))
      have HN2 := Lib.hid (eachTo_next HE'.out)
      have HB2 := Lib.hid (eachTo_bad (f := writeFn (conf27 c0 c1) ep pages pieces) HE'.out)
      rw [HFN.out] at HN2 HB2
      generalize pageWriteSt s (conf27 c0 c1) ep p y = r at *
      obtain ⟨s2, er⟩ := r
      dsimp only at *
      clear hd2 hs2 ho2
      refine hK _ _ ⟨t2, ?_⟩
      clear hK K
      refine tkHV (i := 18) (v := .int .i64 er) rfl t2 ?_
      go_simp
      refine wpAnyH_done (by kernel_rfl) ?_ _
      have T2 := Lib.hid t2
      clear t2 t1
      by_cases he0 : er = 0
      · subst he0
        go_wp2_with fail
        exact ⟨⟨k + 1, s2, D2, by go_num, by omega, HD2, HS2, T2, HN2⟩, by simp [intOf]; omega⟩
      · have g0 : (er == 0) = false := by simpa using he0
        have HR := Lib.hid (show writeS (conf27 c0 c1) ep pages pieces st = (s2, er) by rw [HWS.out, HB2.out he0 N (by omega)])
        have hkk : n + k + 1 ≤ n + N := by omega
        have HKK := Lib.hid hkk
        clear he0 hkk
        go_wp2_with fail
        go_ret
        exact ⟨by rw [HR.out]; rfl, ⟨D2, by rw [HR.out]; exact HD2.out.more HKK.out, HS2.out⟩, T2.out⟩
    · obtain rfl : k = N := by omega
      have HR := Lib.hid (show writeS (conf27 c0 c1) ep pages pieces st = (s, 0) by rw [HWS.out, HE'.out])
      go_wp2_with fail
      go_ret
      exact ⟨by rw [HR.out]; rfl, ⟨D', by rw [HR.out]; exact HD'.out, HSUB.out⟩, HO.out⟩
end Go.Proofs.YtghbfbohnoebiaaGreat
namespace Go.Proofs.YtghbfbohnoebiaaGreat
open Go.RowKit

/-- These bytes are safe in a sector, and nothing waits for it. -/
def SafeAt (st : DiskSt) (i : Nat) (b : List UInt8) : Prop := st.wait (i : Int) = [] ∧ st.safe[i]? = some b
theorem SafeAt.same {st st' : DiskSt} {i : Nat} {b : List UInt8} (h : SafeAt st i b) (h1 : st'.safe = st.safe) (h2 : st'.wait = st.wait) : SafeAt st' i b := ⟨by rw [h2]; exact h.1, by rw [h1]; exact h.2⟩
theorem SafeAt.still {st st' : DiskSt} {i : Nat} {b : List UInt8} (h : SafeAt st i b) (hs : StillAt st st' i) : SafeAt st' i b := ⟨hs.1, hs.2.trans h.2⟩
theorem SafeAt.refl {st : DiskSt} {i : Nat} {b : List UInt8} (h : SafeAt st i b) : StillAt st st i := ⟨h.1, rfl⟩
theorem SafeAt.write {st : DiskSt} {i : Nat} {b : List UInt8} (h : SafeAt st i b) {j : Int} (x : List UInt8) (hj : j ≠ i) : SafeAt (writeSt st j x).1 i b := h.still (write_still h.refl x hj)
theorem SafeAt.fuse {st : DiskSt} {i : Nat} {b : List UInt8} (h : SafeAt st i b) (k : Int) : SafeAt (fuseSt st k) i b := h.same rfl rfl
theorem SafeAt.last {st : DiskSt} {i : Nat} {b : List UInt8} (h : SafeAt st i b) : lastSt st (i : Nat) = b := by
  rw [lastSt_still h.1, List.getD_eq_getElem?_getD, h.2]; rfl
theorem SafeAt.lt {st : DiskSt} {i : Nat} {b : List UInt8} (h : SafeAt st i b) : i < st.safe.length := (List.getElem?_eq_some_iff.1 h.2).1
/-- Behind a sync that is done, what was written last is safe. -/
theorem sync_safe {st : DiskSt} (h : (syncRes st).2 = 0) {i : Nat} (hi : i < st.safe.length) : SafeAt (syncRes st).1 i (lastSt st (i : Nat)) := by
  have hs := burnSt_same st
  unfold syncRes at h ⊢
  by_cases hb : (burnSt st).2 = 0
  · rw [if_pos hb]
    refine ⟨rfl, ?_⟩
    show ((List.range (burnSt st).1.safe.length).map fun i => lastSt (burnSt st).1 (i : Nat))[i]? = _
    rw [List.getElem?_map, hs.1, List.getElem?_range hi, Option.map_some]
    congr 1
    unfold lastSt
    rw [hs.1, hs.2]
  · rw [if_neg hb] at h; exact absurd h hb
theorem sync_none {st : DiskSt} (h : (syncRes st).2 = 0) (j : Int) : (syncRes st).1.wait j = [] := by
  unfold syncRes at h ⊢
  by_cases hb : (burnSt st).2 = 0
  · rw [if_pos hb]; rfl
  · rw [if_neg hb] at h; exact absurd h hb
/-- What was written last of a sector. -/
theorem write_last {st : DiskSt} {i : Int} {b : List UInt8} (h : (writeSt st i b).2 = 0) : lastSt (writeSt st i b).1 i = cutTo b 512 := by
  unfold writeSt at h ⊢
  by_cases hb : (atSt st i).2 = 0
  · rw [if_pos hb]
    unfold lastSt
    show (((if i = i then (atSt st i).1.wait i ++ [cutTo b 512] else (atSt st i).1.wait i)).getLast?).getD _ = _
    rw [if_pos rfl]
    simp
  · rw [if_neg hb] at h; exact absurd h hb
theorem write_other {st : DiskSt} {i j : Int} {b : List UInt8} (hj : j ≠ i) : (writeSt st i b).1.wait j = st.wait j ∧ (writeSt st i b).1.safe = st.safe := by
  have hs := atSt_same st i
  unfold writeSt
  split
  · refine ⟨?_, hs.1⟩
    show (if j = i then (atSt st i).1.wait i ++ [cutTo b 512] else (atSt st i).1.wait j) = _
    rw [if_neg hj, hs.2]
  · exact ⟨by rw [hs.2], hs.1⟩
theorem write_safe (st : DiskSt) (i : Int) (b : List UInt8) : (writeSt st i b).1.safe = st.safe := by
  have hs := atSt_same st i
  unfold writeSt
  split
  · exact hs.1
  · exact hs.1
theorem last_other {st : DiskSt} {i j : Int} {b : List UInt8} (hj : j ≠ i) : lastSt (writeSt st i b).1 j = lastSt st j := by
  obtain ⟨h1, h2⟩ := write_other (st := st) (b := b) hj
  unfold lastSt
  rw [h1, h2]
theorem syncRes_len (st : DiskSt) : (syncRes st).1.safe.length = st.safe.length := by
  have hs := burnSt_same st
  unfold syncRes
  split
  · show ((List.range (burnSt st).1.safe.length).map _).length = _
    rw [List.length_map, List.length_range, hs.1]
  · rw [hs.1]

/-- Each of the first ones keeps what a step keeps. -/
theorem eachTo_keep {σ : Type} {f : σ → Nat → σ × Int} {st : σ} (I : σ → Prop) (h0 : I st) : ∀ (k : Nat), (∀ j s, j < k → I s → I (f s j).1) → I (eachTo f st k).1
  | 0, _ => h0
  | k + 1, h => by
    have ih := eachTo_keep I h0 k fun j s hj => h j s (by omega)
    show I (if _ then _ else _ : σ × Int).1
    split
    · exact h k _ (by omega) ih
    · exact ih
section
variable {c : DConf} {epoch : Int} {pages : List Int} {pieces : List (List UInt8)}
end
end Go.Proofs.YtghbfbohnoebiaaGreat
