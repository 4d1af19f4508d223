/- Walk of the page's example of a log. -/
import Derived.Test.YteljibjbndpncaaWfG23
namespace Go.Proofs.Yteljibjbndpncaa
open Go.RowKit

def FirstPost (L P : Nat) (A : Option Addr) (cap : Nat) (G F : Nat → Prop) (n : Nat) (W : World) (k : Int) (e : Ending) (W' : World) : Prop :=
  e = .returned (.int .i64 k) ∧ Only (fun b => F b ∨ b = L) W W' ∧ ∃ (F' B' : Nat → Prop) (s : DiskSt), WalAt W' L P A cap G F' B' n exConf s ⟨1, 0, 3, 1⟩ ∧ (∀ b, F' b → F b ∨ W.heap.size ≤ b)
theorem live_first {Q : Nat → Prop} {W : World} {L P : Nat} {A : Option Addr} {cap : Nat} {G F B : Nat → Prop} {n : Nat} {v : Value} (h : WalAt W L P A cap G F B n exConf exSt ⟨1, 0, 0, 0⟩) (hn : n ≤ 900000000) (hx : Rep.byte.list.val Q W v ex1000) :
    Calls Try.prog 29 #[.pointer (some ⟨L, 0, none⟩), v] W (FirstPost L P A cap G F (n + 1024) W 0) := by
  refine (wappend_calls h hn rfl (by decide) (by decide) hx (by decide +kernel)).mono ?_
  rintro e w' ⟨rfl, ho, F', B', hw, hF, _, _⟩
  rw [ex_first] at hw
  exact ⟨by rw [ex_first], ho, F', B', _, hw, hF⟩
theorem live_second {Q : Nat → Prop} {W : World} {L P : Nat} {A : Option Addr} {cap : Nat} {G F B : Nat → Prop} {n : Nat} {v : Value} {s : DiskSt} (h : WalAt W L P A cap G F B n exConf s ⟨1, 0, 3, 1⟩) (hn : n ≤ 900000000) (hx : Rep.byte.list.val Q W v ex1000) :
    Calls Try.prog 29 #[.pointer (some ⟨L, 0, none⟩), v] W (FirstPost L P A cap G F (n + 1024) W 14) := by
  refine (wappend_calls h hn rfl (by decide) (by decide) hx (by decide +kernel)).mono ?_
  rintro e w' ⟨rfl, ho, F', B', hw, hF, _, _⟩
  rw [ex_second] at hw
  exact ⟨by rw [ex_second], ho, F', B', _, hw, hF⟩
theorem WalAt.below {W W' : World} {L P : Nat} {A : Option Addr} {cap : Nat} {G F B : Nat → Prop} {n : Nat} {c : DConf} {st : DiskSt} {x : LogSt} (h : WalAt W L P A cap G F B n c st x) (hb : Below W.heap.size W W') : WalAt W' L P A cap G F B n c st x := ⟨h.log.below hb, h.dev.below hb, h.nf, h.nb⟩
theorem new_ten {xs : List (List UInt8 × Nat)} (hl : xs.length = newN 10) (hz : ∀ x ∈ xs, x.1 = zeros 512) : newSt (xs.map (·.1)) = exSt := by
  unfold exSt
  congr 1
  have h10 : xs.length = 10 := hl
  rw [List.eq_replicate_iff]
  exact ⟨by rw [List.length_map, h10], fun b hb => by obtain ⟨x, hx, rfl⟩ := List.mem_map.1 hb; exact hz x hx⟩
theorem code19 (k : Int) (w : World) : Calls Try.prog 28 #[.int .i64 k] w fun e w' => e = .returned (.int .i64 k) ∧ w' = w := by
  go_enter Try.func28, Try.ntmps28
  go_wp2_with fail
  go_ret
  exact ⟨rfl, rfl⟩

set_option maxRecDepth 100000 in
set_option maxHeartbeats 4000000 in
/-- live -/
theorem live19_calls (w : World) : Calls Try.prog 22 #[] w fun e w' => e = .returned (.bool true) ∧ Below w.heap.size w w' := by
  have hmk : ∀ w, (Instr.makeSlice 33 (.int .i64 1000) (.int .i64 1000)).run Try.prog w = .ok (.slice (some ⟨w.heap.size, 0, none⟩) 1000 1000) (w.alloc (.cells (zeroBytes 1000) 5)) :=
    fun w => run_make_bytes Try.underlying33 info5 1000 (by omega) w
  have HMB := Lib.hid (show ∀ w : World, Rep.byte.list.val (fun b => w.heap.size ≤ b) (w.alloc (.cells (zeroBytes 1000) 5)) (.slice (some ⟨w.heap.size, 0, none⟩) 1000 1000) ex1000 from fun w => Rep.made_bytes w 1000 (by simp [maxLen]))
  generalize zeroBytes 1000 = Z at *
  have hb0 := heap_alloc_new w (.cells #[.int .i64 4, .int .i64 4, .int .i64 1, .int .i64 1, .slice none 0 0] 49)
  have hbel0 : Below w.heap.size w (w.alloc (.cells #[.int .i64 4, .int .i64 4, .int .i64 1, .int .i64 1, .slice none 0 0] 49)) := (Below.refl _ _).alloc (Nat.le_refl _) _
  have hsz0 : (w.alloc (.cells #[.int .i64 4, .int .i64 4, .int .i64 1, .int .i64 1, .slice none 0 0] 49)).heap.size = w.heap.size + 1 := by simp
  have HS0 := Lib.hid hsz0
  have KS := Lib.hid (show ∀ W', Below (w.heap.size + 1) (w.alloc (.cells #[.int .i64 4, .int .i64 4, .int .i64 1, .int .i64 1, .slice none 0 0] 49)) W' → W'.cell? ⟨w.heap.size, 0, none⟩ = some (.int .i64 4) ∧ W'.cell? ⟨w.heap.size, 1, none⟩ = some (.int .i64 4) ∧ W'.cell? ⟨w.heap.size, 2, none⟩ = some (.int .i64 1) ∧ W'.cell? ⟨w.heap.size, 3, none⟩ = some (.int .i64 1) ∧ W'.cell? ⟨w.heap.size, 4, none⟩ = some (.slice none 0 0) from fun W' hb => by
    have h2 := (hb.block w.heap.size (Nat.lt_succ_self _)).trans hb0
    exact ⟨cell_row h2 0, cell_row h2 1, cell_row h2 2, cell_row h2 3, cell_row h2 4⟩)
  have HC := Lib.hid (show ∀ W' : World, rConf.val (fun _ => False) W' (.agg #[.int .i64 4, .int .i64 4, .int .i64 1, .int .i64 1, .slice none 0 0]) exConf from fun W' => rConf_agg (x := exConf) rfl rfl rfl rfl ⟨Nat.zero_le _, by simp [maxLen], ⟨[], rfl, fun h => absurd h (by simp [exConf])⟩⟩)
  have HB0 := Lib.hid hbel0
  clear hb0 hsz0 hbel0
  go_enter Try.func22, Try.ntmps22
  go_wp2_with fail
  generalize w.alloc (.cells #[.int .i64 4, .int .i64 4, .int .i64 1, .int .i64 1, .slice none 0 0] 49) = W1 at *
  have D1 := Lib.hid (show Below (w.heap.size + 1) W1 W1.drew from (Below.refl _ _).drew)
  obtain ⟨s0, s1, s2, s3, s4⟩ := KS.out _ D1.out
  go_region_held3 (fun W' => W'.cell? ⟨w.heap.size, 0, none⟩ = some (.int .i64 4) ∧ W'.cell? ⟨w.heap.size, 1, none⟩ = some (.int .i64 4) ∧ W'.cell? ⟨w.heap.size, 2, none⟩ = some (.int .i64 1) ∧ W'.cell? ⟨w.heap.size, 3, none⟩ = some (.int .i64 1) ∧ W'.cell? ⟨w.heap.size, 4, none⟩ = some (.slice none 0 0))
    (first
      | exact KS.out _ D1.out
      | exact KS.out _ D2.out
      | exact KS.out _ D3.out)
    (first
      | (go_at_call 23; refine (dnew_calls (n := 10) (by decide) (by decide) _).mono ?_; rintro e w2 ⟨P, M, Sf, cs, xs, rfl, hnew, hz⟩; have D2 := Lib.hid (D1.out.trans (hnew.bel.mono (show w.heap.size + 1 ≤ W1.drew.heap.size from Nat.le_of_eq HS0.out.symm))); have HD2 := Lib.hid hnew.disk; have HGE := Lib.hid hnew.old; have HST := Lib.hid (new_ten hnew.len hz); rw [HST.out] at HD2; clear hnew hz HST)
      | (go_at_call 24; refine (wnew_calls (x := ⟨1, 0, 0, 0⟩) HD2.out (HC.out _) (fun _ h _ => h)).mono ?_; rintro e w3 ⟨hb3, hcase⟩; obtain ⟨L, A, cap, G, rfl, hlog, hge⟩ := (hcase.resolve_left (fun h => Bool.noConfusion (ex_right.symm.trans h.1))).2; have D3 := Lib.hid (D2.out.trans (hb3.mono (Nat.le_trans (Nat.le_of_eq HS0.out.symm) D2.out.size))); have HW3 := Lib.hid (WalAt.mk hlog (HD2.out.below hb3) (fun b hb hf => by have h1 := hge b hb; obtain ⟨_, _, _, _, hh⟩ := HD2.out; have := hh.lt b (.inl hf); omega) (fun hb => by have h1 := hge L (.inl rfl); obtain ⟨_, _, _, _, hh⟩ := HD2.out; have := hh.lt L (.inr hb); omega)); have HGL := Lib.hid (show ∀ b, b = L ∨ G b → w.heap.size ≤ b from fun b hb => Nat.le_trans (Nat.le_trans (Nat.le_of_lt (Nat.lt_succ_self _)) (Nat.le_trans (Nat.le_of_eq HS0.out.symm) D2.out.size)) (hge b hb)); clear hb3 hcase hlog hge))
  obtain ⟨F, B, hw3, hF3⟩ : ∃ F B : Nat → Prop, WalAt w3 L P A cap G F B 0 exConf exSt ⟨1, 0, 0, 0⟩ ∧ (∀ b, F b → w.heap.size ≤ b) := ⟨_, _, HW3.out, fun b hb => by have := HGE.out b (.inl hb); have h2 : W1.drew.heap.size = W1.heap.size := rfl; have := HS0.out; omega⟩
  have HFG := Lib.hid hF3
  have HWAL := Lib.hid (fun W' (hb : Below w3.heap.size w3 W') => hw3.below hb)
  have HBW := Lib.hid (show Below w.heap.size w w3 from HB0.out.trans (D3.out.mono (Nat.le_succ _)))
  have HFL := Lib.hid (show ∀ b, F b ∨ b = L → b < w3.heap.size from fun b hb => by
    obtain ⟨_, _, _, _, hh⟩ := hw3.dev
    rcases hb with hb | rfl
    · exact hh.lt b (.inl hb)
    · exact hw3.log.lt b (.inl rfl))
  have HLG := Lib.hid (HGL.out L (.inl rfl))
  clear hw3 hF3 s0 s1 s2 s3 s4 HD2 HGE HW3 HGL
  go_wp2_with fail
  refine wp_region_any (by kernel_rfl) ?_
  try (change wpAny _ _ _ _ _ _ _ (World.drew _))
  refine wpAny_take (i := 0) (v := .pointer (some ⟨L, 0, none⟩)) rfl (by kernel_rfl) (by kernel_rfl) (by kernel_rfl) (fun _ _ _ h => h) (Or.inl ⟨by rfl, fun w' => by go_simp⟩) ?_
  go_simp
  refine wpAny_take (i := 3) (v := .pointer (some ⟨L, 0, none⟩)) rfl (by kernel_rfl) (by kernel_rfl) (by kernel_rfl) (fun _ _ _ h => h) (Or.inl ⟨by rfl, fun w' => by go_simp⟩) ?_
  go_simp
  refine any_step [1, 4] (by kernel_rfl) (by simp) ?_
  intro j hj
  rcases (by simpa using hj : j = 1 ∨ j = 4) with rfl | rfl
  · refine wpOp_step rfl (fun K hK => ?_)
    go_simp
    refine hK _ _ ?_
    clear hK K
    have Nwm := Lib.hid (show Below w3.heap.size w3 ((w3.alloc (.cells Z 5)).drew) from ((Below.refl _ _).alloc (Nat.le_refl _) _).drew)
    have Vwm := Lib.hid (show Rep.byte.list.val (fun b => w3.heap.size ≤ b) ((w3.alloc (.cells Z 5)).drew) (.slice (some ⟨w3.heap.size, 0, none⟩) 1000 1000) ex1000 from Rep.val_drewN (HMB.out w3) 1)
    generalize (w3.alloc (.cells Z 5)).drew = wm at *
    refine any_step [2, 4] (by kernel_rfl) (by simp) ?_
    intro j hj
    rcases (by simpa using hj : j = 2 ∨ j = 4) with rfl | rfl
    · refine wpOp_step rfl (fun K hK => ?_)
      go_simp
      have HWc := Lib.hid (HWAL.out wm Nwm.out)
      refine (live_first HWc.out (by decide) Vwm.out).mono ?_
      rintro e wa ⟨rfl, howa, F1, B1, st1, hwwa, hFwa⟩
      have Owa := Lib.hid howa
      have Wwa := Lib.hid hwwa
      have Gwa := Lib.hid (show ∀ b, F1 b → w.heap.size ≤ b from fun b hb => (hFwa b hb).elim (HFG.out b) (fun e => Nat.le_trans HBW.out.size (Nat.le_trans (Nwm.out).size e)))
      have Bwa := Lib.hid (show Below w.heap.size w wa from (HBW.out.trans ((Nwm.out).mono HBW.out.size)).trans (howa.below (Nat.le_trans HBW.out.size (Nwm.out).size) (fun b hb => hb.elim (HFG.out b) (fun e => by rw [e]; exact HLG.out))))
      clear howa hwwa hFwa
      refine hK _ _ ?_
      clear hK K
      refine any_step [4] (by kernel_rfl) (by simp) ?_
      intro j hj
      obtain rfl : j = 4 := by simpa using hj
      refine wpOp_step rfl (fun K hK => ?_)
      go_simp
      refine hK _ _ ?_
      clear hK K
      have Nwn := Lib.hid (show Below wa.heap.size wa (wa.alloc (.cells Z 5)) from ((Below.refl _ _).alloc (Nat.le_refl _) _))
      have Vwn := Lib.hid (show Rep.byte.list.val (fun b => wa.heap.size ≤ b) (wa.alloc (.cells Z 5)) (.slice (some ⟨wa.heap.size, 0, none⟩) 1000 1000) ex1000 from HMB.out wa)
      generalize wa.alloc (.cells Z 5) = wn at *
      refine any_step [5] (by kernel_rfl) (by simp) ?_
      intro j hj
      obtain rfl : j = 5 := by simpa using hj
      refine wpOp_step rfl (fun K hK => ?_)
      go_simp
      refine (live_second (Wwa.out.below Nwn.out) (by decide) Vwn.out).mono ?_
      rintro e wz ⟨rfl, hoz, Fz, Bz, stz, hwz, hFz⟩
      have BZ := Lib.hid (show Below w.heap.size w wz from ((Bwa.out.trans (Nwn.out.mono Bwa.out.size))).trans (hoz.below ((Bwa.out.trans (Nwn.out.mono Bwa.out.size))).size (fun b hb => hb.elim (Gwa.out b) (fun e => by rw [e]; exact HLG.out))))
      have WZ := Lib.hid hwz
      clear hoz hwz hFz
      refine hK _ _ ?_
      clear hK K
      refine wpAny_take (i := 6) (v := .int .i64 0) rfl (by kernel_rfl) (by kernel_rfl) (by kernel_rfl) (fun _ _ _ h => h) (Or.inl ⟨by rfl, fun w' => by go_simp⟩) ?_
      go_simp
      refine wpAny_take (i := 7) (v := .int .i64 14) rfl (by kernel_rfl) (by kernel_rfl) (by kernel_rfl) (fun _ _ _ h => h) (Or.inl ⟨by rfl, fun w' => by go_simp⟩) ?_
      go_simp
      refine wpAny_done (by kernel_rfl) ?_ _
      go_wp2_with fail
      refine (code19 0 _).mono ?_
      rintro e w8 ⟨rfl, hw8⟩
      have hw9 := hw8.symm
      subst hw9
      clear hw8
      go_wp2_with fail
      refine (code19 14 _).mono ?_
      rintro e w8 ⟨rfl, hw8⟩
      have hw9 := hw8.symm
      subst hw9
      clear hw8
      go_wp2_with fail
      refine (wroom_calls WZ.out.log).mono ?_
      rintro e w8 ⟨rfl, hb8⟩
      rw [show roomOf exConf (LogSt.head ⟨1, 0, 3, 1⟩) (LogSt.tail ⟨1, 0, 3, 1⟩) = 1 from ex_room]
      have B8 := Lib.hid (BZ.out.trans (hb8.mono BZ.out.size))
      have L8 := Lib.hid (WZ.out.log.below hb8)
      clear hb8
      go_wp2_with fail
      refine (wseq_calls L8.out).mono ?_
      rintro e w9 ⟨rfl, hb9⟩
      have B9 := Lib.hid (B8.out.trans (hb9.mono B8.out.size))
      clear hb9
      dsimp only
      go_wp2_with fail
      go_ret
      exact ⟨rfl, B9.out⟩
    · refine wpOp_step rfl (fun K hK => ?_)
      go_simp
      refine hK _ _ ?_
      clear hK K
      have Nwn := Lib.hid (show Below wm.heap.size wm (wm.alloc (.cells Z 5)) from ((Below.refl _ _).alloc (Nat.le_refl _) _))
      have Vwn := Lib.hid (show Rep.byte.list.val (fun b => wm.heap.size ≤ b) (wm.alloc (.cells Z 5)) (.slice (some ⟨wm.heap.size, 0, none⟩) 1000 1000) ex1000 from HMB.out wm)
      generalize wm.alloc (.cells Z 5) = wn at *
      refine any_step [2] (by kernel_rfl) (by simp) ?_
      intro j hj
      obtain rfl : j = 2 := by simpa using hj
      refine wpOp_step rfl (fun K hK => ?_)
      go_simp
      have HWc := Lib.hid (HWAL.out wn (Nwm.out.trans (Nwn.out.mono Nwm.out.size)))
      refine (live_first HWc.out (by decide) (Rep.val_below Vwm.out Nwn.out (fun _ _ hl => hl.lt))).mono ?_
      rintro e wa ⟨rfl, howa, F1, B1, st1, hwwa, hFwa⟩
      have Owa := Lib.hid howa
      have Wwa := Lib.hid hwwa
      have Gwa := Lib.hid (show ∀ b, F1 b → w.heap.size ≤ b from fun b hb => (hFwa b hb).elim (HFG.out b) (fun e => Nat.le_trans HBW.out.size (Nat.le_trans ((Nwm.out.trans (Nwn.out.mono Nwm.out.size))).size e)))
      have Bwa := Lib.hid (show Below w.heap.size w wa from (HBW.out.trans (((Nwm.out.trans (Nwn.out.mono Nwm.out.size))).mono HBW.out.size)).trans (howa.below (Nat.le_trans HBW.out.size ((Nwm.out.trans (Nwn.out.mono Nwm.out.size))).size) (fun b hb => hb.elim (HFG.out b) (fun e => by rw [e]; exact HLG.out))))
      clear howa hwwa hFwa
      refine hK _ _ ?_
      clear hK K
      refine any_step [5] (by kernel_rfl) (by simp) ?_
      intro j hj
      obtain rfl : j = 5 := by simpa using hj
      refine wpOp_step rfl (fun K hK => ?_)
      go_simp
      refine (live_second Wwa.out (by decide) (Rep.val_keep (fun b hb hl => ⟨hb, Owa.out.block b hl.lt (fun hf => by have := HFL.out b hf; have := Nwm.out.size; have hb2 : wm.heap.size ≤ b := hb; omega)⟩) Vwn.out)).mono ?_
      rintro e wz ⟨rfl, hoz, Fz, Bz, stz, hwz, hFz⟩
      have BZ := Lib.hid (show Below w.heap.size w wz from (Bwa.out).trans (hoz.below (Bwa.out).size (fun b hb => hb.elim (Gwa.out b) (fun e => by rw [e]; exact HLG.out))))
      have WZ := Lib.hid hwz
      clear hoz hwz hFz
      refine hK _ _ ?_
      clear hK K
      refine wpAny_take (i := 6) (v := .int .i64 0) rfl (by kernel_rfl) (by kernel_rfl) (by kernel_rfl) (fun _ _ _ h => h) (Or.inl ⟨by rfl, fun w' => by go_simp⟩) ?_
      go_simp
      refine wpAny_take (i := 7) (v := .int .i64 14) rfl (by kernel_rfl) (by kernel_rfl) (by kernel_rfl) (fun _ _ _ h => h) (Or.inl ⟨by rfl, fun w' => by go_simp⟩) ?_
      go_simp
      refine wpAny_done (by kernel_rfl) ?_ _
      go_wp2_with fail
      refine (code19 0 _).mono ?_
      rintro e w8 ⟨rfl, hw8⟩
      have hw9 := hw8.symm
      subst hw9
      clear hw8
      go_wp2_with fail
      refine (code19 14 _).mono ?_
      rintro e w8 ⟨rfl, hw8⟩
      have hw9 := hw8.symm
      subst hw9
      clear hw8
      go_wp2_with fail
      refine (wroom_calls WZ.out.log).mono ?_
      rintro e w8 ⟨rfl, hb8⟩
      rw [show roomOf exConf (LogSt.head ⟨1, 0, 3, 1⟩) (LogSt.tail ⟨1, 0, 3, 1⟩) = 1 from ex_room]
      have B8 := Lib.hid (BZ.out.trans (hb8.mono BZ.out.size))
      have L8 := Lib.hid (WZ.out.log.below hb8)
      clear hb8
      go_wp2_with fail
      refine (wseq_calls L8.out).mono ?_
      rintro e w9 ⟨rfl, hb9⟩
      have B9 := Lib.hid (B8.out.trans (hb9.mono B8.out.size))
      clear hb9
      dsimp only
      go_wp2_with fail
      go_ret
      exact ⟨rfl, B9.out⟩
  · refine wpOp_step rfl (fun K hK => ?_)
    go_simp
    refine hK _ _ ?_
    clear hK K
    have Nwn := Lib.hid (show Below w3.heap.size w3 ((w3.alloc (.cells Z 5)).drew) from ((Below.refl _ _).alloc (Nat.le_refl _) _).drew)
    have Vwn := Lib.hid (show Rep.byte.list.val (fun b => w3.heap.size ≤ b) ((w3.alloc (.cells Z 5)).drew) (.slice (some ⟨w3.heap.size, 0, none⟩) 1000 1000) ex1000 from Rep.val_drewN (HMB.out w3) 1)
    generalize (w3.alloc (.cells Z 5)).drew = wn at *
    refine any_step [1] (by kernel_rfl) (by simp) ?_
    intro j hj
    obtain rfl : j = 1 := by simpa using hj
    refine wpOp_step rfl (fun K hK => ?_)
    go_simp
    refine hK _ _ ?_
    clear hK K
    have Nwm := Lib.hid (show Below wn.heap.size wn (wn.alloc (.cells Z 5)) from ((Below.refl _ _).alloc (Nat.le_refl _) _))
    have Vwm := Lib.hid (show Rep.byte.list.val (fun b => wn.heap.size ≤ b) (wn.alloc (.cells Z 5)) (.slice (some ⟨wn.heap.size, 0, none⟩) 1000 1000) ex1000 from HMB.out wn)
    generalize wn.alloc (.cells Z 5) = wm at *
    refine any_step [2] (by kernel_rfl) (by simp) ?_
    intro j hj
    obtain rfl : j = 2 := by simpa using hj
    refine wpOp_step rfl (fun K hK => ?_)
    go_simp
    have HWc := Lib.hid (HWAL.out wm (Nwn.out.trans (Nwm.out.mono Nwn.out.size)))
    refine (live_first HWc.out (by decide) Vwm.out).mono ?_
    rintro e wa ⟨rfl, howa, F1, B1, st1, hwwa, hFwa⟩
    have Owa := Lib.hid howa
    have Wwa := Lib.hid hwwa
    have Gwa := Lib.hid (show ∀ b, F1 b → w.heap.size ≤ b from fun b hb => (hFwa b hb).elim (HFG.out b) (fun e => Nat.le_trans HBW.out.size (Nat.le_trans ((Nwn.out.trans (Nwm.out.mono Nwn.out.size))).size e)))
    have Bwa := Lib.hid (show Below w.heap.size w wa from (HBW.out.trans (((Nwn.out.trans (Nwm.out.mono Nwn.out.size))).mono HBW.out.size)).trans (howa.below (Nat.le_trans HBW.out.size ((Nwn.out.trans (Nwm.out.mono Nwn.out.size))).size) (fun b hb => hb.elim (HFG.out b) (fun e => by rw [e]; exact HLG.out))))
    clear howa hwwa hFwa
    refine hK _ _ ?_
    clear hK K
    refine any_step [5] (by kernel_rfl) (by simp) ?_
    intro j hj
    obtain rfl : j = 5 := by simpa using hj
    refine wpOp_step rfl (fun K hK => ?_)
    go_simp
    refine (live_second Wwa.out (by decide) (Rep.val_keep (fun b hb hl => ⟨hb, Owa.out.block b hl.lt (fun hf => by have := HFL.out b hf; have := hb; omega)⟩) (Rep.val_below Vwn.out Nwm.out (fun _ _ hl => hl.lt)))).mono ?_
    rintro e wz ⟨rfl, hoz, Fz, Bz, stz, hwz, hFz⟩
    have BZ := Lib.hid (show Below w.heap.size w wz from (Bwa.out).trans (hoz.below (Bwa.out).size (fun b hb => hb.elim (Gwa.out b) (fun e => by rw [e]; exact HLG.out))))
    have WZ := Lib.hid hwz
    clear hoz hwz hFz
    refine hK _ _ ?_
    clear hK K
    refine wpAny_take (i := 6) (v := .int .i64 0) rfl (by kernel_rfl) (by kernel_rfl) (by kernel_rfl) (fun _ _ _ h => h) (Or.inl ⟨by rfl, fun w' => by go_simp⟩) ?_
    go_simp
    refine wpAny_take (i := 7) (v := .int .i64 14) rfl (by kernel_rfl) (by kernel_rfl) (by kernel_rfl) (fun _ _ _ h => h) (Or.inl ⟨by rfl, fun w' => by go_simp⟩) ?_
    go_simp
    refine wpAny_done (by kernel_rfl) ?_ _
    go_wp2_with fail
    refine (code19 0 _).mono ?_
    rintro e w8 ⟨rfl, hw8⟩
    have hw9 := hw8.symm
    subst hw9
    clear hw8
    go_wp2_with fail
    refine (code19 14 _).mono ?_
    rintro e w8 ⟨rfl, hw8⟩
    have hw9 := hw8.symm
    subst hw9
    clear hw8
    go_wp2_with fail
    refine (wroom_calls WZ.out.log).mono ?_
    rintro e w8 ⟨rfl, hb8⟩
    rw [show roomOf exConf (LogSt.head ⟨1, 0, 3, 1⟩) (LogSt.tail ⟨1, 0, 3, 1⟩) = 1 from ex_room]
    have B8 := Lib.hid (BZ.out.trans (hb8.mono BZ.out.size))
    have L8 := Lib.hid (WZ.out.log.below hb8)
    clear hb8
    go_wp2_with fail
    refine (wseq_calls L8.out).mono ?_
    rintro e w9 ⟨rfl, hb9⟩
    have B9 := Lib.hid (B8.out.trans (hb9.mono B8.out.size))
    clear hb9
    dsimp only
    go_wp2_with fail
    go_ret
    exact ⟨rfl, B9.out⟩
end Go.Proofs.Yteljibjbndpncaa
