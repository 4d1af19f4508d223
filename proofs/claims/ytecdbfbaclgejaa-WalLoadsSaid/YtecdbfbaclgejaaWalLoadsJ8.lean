/- Texts on which the proof of WalLoads stands, part 8: WalLoads. No condition is laid on any input. -/
import Derived.Test.YtecdbfbaclgejaaWalLoadsJ7
/- Walk of the statement's function. -/
namespace Go.Proofs.Ytecdbfbaclgejaa
open Go.RowKit

theorem logChunks_get {c : DConf} {b : List UInt8} {ls : List (List UInt8)} (h : ls = logChunks c b) (hn : ((b.length / 512 : Nat) : Int) = 2 + c.log + c.pages) (hp : 0 ≤ c.pages) {k : Nat} {y : List UInt8} (hk : ls[k]? = some y) : y = (b.drop (512 * (k + 2))).take 512 ∧ 512 * (k + 2) + 512 ≤ b.length := by
  rw [h] at hk
  unfold logChunks at hk
  rw [List.getElem?_map] at hk
  obtain ⟨j, hj, rfl⟩ := Option.map_eq_some_iff.1 hk
  obtain ⟨hj1, hj2⟩ := List.getElem?_eq_some_iff.1 hj
  rw [List.length_range] at hj1
  rw [List.getElem_range] at hj2
  subst hj2
  exact ⟨by unfold chunk; rw [Nat.add_comm 2 k], by omega⟩

set_option maxRecDepth 100000 in
set_option maxHeartbeats 16000000 in
/-- WalLoads -/
theorem walLoads_calls {Q Q' : Nat → Prop} {w : World} {v u : Value} {c : DConf} {b : List UInt8} {fuse : Int} (hx : rConf.val Q w v c) (hy : Rep.byte.list.val Q' w u b) (hf : (Lit.int .i64 fuse).wf = true) :
    Calls Try.prog 11 #[v, u, .int .i64 fuse] w fun e w' => e = .returned (.bool true) ∧ Below w.heap.size w w' := by
  obtain ⟨A, cap, rfl, _⟩ := rConf_val hx
  obtain ⟨A1, c1, rfl, hc1, hc2, _⟩ := Rep.val_list hy
  unfold maxLen at hc2
  have hm := InBox.made hx 88
  have hbel : Below w.heap.size w (w.alloc (.cells #[.int .i64 c.log, .int .i64 c.pages, .int .i64 c.entities, .int .i64 c.gens, .slice A c.comps.length cap] 88)) := (Below.refl _ _).alloc (Nat.le_refl _) _
  have hsz : (w.alloc (.cells #[.int .i64 c.log, .int .i64 c.pages, .int .i64 c.entities, .int .i64 c.gens, .slice A c.comps.length cap] 88)).heap.size = w.heap.size + 1 := by simp
  have hyv : Rep.byte.list.val (fun k => k < w.heap.size) w (.slice A1 b.length c1) b := Rep.val_any hy
  have hv1 := Rep.val_below hyv hbel (fun _ h _ => h)
  generalize hW1 : w.alloc (.cells #[.int .i64 c.log, .int .i64 c.pages, .int .i64 c.entities, .int .i64 c.gens, .slice A c.comps.length cap] 88) = W1 at *
  have HM := Lib.hid hm
  have HB := Lib.hid hbel
  have HS := Lib.hid hsz
  have HV := Lib.hid (show ∀ W', Below W1.heap.size W1 W' → Rep.byte.list.val (fun k => k < w.heap.size) W' (.slice A1 b.length c1) b from fun W' h => Rep.val_below hv1 h (fun _ hk _ => by have := HS.out; omega))
  have HBOX := Lib.hid (show ∀ W', Below W1.heap.size W1 W' → InBox W' w.heap.size c A cap from fun W' h => HM.out.later (h.mono (Nat.le_of_eq HS.out.symm)))
  have HFW := Lib.hid hf
  have HEND := Lib.hid (show ∀ W', Below W1.heap.size W1 W' → Below w.heap.size w W' from fun W' h => HB.out.trans (h.mono HB.out.size))
  obtain ⟨a0, a1, a2, a3, a4, _⟩ := hm
  clear hx hy hyv hv1 hbel hsz hf
  obtain ⟨mc, hmc⟩ : ∃ m, muchConf c = m := ⟨_, rfl⟩
  have HMC := Lib.hid hmc
  clear hmc
  cases mc with
  | true =>
    go_enter Try.func11, Try.ntmps11
    go_wp2_with fail
    refine (much_calls HM.out.val).mono ?_
    rintro e w2 ⟨rfl, hb2⟩
    rw [HMC.out]
    have B2 := Lib.hid hb2
    clear hb2 a0 a1 a2 a3 a4
    go_wp2_with fail
    refine (live19_calls _).mono ?_
    rintro e wl ⟨rfl, hbl⟩
    have BL := Lib.hid (B2.out.trans (hbl.mono B2.out.size))
    clear hbl
    go_wp2_with fail
    go_ret
    exact ⟨rfl, HEND.out _ BL.out⟩
  | false =>
    by_cases h20 : 20000 < (b.length : Int)
    · skip
      go_enter Try.func11, Try.ntmps11
      go_wp2_with fail
      refine (much_calls HM.out.val).mono ?_
      rintro e w2 ⟨rfl, hb2⟩
      rw [HMC.out]
      have B2 := Lib.hid hb2
      clear hb2 a0 a1 a2 a3 a4
      go_wp2_with fail
      refine (live19_calls _).mono ?_
      rintro e wl ⟨rfl, hbl⟩
      have BL := Lib.hid (B2.out.trans (hbl.mono B2.out.size))
      clear hbl
      go_wp2_with fail
      go_ret
      exact ⟨rfl, HEND.out _ BL.out⟩
    · have hb20 : b.length ≤ 20000 := by omega
      have hqd : (b.length : Int).tdiv 512 = ((b.length / 512 : Nat) : Int) := by rw [Int.tdiv_eq_ediv_of_nonneg (by omega)]; omega
      have hqe : (b.length : Int) / 512 = ((b.length / 512 : Nat) : Int) := by omega
      generalize hdv : b.length / 512 = dv at *
      have HDV := Lib.hid hdv
      have hdv2 : dv ≤ 40 := by omega
      clear hdv
      cases hr : confRight c with
      | false =>
        have HCR := Lib.hid hr
        have HWT := Lib.hid (show wantOf c b.length fuse = 1 by unfold wantOf; rw [if_pos (Or.inl hr)])
        clear hr
        go_enter Try.func11, Try.ntmps11
        go_wp2_with fail
        refine (much_calls HM.out.val).mono ?_
        rintro e w2 ⟨rfl, hb2⟩
        rw [HMC.out]
        have B2 := Lib.hid hb2
        clear hb2 a0 a1 a2 a3 a4
        go_wp2_with fail
        refine (dof_calls (HV.out _ B2.out) (by omega)).mono ?_
        rintro e w3 ⟨P, F, B, rfl, hd3, hge3, hb3⟩
        have B3 := Lib.hid (B2.out.trans (hb3.mono B2.out.size))
        have HGE := Lib.hid (show ∀ k, F k ∨ B k → W1.heap.size ≤ k from fun k hk => Nat.le_trans B2.out.size (hge3 k hk))
        have HD3 := Lib.hid hd3
        clear hd3 hge3 hb3
        go_wp2_with fail
        refine (fuse_calls HD3.out HFW.out).mono ?_
        rintro e w4 ⟨rfl, hd4, ho4⟩
        have B4 := Lib.hid (B3.out.trans (ho4.below B3.out.size (fun k hk => HGE.out k (.inl hk))))
        have HD4 := Lib.hid hd4
        clear hd4 ho4
        obtain ⟨a0, a1, a2, a3, a4, _⟩ := HBOX.out _ B4.out
        go_wp2_with fail
        refine (wload_calls (Q := fun k => k < w.heap.size) HD4.out (HBOX.out _ B4.out).val (fun k hk hf => by have := HGE.out k (.inl hf); have := HS.out; omega) (fun x hx => ?_) (fun j x hx => by cases hx)).mono ?_
        · have hx2 : x ∈ chunks b := hx
          unfold chunks at hx2
          obtain ⟨k, _, rfl⟩ := List.mem_map.1 hx2
          unfold chunk
          rw [List.length_take]; omega
        rintro e w5 ⟨u5, rfl, hu5, _, ho5⟩
        have HLW := load_want c b fuse
        rw [HWT.out] at HLW
        generalize loadSt (fuseSt (newSt (chunks b)) fuse) c = r at *
        obtain ⟨s5, ls, er⟩ := r
        dsimp only at HLW hu5
        have hls := (Prod.ext_iff.1 HLW).1
        have her := (Prod.ext_iff.1 HLW).2
        dsimp only at hls her
        subst her
        have B5 := Lib.hid (B4.out.trans (ho5.below B4.out.size (fun k hk => HGE.out k (.inl hk))))
        obtain ⟨A5, c5, rfl, hc5, hm5, hat5⟩ := Rep.val_list hu5
        unfold maxLen at hm5
        have HA5 := Lib.hid (show ∀ W', Below w5.heap.size w5 W' → Rep.byte.list.At (fun _ => True) W' A5 ls from fun W' h => Rep.At.keep (w := w5) (fun k _ hl => ⟨trivial, h.block k hl.lt⟩) hat5)
        have HLS := Lib.hid (show ∀ k y, ls[k]? = some y → y = (b.drop (512 * (k + 2))).take 512 ∧ 512 * (k + 2) + 512 ≤ b.length from fun k y hk => by rw [hls, if_neg (by decide)] at hk; simp at hk)
        have HNL := Lib.hid (show ls.length = 0 from by rw [hls, if_neg (by decide)]; rfl)
        clear a0 a1 a2 a3 a4 hu5 hat5 ho5 HLW hls
        generalize hlen : ls.length = len at *
        have HLEN := Lib.hid hlen
        obtain ⟨a0, a1, a2, a3, a4, _⟩ := HBOX.out _ B5.out
        clear hlen
        have hlen := HNL.out
        subst hlen
        go_wp2_with fail
        refine (right_calls (HBOX.out _ B5.out).val).mono ?_
        rintro e w6 ⟨rfl, hb6⟩
        rw [HCR.out]
        have B6 := Lib.hid (B5.out.trans (hb6.mono B5.out.size))
        have C6 := Lib.hid hb6
        clear a0 a1 a2 a3 a4 hb6
        obtain ⟨a0, a1, a2, a3, a4, _⟩ := HBOX.out _ B6.out
        go_wp2_with fail
        refine (code19 1 _).mono ?_
        rintro e wc ⟨rfl, hwc⟩
        have hwd := hwc.symm
        subst hwd
        clear hwc
        go_wp2_with fail
        clear a0 a1 a2 a3 a4
        go_loopw [11] (fun i wr => ∃ k : Nat, i = .int .i64 k ∧ k ≤ (0 : Nat) ∧ Below w5.heap.size w5 wr) (fun i _ => (0 : Nat) - (intOf i).toNat)
        case atStart => exact ⟨0, rfl, Nat.zero_le _, C6.out⟩
        case round =>
          obtain ⟨k, rfl, hk, hbr⟩ := hrel
          have HBR := Lib.hid hbr
          have HB1 := Lib.hid (B5.out.trans (hbr.mono B5.out.size))
          have hlt : ¬ (k : Int) < 0 := by omega
          clear hbr
          have Xwr := Lib.hid HB1.out
          go_wp2_with fail
          refine (wtrunc_nil _).mono ?_
          rintro e wc ⟨rfl, hwc⟩
          have hwd := hwc.symm
          subst hwd
          clear hwc
          obtain ⟨a0, a1, a2, a3, a4, _⟩ := HBOX.out _ Xwr.out
          go_wp2_with fail
          refine (wload_nil (HBOX.out _ Xwr.out).val).mono ?_
          rintro e wa ⟨rfl, hbwa⟩
          have Xwa := Lib.hid (Xwr.out.trans (hbwa.mono Xwr.out.size))
          clear hbwa
          clear a0 a1 a2 a3 a4
          go_wp2_with fail
          refine (code19 4 _).mono ?_
          rintro e wc ⟨rfl, hwc⟩
          have hwd := hwc.symm
          subst hwd
          clear hwc
          go_wp2_with fail
          refine (wappend_nil _ _).mono ?_
          rintro e wc ⟨rfl, hwc⟩
          have hwd := hwc.symm
          subst hwd
          clear hwc
          go_wp2_with fail
          refine (code19 4 _).mono ?_
          rintro e wc ⟨rfl, hwc⟩
          have hwd := hwc.symm
          subst hwd
          clear hwc
          go_wp2_with fail
          refine (wsync_nil _).mono ?_
          rintro e wc ⟨rfl, hwc⟩
          have hwd := hwc.symm
          subst hwd
          clear hwc
          go_wp2_with fail
          refine (code19 4 _).mono ?_
          rintro e wc ⟨rfl, hwc⟩
          have hwd := hwc.symm
          subst hwd
          clear hwc
          go_wp2_with fail
          refine (wroom_nil _).mono ?_
          rintro e wc ⟨rfl, hwc⟩
          have hwd := hwc.symm
          subst hwd
          clear hwc
          go_wp2_with fail
          refine (whead_nil _).mono ?_
          rintro e wb ⟨rfl, hbwb⟩
          have Xwb := Lib.hid (Xwa.out.trans (hbwb.mono Xwa.out.size))
          clear hbwb
          go_wp2_with fail
          refine (wtail_nil _).mono ?_
          rintro e wd ⟨rfl, hbwd⟩
          have Xwd := Lib.hid (Xwb.out.trans (hbwd.mono Xwb.out.size))
          clear hbwd
          go_wp2_with fail
          refine (wseq_nil _).mono ?_
          rintro e we ⟨rfl, hbwe⟩
          have Xwe := Lib.hid (Xwd.out.trans (hbwe.mono Xwd.out.size))
          clear hbwe
          go_wp2_with fail
          refine (wepoch_nil _).mono ?_
          rintro e wf ⟨rfl, hbwf⟩
          have Xwf := Lib.hid (Xwe.out.trans (hbwf.mono Xwe.out.size))
          clear hbwf
          obtain ⟨a0, a1, a2, a3, a4, _⟩ := HBOX.out _ Xwf.out
          go_wp2_with fail
          refine (wnew_nil (HBOX.out _ Xwf.out).val).mono ?_
          rintro e wg ⟨rfl, hbwg⟩
          have Xwg := Lib.hid (Xwf.out.trans (hbwg.mono Xwf.out.size))
          clear hbwg
          clear a0 a1 a2 a3 a4
          go_wp2_with fail
          refine (live19_calls _).mono ?_
          rintro e wl ⟨rfl, hbl⟩
          have BL := Lib.hid (Xwg.out.trans (hbl.mono Xwg.out.size))
          clear hbl
          go_wp2_with fail
          go_ret
          exact ⟨rfl, HEND.out _ BL.out⟩
      | true =>
        have HCR := Lib.hid hr
        obtain ⟨g1, g2, g3, g4, _⟩ := (right_facts hr).1
        have q1 : IntKind.i64.wrap (2 + c.log) = 2 + c.log := IntWalk.i64_in _ ⟨by omega, by omega⟩
        have q2 : IntKind.i64.wrap (2 + c.log + c.pages) = 2 + c.log + c.pages := IntWalk.i64_in _ ⟨by omega, by omega⟩
        by_cases hn : (dv : Int) = 2 + c.log + c.pages
        · have HEQ := Lib.hid hn
          have hne : ((dv : Int) != 2 + c.log + c.pages) = false := by simpa using hn
          have hw0 : wantOf c b.length fuse = if 0 ≤ fuse ∧ fuse < c.log then 3 else 0 := by
            unfold wantOf; rw [if_neg]; rintro (h | h)
            · rw [hr] at h; cases h
            · rw [HDV.out] at h; exact h hn
          clear hr hn
          by_cases hf0 : 0 ≤ fuse
          · by_cases hf1 : fuse < c.log
            · skip
              have HWT := Lib.hid (hw0.trans (if_pos ⟨hf0, hf1⟩))
              clear hw0
              go_enter Try.func11, Try.ntmps11
              go_wp2_with fail
              refine (much_calls HM.out.val).mono ?_
              rintro e w2 ⟨rfl, hb2⟩
              rw [HMC.out]
              have B2 := Lib.hid hb2
              clear hb2 a0 a1 a2 a3 a4
              go_wp2_with fail
              refine (dof_calls (HV.out _ B2.out) (by omega)).mono ?_
              rintro e w3 ⟨P, F, B, rfl, hd3, hge3, hb3⟩
              have B3 := Lib.hid (B2.out.trans (hb3.mono B2.out.size))
              have HGE := Lib.hid (show ∀ k, F k ∨ B k → W1.heap.size ≤ k from fun k hk => Nat.le_trans B2.out.size (hge3 k hk))
              have HD3 := Lib.hid hd3
              clear hd3 hge3 hb3
              go_wp2_with fail
              refine (fuse_calls HD3.out HFW.out).mono ?_
              rintro e w4 ⟨rfl, hd4, ho4⟩
              have B4 := Lib.hid (B3.out.trans (ho4.below B3.out.size (fun k hk => HGE.out k (.inl hk))))
              have HD4 := Lib.hid hd4
              clear hd4 ho4
              obtain ⟨a0, a1, a2, a3, a4, _⟩ := HBOX.out _ B4.out
              go_wp2_with fail
              refine (wload_calls (Q := fun k => k < w.heap.size) HD4.out (HBOX.out _ B4.out).val (fun k hk hf => by have := HGE.out k (.inl hf); have := HS.out; omega) (fun x hx => ?_) (fun j x hx => by cases hx)).mono ?_
              · have hx2 : x ∈ chunks b := hx
                unfold chunks at hx2
                obtain ⟨k, _, rfl⟩ := List.mem_map.1 hx2
                unfold chunk
                rw [List.length_take]; omega
              rintro e w5 ⟨u5, rfl, hu5, _, ho5⟩
              have HLW := load_want c b fuse
              rw [HWT.out] at HLW
              generalize loadSt (fuseSt (newSt (chunks b)) fuse) c = r at *
              obtain ⟨s5, ls, er⟩ := r
              dsimp only at HLW hu5
              have hls := (Prod.ext_iff.1 HLW).1
              have her := (Prod.ext_iff.1 HLW).2
              dsimp only at hls her
              subst her
              have B5 := Lib.hid (B4.out.trans (ho5.below B4.out.size (fun k hk => HGE.out k (.inl hk))))
              obtain ⟨A5, c5, rfl, hc5, hm5, hat5⟩ := Rep.val_list hu5
              unfold maxLen at hm5
              have HA5 := Lib.hid (show ∀ W', Below w5.heap.size w5 W' → Rep.byte.list.At (fun _ => True) W' A5 ls from fun W' h => Rep.At.keep (w := w5) (fun k _ hl => ⟨trivial, h.block k hl.lt⟩) hat5)
              have HLS := Lib.hid (show ∀ k y, ls[k]? = some y → y = (b.drop (512 * (k + 2))).take 512 ∧ 512 * (k + 2) + 512 ≤ b.length from fun k y hk => by rw [hls, if_neg (by decide)] at hk; simp at hk)
              have HNL := Lib.hid (show ls.length = 0 from by rw [hls, if_neg (by decide)]; rfl)
              clear a0 a1 a2 a3 a4 hu5 hat5 ho5 HLW hls
              generalize hlen : ls.length = len at *
              have HLEN := Lib.hid hlen
              obtain ⟨a0, a1, a2, a3, a4, _⟩ := HBOX.out _ B5.out
              clear hlen
              have hlen := HNL.out
              subst hlen
              go_wp2_with fail
              refine (right_calls (HBOX.out _ B5.out).val).mono ?_
              rintro e w6 ⟨rfl, hb6⟩
              rw [HCR.out]
              have B6 := Lib.hid (B5.out.trans (hb6.mono B5.out.size))
              have C6 := Lib.hid hb6
              clear a0 a1 a2 a3 a4 hb6
              obtain ⟨a0, a1, a2, a3, a4, _⟩ := HBOX.out _ B6.out
              go_wp2_with fail
              refine (code19 3 _).mono ?_
              rintro e wc ⟨rfl, hwc⟩
              have hwd := hwc.symm
              subst hwd
              clear hwc
              go_wp2_with fail
              clear a0 a1 a2 a3 a4
              go_loopw [11] (fun i wr => ∃ k : Nat, i = .int .i64 k ∧ k ≤ (0 : Nat) ∧ Below w5.heap.size w5 wr) (fun i _ => (0 : Nat) - (intOf i).toNat)
              case atStart => exact ⟨0, rfl, Nat.zero_le _, C6.out⟩
              case round =>
                obtain ⟨k, rfl, hk, hbr⟩ := hrel
                have HBR := Lib.hid hbr
                have HB1 := Lib.hid (B5.out.trans (hbr.mono B5.out.size))
                have hlt : ¬ (k : Int) < 0 := by omega
                clear hbr
                have Xwr := Lib.hid HB1.out
                go_wp2_with fail
                refine (wtrunc_nil _).mono ?_
                rintro e wc ⟨rfl, hwc⟩
                have hwd := hwc.symm
                subst hwd
                clear hwc
                obtain ⟨a0, a1, a2, a3, a4, _⟩ := HBOX.out _ Xwr.out
                go_wp2_with fail
                refine (wload_nil (HBOX.out _ Xwr.out).val).mono ?_
                rintro e wa ⟨rfl, hbwa⟩
                have Xwa := Lib.hid (Xwr.out.trans (hbwa.mono Xwr.out.size))
                clear hbwa
                clear a0 a1 a2 a3 a4
                go_wp2_with fail
                refine (code19 4 _).mono ?_
                rintro e wc ⟨rfl, hwc⟩
                have hwd := hwc.symm
                subst hwd
                clear hwc
                go_wp2_with fail
                refine (wappend_nil _ _).mono ?_
                rintro e wc ⟨rfl, hwc⟩
                have hwd := hwc.symm
                subst hwd
                clear hwc
                go_wp2_with fail
                refine (code19 4 _).mono ?_
                rintro e wc ⟨rfl, hwc⟩
                have hwd := hwc.symm
                subst hwd
                clear hwc
                go_wp2_with fail
                refine (wsync_nil _).mono ?_
                rintro e wc ⟨rfl, hwc⟩
                have hwd := hwc.symm
                subst hwd
                clear hwc
                go_wp2_with fail
                refine (code19 4 _).mono ?_
                rintro e wc ⟨rfl, hwc⟩
                have hwd := hwc.symm
                subst hwd
                clear hwc
                go_wp2_with fail
                refine (wroom_nil _).mono ?_
                rintro e wc ⟨rfl, hwc⟩
                have hwd := hwc.symm
                subst hwd
                clear hwc
                go_wp2_with fail
                refine (whead_nil _).mono ?_
                rintro e wb ⟨rfl, hbwb⟩
                have Xwb := Lib.hid (Xwa.out.trans (hbwb.mono Xwa.out.size))
                clear hbwb
                go_wp2_with fail
                refine (wtail_nil _).mono ?_
                rintro e wd ⟨rfl, hbwd⟩
                have Xwd := Lib.hid (Xwb.out.trans (hbwd.mono Xwb.out.size))
                clear hbwd
                go_wp2_with fail
                refine (wseq_nil _).mono ?_
                rintro e we ⟨rfl, hbwe⟩
                have Xwe := Lib.hid (Xwd.out.trans (hbwe.mono Xwd.out.size))
                clear hbwe
                go_wp2_with fail
                refine (wepoch_nil _).mono ?_
                rintro e wf ⟨rfl, hbwf⟩
                have Xwf := Lib.hid (Xwe.out.trans (hbwf.mono Xwe.out.size))
                clear hbwf
                obtain ⟨a0, a1, a2, a3, a4, _⟩ := HBOX.out _ Xwf.out
                go_wp2_with fail
                refine (wnew_nil (HBOX.out _ Xwf.out).val).mono ?_
                rintro e wg ⟨rfl, hbwg⟩
                have Xwg := Lib.hid (Xwf.out.trans (hbwg.mono Xwf.out.size))
                clear hbwg
                clear a0 a1 a2 a3 a4
                go_wp2_with fail
                refine (live19_calls _).mono ?_
                rintro e wl ⟨rfl, hbl⟩
                have BL := Lib.hid (Xwg.out.trans (hbl.mono Xwg.out.size))
                clear hbl
                go_wp2_with fail
                go_ret
                exact ⟨rfl, HEND.out _ BL.out⟩
            · skip
              have HWT := Lib.hid (hw0.trans (if_neg (fun h => hf1 h.2)))
              clear hw0
              go_enter Try.func11, Try.ntmps11
              go_wp2_with fail
              refine (much_calls HM.out.val).mono ?_
              rintro e w2 ⟨rfl, hb2⟩
              rw [HMC.out]
              have B2 := Lib.hid hb2
              clear hb2 a0 a1 a2 a3 a4
              go_wp2_with fail
              refine (dof_calls (HV.out _ B2.out) (by omega)).mono ?_
              rintro e w3 ⟨P, F, B, rfl, hd3, hge3, hb3⟩
              have B3 := Lib.hid (B2.out.trans (hb3.mono B2.out.size))
              have HGE := Lib.hid (show ∀ k, F k ∨ B k → W1.heap.size ≤ k from fun k hk => Nat.le_trans B2.out.size (hge3 k hk))
              have HD3 := Lib.hid hd3
              clear hd3 hge3 hb3
              go_wp2_with fail
              refine (fuse_calls HD3.out HFW.out).mono ?_
              rintro e w4 ⟨rfl, hd4, ho4⟩
              have B4 := Lib.hid (B3.out.trans (ho4.below B3.out.size (fun k hk => HGE.out k (.inl hk))))
              have HD4 := Lib.hid hd4
              clear hd4 ho4
              obtain ⟨a0, a1, a2, a3, a4, _⟩ := HBOX.out _ B4.out
              go_wp2_with fail
              refine (wload_calls (Q := fun k => k < w.heap.size) HD4.out (HBOX.out _ B4.out).val (fun k hk hf => by have := HGE.out k (.inl hf); have := HS.out; omega) (fun x hx => ?_) (fun j x hx => by cases hx)).mono ?_
              · have hx2 : x ∈ chunks b := hx
                unfold chunks at hx2
                obtain ⟨k, _, rfl⟩ := List.mem_map.1 hx2
                unfold chunk
                rw [List.length_take]; omega
              rintro e w5 ⟨u5, rfl, hu5, _, ho5⟩
              have HLW := load_want c b fuse
              rw [HWT.out] at HLW
              generalize loadSt (fuseSt (newSt (chunks b)) fuse) c = r at *
              obtain ⟨s5, ls, er⟩ := r
              dsimp only at HLW hu5
              have hls := (Prod.ext_iff.1 HLW).1
              have her := (Prod.ext_iff.1 HLW).2
              dsimp only at hls her
              subst her
              have B5 := Lib.hid (B4.out.trans (ho5.below B4.out.size (fun k hk => HGE.out k (.inl hk))))
              obtain ⟨A5, c5, rfl, hc5, hm5, hat5⟩ := Rep.val_list hu5
              unfold maxLen at hm5
              have HA5 := Lib.hid (show ∀ W', Below w5.heap.size w5 W' → Rep.byte.list.At (fun _ => True) W' A5 ls from fun W' h => Rep.At.keep (w := w5) (fun k _ hl => ⟨trivial, h.block k hl.lt⟩) hat5)
              have HLS := Lib.hid (show ∀ k y, ls[k]? = some y → y = (b.drop (512 * (k + 2))).take 512 ∧ 512 * (k + 2) + 512 ≤ b.length from fun k y hk => logChunks_get (hls.trans (if_pos rfl)) (by rw [HDV.out]; exact HEQ.out) (by have := (right_facts HCR.out).1; omega) hk)
              have HNL := Lib.hid (show (ls.length : Int) = c.log from by rw [hls, if_pos rfl]; unfold logChunks; rw [List.length_map, List.length_range]; have := (right_facts HCR.out).1; omega)
              clear a0 a1 a2 a3 a4 hu5 hat5 ho5 HLW hls
              generalize hlen : ls.length = len at *
              have HLEN := Lib.hid hlen
              obtain ⟨a0, a1, a2, a3, a4, _⟩ := HBOX.out _ B5.out
              clear hlen
              have hlen := HNL.out
              go_wp2_with fail
              refine (right_calls (HBOX.out _ B5.out).val).mono ?_
              rintro e w6 ⟨rfl, hb6⟩
              rw [HCR.out]
              have B6 := Lib.hid (B5.out.trans (hb6.mono B5.out.size))
              have C6 := Lib.hid hb6
              clear a0 a1 a2 a3 a4 hb6
              obtain ⟨a0, a1, a2, a3, a4, _⟩ := HBOX.out _ B6.out
              go_wp2_with fail
              refine (code19 0 _).mono ?_
              rintro e wc ⟨rfl, hwc⟩
              have hwd := hwc.symm
              subst hwd
              clear hwc
              go_wp2_with fail
              clear a0 a1 a2 a3 a4
              go_loopw [11] (fun i wr => ∃ k : Nat, i = .int .i64 k ∧ k ≤ len ∧ Below w5.heap.size w5 wr) (fun i _ => len - (intOf i).toNat)
              case atStart => exact ⟨0, rfl, Nat.zero_le _, C6.out⟩
              case round =>
                obtain ⟨k, rfl, hk, hbr⟩ := hrel
                have HBR := Lib.hid hbr
                have HB1 := Lib.hid (B5.out.trans (hbr.mono B5.out.size))
                by_cases hlt : (k : Int) < len
                · have hkl : k < ls.length := by have := HLEN.out; omega
                  obtain ⟨y, hy⟩ : ∃ y, ls[k]? = some y := ⟨_, List.getElem?_eq_getElem hkl⟩
                  obtain ⟨hget, hfit⟩ := HLS.out k y hy
                  have HGET := Lib.hid hget
                  obtain ⟨b5, o5, B7, c7, rfl, hcell, hc7, hm7, hat7⟩ := Rep.At.list (HA5.out _ hbr) hy
                  obtain ⟨A1', c1', he, _, _, hat1⟩ := Rep.val_list (HV.out _ HB1.out)
                  cases he
                  obtain ⟨bb, off, rfl⟩ := hat1.addr (by omega)
                  have hat2 := (hat1.drop (n := 512 * (k + 2)) (by omega)).take 512
                  simp only [Rep.byte, Nat.mul_one] at hat2
                  have hyl : y.length = 512 := by rw [hget, List.length_take, List.length_drop]; omega
                  have HQ := Lib.hid (show ∀ m, Calls Try.prog 19 #[.slice B7 512 c7, .slice (some ⟨bb, off + 512 * (k + 2), none⟩) 512 (c1 - 512 * (k + 2))] (wr.drewN m) fun e w' => e = .returned (.bool true) ∧ w' = wr.drewN m from fun m => by
                    have h1 : Rep.byte.list.val (fun _ => True) (wr.drewN m) (.slice B7 512 c7) y := Rep.list_val hyl.symm (by rw [← hyl]; exact hc7) hm7 (hat7.drewN m)
                    have h2 : Rep.byte.list.val _ (wr.drewN m) (.slice (some ⟨bb, off + 512 * (k + 2), none⟩) 512 (c1 - 512 * (k + 2))) ((b.drop (512 * (k + 2))).take 512) := Rep.list_val (by rw [← hget, hyl]) (by omega) (by unfold maxLen; omega) (hat2.drewN m)
                    have h3 := sameBytes h1 h2
                    rw [decide_eq_true hget] at h3
                    exact h3)
                  have j1 : (0 : Int) ≤ 512 * ((k : Int) + 2) := by omega
                  have j2 : 512 * ((k : Int) + 2) ≤ 512 * ((k : Int) + 2) + 512 := by omega
                  have j3 : 512 * ((k : Int) + 2) + 512 ≤ c1 := by omega
                  have j4 : (512 * ((k : Int) + 2)).toNat = 512 * (k + 2) := by omega
                  have j5 : (512 * ((k : Int) + 2) + 512).toNat - 512 * (k + 2) = 512 := by omega
                  have w1 : IntKind.i64.wrap ((k : Int) + 2) = (k : Int) + 2 := IntWalk.i64_in _ ⟨by omega, by omega⟩
                  have w2' : IntKind.i64.wrap (512 * ((k : Int) + 2)) = 512 * ((k : Int) + 2) := IntWalk.i64_in _ ⟨by omega, by omega⟩
                  have w3' : IntKind.i64.wrap (512 * ((k : Int) + 2) + 512) = 512 * ((k : Int) + 2) + 512 := IntWalk.i64_in _ ⟨by omega, by omega⟩
                  rw [hyl] at hcell
                  clear hget hfit hy hat7 hat1 hat2 hyl hbr hc7 hm7
                  go_wp2_with fail
                  go_quiet ((go_at_call 19; exact Calls.quiet_of_same (HQ.out _)))
                  go_wp2_with fail
                  exact ⟨⟨k + 1, by go_num, by omega, HBR.out.trans (below_drewN (Below.refl _ _) nq)⟩, by simp [intOf]; omega⟩
                · clear hbr
                  have Xwr := Lib.hid HB1.out
                  go_wp2_with fail
                  refine (wtrunc_nil _).mono ?_
                  rintro e wc ⟨rfl, hwc⟩
                  have hwd := hwc.symm
                  subst hwd
                  clear hwc
                  obtain ⟨a0, a1, a2, a3, a4, _⟩ := HBOX.out _ Xwr.out
                  go_wp2_with fail
                  refine (wload_nil (HBOX.out _ Xwr.out).val).mono ?_
                  rintro e wa ⟨rfl, hbwa⟩
                  have Xwa := Lib.hid (Xwr.out.trans (hbwa.mono Xwr.out.size))
                  clear hbwa
                  clear a0 a1 a2 a3 a4
                  go_wp2_with fail
                  refine (code19 4 _).mono ?_
                  rintro e wc ⟨rfl, hwc⟩
                  have hwd := hwc.symm
                  subst hwd
                  clear hwc
                  go_wp2_with fail
                  refine (wappend_nil _ _).mono ?_
                  rintro e wc ⟨rfl, hwc⟩
                  have hwd := hwc.symm
                  subst hwd
                  clear hwc
                  go_wp2_with fail
                  refine (code19 4 _).mono ?_
                  rintro e wc ⟨rfl, hwc⟩
                  have hwd := hwc.symm
                  subst hwd
                  clear hwc
                  go_wp2_with fail
                  refine (wsync_nil _).mono ?_
                  rintro e wc ⟨rfl, hwc⟩
                  have hwd := hwc.symm
                  subst hwd
                  clear hwc
                  go_wp2_with fail
                  refine (code19 4 _).mono ?_
                  rintro e wc ⟨rfl, hwc⟩
                  have hwd := hwc.symm
                  subst hwd
                  clear hwc
                  go_wp2_with fail
                  refine (wroom_nil _).mono ?_
                  rintro e wc ⟨rfl, hwc⟩
                  have hwd := hwc.symm
                  subst hwd
                  clear hwc
                  go_wp2_with fail
                  refine (whead_nil _).mono ?_
                  rintro e wb ⟨rfl, hbwb⟩
                  have Xwb := Lib.hid (Xwa.out.trans (hbwb.mono Xwa.out.size))
                  clear hbwb
                  go_wp2_with fail
                  refine (wtail_nil _).mono ?_
                  rintro e wd ⟨rfl, hbwd⟩
                  have Xwd := Lib.hid (Xwb.out.trans (hbwd.mono Xwb.out.size))
                  clear hbwd
                  go_wp2_with fail
                  refine (wseq_nil _).mono ?_
                  rintro e we ⟨rfl, hbwe⟩
                  have Xwe := Lib.hid (Xwd.out.trans (hbwe.mono Xwd.out.size))
                  clear hbwe
                  go_wp2_with fail
                  refine (wepoch_nil _).mono ?_
                  rintro e wf ⟨rfl, hbwf⟩
                  have Xwf := Lib.hid (Xwe.out.trans (hbwf.mono Xwe.out.size))
                  clear hbwf
                  obtain ⟨a0, a1, a2, a3, a4, _⟩ := HBOX.out _ Xwf.out
                  go_wp2_with fail
                  refine (wnew_nil (HBOX.out _ Xwf.out).val).mono ?_
                  rintro e wg ⟨rfl, hbwg⟩
                  have Xwg := Lib.hid (Xwf.out.trans (hbwg.mono Xwf.out.size))
                  clear hbwg
                  clear a0 a1 a2 a3 a4
                  go_wp2_with fail
                  refine (live19_calls _).mono ?_
                  rintro e wl ⟨rfl, hbl⟩
                  have BL := Lib.hid (Xwg.out.trans (hbl.mono Xwg.out.size))
                  clear hbl
                  go_wp2_with fail
                  go_ret
                  exact ⟨rfl, HEND.out _ BL.out⟩
          · skip
            have HWT := Lib.hid (hw0.trans (if_neg (fun h => hf0 h.1)))
            clear hw0
            go_enter Try.func11, Try.ntmps11
            go_wp2_with fail
            refine (much_calls HM.out.val).mono ?_
            rintro e w2 ⟨rfl, hb2⟩
            rw [HMC.out]
            have B2 := Lib.hid hb2
            clear hb2 a0 a1 a2 a3 a4
            go_wp2_with fail
            refine (dof_calls (HV.out _ B2.out) (by omega)).mono ?_
            rintro e w3 ⟨P, F, B, rfl, hd3, hge3, hb3⟩
            have B3 := Lib.hid (B2.out.trans (hb3.mono B2.out.size))
            have HGE := Lib.hid (show ∀ k, F k ∨ B k → W1.heap.size ≤ k from fun k hk => Nat.le_trans B2.out.size (hge3 k hk))
            have HD3 := Lib.hid hd3
            clear hd3 hge3 hb3
            go_wp2_with fail
            refine (fuse_calls HD3.out HFW.out).mono ?_
            rintro e w4 ⟨rfl, hd4, ho4⟩
            have B4 := Lib.hid (B3.out.trans (ho4.below B3.out.size (fun k hk => HGE.out k (.inl hk))))
            have HD4 := Lib.hid hd4
            clear hd4 ho4
            obtain ⟨a0, a1, a2, a3, a4, _⟩ := HBOX.out _ B4.out
            go_wp2_with fail
            refine (wload_calls (Q := fun k => k < w.heap.size) HD4.out (HBOX.out _ B4.out).val (fun k hk hf => by have := HGE.out k (.inl hf); have := HS.out; omega) (fun x hx => ?_) (fun j x hx => by cases hx)).mono ?_
            · have hx2 : x ∈ chunks b := hx
              unfold chunks at hx2
              obtain ⟨k, _, rfl⟩ := List.mem_map.1 hx2
              unfold chunk
              rw [List.length_take]; omega
            rintro e w5 ⟨u5, rfl, hu5, _, ho5⟩
            have HLW := load_want c b fuse
            rw [HWT.out] at HLW
            generalize loadSt (fuseSt (newSt (chunks b)) fuse) c = r at *
            obtain ⟨s5, ls, er⟩ := r
            dsimp only at HLW hu5
            have hls := (Prod.ext_iff.1 HLW).1
            have her := (Prod.ext_iff.1 HLW).2
            dsimp only at hls her
            subst her
            have B5 := Lib.hid (B4.out.trans (ho5.below B4.out.size (fun k hk => HGE.out k (.inl hk))))
            obtain ⟨A5, c5, rfl, hc5, hm5, hat5⟩ := Rep.val_list hu5
            unfold maxLen at hm5
            have HA5 := Lib.hid (show ∀ W', Below w5.heap.size w5 W' → Rep.byte.list.At (fun _ => True) W' A5 ls from fun W' h => Rep.At.keep (w := w5) (fun k _ hl => ⟨trivial, h.block k hl.lt⟩) hat5)
            have HLS := Lib.hid (show ∀ k y, ls[k]? = some y → y = (b.drop (512 * (k + 2))).take 512 ∧ 512 * (k + 2) + 512 ≤ b.length from fun k y hk => logChunks_get (hls.trans (if_pos rfl)) (by rw [HDV.out]; exact HEQ.out) (by have := (right_facts HCR.out).1; omega) hk)
            have HNL := Lib.hid (show (ls.length : Int) = c.log from by rw [hls, if_pos rfl]; unfold logChunks; rw [List.length_map, List.length_range]; have := (right_facts HCR.out).1; omega)
            clear a0 a1 a2 a3 a4 hu5 hat5 ho5 HLW hls
            generalize hlen : ls.length = len at *
            have HLEN := Lib.hid hlen
            obtain ⟨a0, a1, a2, a3, a4, _⟩ := HBOX.out _ B5.out
            clear hlen
            have hlen := HNL.out
            go_wp2_with fail
            refine (right_calls (HBOX.out _ B5.out).val).mono ?_
            rintro e w6 ⟨rfl, hb6⟩
            rw [HCR.out]
            have B6 := Lib.hid (B5.out.trans (hb6.mono B5.out.size))
            have C6 := Lib.hid hb6
            clear a0 a1 a2 a3 a4 hb6
            obtain ⟨a0, a1, a2, a3, a4, _⟩ := HBOX.out _ B6.out
            go_wp2_with fail
            refine (code19 0 _).mono ?_
            rintro e wc ⟨rfl, hwc⟩
            have hwd := hwc.symm
            subst hwd
            clear hwc
            go_wp2_with fail
            clear a0 a1 a2 a3 a4
            go_loopw [11] (fun i wr => ∃ k : Nat, i = .int .i64 k ∧ k ≤ len ∧ Below w5.heap.size w5 wr) (fun i _ => len - (intOf i).toNat)
            case atStart => exact ⟨0, rfl, Nat.zero_le _, C6.out⟩
            case round =>
              obtain ⟨k, rfl, hk, hbr⟩ := hrel
              have HBR := Lib.hid hbr
              have HB1 := Lib.hid (B5.out.trans (hbr.mono B5.out.size))
              by_cases hlt : (k : Int) < len
              · have hkl : k < ls.length := by have := HLEN.out; omega
                obtain ⟨y, hy⟩ : ∃ y, ls[k]? = some y := ⟨_, List.getElem?_eq_getElem hkl⟩
                obtain ⟨hget, hfit⟩ := HLS.out k y hy
                have HGET := Lib.hid hget
                obtain ⟨b5, o5, B7, c7, rfl, hcell, hc7, hm7, hat7⟩ := Rep.At.list (HA5.out _ hbr) hy
                obtain ⟨A1', c1', he, _, _, hat1⟩ := Rep.val_list (HV.out _ HB1.out)
                cases he
                obtain ⟨bb, off, rfl⟩ := hat1.addr (by omega)
                have hat2 := (hat1.drop (n := 512 * (k + 2)) (by omega)).take 512
                simp only [Rep.byte, Nat.mul_one] at hat2
                have hyl : y.length = 512 := by rw [hget, List.length_take, List.length_drop]; omega
                have HQ := Lib.hid (show ∀ m, Calls Try.prog 19 #[.slice B7 512 c7, .slice (some ⟨bb, off + 512 * (k + 2), none⟩) 512 (c1 - 512 * (k + 2))] (wr.drewN m) fun e w' => e = .returned (.bool true) ∧ w' = wr.drewN m from fun m => by
                  have h1 : Rep.byte.list.val (fun _ => True) (wr.drewN m) (.slice B7 512 c7) y := Rep.list_val hyl.symm (by rw [← hyl]; exact hc7) hm7 (hat7.drewN m)
                  have h2 : Rep.byte.list.val _ (wr.drewN m) (.slice (some ⟨bb, off + 512 * (k + 2), none⟩) 512 (c1 - 512 * (k + 2))) ((b.drop (512 * (k + 2))).take 512) := Rep.list_val (by rw [← hget, hyl]) (by omega) (by unfold maxLen; omega) (hat2.drewN m)
                  have h3 := sameBytes h1 h2
                  rw [decide_eq_true hget] at h3
                  exact h3)
                have j1 : (0 : Int) ≤ 512 * ((k : Int) + 2) := by omega
                have j2 : 512 * ((k : Int) + 2) ≤ 512 * ((k : Int) + 2) + 512 := by omega
                have j3 : 512 * ((k : Int) + 2) + 512 ≤ c1 := by omega
                have j4 : (512 * ((k : Int) + 2)).toNat = 512 * (k + 2) := by omega
                have j5 : (512 * ((k : Int) + 2) + 512).toNat - 512 * (k + 2) = 512 := by omega
                have w1 : IntKind.i64.wrap ((k : Int) + 2) = (k : Int) + 2 := IntWalk.i64_in _ ⟨by omega, by omega⟩
                have w2' : IntKind.i64.wrap (512 * ((k : Int) + 2)) = 512 * ((k : Int) + 2) := IntWalk.i64_in _ ⟨by omega, by omega⟩
                have w3' : IntKind.i64.wrap (512 * ((k : Int) + 2) + 512) = 512 * ((k : Int) + 2) + 512 := IntWalk.i64_in _ ⟨by omega, by omega⟩
                rw [hyl] at hcell
                clear hget hfit hy hat7 hat1 hat2 hyl hbr hc7 hm7
                go_wp2_with fail
                go_quiet ((go_at_call 19; exact Calls.quiet_of_same (HQ.out _)))
                go_wp2_with fail
                exact ⟨⟨k + 1, by go_num, by omega, HBR.out.trans (below_drewN (Below.refl _ _) nq)⟩, by simp [intOf]; omega⟩
              · clear hbr
                have Xwr := Lib.hid HB1.out
                go_wp2_with fail
                refine (wtrunc_nil _).mono ?_
                rintro e wc ⟨rfl, hwc⟩
                have hwd := hwc.symm
                subst hwd
                clear hwc
                obtain ⟨a0, a1, a2, a3, a4, _⟩ := HBOX.out _ Xwr.out
                go_wp2_with fail
                refine (wload_nil (HBOX.out _ Xwr.out).val).mono ?_
                rintro e wa ⟨rfl, hbwa⟩
                have Xwa := Lib.hid (Xwr.out.trans (hbwa.mono Xwr.out.size))
                clear hbwa
                clear a0 a1 a2 a3 a4
                go_wp2_with fail
                refine (code19 4 _).mono ?_
                rintro e wc ⟨rfl, hwc⟩
                have hwd := hwc.symm
                subst hwd
                clear hwc
                go_wp2_with fail
                refine (wappend_nil _ _).mono ?_
                rintro e wc ⟨rfl, hwc⟩
                have hwd := hwc.symm
                subst hwd
                clear hwc
                go_wp2_with fail
                refine (code19 4 _).mono ?_
                rintro e wc ⟨rfl, hwc⟩
                have hwd := hwc.symm
                subst hwd
                clear hwc
                go_wp2_with fail
                refine (wsync_nil _).mono ?_
                rintro e wc ⟨rfl, hwc⟩
                have hwd := hwc.symm
                subst hwd
                clear hwc
                go_wp2_with fail
                refine (code19 4 _).mono ?_
                rintro e wc ⟨rfl, hwc⟩
                have hwd := hwc.symm
                subst hwd
                clear hwc
                go_wp2_with fail
                refine (wroom_nil _).mono ?_
                rintro e wc ⟨rfl, hwc⟩
                have hwd := hwc.symm
                subst hwd
                clear hwc
                go_wp2_with fail
                refine (whead_nil _).mono ?_
                rintro e wb ⟨rfl, hbwb⟩
                have Xwb := Lib.hid (Xwa.out.trans (hbwb.mono Xwa.out.size))
                clear hbwb
                go_wp2_with fail
                refine (wtail_nil _).mono ?_
                rintro e wd ⟨rfl, hbwd⟩
                have Xwd := Lib.hid (Xwb.out.trans (hbwd.mono Xwb.out.size))
                clear hbwd
                go_wp2_with fail
                refine (wseq_nil _).mono ?_
                rintro e we ⟨rfl, hbwe⟩
                have Xwe := Lib.hid (Xwd.out.trans (hbwe.mono Xwd.out.size))
                clear hbwe
                go_wp2_with fail
                refine (wepoch_nil _).mono ?_
                rintro e wf ⟨rfl, hbwf⟩
                have Xwf := Lib.hid (Xwe.out.trans (hbwf.mono Xwe.out.size))
                clear hbwf
                obtain ⟨a0, a1, a2, a3, a4, _⟩ := HBOX.out _ Xwf.out
                go_wp2_with fail
                refine (wnew_nil (HBOX.out _ Xwf.out).val).mono ?_
                rintro e wg ⟨rfl, hbwg⟩
                have Xwg := Lib.hid (Xwf.out.trans (hbwg.mono Xwf.out.size))
                clear hbwg
                clear a0 a1 a2 a3 a4
                go_wp2_with fail
                refine (live19_calls _).mono ?_
                rintro e wl ⟨rfl, hbl⟩
                have BL := Lib.hid (Xwg.out.trans (hbl.mono Xwg.out.size))
                clear hbl
                go_wp2_with fail
                go_ret
                exact ⟨rfl, HEND.out _ BL.out⟩
        · have hne : ((dv : Int) != 2 + c.log + c.pages) = true := by simpa using hn
          have HWT := Lib.hid (show wantOf c b.length fuse = 1 by unfold wantOf; rw [if_pos (Or.inr (by rw [HDV.out]; exact hn))])
          clear hr hn
          go_enter Try.func11, Try.ntmps11
          go_wp2_with fail
          refine (much_calls HM.out.val).mono ?_
          rintro e w2 ⟨rfl, hb2⟩
          rw [HMC.out]
          have B2 := Lib.hid hb2
          clear hb2 a0 a1 a2 a3 a4
          go_wp2_with fail
          refine (dof_calls (HV.out _ B2.out) (by omega)).mono ?_
          rintro e w3 ⟨P, F, B, rfl, hd3, hge3, hb3⟩
          have B3 := Lib.hid (B2.out.trans (hb3.mono B2.out.size))
          have HGE := Lib.hid (show ∀ k, F k ∨ B k → W1.heap.size ≤ k from fun k hk => Nat.le_trans B2.out.size (hge3 k hk))
          have HD3 := Lib.hid hd3
          clear hd3 hge3 hb3
          go_wp2_with fail
          refine (fuse_calls HD3.out HFW.out).mono ?_
          rintro e w4 ⟨rfl, hd4, ho4⟩
          have B4 := Lib.hid (B3.out.trans (ho4.below B3.out.size (fun k hk => HGE.out k (.inl hk))))
          have HD4 := Lib.hid hd4
          clear hd4 ho4
          obtain ⟨a0, a1, a2, a3, a4, _⟩ := HBOX.out _ B4.out
          go_wp2_with fail
          refine (wload_calls (Q := fun k => k < w.heap.size) HD4.out (HBOX.out _ B4.out).val (fun k hk hf => by have := HGE.out k (.inl hf); have := HS.out; omega) (fun x hx => ?_) (fun j x hx => by cases hx)).mono ?_
          · have hx2 : x ∈ chunks b := hx
            unfold chunks at hx2
            obtain ⟨k, _, rfl⟩ := List.mem_map.1 hx2
            unfold chunk
            rw [List.length_take]; omega
          rintro e w5 ⟨u5, rfl, hu5, _, ho5⟩
          have HLW := load_want c b fuse
          rw [HWT.out] at HLW
          generalize loadSt (fuseSt (newSt (chunks b)) fuse) c = r at *
          obtain ⟨s5, ls, er⟩ := r
          dsimp only at HLW hu5
          have hls := (Prod.ext_iff.1 HLW).1
          have her := (Prod.ext_iff.1 HLW).2
          dsimp only at hls her
          subst her
          have B5 := Lib.hid (B4.out.trans (ho5.below B4.out.size (fun k hk => HGE.out k (.inl hk))))
          obtain ⟨A5, c5, rfl, hc5, hm5, hat5⟩ := Rep.val_list hu5
          unfold maxLen at hm5
          have HA5 := Lib.hid (show ∀ W', Below w5.heap.size w5 W' → Rep.byte.list.At (fun _ => True) W' A5 ls from fun W' h => Rep.At.keep (w := w5) (fun k _ hl => ⟨trivial, h.block k hl.lt⟩) hat5)
          have HLS := Lib.hid (show ∀ k y, ls[k]? = some y → y = (b.drop (512 * (k + 2))).take 512 ∧ 512 * (k + 2) + 512 ≤ b.length from fun k y hk => by rw [hls, if_neg (by decide)] at hk; simp at hk)
          have HNL := Lib.hid (show ls.length = 0 from by rw [hls, if_neg (by decide)]; rfl)
          clear a0 a1 a2 a3 a4 hu5 hat5 ho5 HLW hls
          generalize hlen : ls.length = len at *
          have HLEN := Lib.hid hlen
          obtain ⟨a0, a1, a2, a3, a4, _⟩ := HBOX.out _ B5.out
          clear hlen
          have hlen := HNL.out
          subst hlen
          go_wp2_with fail
          refine (right_calls (HBOX.out _ B5.out).val).mono ?_
          rintro e w6 ⟨rfl, hb6⟩
          rw [HCR.out]
          have B6 := Lib.hid (B5.out.trans (hb6.mono B5.out.size))
          have C6 := Lib.hid hb6
          clear a0 a1 a2 a3 a4 hb6
          obtain ⟨a0, a1, a2, a3, a4, _⟩ := HBOX.out _ B6.out
          go_wp2_with fail
          refine (code19 1 _).mono ?_
          rintro e wc ⟨rfl, hwc⟩
          have hwd := hwc.symm
          subst hwd
          clear hwc
          go_wp2_with fail
          clear a0 a1 a2 a3 a4
          go_loopw [11] (fun i wr => ∃ k : Nat, i = .int .i64 k ∧ k ≤ (0 : Nat) ∧ Below w5.heap.size w5 wr) (fun i _ => (0 : Nat) - (intOf i).toNat)
          case atStart => exact ⟨0, rfl, Nat.zero_le _, C6.out⟩
          case round =>
            obtain ⟨k, rfl, hk, hbr⟩ := hrel
            have HBR := Lib.hid hbr
            have HB1 := Lib.hid (B5.out.trans (hbr.mono B5.out.size))
            have hlt : ¬ (k : Int) < 0 := by omega
            clear hbr
            have Xwr := Lib.hid HB1.out
            go_wp2_with fail
            refine (wtrunc_nil _).mono ?_
            rintro e wc ⟨rfl, hwc⟩
            have hwd := hwc.symm
            subst hwd
            clear hwc
            obtain ⟨a0, a1, a2, a3, a4, _⟩ := HBOX.out _ Xwr.out
            go_wp2_with fail
            refine (wload_nil (HBOX.out _ Xwr.out).val).mono ?_
            rintro e wa ⟨rfl, hbwa⟩
            have Xwa := Lib.hid (Xwr.out.trans (hbwa.mono Xwr.out.size))
            clear hbwa
            clear a0 a1 a2 a3 a4
            go_wp2_with fail
            refine (code19 4 _).mono ?_
            rintro e wc ⟨rfl, hwc⟩
            have hwd := hwc.symm
            subst hwd
            clear hwc
            go_wp2_with fail
            refine (wappend_nil _ _).mono ?_
            rintro e wc ⟨rfl, hwc⟩
            have hwd := hwc.symm
            subst hwd
            clear hwc
            go_wp2_with fail
            refine (code19 4 _).mono ?_
            rintro e wc ⟨rfl, hwc⟩
            have hwd := hwc.symm
            subst hwd
            clear hwc
            go_wp2_with fail
            refine (wsync_nil _).mono ?_
            rintro e wc ⟨rfl, hwc⟩
            have hwd := hwc.symm
            subst hwd
            clear hwc
            go_wp2_with fail
            refine (code19 4 _).mono ?_
            rintro e wc ⟨rfl, hwc⟩
            have hwd := hwc.symm
            subst hwd
            clear hwc
            go_wp2_with fail
            refine (wroom_nil _).mono ?_
            rintro e wc ⟨rfl, hwc⟩
            have hwd := hwc.symm
            subst hwd
            clear hwc
            go_wp2_with fail
            refine (whead_nil _).mono ?_
            rintro e wb ⟨rfl, hbwb⟩
            have Xwb := Lib.hid (Xwa.out.trans (hbwb.mono Xwa.out.size))
            clear hbwb
            go_wp2_with fail
            refine (wtail_nil _).mono ?_
            rintro e wd ⟨rfl, hbwd⟩
            have Xwd := Lib.hid (Xwb.out.trans (hbwd.mono Xwb.out.size))
            clear hbwd
            go_wp2_with fail
            refine (wseq_nil _).mono ?_
            rintro e we ⟨rfl, hbwe⟩
            have Xwe := Lib.hid (Xwd.out.trans (hbwe.mono Xwd.out.size))
            clear hbwe
            go_wp2_with fail
            refine (wepoch_nil _).mono ?_
            rintro e wf ⟨rfl, hbwf⟩
            have Xwf := Lib.hid (Xwe.out.trans (hbwf.mono Xwe.out.size))
            clear hbwf
            obtain ⟨a0, a1, a2, a3, a4, _⟩ := HBOX.out _ Xwf.out
            go_wp2_with fail
            refine (wnew_nil (HBOX.out _ Xwf.out).val).mono ?_
            rintro e wg ⟨rfl, hbwg⟩
            have Xwg := Lib.hid (Xwf.out.trans (hbwg.mono Xwf.out.size))
            clear hbwg
            clear a0 a1 a2 a3 a4
            go_wp2_with fail
            refine (live19_calls _).mono ?_
            rintro e wl ⟨rfl, hbl⟩
            have BL := Lib.hid (Xwg.out.trans (hbl.mono Xwg.out.size))
            clear hbl
            go_wp2_with fail
            go_ret
            exact ⟨rfl, HEND.out _ BL.out⟩
end Go.Proofs.Ytecdbfbaclgejaa
