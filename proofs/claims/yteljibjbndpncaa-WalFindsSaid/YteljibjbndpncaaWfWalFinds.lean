/- Walk of the statement's function. Printed by gen_walfinds.py. -/
import Derived.Test.YteljibjbndpncaaWfDiskNew
import Derived.Test.YteljibjbndpncaaWfG1
import Derived.Test.YteljibjbndpncaaWfG24
import Derived.Test.YteljibjbndpncaaWfG4
import Derived.Test.YteljibjbndpncaaWfWalLive
namespace Go.Proofs.Yteljibjbndpncaa
open Go.RowKit

theorem cmds_ok {l : List DCmd} (h : checkFrame l = 0) : l.length ≤ 64 ∧ ∀ x ∈ l, knownB x.kind = true ∧ x.data.length ≤ 64 := by
  obtain ⟨h1, h2⟩ := checkFrame_zero h
  refine ⟨h1, fun x hx => ?_⟩
  have := h2 x hx
  unfold checkCmd at this
  split at this
  · split at this
    · cases this
    · rename_i a b; exact ⟨a, by omega⟩
  · cases this
theorem frame_facts {l : List DCmd} (h : checkFrame l = 0) : 0 < (frameBytes l).length ∧ needOf ((frameBytes l).length : Int) ≤ 1024 ∧ (frameGet (frameBytes l)).2 = 0 ∧ (frameBytes l).length ≤ 10000 := by
  obtain ⟨h1, h2⟩ := cmds_ok h
  have h4 := num_len4 (crcOf (cmdsBytes l) : Int)
  have hl : (frameBytes l).length = 1 + ((l.map cmdBytes).flatten).length + 4 := by unfold frameBytes cmdsBytes; rw [List.length_append, List.length_append, num_len1, num_len4]
  have hf : ((l.map cmdBytes).flatten).length ≤ 128 * l.length := by
    clear hl h1 h4 h
    induction l with
    | nil => simp
    | cons x r ih =>
      have hx := h2 x (by simp)
      have hb := cmdBytes_length x
      have := ih (fun y hy => h2 y (by simp [hy]))
      simp only [List.map_cons, List.flatten_cons, List.length_append, List.length_cons]
      omega
  have hlen : (frameBytes l).length ≤ 10000 := by omega
  refine ⟨by omega, ?_, frame_ok h1 h2, hlen⟩
  unfold needOf; split <;> omega

theorem share3 {α1 α2 α3 β : Type} {G : Prop} (S : α1 → α2 → α3 → β → Prop) {Q : α1 → α2 → α3 → β → Prop} (leaf : (∀ a b c y, S a b c y → Q a b c y) → G) (main : ∀ a b c y, S a b c y → Q a b c y) : G := leaf main
/-- What was scanned waits for its box. -/
structure Waits (w6 W : World) (X : Nat) (Au : Option Addr) (cu : Nat) (want : List (List UInt8)) : Prop where
  bel : Below w6.heap.size w6 W
  row : W.heap[X]? = some (.cells #[.slice none 0 0, .int .i64 0, .int .i64 0, .int .i64 0] 69 (0, 0))
  big : w6.heap.size ≤ X
  val : Rep.byte.list.list.val (fun b => w6.heap.size ≤ b ∧ b ≠ X) W (.slice Au want.length cu) want
theorem cell_in {W : World} {b o : Nat} {v : Value} (h : W.cell? ⟨b, o, none⟩ = some v) : b < W.heap.size := by
  unfold World.cell? at h
  by_cases hb : b < W.heap.size
  · exact hb
  · rw [Array.getElem?_eq_none (show W.heap.size ≤ b by omega)] at h
    simp at h

def tail4 (W : World) (R : Nat) (v0 v1 v2 v3 : Value) : World := (((W.setCell ⟨R, 0, none⟩ v0).setCell ⟨R, 1, none⟩ v1).setCell ⟨R, 2, none⟩ v2).setCell ⟨R, 3, none⟩ v3
theorem tail4_keep {W : World} {R k : Nat} {v0 v1 v2 v3 : Value} (h : k ≠ R) : (tail4 W R v0 v1 v2 v3).heap[k]? = W.heap[k]? := by
  unfold tail4
  rw [Below.heap_setCell _ _ _ _ h, Below.heap_setCell _ _ _ _ h, Below.heap_setCell _ _ _ _ h, Below.heap_setCell _ _ _ _ h]
theorem tail4_below {B k : Nat} {w W : World} {v0 v1 v2 v3 : Value} (h : Below B w W) (hk : B ≤ k) : Below B w (tail4 W k v0 v1 v2 v3) :=
  below_set (below_set (below_set (below_set h hk) hk) hk) hk
theorem row4_tail {W : World} {R e : Nat} {f : Nat × Nat} {a0 a1 a2 a3 v0 v1 v2 v3 : Value} (h : W.heap[R]? = some (.cells #[a0, a1, a2, a3] e f)) : (tail4 W R v0 v1 v2 v3).heap[R]? = some (.cells #[v0, v1, v2, v3] e f) := by
  unfold tail4
  rw [heap_setRow (heap_setRow (heap_setRow (heap_setRow h)))]
  rfl

set_option maxRecDepth 100000 in
set_option maxHeartbeats 16000000 in
/-- WalFinds -/
theorem walFinds_calls {Q0 Q3 Q4 : Nat → Prop} {w : World} {v0 v3 v4 : Value} {c : DConf} {ep st : Int} {frames : List (List DCmd)} {cuts : List Bool} (hx : rConf.val Q0 w v0 c) (he : (Lit.int .u16 ep).wf = true) (hst : (Lit.int .u16 st).wf = true)
    (hf : rCmd.list.list.val Q3 w v3 frames) (hc : Rep.bool.list.val Q4 w v4 cuts) :
    Calls Try.prog 4 #[v0, .int .u16 ep, .int .u16 st, v3, v4] w fun e w' => e = .returned (.bool true) ∧ Below w.heap.size w w' := by
  obtain ⟨A, cap, rfl, _⟩ := rConf_val hx
  obtain ⟨Af, cf, rfl, hf1, hf2, hAf⟩ := Rep.val_list hf
  obtain ⟨Ac, cc, rfl, hc1, hc2, hAc⟩ := Rep.val_list hc
  unfold maxLen at hf2 hc2
  have hm := InBox.made hx 49
  have hbel : Below w.heap.size w (w.alloc (.cells #[.int .i64 c.log, .int .i64 c.pages, .int .i64 c.entities, .int .i64 c.gens, .slice A c.comps.length cap] 49)) := (Below.refl _ _).alloc (Nat.le_refl _) _
  have hsz : (w.alloc (.cells #[.int .i64 c.log, .int .i64 c.pages, .int .i64 c.entities, .int .i64 c.gens, .slice A c.comps.length cap] 49)).heap.size = w.heap.size + 1 := by simp
  generalize hW1 : w.alloc (.cells #[.int .i64 c.log, .int .i64 c.pages, .int .i64 c.entities, .int .i64 c.gens, .slice A c.comps.length cap] 49) = W1 at *
  have HM := Lib.hid hm
  have HW1 := Lib.hid hW1
  have HB := Lib.hid hbel
  have HS := Lib.hid hsz
  have HVF := Lib.hid (show ∀ W', Below w.heap.size w W' → rCmd.list.At Q3 W' Af frames from fun W' ho => Rep.At.keep (w := w) (fun b hb hl => ⟨hb, ho.block b hl.lt⟩) hAf)
  have HVC := Lib.hid (show ∀ W', Below w.heap.size w W' → Rep.bool.At Q4 W' Ac cuts from fun W' ho => Rep.At.keep (w := w) (fun b hb hl => ⟨hb, ho.block b hl.lt⟩) hAc)
  have HBOX := Lib.hid (show ∀ W', Below W1.heap.size W1 W' → InBox W' w.heap.size c A cap from fun W' h => HM.out.later (h.mono (Nat.le_of_eq HS.out.symm)))
  have HEND := Lib.hid (show ∀ W', Below W1.heap.size W1 W' → Below w.heap.size w W' from fun W' h => HB.out.trans (h.mono HB.out.size))
  have hep : 0 ≤ ep ∧ ep ≤ 65535 := by
    have h : IntKind.u16.min ≤ ep ∧ ep ≤ IntKind.u16.max := by simpa [Lit.wf] using he
    exact h
  have hstt : 0 ≤ st ∧ st ≤ 65535 := by
    have h : IntKind.u16.min ≤ st ∧ st ≤ IntKind.u16.max := by simpa [Lit.wf] using hst
    exact h
  obtain ⟨a0, a1, a2, a3, a4, _⟩ := hm
  clear hx hf hc hAf hAc hbel hsz he hst hW1
  obtain ⟨mc, hmc⟩ : ∃ m, muchConf c = m := ⟨_, rfl⟩
  have HMC := Lib.hid hmc
  clear hmc
  cases mc with
  | true =>
    go_enter Try.func4, Try.ntmps4
    go_wp2_with fail
    rw [HW1.out]
    refine (much_calls HM.out.val).mono ?_
    rintro e w2 ⟨rfl, hb2⟩
    rw [HMC.out]
    have B2 := Lib.hid hb2
    clear hb2 a0 a1 a2 a3 a4
    obtain ⟨a0, a1, a2, a3, a4, _⟩ := HBOX.out _ B2.out
    go_wp2_with fail
    refine (live19_calls _).mono ?_
    rintro e wl ⟨rfl, hbl⟩
    have BL := Lib.hid (B2.out.trans (hbl.mono B2.out.size))
    clear hbl
    go_wp2_with fail
    go_ret
    exact ⟨rfl, HEND.out _ BL.out⟩
  | false =>
    obtain ⟨cr, hcr⟩ : ∃ m, confRight c = m := ⟨_, rfl⟩
    have HCR := Lib.hid hcr
    cases cr with
    | false =>
      clear hcr
      go_enter Try.func4, Try.ntmps4
      go_wp2_with fail
      rw [HW1.out]
      refine (much_calls HM.out.val).mono ?_
      rintro e w2 ⟨rfl, hb2⟩
      rw [HMC.out]
      have B2 := Lib.hid hb2
      clear hb2 a0 a1 a2 a3 a4
      obtain ⟨a0, a1, a2, a3, a4, _⟩ := HBOX.out _ B2.out
      go_wp2_with fail
      refine (right_calls (HBOX.out _ B2.out).val).mono ?_
      rintro e w3 ⟨rfl, hb3⟩
      rw [HCR.out]
      have B3 := Lib.hid (B2.out.trans (hb3.mono B2.out.size))
      clear hb3 a0 a1 a2 a3 a4
      obtain ⟨a0, a1, a2, a3, a4, _⟩ := HBOX.out _ B3.out
      go_wp2_with fail
      refine (live19_calls _).mono ?_
      rintro e wl ⟨rfl, hbl⟩
      have BL := Lib.hid (B3.out.trans (hbl.mono B3.out.size))
      clear hbl
      go_wp2_with fail
      go_ret
      exact ⟨rfl, HEND.out _ BL.out⟩
    | true =>
      obtain ⟨g1, g2, g3, g4, _⟩ := (right_facts hcr).1
      clear hcr
      by_cases h20 : 20 < c.log
      · skip
        go_enter Try.func4, Try.ntmps4
        go_wp2_with fail
        rw [HW1.out]
        refine (much_calls HM.out.val).mono ?_
        rintro e w2 ⟨rfl, hb2⟩
        rw [HMC.out]
        have B2 := Lib.hid hb2
        clear hb2 a0 a1 a2 a3 a4
        obtain ⟨a0, a1, a2, a3, a4, _⟩ := HBOX.out _ B2.out
        go_wp2_with fail
        refine (right_calls (HBOX.out _ B2.out).val).mono ?_
        rintro e w3 ⟨rfl, hb3⟩
        rw [HCR.out]
        have B3 := Lib.hid (B2.out.trans (hb3.mono B2.out.size))
        clear hb3 a0 a1 a2 a3 a4
        obtain ⟨a0, a1, a2, a3, a4, _⟩ := HBOX.out _ B3.out
        go_wp2_with fail
        refine (live19_calls _).mono ?_
        rintro e wl ⟨rfl, hbl⟩
        have BL := Lib.hid (B3.out.trans (hbl.mono B3.out.size))
        clear hbl
        go_wp2_with fail
        go_ret
        exact ⟨rfl, HEND.out _ BL.out⟩
      by_cases h60 : 60 < c.pages
      · skip
        go_enter Try.func4, Try.ntmps4
        go_wp2_with fail
        rw [HW1.out]
        refine (much_calls HM.out.val).mono ?_
        rintro e w2 ⟨rfl, hb2⟩
        rw [HMC.out]
        have B2 := Lib.hid hb2
        clear hb2 a0 a1 a2 a3 a4
        obtain ⟨a0, a1, a2, a3, a4, _⟩ := HBOX.out _ B2.out
        go_wp2_with fail
        refine (right_calls (HBOX.out _ B2.out).val).mono ?_
        rintro e w3 ⟨rfl, hb3⟩
        rw [HCR.out]
        have B3 := Lib.hid (B2.out.trans (hb3.mono B2.out.size))
        clear hb3 a0 a1 a2 a3 a4
        obtain ⟨a0, a1, a2, a3, a4, _⟩ := HBOX.out _ B3.out
        go_wp2_with fail
        refine (live19_calls _).mono ?_
        rintro e wl ⟨rfl, hbl⟩
        have BL := Lib.hid (B3.out.trans (hbl.mono B3.out.size))
        clear hbl
        go_wp2_with fail
        go_ret
        exact ⟨rfl, HEND.out _ BL.out⟩
      by_cases h30 : 30 < (frames.length : Int)
      · skip
        go_enter Try.func4, Try.ntmps4
        go_wp2_with fail
        rw [HW1.out]
        refine (much_calls HM.out.val).mono ?_
        rintro e w2 ⟨rfl, hb2⟩
        rw [HMC.out]
        have B2 := Lib.hid hb2
        clear hb2 a0 a1 a2 a3 a4
        obtain ⟨a0, a1, a2, a3, a4, _⟩ := HBOX.out _ B2.out
        go_wp2_with fail
        refine (right_calls (HBOX.out _ B2.out).val).mono ?_
        rintro e w3 ⟨rfl, hb3⟩
        rw [HCR.out]
        have B3 := Lib.hid (B2.out.trans (hb3.mono B2.out.size))
        clear hb3 a0 a1 a2 a3 a4
        obtain ⟨a0, a1, a2, a3, a4, _⟩ := HBOX.out _ B3.out
        go_wp2_with fail
        refine (live19_calls _).mono ?_
        rintro e wl ⟨rfl, hbl⟩
        have BL := Lib.hid (B3.out.trans (hbl.mono B3.out.size))
        clear hbl
        go_wp2_with fail
        go_ret
        exact ⟨rfl, HEND.out _ BL.out⟩
      have i1 : IntKind.i64.wrap ep = ep := IntWalk.i64_in _ ⟨by omega, by omega⟩
      have i2 : IntKind.i64.wrap (ep + 1) = ep + 1 := IntWalk.i64_in _ ⟨by omega, by omega⟩
      have i3 : IntKind.i64.wrap st = st := IntWalk.i64_in _ ⟨by omega, by omega⟩
      have HEP := Lib.hid hep
      have HST := Lib.hid hstt
      have HCG := Lib.hid (show 2 ≤ c.log ∧ c.log ≤ 20 ∧ 4 ≤ c.pages ∧ c.pages ≤ 60 by omega)
      have HFL := Lib.hid (show frames.length ≤ 30 by omega)
      obtain ⟨k, hk⟩ : ∃ k : Nat, (k : Int) = 2 + c.log + c.pages := ⟨(2 + c.log + c.pages).toNat, by omega⟩
      have HK := Lib.hid hk
      clear hk
      go_enter Try.func4, Try.ntmps4
      go_wp2_with fail
      rw [HW1.out]
      refine (much_calls HM.out.val).mono ?_
      rintro e w2 ⟨rfl, hb2⟩
      rw [HMC.out]
      have B2 := Lib.hid hb2
      clear hb2 a0 a1 a2 a3 a4
      obtain ⟨a0, a1, a2, a3, a4, _⟩ := HBOX.out _ B2.out
      go_wp2_with fail
      refine (right_calls (HBOX.out _ B2.out).val).mono ?_
      rintro e w3 ⟨rfl, hb3⟩
      rw [HCR.out]
      have B3 := Lib.hid (B2.out.trans (hb3.mono B2.out.size))
      clear hb3 a0 a1 a2 a3 a4
      obtain ⟨a0, a1, a2, a3, a4, _⟩ := HBOX.out _ B3.out
      go_wp2_with fail
      refine (dnew_calls (by have := HCG.out; omega) (by have := HCG.out; omega) _).mono ?_
      rintro e w4 ⟨P, M, Sf, cs, xs, rfl, hnew, hz⟩
      have B4 := Lib.hid (B3.out.trans (hnew.bel.mono B3.out.size))
      have HD4 := Lib.hid hnew.disk
      have HGE := Lib.hid (show w3.heap.size ≤ M ∧ M < P from ⟨hnew.pos.1, hnew.pos.2.1⟩)
      have hown := Rep.acc_own hnew.acc
      have HCALM := Lib.hid (show Calm (newSt (xs.map (·.1))) k from ⟨rfl, rfl, by show (xs.map (·.1)).length = k; rw [List.length_map, hnew.len]; unfold newN; have := HK.out; have := HCG.out; rw [if_neg (by omega), if_neg (by omega)]; omega⟩)
      have HZERO := Lib.hid (show ∀ i : Int, 0 ≤ i → i < k → lastSt (newSt (xs.map (·.1))) i = zeros 512 from fun i h0 h1 => by
        have hl : i.toNat < (xs.map (·.1)).length := by have := HCALM.out.2.2; have h2 : (newSt (xs.map (·.1))).safe = xs.map (·.1) := rfl; rw [h2] at this; omega
        show (([] : List (List UInt8)).getLast?).getD ((xs.map (·.1)).getD i.toNat []) = zeros 512
        rw [List.getLast?_nil, Option.getD_none, List.getD_eq_getElem?_getD, List.getElem?_eq_getElem hl, Option.getD_some]
        obtain ⟨y, hy, he⟩ := List.mem_map.1 (List.getElem_mem hl)
        rw [← he]; exact hz y hy)
      have HFP := Lib.hid (show ∀ b, (b = P ∨ b = M ∨ (Value.slice Sf (newN (2 + c.log + c.pages)) cs).ownBlock = some b) → w3.heap.size ≤ b from fun b hb => by
        have := hnew.pos
        rcases hb with rfl | rfl | hb
        · omega
        · omega
        · have := (hown b hb).1; omega)
      have HSM0 := Lib.hid (show SmallSt (newSt (xs.map (·.1))) from ⟨fun y hy => by obtain ⟨z, hz1, rfl⟩ := List.mem_map.1 hy; rw [hz z hz1, zeros_length]; decide, fun j y hy => by cases hy⟩)
      generalize newSt (xs.map (·.1)) = s0 at *
      clear hnew hz hown a0 a1 a2 a3 a4
      obtain ⟨a0, a1, a2, a3, a4, _⟩ := HBOX.out _ B4.out
      go_wp2_with fail
      refine (wnew_calls (x := ⟨ep + 1, st, st, 5⟩) HD4.out (HBOX.out _ B4.out).val (fun b hb hf => by have := HFP.out b hf; have := B3.out.size; have := HS.out; have hb' : b < w.heap.size := hb; omega)).mono ?_
      rintro e w5 ⟨hb5, hcase⟩
      have hright : rightLog s0 c ⟨ep + 1, st, st, 5⟩ = true := by
        have e1 : fitsB s0 c = true := by unfold fitsB sectorsOf; rw [HCR.out, HCALM.out.2.2, HK.out]; simp
        have e2 : roomOf c st st = c.log := by
          have := HST.out; have := HCG.out
          unfold roomOf
          rw [HCR.out, place_in (by omega) (by omega), decide_eq_true (Int.le_refl _), decide_eq_true (by omega)]; simp
        have := HEP.out; have := HCG.out
        unfold rightLog
        dsimp only
        rw [e1, e2, place_in (q := ep + 1) (by omega) (by omega), decide_eq_true (by omega)]; rfl
      obtain ⟨L, A2, cap2, G, rfl, hlog, hge⟩ := (hcase.resolve_left (fun h => Bool.noConfusion (hright.symm.trans h.1))).2
      have B5 := Lib.hid (B4.out.trans (hb5.mono B4.out.size))
      have hlt4 : ∀ b, (b = P ∨ b = M ∨ (Value.slice Sf (newN (2 + c.log + c.pages)) cs).ownBlock = some b) ∨ (b ∈ xs.map (·.2) ∧ (Value.slice Sf (newN (2 + c.log + c.pages)) cs).ownBlock ≠ some b) → b < w4.heap.size := by
        obtain ⟨_, _, _, _, hh⟩ := HD4.out
        exact hh.lt
      have HFIND := Lib.hid (FindAt.new (base := W1.heap.size) (w := w5) (WalAt.mk hlog (HD4.out.below hb5) (fun b hb hf => by have := hge b hb; have := hlt4 b (.inl hf); omega) (fun hb => by have := hge L (.inl rfl); have := hlt4 L (.inr hb); omega)) (fun b hb => by
        have := B3.out.size
        have := B4.out.size
        rcases hb with hb | rfl
        · have := HFP.out b hb; omega
        · have := hge b (.inl rfl); omega))
      have HINV := Lib.hid (LogInv.start HCALM.out HCR.out HK.out HZERO.out (ep := ep + 1) (st := st) (by have := HEP.out; omega) (by have := HST.out; omega))
      have HSM := Lib.hid (show SmallSt s0 from HSM0.out)
      clear hcase hright hlog hge hb5 hlt4 a0 a1 a2 a3 a4 HCALM HZERO HFP HGE HD4
      go_wp2_with fail
      go_loopw [13, 14, 15] (fun u13 u14 u15 wr => ∃ (j m : Nat) (s : DiskSt) (x : LogSt) (first : Int) (want : List (List UInt8)), u14 = .int .i64 first ∧ u15 = .int .i64 j ∧ j ≤ frames.length ∧ m ≤ 1024 * j ∧ FindAt wr W1.heap.size L P A2 cap2 G m c s x u13 want ∧ Hid (LogInv s c x first want k) ∧ Hid (x.epoch = ep + 1) ∧ Hid (SmallSt s) ∧ Below W1.heap.size W1 wr ∧ want.length ≤ j) (fun _ _ i _ => frames.length - (intOf i).toNat)
      case atStart => exact ⟨0, 0, s0, ⟨ep + 1, st, st, 5⟩, 5, [], rfl, rfl, Nat.zero_le _, Nat.zero_le _, HFIND.out, HINV, Lib.hid rfl, HSM, B5.out, Nat.zero_le _⟩
      case round =>
        obtain ⟨j, m, s, x, first, want, rfl, rfl, hj, hmj, hfind, HI, HXE, HSS, hbr, hwl⟩ := hrel
        have HJ := Lib.hid hj
        have HMJ := Lib.hid hmj
        have HF := Lib.hid hfind
        have BR := Lib.hid hbr
        have HWL := Lib.hid hwl
        clear hfind hbr hmj hwl
        by_cases hlt : (j : Int) < frames.length
        · obtain ⟨fl, hfl⟩ : ∃ fl, frames[j]? = some fl := ⟨_, List.getElem?_eq_getElem (by omega)⟩
          have HFLJ := Lib.hid hfl
          clear hfl
          obtain ⟨bf, of, A5, c5, rfl, hcell, q1, q2, hat⟩ := Rep.At.list (HVF.out wr (HEND.out _ BR.out)) HFLJ.out
          have HFV := Lib.hid (show rCmd.list.val Q3 wr (.slice A5 fl.length c5) fl from Rep.list_val rfl q1 q2 hat)
          clear q1 q2 hat
          go_wp2_with fail
          refine (muchCmds_calls HFV.out).mono ?_
          rintro e w6 ⟨mb, rfl, hmb, hw6⟩
          obtain rfl := hw6.symm
          clear hmb
          cases mb with
          | true =>
            go_wp2_with fail
            refine (live19_calls _).mono ?_
            rintro e wl ⟨rfl, hbl⟩
            have BL := Lib.hid (BR.out.trans (hbl.mono BR.out.size))
            clear hbl
            go_wp2_with fail
            go_ret
            exact ⟨rfl, HEND.out _ BL.out⟩
          | false =>
            go_wp2_with fail
            refine (rframeCheck_calls HFV.out).mono ?_
            rintro e w7 ⟨rfl, hb7⟩
            have B7 := Lib.hid (BR.out.trans (hb7.mono BR.out.size))
            have hcell7 := (hb7.cell (p := ⟨bf, of + j, none⟩) (cell_in hcell)).trans hcell
            have HF7 := Lib.hid (HF.out.below hb7)
            have HFV7 := Lib.hid (show rCmd.list.val Q3 w7 (.slice A5 fl.length c5) fl from Rep.val_keep (fun b hb hl => ⟨hb, hb7.block b hl.lt⟩) HFV.out)
            clear hb7 hcell
            by_cases hck : checkFrame fl = 0
            case neg =>
              go_wp2_with fail
              refine (live19_calls _).mono ?_
              rintro e wl ⟨rfl, hbl⟩
              have BL := Lib.hid (B7.out.trans (hbl.mono B7.out.size))
              clear hbl
              go_wp2_with fail
              go_ret
              exact ⟨rfl, HEND.out _ BL.out⟩
            rw [hck]
            have HFF := Lib.hid (frame_facts hck)
            have HC0 := Lib.hid (cmds_ok hck)
            have HI0 := HI.out
            have hle := HI0.recs.le
            clear hck
            go_wp2_with fail
            refine (rframeBytes_calls HFV7.out HC0.out.1 (fun x hx => (HC0.out.2 x hx).2)).mono ?_
            rintro e w8 ⟨u8, rfl, hu8, hb8⟩
            obtain ⟨A8, c8, rfl, h81, h82⟩ := Rep.acc_form hu8
            have HU8 := Lib.hid hu8
            have HB8 := Lib.hid hb8
            have B8 := Lib.hid (B7.out.trans (hb8.mono B7.out.size))
            clear hu8 hb8 h81 h82 hcell7
            obtain ⟨b, hb⟩ : ∃ b, b = frameBytes fl := ⟨_, rfl⟩
            rw [← hb] at HFF HU8 ⊢
            clear hb
            go_wp2_with fail
            obtain ⟨F, B, hw1, hw2, hw3, hw4⟩ := HF7.out
            have hown7 := fun b hb => (Rep.acc_own hw3 b hb).2
            have hlt7 := hw1.own_lt
            refine (wappend_calls (hw1.below HB8.out) (by have := HMJ.out; have := HFL.out; have := HJ.out; omega) (by rw [HXE.out]; exact wf_i64 (by have := HEP.out; omega) (by have := HEP.out; omega)) ⟨by have := HI0.head; omega, HI0.top⟩ ⟨by have := HI0.one; have := HI0.seq; omega, HI0.one.2⟩ (Rep.acc_val HU8.out) (by have := HFF.out.2.2.2; omega)).mono ?_
            rintro e w9 ⟨rfl, ho9, F', B', hw9, hF9, hB9, _⟩
            obtain ⟨k2, k3, k4⟩ := FindAt.app hw2 (Rep.acc_later hw3 HB8.out) hw4 B8.out.size ho9 hF9 hB9
            have B9 := Lib.hid (B8.out.trans (ho9.below B8.out.size hw2))
            have HV9 := Lib.hid (show Rep.byte.list.val (fun y => ¬ Own L G F' B' y ∧ u13.ownBlock ≠ some y) w9 (.slice A8 b.length c8) b from Rep.val_keep (w := w8) (fun y hy hl => by
              have hy' : w7.heap.size ≤ y := hy
              have hno : ¬ Own L G F B y := fun h => by have := hlt7 y h; omega
              exact ⟨⟨Own.new hF9 hB9 hl.lt hno, fun e => by have := hown7 y e; omega⟩, ho9.block y hl.lt (Own.not hno)⟩) (Rep.acc_fresh HU8.out))
            have HW9 := Lib.hid hw9
            have HK2 := Lib.hid k2
            have HK3 := Lib.hid k3
            have HK4 := Lib.hid k4
            clear hw1 hw2 hw3 hw4 hown7 hlt7 ho9 hw9 hF9 hB9 k2 k3 k4
            cases hok : appendOk c x b with
            | false =>
              have hfail := LogInv.fail (s := s) hok
              rw [hfail] at HW9 ⊢
              dsimp only at HW9 ⊢
              clear hok hfail
              have HF9 := Lib.hid (show FindAt w9 W1.heap.size L P A2 cap2 G (m + 1024) c s x u13 want from ⟨F', B', HW9.out, HK2.out, HK3.out, HK4.out⟩)
              go_wp2_with fail
              refine (code19 _ _).mono ?_
              rintro e wc ⟨rfl, hwc⟩
              obtain rfl := hwc.symm
              by_cases hcl : (j : Int) < cuts.length
              · have HCL := Lib.hid (show j < cuts.length by omega)
                obtain ⟨cb, hcb⟩ : ∃ cb, cuts[j]? = some cb := ⟨_, List.getElem?_eq_getElem (by omega)⟩
                obtain ⟨bc, oc, rfl, hcc⟩ := bool_at (HVC.out w9 (HEND.out _ B9.out)) hcb
                clear hcb
                cases cb with
                | true =>
                  go_wp2_with (exact absurd HCL.out (by assumption))
                  clear hcc
                  obtain ⟨F2, B2b, k1, k2, k3, k4⟩ := HF9.out
                  refine (wtrunc_calls k1.log).mono ?_
                  rintro e w12 ⟨rfl, hl12, ho12⟩
                  have HF12 := Lib.hid ((HF9.out.cut hl12 ho12).empty)
                  have B12 := Lib.hid (B9.out.trans (ho12.below B9.out.size (fun y hy => k2 y (.inr hy))))
                  clear k1 k2 k3 k4 ho12
                  go_wp2_with fail
                  refine (wseq_calls hl12).mono ?_
                  rintro e w13 ⟨rfl, hb13⟩
                  have HF13 := Lib.hid (HF12.out.below hb13)
                  have B13 := Lib.hid (B12.out.trans (hb13.mono B12.out.size))
                  clear hb13 hl12
                  go_wp2_with fail
                  exact ⟨⟨j + 1, m + 1024, s, { x with head := x.tail }, x.seq, [], rfl, by go_num, by have := HJ.out; omega, by have := HMJ.out; omega, HF13.out, Lib.hid HI.out.cut, Lib.hid HXE.out, HSS, B13.out, Nat.zero_le _⟩, by simp [intOf]; omega⟩
                | false =>
                  go_wp2_with (exact absurd HCL.out (by assumption))
                  exact ⟨⟨j + 1, m + 1024, s, x, first, want, rfl, by go_num, by have := HJ.out; omega, by have := HMJ.out; omega, HF9.out, HI, HXE, HSS, B9.out, by have := HWL.out; omega⟩, by simp [intOf]; omega⟩
              · have HCL := Lib.hid (show ¬ j < cuts.length by omega)
                go_wp2_with (exact HCL.out (by assumption))
                exact ⟨⟨j + 1, m + 1024, s, x, first, want, rfl, by go_num, by have := HJ.out; omega, by have := HMJ.out; omega, HF9.out, HI, HXE, HSS, B9.out, by have := HWL.out; omega⟩, by simp [intOf]; omega⟩
            | true =>
              obtain ⟨m1, m2, m3, m4⟩ := HI.out.more hok ⟨HFF.out.1, HFF.out.2.1, HFF.out.2.2.1⟩
              have HSA := Lib.hid (HSS.out.app (c := c) (x := x) (b := b))
              have hxe2 := m3.trans HXE.out
              rw [m1]
              generalize appendSt s c x b = r at *
              obtain ⟨s', x', er⟩ := r
              dsimp only at HW9 HSA m4 hxe2 ⊢
              have HI2 := Lib.hid m4
              have HXE2 := Lib.hid hxe2
              clear hok m1 m2 m3 m4 hxe2
              go_wp2_with fail
              refine (code19 _ _).mono ?_
              rintro e wc ⟨rfl, hwc⟩
              obtain rfl := hwc.symm
              go_wp2_with (with_reducible refine stopAt rfl ?_)
              refine Lib.hid ?_
              refine wpList_snoc (e := 33) (base := W1.heap.size) (Q := fun y => ¬ Own L G F' B' y) (r := Rep.byte.list) (z := .slice none 0 0) (size := 1) (bytes := 24) (xs := want) (y := b) (v := u13) (vy := .slice A8 b.length c8) (hg1 := rfl) (hg2 := rfl) (t := 39) (ho1 := rfl) (hd := rfl) (ho2 := rfl) (ht := Try.underlying39) (hi := info22) (hzs := rfl) (hsz := by decide) (hr := rfl) (h := HK3.out) (hx := by exact rfl) (hy := HV9.out) (hs := by exact rfl) (he := by exact rfl) (h63 := by have := HWL.out; have := HJ.out; have := HFL.out; unfold maxLen; omega) (hbytes := by have := HWL.out; have := HJ.out; have := HFL.out; omega) (hbase := B9.out.size) (K := ?_)
              intro s7 w11 hacc hgr hat
              have HF11 := Lib.hid (FindAt.push HW9.out HK2.out HK4.out hgr hat hacc)
              have B11 := Lib.hid (B9.out.grown hgr B9.out.size (fun y hy => (Rep.acc_own HK3.out y hy).1))
              clear hacc hgr hat
              by_cases hcl : (j : Int) < cuts.length
              · have HCL := Lib.hid (show j < cuts.length by omega)
                obtain ⟨cb, hcb⟩ : ∃ cb, cuts[j]? = some cb := ⟨_, List.getElem?_eq_getElem (by omega)⟩
                obtain ⟨bc, oc, rfl, hcc⟩ := bool_at (HVC.out w11 (HEND.out _ B11.out)) hcb
                clear hcb
                cases cb with
                | true =>
                  go_wp2_with (exact absurd HCL.out (by assumption))
                  clear hcc
                  obtain ⟨F2, B2b, k1, k2, k3, k4⟩ := HF11.out
                  refine (wtrunc_calls k1.log).mono ?_
                  rintro e w12 ⟨rfl, hl12, ho12⟩
                  have HF12 := Lib.hid ((HF11.out.cut hl12 ho12).empty)
                  have B12 := Lib.hid (B11.out.trans (ho12.below B11.out.size (fun y hy => k2 y (.inr hy))))
                  clear k1 k2 k3 k4 ho12
                  go_wp2_with fail
                  refine (wseq_calls hl12).mono ?_
                  rintro e w13 ⟨rfl, hb13⟩
                  have HF13 := Lib.hid (HF12.out.below hb13)
                  have B13 := Lib.hid (B12.out.trans (hb13.mono B12.out.size))
                  clear hb13 hl12
                  go_wp2_with fail
                  exact ⟨⟨j + 1, m + 1024, s', { x' with head := x'.tail }, x'.seq, [], rfl, by go_num, by have := HJ.out; omega, by have := HMJ.out; omega, HF13.out, Lib.hid HI2.out.cut, Lib.hid HXE2.out, HSA, B13.out, Nat.zero_le _⟩, by simp [intOf]; omega⟩
                | false =>
                  go_wp2_with (exact absurd HCL.out (by assumption))
                  exact ⟨⟨j + 1, m + 1024, s', x', first, (want ++ [b]), rfl, by go_num, by have := HJ.out; omega, by have := HMJ.out; omega, HF11.out, HI2, HXE2, HSA, B11.out, by have := HWL.out; rw [List.length_append, List.length_singleton]; omega⟩, by simp [intOf]; omega⟩
              · have HCL := Lib.hid (show ¬ j < cuts.length by omega)
                go_wp2_with (exact HCL.out (by assumption))
                exact ⟨⟨j + 1, m + 1024, s', x', first, (want ++ [b]), rfl, by go_num, by have := HJ.out; omega, by have := HMJ.out; omega, HF11.out, HI2, HXE2, HSA, B11.out, by have := HWL.out; rw [List.length_append, List.length_singleton]; omega⟩, by simp [intOf]; omega⟩
        · obtain rfl : j = frames.length := by omega
          obtain ⟨F, B, k1, k2, k3, k4⟩ := HF.out
          obtain ⟨a0, a1, a2, a3, a4, _⟩ := HBOX.out _ BR.out
          have HK1 := Lib.hid k1
          have HK2 := Lib.hid k2
          have HK3 := Lib.hid k3
          have HK4 := Lib.hid k4
          clear k1 k2 k3 k4
          go_wp2_with fail
          clear a0 a1 a2 a3 a4
          refine (wload_calls (Q := fun b => b < w.heap.size) HK1.out.dev (HBOX.out _ BR.out).val (fun b hb hf => by have := HK2.out b (.inl hf); have := HS.out; have hb' : b < w.heap.size := hb; omega) HSS.out.1 HSS.out.2).mono ?_
          rintro e w6 ⟨u6, rfl, hu6, hd6, ho6⟩
          rw [HI.out.load] at hu6 ⊢
          dsimp only at hu6 ⊢
          obtain ⟨A6, c6, rfl, h61, h62, h63⟩ := Rep.val_list hu6
          have HU6 := Lib.hid hu6
          have B6 := Lib.hid (BR.out.trans (ho6.below BR.out.size (fun y hy => HK2.out y (.inl hy))))
          have HL6 := Lib.hid (HK1.out.log.only ho6 HK1.out.nf)
          have HWA := Lib.hid (show Rep.byte.list.acc 33 W1.heap.size (fun b => ¬ Own L G F B b) w6 u13 want from Rep.acc_keep (fun b hb hl => ho6.block b hl.lt (fun hf => Own.not (hb.elim id (fun e => HK4.out b e)) (.inl hf))) (fun b hb _ => hb) HK3.out)
          clear hu6 hd6 ho6 h61 h62 h63
          go_wp2_with fail
          refine (code19 _ _).mono ?_
          rintro e wc ⟨rfl, hwc⟩
          obtain rfl := hwc.symm
          obtain ⟨a0, a1, a2, a3, a4, _⟩ := HBOX.out _ B6.out
          clear a0 a1 a2 a3 a4
          have HOKS := Lib.hid (show ScanOk c (secsOf s c) (ep + 1) x.head first want x.tail by rw [← HXE.out]; exact HI.out.scan)
          have HV6 := Lib.hid (show ∀ W, Below w6.heap.size w6 W → Rep.byte.list.list.val (fun b => wr.heap.size ≤ b) W (.slice A6 (secsOf s c).length c6) (secsOf s c) from fun W h => Rep.val_keep (fun b hb hl => ⟨hb, h.block b hl.lt⟩) HU6.out)
          go_wp2_with fail
          refine wp_region_held_drew (S := fun W => Below w6.heap.size w6 W) (by kernel_rfl) ((Below.refl _ _).drew) (fun s0 => ?_)
          obtain ⟨v0, hv0⟩ : ∃ W, W = w6.drew := ⟨_, rfl⟩
          rw [← hv0] at s0 ⊢
          have t0 : Below w6.heap.size w6 v0 := s0
          clear hv0
          apply share3 (fun (X : Nat) (Au : Option Addr) (cu : Nat) (W : World) => Waits w6 W X Au cu want)
          · intro key
            have KEY := Lib.hid key
            clear key
            refine wpAnyH_take (i := 0) (v := .agg #[.int .i64 c.log, .int .i64 c.pages, .int .i64 c.entities, .int .i64 c.gens, .slice A c.comps.length cap]) rfl (by kernel_rfl) (by kernel_rfl) (by kernel_rfl) (fun _ _ _ h => h) (Or.inl ⟨by rfl, fun w' h => by obtain ⟨u0, u1, u2, u3, u4, _⟩ := (HBOX.out _ (B6.out.trans (Below.mono (h : Below w6.heap.size w6 w') B6.out.size))); go_simp⟩) t0 ?_
            go_simp
            refine wpAnyH_take (i := 1) (v := .slice A6 (secsOf s c).length c6) rfl (by kernel_rfl) (by kernel_rfl) (by kernel_rfl) (fun _ _ _ h => h) (Or.inl ⟨by rfl, fun w' _ => by go_simp⟩) t0 ?_
            go_simp
            refine wpAnyH_take (i := 2) (v := .pointer (some ⟨L, 0, none⟩)) rfl (by kernel_rfl) (by kernel_rfl) (by kernel_rfl) (fun _ _ _ h => h) (Or.inl ⟨by rfl, fun w' _ => by go_simp⟩) t0 ?_
            go_simp
            refine wpAnyH_take (i := 4) (v := .int .u16 ep) rfl (by kernel_rfl) (by kernel_rfl) (by kernel_rfl) (fun _ _ _ h => h) (Or.inl ⟨by rfl, fun w' _ => by go_simp⟩) t0 ?_
            go_simp
            refine wpAnyH_take (i := 5) (v := .int .i64 ep) rfl (by kernel_rfl) (by kernel_rfl) (by kernel_rfl) (fun _ _ _ h => h) (Or.inl ⟨by rfl, fun w' _ => by go_simp⟩) t0 ?_
            go_simp
            refine wpAnyH_take (i := 6) (v := .int .i64 (ep + 1)) rfl (by kernel_rfl) (by kernel_rfl) (by kernel_rfl) (fun _ _ _ h => h) (Or.inl ⟨by rfl, fun w' _ => by go_simp⟩) t0 ?_
            go_simp
            refine wpAnyH_take (i := 7) (v := .int .i64 first) rfl (by kernel_rfl) (by kernel_rfl) (by kernel_rfl) (fun _ _ _ h => h) (Or.inl ⟨by rfl, fun w' _ => by go_simp⟩) t0 ?_
            go_simp
            refine wpAnyH_all (rs := [3, 9]) (by kernel_rfl) (by simp) ?_
            intro i hi
            have hi2 : i = 3 ∨ i = 9 := by simpa using hi
            clear hi
            rcases hi2 with rfl | rfl
            · skip
              refine wpOp_step rfl (fun K hK => ?_)
              go_simp
              refine (whead_calls (HL6.out.below t0)).mono ?_
              rintro e v1 ⟨rfl, hb⟩
              have t1 : Below w6.heap.size w6 v1 := Below.trans t0 (hb.mono (Below.size t0))
              refine hK _ _ ⟨t1, ?_⟩
              clear hb
              clear hK K
              refine wpAnyH_all (rs := [8, 9]) (by kernel_rfl) (by simp) ?_
              intro i hi
              have hi2 : i = 8 ∨ i = 9 := by simpa using hi
              clear hi
              rcases hi2 with rfl | rfl
              · skip
                refine wpOp_step rfl (fun K hK => ?_)
                go_simp
                refine (scan_calls (HBOX.out _ (B6.out.trans (Below.mono t1 B6.out.size))).val (HV6.out _ t1) HOKS.out HI.out.head HI.out.top HI.out.room (by have := HCG.out; omega) HI.out.one.1 (by have := HI.out.one; have := HI.out.seq; omega) (by have := HWL.out; have := HFL.out; omega)).mono ?_
                rintro e v2 ⟨u, rfl, hu, hb⟩
                obtain ⟨Au, cu, rfl, _, _, _⟩ := Rep.val_list hu
                have VZ := Lib.hid (Rep.val_mono (Q' := fun q => w6.heap.size ≤ q) (fun q hq _ => Nat.le_trans (Below.size t1) hq) hu)
                clear hu
                have t2 : Below w6.heap.size w6 v2 := Below.trans t1 (hb.mono (Below.size t1))
                refine hK _ _ ⟨t2, ?_⟩
                clear hb
                clear hK K
                refine wpAnyH_all (rs := [9]) (by kernel_rfl) (by simp) ?_
                intro i hi
                obtain rfl : i = 9 := by simpa using hi
                clear hi
                refine wpOp_step rfl (fun K hK => ?_)
                go_simp
                obtain ⟨X, hX⟩ : ∃ X, X = v2.heap.size := ⟨_, rfl⟩
                have hbx : Below v2.heap.size v2 (v2.alloc (.cells #[.slice none 0 0, .int .i64 0, .int .i64 0, .int .i64 0] 69)) := (Below.refl _ _).alloc (Nat.le_refl _) _
                have hrow : (v2.alloc (.cells #[.slice none 0 0, .int .i64 0, .int .i64 0, .int .i64 0] 69)).heap[X]? = some (.cells #[.slice none 0 0, .int .i64 0, .int .i64 0, .int .i64 0] 69 (0, 0)) := by rw [hX]; exact heap_alloc_new _ _
                have hXb : w6.heap.size ≤ X := by rw [hX]; exact Below.size t2
                have t3 : Below w6.heap.size w6 (v2.alloc (.cells #[.slice none 0 0, .int .i64 0, .int .i64 0, .int .i64 0] 69)) := Below.trans t2 (hbx.mono (Below.size t2))
                have VZ := Lib.hid (Rep.val_keep (Q' := fun q => w6.heap.size ≤ q ∧ q ≠ X) (fun k hk hl => ⟨⟨hk, by rw [hX]; exact Nat.ne_of_lt hl.lt⟩, hbx.block k hl.lt⟩) VZ.out)
                rw [← hX]
                clear hbx hX
                generalize v2.alloc (.cells #[.slice none 0 0, .int .i64 0, .int .i64 0, .int .i64 0] 69) = v3 at *
                refine hK _ _ ⟨t3, ?_⟩
                clear hK K
                exact KEY.out X Au cu v3 ⟨t3, hrow, hXb, VZ.out⟩
              · skip
                refine wpOp_step rfl (fun K hK => ?_)
                go_simp
                obtain ⟨X, hX⟩ : ∃ X, X = v1.heap.size := ⟨_, rfl⟩
                have hbx : Below v1.heap.size v1 (v1.alloc (.cells #[.slice none 0 0, .int .i64 0, .int .i64 0, .int .i64 0] 69)) := (Below.refl _ _).alloc (Nat.le_refl _) _
                have hrow : (v1.alloc (.cells #[.slice none 0 0, .int .i64 0, .int .i64 0, .int .i64 0] 69)).heap[X]? = some (.cells #[.slice none 0 0, .int .i64 0, .int .i64 0, .int .i64 0] 69 (0, 0)) := by rw [hX]; exact heap_alloc_new _ _
                have hXb : w6.heap.size ≤ X := by rw [hX]; exact Below.size t1
                have t4 : Below w6.heap.size w6 (v1.alloc (.cells #[.slice none 0 0, .int .i64 0, .int .i64 0, .int .i64 0] 69)) := Below.trans t1 (hbx.mono (Below.size t1))
                rw [← hX]
                clear hbx hX
                generalize v1.alloc (.cells #[.slice none 0 0, .int .i64 0, .int .i64 0, .int .i64 0] 69) = v4 at *
                refine hK _ _ ⟨t4, ?_⟩
                clear hK K
                refine wpAnyH_all (rs := [8]) (by kernel_rfl) (by simp) ?_
                intro i hi
                obtain rfl : i = 8 := by simpa using hi
                clear hi
                refine wpOp_step rfl (fun K hK => ?_)
                go_simp
                refine (scan_calls (HBOX.out _ (B6.out.trans (Below.mono t4 B6.out.size))).val (HV6.out _ t4) HOKS.out HI.out.head HI.out.top HI.out.room (by have := HCG.out; omega) HI.out.one.1 (by have := HI.out.one; have := HI.out.seq; omega) (by have := HWL.out; have := HFL.out; omega)).mono ?_
                rintro e v5 ⟨u, rfl, hu, hb⟩
                obtain ⟨Au, cu, rfl, _, _, _⟩ := Rep.val_list hu
                have VZ := Lib.hid (Rep.val_mono (Q' := fun q => w6.heap.size ≤ q ∧ q ≠ X) (fun q hq _ => ⟨Nat.le_trans (Below.size t4) hq, fun e => by have h1 : v4.heap.size ≤ q := hq; have := IsC.lt ⟨_, _, _, hrow⟩; omega⟩) hu)
                clear hu
                have hrow := (hb.block X (IsC.lt ⟨_, _, _, hrow⟩)).trans hrow
                have t5 : Below w6.heap.size w6 v5 := Below.trans t4 (hb.mono (Below.size t4))
                refine hK _ _ ⟨t5, ?_⟩
                clear hb
                clear hK K
                exact KEY.out X Au cu v5 ⟨t5, hrow, hXb, VZ.out⟩
            · skip
              refine wpOp_step rfl (fun K hK => ?_)
              go_simp
              obtain ⟨X, hX⟩ : ∃ X, X = v0.heap.size := ⟨_, rfl⟩
              have hbx : Below v0.heap.size v0 (v0.alloc (.cells #[.slice none 0 0, .int .i64 0, .int .i64 0, .int .i64 0] 69)) := (Below.refl _ _).alloc (Nat.le_refl _) _
              have hrow : (v0.alloc (.cells #[.slice none 0 0, .int .i64 0, .int .i64 0, .int .i64 0] 69)).heap[X]? = some (.cells #[.slice none 0 0, .int .i64 0, .int .i64 0, .int .i64 0] 69 (0, 0)) := by rw [hX]; exact heap_alloc_new _ _
              have hXb : w6.heap.size ≤ X := by rw [hX]; exact Below.size t0
              have t6 : Below w6.heap.size w6 (v0.alloc (.cells #[.slice none 0 0, .int .i64 0, .int .i64 0, .int .i64 0] 69)) := Below.trans t0 (hbx.mono (Below.size t0))
              rw [← hX]
              clear hbx hX
              generalize v0.alloc (.cells #[.slice none 0 0, .int .i64 0, .int .i64 0, .int .i64 0] 69) = v6 at *
              refine hK _ _ ⟨t6, ?_⟩
              clear hK K
              refine wpAnyH_all (rs := [3]) (by kernel_rfl) (by simp) ?_
              intro i hi
              obtain rfl : i = 3 := by simpa using hi
              clear hi
              refine wpOp_step rfl (fun K hK => ?_)
              go_simp
              refine (whead_calls (HL6.out.below t6)).mono ?_
              rintro e v7 ⟨rfl, hb⟩
              have hrow := (hb.block X (IsC.lt ⟨_, _, _, hrow⟩)).trans hrow
              have t7 : Below w6.heap.size w6 v7 := Below.trans t6 (hb.mono (Below.size t6))
              refine hK _ _ ⟨t7, ?_⟩
              clear hb
              clear hK K
              refine wpAnyH_all (rs := [8]) (by kernel_rfl) (by simp) ?_
              intro i hi
              obtain rfl : i = 8 := by simpa using hi
              clear hi
              refine wpOp_step rfl (fun K hK => ?_)
              go_simp
              refine (scan_calls (HBOX.out _ (B6.out.trans (Below.mono t7 B6.out.size))).val (HV6.out _ t7) HOKS.out HI.out.head HI.out.top HI.out.room (by have := HCG.out; omega) HI.out.one.1 (by have := HI.out.one; have := HI.out.seq; omega) (by have := HWL.out; have := HFL.out; omega)).mono ?_
              rintro e v8 ⟨u, rfl, hu, hb⟩
              obtain ⟨Au, cu, rfl, _, _, _⟩ := Rep.val_list hu
              have VZ := Lib.hid (Rep.val_mono (Q' := fun q => w6.heap.size ≤ q ∧ q ≠ X) (fun q hq _ => ⟨Nat.le_trans (Below.size t7) hq, fun e => by have h1 : v7.heap.size ≤ q := hq; have := IsC.lt ⟨_, _, _, hrow⟩; omega⟩) hu)
              clear hu
              have hrow := (hb.block X (IsC.lt ⟨_, _, _, hrow⟩)).trans hrow
              have t8 : Below w6.heap.size w6 v8 := Below.trans t7 (hb.mono (Below.size t7))
              refine hK _ _ ⟨t8, ?_⟩
              clear hb
              clear hK K
              exact KEY.out X Au cu v8 ⟨t8, hrow, hXb, VZ.out⟩
          · rintro X Au cu W hW
            have HW := Lib.hid hW
            refine wpAnyH_all (rs := [10]) (by kernel_rfl) (by simp) ?_
            intro i hi
            obtain rfl : i = 10 := by simpa using hi
            clear hi
            have hx := hW.row
            clear hW
            have e0 := cell_row hx 0
            have e1 := cell_row hx 1
            have e2 := cell_row hx 2
            have e3 := cell_row hx 3
            have z0 := frozen_row hx 0
            have z1 := frozen_row hx 1
            have z2 := frozen_row hx 2
            have z3 := frozen_row hx 3
            refine wpOp_step rfl (fun K hK => ?_)
            go_simp
            clear e0 e1 e2 e3 z0 z1 z2 z3
            have hsq := HI.out.seq
            rw [← hsq]
            clear hsq hx
            obtain ⟨WE, hWE⟩ : ∃ WE, WE = tail4 W X (.slice Au want.length cu) (.int .i64 x.tail) (.int .i64 (ep + 1)) (.int .i64 x.seq) := ⟨_, rfl⟩
            have hk2 : ∀ k, k ≠ X → WE.heap[k]? = W.heap[k]? := fun k hk => by rw [hWE]; exact tail4_keep hk
            have HROW := Lib.hid (show WE.heap[X]? = some (.cells #[.slice Au want.length cu, .int .i64 x.tail, .int .i64 (ep + 1), .int .i64 x.seq] 69 (0, 0)) by rw [hWE]; exact row4_tail HW.out.row)
            have HBE := Lib.hid (show Below w6.heap.size w6 WE by rw [hWE]; exact tail4_below HW.out.bel HW.out.big)
            have HVE := Lib.hid (show Rep.byte.list.list.val (fun b => w6.heap.size ≤ b) WE (.slice Au want.length cu) want from Rep.val_keep (fun k hk _ => ⟨hk.1, hk2 k hk.2⟩) HW.out.val)
            unfold tail4 at hWE
            rw [← hWE]
            clear hk2 hWE HW
            refine hK _ _ ⟨HBE.out, ?_⟩
            clear hK K s0
            refine wpAnyH_done (by kernel_rfl) ?_ _
            have HSE := Lib.hid (B6.out.trans (HBE.out.mono B6.out.size))
            have HUW := Lib.hid (show ∀ V, Below WE.heap.size WE V → Rep.byte.list.list.val (fun b => w6.heap.size ≤ b) V (.slice Au want.length cu) want from fun V h => Rep.val_keep (fun b hb hl => ⟨hb, h.block b hl.lt⟩) HVE.out)
            have HWW := Lib.hid (show ∀ V, Below WE.heap.size WE V → Rep.byte.list.list.val _ V u13 want from fun V h => Rep.acc_val (Rep.acc_later HWA.out (HBE.out.trans (h.mono HBE.out.size))))
            have HLW := Lib.hid (show ∀ V, Below WE.heap.size WE V → LogW V L P A2 cap2 G c x from fun V h => HL6.out.below (HBE.out.trans (h.mono HBE.out.size)))
            go_wp2_with fail
            refine wp_region_held_drew (S := fun W => Below WE.heap.size WE W) (by kernel_rfl) ((Below.refl _ _).drew) (fun s0 => ?_)
            obtain ⟨v0, hv0⟩ : ∃ V, V = WE.drew := ⟨_, rfl⟩
            rw [← hv0] at s0 ⊢
            have t0 : Below WE.heap.size WE v0 := s0
            clear hv0
            refine wpAnyH_take (i := 0) (v := .pointer (some ⟨X, 0, none⟩)) rfl (by kernel_rfl) (by kernel_rfl) (by kernel_rfl) (fun _ _ _ h => h) (Or.inl ⟨by rfl, fun w' _ => by go_simp <;> omega⟩) t0 ?_
            go_simp
            refine wpAnyH_take (i := 1) (v := .slice Au want.length cu) rfl (by kernel_rfl) (by kernel_rfl) (by kernel_rfl) (fun _ _ _ h => h) (Or.inl ⟨by rfl, fun w' h => by have hxx := ((h : Below WE.heap.size WE w').block X (IsC.lt ⟨_, _, _, HROW.out⟩)).trans HROW.out; have c0 := cell_row hxx 0; have c1 := cell_row hxx 1; have c2 := cell_row hxx 2; have c3 := cell_row hxx 3; go_simp⟩) t0 ?_
            go_simp
            refine wpAnyH_take (i := 2) (v := u13) rfl (by kernel_rfl) (by kernel_rfl) (by kernel_rfl) (fun _ _ _ h => h) (Or.inl ⟨by rfl, fun w' _ => by go_simp <;> omega⟩) t0 ?_
            go_simp
            refine wpAnyH_all (rs := [3]) (by kernel_rfl) (by simp) ?_
            intro i hi
            obtain rfl : i = 3 := by simpa using hi
            clear hi
            refine wpOp_step rfl (fun K hK => ?_)
            go_simp
            refine (samePieces (HUW.out _ t0) (HWW.out _ t0)).mono ?_
            rintro e v101 ⟨rfl, n101, rfl⟩
            rw [decide_eq_true rfl]
            have t101 := below_drewN t0 n101
            refine hK _ _ ⟨t101, ?_⟩
            clear hK K
            refine wpAnyH_take (i := 4) (v := .bool true) rfl (by kernel_rfl) (by kernel_rfl) (by kernel_rfl) (fun _ _ _ h => h) (Or.inl ⟨by rfl, fun w' _ => by go_simp <;> omega⟩) t101 ?_
            go_simp
            refine wpAnyH_take (i := 5) (v := .pointer (some ⟨X, 1, none⟩)) rfl (by kernel_rfl) (by kernel_rfl) (by kernel_rfl) (fun _ _ _ h => h) (Or.inl ⟨by rfl, fun w' _ => by go_simp <;> omega⟩) t101 ?_
            go_simp
            refine wpAnyH_take (i := 6) (v := .int .i64 x.tail) rfl (by kernel_rfl) (by kernel_rfl) (by kernel_rfl) (fun _ _ _ h => h) (Or.inl ⟨by rfl, fun w' h => by have hxx := ((h : Below WE.heap.size WE w').block X (IsC.lt ⟨_, _, _, HROW.out⟩)).trans HROW.out; have c0 := cell_row hxx 0; have c1 := cell_row hxx 1; have c2 := cell_row hxx 2; have c3 := cell_row hxx 3; go_simp⟩) t101 ?_
            go_simp
            refine wpAnyH_take (i := 7) (v := .pointer (some ⟨L, 0, none⟩)) rfl (by kernel_rfl) (by kernel_rfl) (by kernel_rfl) (fun _ _ _ h => h) (Or.inl ⟨by rfl, fun w' _ => by go_simp <;> omega⟩) t101 ?_
            go_simp
            refine wpAnyH_all (rs := [8]) (by kernel_rfl) (by simp) ?_
            intro i hi
            obtain rfl : i = 8 := by simpa using hi
            clear hi
            refine wpOp_step rfl (fun K hK => ?_)
            go_simp
            refine (wtail_calls (HLW.out _ t101)).mono ?_
            rintro e v102 ⟨rfl, hb⟩
            have t102 : Below WE.heap.size WE v102 := Below.trans t101 (hb.mono (Below.size t101))
            clear hb
            refine hK _ _ ⟨t102, ?_⟩
            clear hK K
            refine wpAnyH_take (i := 9) (v := .bool true) rfl (by kernel_rfl) (by kernel_rfl) (by kernel_rfl) (fun _ _ _ h => h) (Or.inl ⟨by rfl, fun w' _ => by go_simp <;> omega⟩) t102 ?_
            go_simp
            refine wpAnyH_take (i := 10) (v := .bool true) rfl (by kernel_rfl) (by kernel_rfl) (by kernel_rfl) (fun _ _ _ h => h) (Or.inl ⟨by rfl, fun w' _ => by go_simp <;> omega⟩) t102 ?_
            go_simp
            refine wpAnyH_take (i := 11) (v := .bool true) rfl (by kernel_rfl) (by kernel_rfl) (by kernel_rfl) (fun _ _ _ h => h) (Or.inl ⟨by rfl, fun w' _ => by go_simp <;> omega⟩) t102 ?_
            go_simp
            refine wpAnyH_take (i := 12) (v := .pointer (some ⟨X, 3, none⟩)) rfl (by kernel_rfl) (by kernel_rfl) (by kernel_rfl) (fun _ _ _ h => h) (Or.inl ⟨by rfl, fun w' _ => by go_simp <;> omega⟩) t102 ?_
            go_simp
            refine wpAnyH_take (i := 13) (v := .int .i64 x.seq) rfl (by kernel_rfl) (by kernel_rfl) (by kernel_rfl) (fun _ _ _ h => h) (Or.inl ⟨by rfl, fun w' h => by have hxx := ((h : Below WE.heap.size WE w').block X (IsC.lt ⟨_, _, _, HROW.out⟩)).trans HROW.out; have c0 := cell_row hxx 0; have c1 := cell_row hxx 1; have c2 := cell_row hxx 2; have c3 := cell_row hxx 3; go_simp⟩) t102 ?_
            go_simp
            refine wpAnyH_take (i := 14) (v := .pointer (some ⟨L, 0, none⟩)) rfl (by kernel_rfl) (by kernel_rfl) (by kernel_rfl) (fun _ _ _ h => h) (Or.inl ⟨by rfl, fun w' _ => by go_simp <;> omega⟩) t102 ?_
            go_simp
            refine wpAnyH_all (rs := [15]) (by kernel_rfl) (by simp) ?_
            intro i hi
            obtain rfl : i = 15 := by simpa using hi
            clear hi
            refine wpOp_step rfl (fun K hK => ?_)
            go_simp
            refine (wseq_calls (HLW.out _ t102)).mono ?_
            rintro e v103 ⟨rfl, hb⟩
            have t103 : Below WE.heap.size WE v103 := Below.trans t102 (hb.mono (Below.size t102))
            clear hb
            refine hK _ _ ⟨t103, ?_⟩
            clear hK K
            refine wpAnyH_take (i := 16) (v := .bool true) rfl (by kernel_rfl) (by kernel_rfl) (by kernel_rfl) (fun _ _ _ h => h) (Or.inl ⟨by rfl, fun w' _ => by go_simp <;> omega⟩) t103 ?_
            go_simp
            refine wpAnyH_take (i := 17) (v := .bool true) rfl (by kernel_rfl) (by kernel_rfl) (by kernel_rfl) (fun _ _ _ h => h) (Or.inl ⟨by rfl, fun w' _ => by go_simp <;> omega⟩) t103 ?_
            go_simp
            refine wpAnyH_take (i := 18) (v := .bool true) rfl (by kernel_rfl) (by kernel_rfl) (by kernel_rfl) (fun _ _ _ h => h) (Or.inl ⟨by rfl, fun w' _ => by go_simp <;> omega⟩) t103 ?_
            go_simp
            refine wpAnyH_all (rs := [19]) (by kernel_rfl) (by simp) ?_
            intro i hi
            obtain rfl : i = 19 := by simpa using hi
            clear hi
            refine wpOp_step rfl (fun K hK => ?_)
            go_simp
            refine (live19_calls _).mono ?_
            rintro e v104 ⟨rfl, hb⟩
            have t104 : Below WE.heap.size WE v104 := Below.trans t103 (hb.mono (Below.size t103))
            clear hb
            refine hK _ _ ⟨t104, ?_⟩
            clear hK K
            refine wpAnyH_take (i := 20) (v := .bool true) rfl (by kernel_rfl) (by kernel_rfl) (by kernel_rfl) (fun _ _ _ h => h) (Or.inl ⟨by rfl, fun w' _ => by go_simp <;> omega⟩) t104 ?_
            go_simp
            refine wpAnyH_take (i := 21) (v := .bool true) rfl (by kernel_rfl) (by kernel_rfl) (by kernel_rfl) (fun _ _ _ h => h) (Or.inl ⟨by rfl, fun w' _ => by go_simp <;> omega⟩) t104 ?_
            go_simp
            refine wpAnyH_done (by kernel_rfl) ?_ _
            have HV := Lib.hid t104
            go_wp2_with fail
            go_ret
            exact ⟨rfl, HEND.out _ (HSE.out.trans (HV.out.mono HSE.out.size))⟩
end Go.Proofs.Yteljibjbndpncaa
