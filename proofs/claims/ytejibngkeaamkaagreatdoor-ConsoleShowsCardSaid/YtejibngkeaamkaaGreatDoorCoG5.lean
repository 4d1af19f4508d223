/- Texts on which the proofs stand: CCrashWords, CShow, CPlain. No condition is laid on any input. -/
import Derived.Test.YtejibngkeaamkaaGreatDoorCoG3
import Derived.Test.YtejibngkeaamkaaGreatDoorCoG4
namespace Go.Proofs.YtejibngkeaamkaaGreatDoor
open Go.RowKit

theorem text_acc {Q : Nat → Prop} {W : World} {B e base : Nat} (l : List (List UInt8)) (h : W.heap[B]? = some (.cells (l.map fun x => Value.string ⟨x.toArray⟩).toArray e (0, 0))) (hl : ∀ x ∈ l, x.length ≤ maxLen) (hn : l.length ≤ maxLen) (hB : base ≤ B) :
    Rep.text.acc e base Q W (.slice (some ⟨B, 0, none⟩) l.length l.length) l := by
  refine ⟨_, ⟨?_, .inr ⟨B, l.length, _, rfl, hB, h, Nat.le_refl _, hn, ?_, rfl⟩⟩, ?_⟩
  · simp [show Rep.text.size = 1 from rfl]
  · simp [show Rep.text.size = 1 from rfl]
  · rw [show l.length * Rep.text.size = (l.map fun x => Value.string ⟨x.toArray⟩).length by simp [show Rep.text.size = 1 from rfl]]
    rw [List.toList_toArray, List.take_length]
    exact text_row l hl
theorem text_mk {Q : Nat → Prop} {w : World} {b : ByteArray} {l : List UInt8} (h : b.data.toList = l) (hl : l.length ≤ maxLen) : Rep.text.val Q w (.string b) l := by
  rw [bytes_eq h]
  exact ⟨_, rfl, rfl, hl⟩
theorem infoStr : (Tryz.prog.info? 9).map (fun i => (i.zero, i.size, i.bytes)) = some (some (.string ⟨#[]⟩), 1, 16) := by kernel_rfl
theorem fate_len {f : DFate} (h : In64 f.kept ∧ In64 f.torn) : (fateS f).length ≤ 50 := by
  have h1 := (itoa_len h.1).1
  have h2 := (itoa_len h.2).1
  unfold fateS
  simp; omega

set_option maxRecDepth 100000 in
set_option maxHeartbeats 8000000 in
/-- console.crash -/
theorem crashWords_calls {Q : Nat → Prop} {w : World} {v : Value} {x : DAct} (hx : rAct.val Q w v x) (ht : Tabs w) (hf : x.fates.length ≤ 100000) (hu : x.fuses.length ≤ 100000) :
    Calls Tryz.prog 49 #[v] w (WordsAns w (crashS x)) := by
  have HT := Lib.hid ht
  have HFL := Lib.hid hf
  have HUL := Lib.hid hu
  obtain ⟨A1, c1, A2, c2, A3, c3, rfl, f0, f1, f2, f3, f4, s1, f5, f6, f7, s2, s3⟩ := rAct_val hx
  have HAF := Lib.hid s2
  have HAU := Lib.hid s3
  clear hx ht s1 s2 s3 f0 f1 f2 f3 f4 f5 f6 f7
  obtain ⟨W0, hW0⟩ : ∃ W, (w.alloc (.cells #[.int .i64 x.kind, .int .i64 x.cmd.kind, .bool x.cmd.loc, .int .i64 x.cmd.id.index, .int .i64 x.cmd.id.gen, .int .i64 x.cmd.comp, .slice A1 x.cmd.data.length c1, .int .i64 x.policy.room, .int .i64 x.policy.frames, .int .i64 x.n, .slice A2 x.fates.length c2, .slice A3 x.fuses.length c3] 35)) = W := ⟨_, rfl⟩
  have hz0 : W0.heap.size = w.heap.size + 1 := by rw [← hW0]; simp
  have hb0 : Below w.heap.size w W0 := by rw [← hW0]; exact (Below.refl _ _).alloc (Nat.le_refl _) _
  have HZ := Lib.hid hz0
  have HB0 := Lib.hid hb0
  have R0_0 := Lib.hid (show W0.heap[w.heap.size]? = some (.cells #[.int .i64 x.kind, .int .i64 x.cmd.kind, .bool x.cmd.loc, .int .i64 x.cmd.id.index, .int .i64 x.cmd.id.gen, .int .i64 x.cmd.comp, .slice A1 x.cmd.data.length c1, .int .i64 x.policy.room, .int .i64 x.policy.frames, .int .i64 x.n, .slice A2 x.fates.length c2, .slice A3 x.fuses.length c3] 35 (0, 0)) by rw [← hW0]; exact alloc_at rfl)
  have O0 := Lib.hid (Only.refl (Box w 1) W0)
  have HFT := Lib.hid (show ∀ V, Below W0.heap.size W0 V → rFate.At Q V A2 x.fates from fun V h => Rep.At.keep (w := w) (fun b hb hl => ⟨hb, (hb0.trans (h.mono hb0.size)).block b hl.lt⟩) HAF.out.2.2)
  have HUT := Lib.hid (show ∀ V, Below W0.heap.size W0 V → (Rep.int .i64).At Q V A3 x.fuses from fun V h => Rep.At.keep (w := w) (fun b hb hl => ⟨hb, (hb0.trans (h.mono hb0.size)).block b hl.lt⟩) HAU.out.2.2)
  have hc2 := HAF.out.1
  have hc2m := HAF.out.2.1
  have hc3 := HAU.out.1
  have hc3m := HAU.out.2.1
  unfold maxLen at hc2m hc3m
  have HACC0 := Lib.hid (show Rep.text.acc 9 W0.heap.size (fun _ => False) (W0.alloc (.cells #[.string ⟨#[99, 114, 97, 115, 104]⟩] 9)) (.slice (some ⟨W0.heap.size, 0, none⟩) 1 1) [wCrash] from text_acc (W := W0.alloc (.cells #[.string ⟨#[99, 114, 97, 115, 104]⟩] 9)) [wCrash] (alloc_at rfl) (by simp [wCrash, maxLen]) (by simp [maxLen]) (Nat.le_refl _))
  have HB1 := Lib.hid (show Below W0.heap.size W0 (W0.alloc (.cells #[.string ⟨#[99, 114, 97, 115, 104]⟩] 9)) from (Below.refl _ _).alloc (Nat.le_refl _) _)
  have k1 : (W0.alloc (.cells #[.string ⟨#[99, 114, 97, 115, 104]⟩] 9)).heap[w.heap.size]? = some (.cells #[.int .i64 x.kind, .int .i64 x.cmd.kind, .bool x.cmd.loc, .int .i64 x.cmd.id.index, .int .i64 x.cmd.id.gen, .int .i64 x.cmd.comp, .slice A1 x.cmd.data.length c1, .int .i64 x.policy.room, .int .i64 x.policy.frames, .int .i64 x.n, .slice A2 x.fates.length c2, .slice A3 x.fuses.length c3] 35 (0, 0)) := alloc_old (R0_0.out)
  have k1_0 := rw12 k1
  clear k1
  have k2 : (W0.alloc (.cells #[.string ⟨#[99, 114, 97, 115, 104]⟩] 9)).heap[W0.heap.size]? = some (.cells #[.string ⟨#[99, 114, 97, 115, 104]⟩] 9 (0, 0)) := alloc_at rfl
  have k2_0 := rw1 k2
  clear k2
  clear hz0 hb0
  have q0_0 := rw12 R0_0.out
  go_enter Tryz.func49, Tryz.ntmps49
  go_wp2_with fail
  try rw [hW0]
  clear hW0
  try go_wp2_with fail
  clear k1_0 k2_0 q0_0
  go_loopw [3, 12] (fun u i wr => ∃ k : Nat, i = .int .i64 k ∧ k ≤ x.fates.length ∧ Hid (Rep.text.acc 9 W0.heap.size (fun _ => False) wr u (wCrash :: (x.fates.take k).map fateS)) ∧ Hid (Below W0.heap.size W0 wr)) (fun _ i _ => x.fates.length - (intOf i).toNat)
  case atStart => exact ⟨0, rfl, Nat.zero_le _, HACC0, HB1⟩
  case round =>
    rename_i u _
    obtain ⟨k, rfl, hk, HACC, HBR⟩ := hrel
    by_cases hlt : (k : Int) < x.fates.length
    · obtain ⟨y, hy⟩ : ∃ y, x.fates[k]? = some y := ⟨_, List.getElem?_eq_getElem (by omega)⟩
      obtain ⟨b, off, hAe, _, e0, e1, hw0, hw1⟩ := rFate_at (HFT.out _ HBR.out) hy
      have HY := Lib.hid hy
      have HIN := Lib.hid (show In64 y.kept ∧ In64 y.torn from ⟨in_wf hw0, in_wf hw1⟩)
      subst hAe
      obtain ⟨A8, c8, rfl, h81, h82⟩ := Rep.acc_form HACC.out
      unfold maxLen at h82
      have hl1 : ((Lib.itoa y.kept).length : Int) ≤ 20 := by have := (itoa_len HIN.out.1).1; omega
      have hl2 : ((Lib.itoa y.torn).length : Int) ≤ 20 := by have := (itoa_len HIN.out.2).1; omega
      obtain ⟨n8, hn8⟩ : ∃ n, (wCrash :: (x.fates.take k).map fateS).length = n := ⟨_, rfl⟩
      have HN8 := Lib.hid (show n8 ≤ 100001 by rw [← hn8]; simp; have := HFL.out; omega)
      rw [hn8] at HACC h81 ⊢
      obtain ⟨xs, hxs⟩ : ∃ xs, wCrash :: (x.fates.take k).map fateS = xs := ⟨_, rfl⟩
      rw [hxs] at hn8 HACC
      have HXS := Lib.hid hxs
      have HNX := Lib.hid hn8
      clear hy hw0 hw1 hn8 hxs
      go_wp2_with fail
      refine nm_region (fun W1 hW1 => ?_)
      have R1 := Lib.hid (show W1.heap[wr.heap.size]? = some (.cells #[.int .i64 y.kept, .int .i64 y.torn] 65 (0, 0)) by rw [hW1]; exact alloc_at rfl)
      have B1 := Lib.hid (show Below wr.heap.size wr W1 by rw [hW1]; exact (Below.refl _ _).alloc (Nat.le_refl _) _)
      clear hW1 e0 e1
      refine wp_region_tail (S := fun W => Below W1.heap.size W1 W) (T := [10, 11]) (by kernel_rfl) ((Below.refl _ _).drew) (fun s0 => ?_)
      obtain ⟨u0, hu0⟩ : ∃ V, V = W1.drew := ⟨_, rfl⟩
      rw [← hu0] at s0 ⊢
      have t0 : Below W1.heap.size W1 u0 := s0
      clear hu0 s0
      refine tkTV (i := 0) (v := .slice A8 n8 c8) rfl t0 ?_
      go_simp
      refine tkTV (i := 1) (v := .pointer (some ⟨wr.heap.size, 0, none⟩)) rfl t0 ?_
      go_simp
      refine tkT (i := 2) (v := .int .i64 y.kept) rfl (Or.inl ⟨by rfl, fun w' h => by have e := row_call (h : Below W1.heap.size W1 w') R1.out; have e0 := cell_row e 0; have e1 := cell_row e 1; go_simp⟩) t0 ?_
      go_simp
      refine tkTV (i := 5) (v := .pointer (some ⟨wr.heap.size, 1, none⟩)) rfl t0 ?_
      go_simp
      refine tkT (i := 6) (v := .int .i64 y.torn) rfl (Or.inl ⟨by rfl, fun w' h => by have e := row_call (h : Below W1.heap.size W1 w') R1.out; have e0 := cell_row e 0; have e1 := cell_row e 1; go_simp⟩) t0 ?_
      go_simp
      refine wpAnyT_one (i := 3) rfl (by kernel_rfl) rfl (fun K hK => ?_)
      go_simp
      refine (itoa_calls HIN.out.1 (HT.out.call ((Only.fin HB0.out O0.out).trans (Below.mono (HBR.out.trans ((B1.out.trans (Below.mono t0 B1.out.size)).mono HBR.out.size)) (Only.fin HB0.out O0.out).size)))).mono ?_
      rintro e u1 ⟨rfl, hb⟩
      have t1 : Below W1.heap.size W1 u1 := Below.trans t0 (hb.mono (Below.size t0))
      refine hK _ _ ⟨t1, ?_⟩
      clear hb
      clear hK K
      refine tkTV (i := 4) (v := .string (⟨(Lib.itoa y.kept).toArray⟩ ++ ⟨#[58]⟩)) rfl t1 ?_
      go_simp
      refine wpAnyT_one (i := 7) rfl (by kernel_rfl) rfl (fun K hK => ?_)
      go_simp
      refine (itoa_calls HIN.out.2 (HT.out.call ((Only.fin HB0.out O0.out).trans (Below.mono (HBR.out.trans ((B1.out.trans (Below.mono t1 B1.out.size)).mono HBR.out.size)) (Only.fin HB0.out O0.out).size)))).mono ?_
      rintro e u2 ⟨rfl, hb⟩
      have t2 : Below W1.heap.size W1 u2 := Below.trans t1 (hb.mono (Below.size t1))
      refine hK _ _ ⟨t2, ?_⟩
      clear hb
      clear hK K
      refine tkTV (i := 8) (v := .string ((⟨(Lib.itoa y.kept).toArray⟩ ++ ⟨#[58]⟩) ++ ⟨(Lib.itoa y.torn).toArray⟩)) rfl t2 ?_
      go_simp
      refine wpAnyT_one (i := 9) rfl (by kernel_rfl) rfl (fun K hK => ?_)
      have HAC := Lib.hid (show Rep.text.acc 9 W0.heap.size (fun _ => False) u2 (.slice A8 n8 c8) xs from Rep.acc_later HACC.out (B1.out.trans (Below.mono t2 B1.out.size)))
      have HBW := Lib.hid (show Below W0.heap.size W0 u2 from HBR.out.trans ((B1.out.trans (Below.mono t2 B1.out.size)).mono HBR.out.size))
      have HLN := Lib.hid (show xs.length + 1 ≤ maxLen ∧ (xs.length + 1) * 16 ≤ 140737488355328 by rw [HNX.out]; have := HN8.out; unfold maxLen; omega)
      go_simp
      refine hK _ _ ⟨Below.alloc t2 (Below.size t2) _, ?_⟩
      clear hK K
      refine wpAnyT_last (i := 10) rfl (by kernel_rfl) rfl (fun K hK => ?_)
      refine step_snoc2 (w := u2) rfl _ _ 59 rfl (.string ⟨#[]⟩) 1 16 Tryz.underlying59 infoStr rfl (by decide) rfl _ xs (by exact rfl) HAC.out (fateS y) (Value.string (ByteArray.mk (Lib.itoa y.kept).toArray ++ ByteArray.mk #[58] ++ ByteArray.mk (Lib.itoa y.torn).toArray)) (text_mk (by unfold fateS; simp [ByteArray.data_append]) (by have := fate_len HIN.out; unfold maxLen; omega)) (by exact rfl) HLN.out.1 HLN.out.2 HBW.out.size ?_
      intro v7 w7 hacc7 hgr7 _
      have HA7 := Lib.hid (show Rep.text.acc 9 W0.heap.size (fun _ => False) w7 v7 (wCrash :: (x.fates.take (k + 1)).map fateS) by rw [List.take_add_one, HY.out, List.map_append, ← List.cons_append, HXS.out]; exact hacc7)
      have HB7 := Lib.hid (show Below W0.heap.size W0 w7 from Rep.acc_below HAC.out HBW.out hgr7 HBW.out.size)
      go_simp
      refine hK _ _ ?_
      clear hK K hacc7 hgr7
      refine tk0 (i := 11) (v := v7) rfl (Or.inl ⟨by rfl, fun w' _ => by go_simp <;> omega⟩) ?_
      go_simp
      refine wpAnyT_done (by kernel_rfl) ?_ _
      go_wp2_with fail
      exact ⟨⟨k + 1, by go_num, by omega, HA7, HB7⟩, by simp [intOf]; omega⟩
    · obtain rfl : k = x.fates.length := by omega
      rw [List.take_length] at HACC
      obtain ⟨xs, hxs⟩ : ∃ xs, wCrash :: x.fates.map fateS = xs := ⟨_, rfl⟩
      rw [hxs] at HACC
      have HXS := Lib.hid hxs
      have HNX := Lib.hid (show xs.length ≤ 100001 by rw [← hxs]; simp; have := HFL.out; omega)
      clear hxs
      obtain ⟨A8, c8, rfl, h81, h82⟩ := Rep.acc_form HACC.out
      unfold maxLen at h82
      by_cases hfu : x.fuses = []
      · have hl0 : x.fuses.length = 0 := by rw [hfu]; rfl
        have HFU := Lib.hid hfu
        have hl0b : (x.fuses.length : Int) = 0 := by omega
        have q10 : World.cell? wr ⟨w.heap.size, 10, none⟩ = some (.slice A2 x.fates.length c2) := cell_row (row_call HBR.out R0_0.out) 10
        have q11 : World.cell? wr ⟨w.heap.size, 11, none⟩ = some (.slice A3 x.fuses.length c3) := cell_row (row_call HBR.out R0_0.out) 11
        clear hfu
        go_wp2_with fail
        clear q10 q11
        go_loopw [3, 38] (fun u i wz => ∃ j : Nat, i = .int .i64 j ∧ j ≤ x.fuses.length ∧ Hid (Rep.text.acc 9 W0.heap.size (fun _ => False) wz u (xs ++ (x.fuses.take j).map Lib.itoa)) ∧ Hid (Below W0.heap.size W0 wz)) (fun _ i _ => x.fuses.length - (intOf i).toNat)
        case atStart => exact ⟨0, rfl, Nat.zero_le _, Lib.hid (by simpa using HACC.out), HBR⟩
        case round =>
          rename World => wz
          rename Value => u9
          obtain ⟨j, rfl, hj, HACC2, HBR2⟩ := hrel
          by_cases hlt2 : (j : Int) < x.fuses.length
          · exfalso; omega
          · obtain rfl : j = x.fuses.length := by omega
            rw [List.take_length] at HACC2
            go_wp2_with fail
            go_ret
            refine ⟨_, rfl, ?_, (Only.fin HB0.out O0.out).trans (HBR2.out.mono (Only.fin HB0.out O0.out).size)⟩
            have h0 := Rep.acc_fresh HACC2.out
            have h1 : crashS x = xs ++ x.fuses.map Lib.itoa := by unfold crashS; rw [if_pos HFU.out, List.append_nil, ← HXS.out]; rfl
            rw [h1]
            exact Rep.val_mono (fun b hb _ => Nat.le_trans (Only.fin HB0.out O0.out).size hb) h0
      · have HFU := Lib.hid hfu
        have hl0 : (0 : Int) < x.fuses.length := by have := List.length_pos_iff.2 hfu; omega
        have q10 : World.cell? wr ⟨w.heap.size, 10, none⟩ = some (.slice A2 x.fates.length c2) := cell_row (row_call HBR.out R0_0.out) 10
        have q11 : World.cell? wr ⟨w.heap.size, 11, none⟩ = some (.slice A3 x.fuses.length c3) := cell_row (row_call HBR.out R0_0.out) 11
        clear hfu
        go_wp2_with (with_reducible refine stopOne rfl ?_)
        refine Lib.hid ?_
        clear q10 q11
        have HLN := Lib.hid (show xs.length + 1 ≤ maxLen ∧ (xs.length + 1) * 16 ≤ 140737488355328 by have := HNX.out; unfold maxLen; omega)
        refine wpList_snoc (e := 9) (base := W0.heap.size) (Q := fun _ => False) (r := Rep.text) rfl rfl _ _ 59 _ rfl rfl rfl (.string ⟨#[]⟩) 1 16 Tryz.underlying59 infoStr rfl (by decide) rfl _ xs HACC.out [47] _ (by exact rfl) (show Rep.text.val _ _ (.string ⟨#[47]⟩) _ from ⟨_, rfl, rfl, by simp [maxLen]⟩) (by exact rfl) (by exact rfl) HLN.out.1 HLN.out.2 HBR.out.size ?_
        intro v6 w6 hacc6 hgr6 hat6
        have HA6 := Lib.hid hacc6
        have HB6 := Lib.hid (show Below W0.heap.size W0 w6 from Rep.acc_below HACC.out HBR.out hgr6 HBR.out.size)
        obtain ⟨A6, c6, rfl, _, _⟩ := Rep.acc_form hacc6
        clear hacc6 hgr6 hat6 HLN
        have q10 : World.cell? w6 ⟨w.heap.size, 10, none⟩ = some (.slice A2 x.fates.length c2) := cell_row (row_call HB6.out R0_0.out) 10
        have q11 : World.cell? w6 ⟨w.heap.size, 11, none⟩ = some (.slice A3 x.fuses.length c3) := cell_row (row_call HB6.out R0_0.out) 11
        go_wp2_with fail
        clear q10 q11
        go_loopw [3, 38] (fun u i wz => ∃ j : Nat, i = .int .i64 j ∧ j ≤ x.fuses.length ∧ Hid (Rep.text.acc 9 W0.heap.size (fun _ => False) wz u ((xs ++ [[47]]) ++ (x.fuses.take j).map Lib.itoa)) ∧ Hid (Below W0.heap.size W0 wz)) (fun _ i _ => x.fuses.length - (intOf i).toNat)
        case atStart => exact ⟨0, rfl, Nat.zero_le _, Lib.hid (by simpa using HA6.out), HB6⟩
        case round =>
          rename World => wz
          rename Value => u9
          obtain ⟨j, rfl, hj, HACC2, HBR2⟩ := hrel
          by_cases hlt2 : (j : Int) < x.fuses.length
          · obtain ⟨y, hy⟩ : ∃ y, x.fuses[j]? = some y := ⟨_, List.getElem?_eq_getElem (by omega)⟩
            obtain ⟨b, off, hAe, _, e0, hw0⟩ := int_at (HUT.out _ HBR2.out) hy
            have HY := Lib.hid hy
            have HIN := Lib.hid (in_wf hw0)
            subst hAe
            have hl1 : ((Lib.itoa y).length : Int) ≤ 20 := by have := (itoa_len HIN.out).1; omega
            obtain ⟨zs, hzs⟩ : ∃ zs, (xs ++ [[47]]) ++ (x.fuses.take j).map Lib.itoa = zs := ⟨_, rfl⟩
            rw [hzs] at HACC2
            have HZS := Lib.hid hzs
            have HNZ := Lib.hid (show zs.length ≤ 300000 by rw [← hzs]; simp; have := HNX.out; have := HUL.out; omega)
            clear hy hw0 hzs
            obtain ⟨A9, c9, rfl, h91, h92⟩ := Rep.acc_form HACC2.out
            unfold maxLen at h92
            go_wp2_with fail
            refine (itoa_calls HIN.out (HT.out.call ((Only.fin HB0.out O0.out).trans (HBR2.out.mono (Only.fin HB0.out O0.out).size)))).mono ?_
            rintro e w5 ⟨rfl, hb5⟩
            have HB5 := Lib.hid (HBR2.out.trans (hb5.mono HBR2.out.size))
            have HAC5 := Lib.hid (show Rep.text.acc 9 W0.heap.size (fun _ => False) w5 (.slice A9 zs.length c9) zs from Rep.acc_later HACC2.out hb5)
            have HLN := Lib.hid (show zs.length + 1 ≤ maxLen ∧ (zs.length + 1) * 16 ≤ 140737488355328 by have := HNZ.out; unfold maxLen; omega)
            clear hb5 e0
            go_wp2_with (with_reducible refine stopOne rfl ?_)
            refine Lib.hid ?_
            refine wpList_snoc (e := 9) (base := W0.heap.size) (Q := fun _ => False) (r := Rep.text) rfl rfl _ _ 59 _ rfl rfl rfl (.string ⟨#[]⟩) 1 16 Tryz.underlying59 infoStr rfl (by decide) rfl _ zs HAC5.out (Lib.itoa y) _ (by exact rfl) (show Rep.text.val _ _ (.string ⟨(Lib.itoa y).toArray⟩) _ from ⟨_, rfl, rfl, by unfold maxLen; omega⟩) (by exact rfl) (by exact rfl) HLN.out.1 HLN.out.2 HB5.out.size ?_
            intro v7 w7 hacc7 hgr7 hat7
            have HA7 := Lib.hid (show Rep.text.acc 9 W0.heap.size (fun _ => False) w7 v7 ((xs ++ [[47]]) ++ (x.fuses.take (j + 1)).map Lib.itoa) by rw [List.take_add_one, HY.out, List.map_append, ← List.append_assoc, HZS.out]; exact hacc7)
            have HB7 := Lib.hid (show Below W0.heap.size W0 w7 from Rep.acc_below HAC5.out HB5.out hgr7 HB5.out.size)
            clear hacc7 hgr7 hat7
            go_wp2_with fail
            exact ⟨⟨j + 1, by go_num, by omega, HA7, HB7⟩, by simp [intOf]; omega⟩
          · obtain rfl : j = x.fuses.length := by omega
            rw [List.take_length] at HACC2
            go_wp2_with fail
            go_ret
            refine ⟨_, rfl, ?_, (Only.fin HB0.out O0.out).trans (HBR2.out.mono (Only.fin HB0.out O0.out).size)⟩
            have h0 := Rep.acc_fresh HACC2.out
            have h1 : crashS x = (xs ++ [[47]]) ++ x.fuses.map Lib.itoa := by unfold crashS; rw [if_neg HFU.out, ← HXS.out]; simp
            rw [h1]
            exact Rep.val_mono (fun b hb _ => Nat.le_trans (Only.fin HB0.out O0.out).size hb) h0
end Go.Proofs.YtejibngkeaamkaaGreatDoor
namespace Go.Proofs.YtejibngkeaamkaaGreatDoor
open Go.RowKit

/-- Numbers and lengths such as0 may be walked. -/
structure ActSmall (x : DAct) : Prop where
  inn : ActIn x
  d : x.cmd.data.length ≤ 1000000
  f : x.fates.length ≤ 100000
  u : x.fuses.length ≤ 100000

set_option maxRecDepth 100000 in
set_option maxHeartbeats 4000000 in
/-- console.words -/
theorem words_calls {Q Q' : Nat → Prop} {w : World} {u v : Value} {c : DConf} {x : DAct} (hu : rConf.val Q w u c) (hx : rAct.val Q' w v x) (ht : Tabs w) (hs : ActSmall x) (hm : ∀ y ∈ c.comps, y.name.length ≤ 1000000) :
    Calls Tryz.prog 25 #[u, v] w (WordsAns w (wordsS c.comps x)) := by
  have HT := Lib.hid ht
  have HM := Lib.hid hm
  have HS := Lib.hid hs
  obtain ⟨A, cap, rfl, _, _, _, _, _, _, _⟩ := rConf_val hu
  obtain ⟨A1, c1, A2, c2, A3, c3, rfl, f0, f1, f2, f3, f4, s1, f5, f6, f7, s2, s3⟩ := rAct_val hx
  have HU := Lib.hid hu
  have HX := Lib.hid hx
  have HCM := Lib.hid (show rCmd.val Q' w (.agg #[.int .i64 x.cmd.kind, .bool x.cmd.loc, .int .i64 x.cmd.id.index, .int .i64 x.cmd.id.gen, .int .i64 x.cmd.comp, .slice A1 x.cmd.data.length c1]) x.cmd from rCmd_agg f1 f2 f3 f4 s1)
  have hl1 : ((Lib.itoa x.policy.room).length : Int) ≤ 20 := by have := (itoa_len HS.out.inn.r).1; omega
  have hl2 : ((Lib.itoa x.policy.frames).length : Int) ≤ 20 := by have := (itoa_len HS.out.inn.f).1; omega
  have hl3 : ((Lib.itoa x.n).length : Int) ≤ 20 := by have := (itoa_len HS.out.inn.n).1; omega
  clear hx ht hu hm hs f0 f1 f2 f3 f4 s1 f5 f6 f7 s2 s3
  by_cases n0 : x.kind = 0
  · have bk : (x.kind == 0) = true := by simp [n0]
    have HW := Lib.hid (show wordsS c.comps x = commandS c.comps x.cmd by unfold wordsS;  rw [if_pos n0])
    clear  n0
    obtain ⟨W0, hW0⟩ : ∃ W, ((w.alloc (.cells #[.int .i64 c.log, .int .i64 c.pages, .int .i64 c.entities, .int .i64 c.gens, .slice A c.comps.length cap] 24)).alloc (.cells #[.int .i64 x.kind, .int .i64 x.cmd.kind, .bool x.cmd.loc, .int .i64 x.cmd.id.index, .int .i64 x.cmd.id.gen, .int .i64 x.cmd.comp, .slice A1 x.cmd.data.length c1, .int .i64 x.policy.room, .int .i64 x.policy.frames, .int .i64 x.n, .slice A2 x.fates.length c2, .slice A3 x.fuses.length c3] 35)) = W := ⟨_, rfl⟩
    have hz0 : W0.heap.size = w.heap.size + 2 := by rw [← hW0]; simp
    have hb0 : Below w.heap.size w W0 := by rw [← hW0]; exact ((Below.refl _ _).alloc (Nat.le_refl _) _).alloc (by first | (simp; done) | (simp; omega)) _
    have HZ := Lib.hid hz0
    have HB0 := Lib.hid hb0
    have R0_0 := Lib.hid (show W0.heap[w.heap.size]? = some (.cells #[.int .i64 c.log, .int .i64 c.pages, .int .i64 c.entities, .int .i64 c.gens, .slice A c.comps.length cap] 24 (0, 0)) by rw [← hW0]; exact alloc_old (alloc_at rfl))
    have R1_0 := Lib.hid (show W0.heap[w.heap.size + 1]? = some (.cells #[.int .i64 x.kind, .int .i64 x.cmd.kind, .bool x.cmd.loc, .int .i64 x.cmd.id.index, .int .i64 x.cmd.id.gen, .int .i64 x.cmd.comp, .slice A1 x.cmd.data.length c1, .int .i64 x.policy.room, .int .i64 x.policy.frames, .int .i64 x.n, .slice A2 x.fates.length c2, .slice A3 x.fuses.length c3] 35 (0, 0)) by rw [← hW0]; exact alloc_at (by simp))
    have O0 := Lib.hid (Only.refl (Box w 2) W0)
    have Vc_0 := Lib.hid (show rConf.val (In Q w 2) W0 (.agg #[.int .i64 c.log, .int .i64 c.pages, .int .i64 c.entities, .int .i64 c.gens, .slice A c.comps.length cap]) c from val_in HU.out hb0)
    have Vx_0 := Lib.hid (show rAct.val (In Q' w 2) W0 (.agg #[.int .i64 x.kind, .int .i64 x.cmd.kind, .bool x.cmd.loc, .int .i64 x.cmd.id.index, .int .i64 x.cmd.id.gen, .int .i64 x.cmd.comp, .slice A1 x.cmd.data.length c1, .int .i64 x.policy.room, .int .i64 x.policy.frames, .int .i64 x.n, .slice A2 x.fates.length c2, .slice A3 x.fuses.length c3]) x from val_in HX.out hb0)
    have Vm_0 := Lib.hid (show rCmd.val (In Q' w 2) W0 (.agg #[.int .i64 x.cmd.kind, .bool x.cmd.loc, .int .i64 x.cmd.id.index, .int .i64 x.cmd.id.gen, .int .i64 x.cmd.comp, .slice A1 x.cmd.data.length c1]) x.cmd from val_in HCM.out hb0)
    clear hz0 hb0
    have q0_0 := rw5 R0_0.out
    have q1_0 := rw12 R1_0.out
    go_enter Tryz.func25, Tryz.ntmps25
    go_wp2_with fail
    try rw [hW0]
    clear hW0
    try go_wp2_with fail
    clear q0_0 q1_0
    refine (cwords_calls Vc_0.out Vm_0.out (HT.out.call (Only.fin HB0.out O0.out)) HS.out.d HM.out).mono ?_
    rintro e w1 ⟨v9, rfl, hv, hb⟩
    have HV := Lib.hid (show Rep.text.list.val (fun b => w.heap.size ≤ b) w1 v9 _ from Rep.val_mono (fun b hb2 _ => Nat.le_trans (Below.size (Only.fin HB0.out O0.out)) hb2) hv)
    have HB := Lib.hid (show Below w.heap.size w w1 from (Only.fin HB0.out O0.out).trans (hb.mono (Below.size (Only.fin HB0.out O0.out))))
    clear hv hb
    go_wp2_with fail
    go_ret
    exact ⟨_, rfl, by rw [HW.out]; exact HV.out, HB.out⟩
  · skip
    by_cases n1 : x.kind = 1
    · have bk : (x.kind == 1) = true := by simp [n1]
      have c0_ : (x.kind == 0) = false := by simpa using n0
      have HW := Lib.hid (show wordsS c.comps x = [wEnd] by unfold wordsS; rw [if_neg n0]; rw [if_pos n1])
      have HL := Lib.hid (show ∀ y ∈ [wEnd], y.length ≤ maxLen by intro y hy; unfold maxLen; simp only [List.mem_cons, List.not_mem_nil, or_false] at hy; subst hy; first | (simp [wEnd]; done) | omega)
      clear n0 n1
      obtain ⟨W0, hW0⟩ : ∃ W, ((w.alloc (.cells #[.int .i64 c.log, .int .i64 c.pages, .int .i64 c.entities, .int .i64 c.gens, .slice A c.comps.length cap] 24)).alloc (.cells #[.int .i64 x.kind, .int .i64 x.cmd.kind, .bool x.cmd.loc, .int .i64 x.cmd.id.index, .int .i64 x.cmd.id.gen, .int .i64 x.cmd.comp, .slice A1 x.cmd.data.length c1, .int .i64 x.policy.room, .int .i64 x.policy.frames, .int .i64 x.n, .slice A2 x.fates.length c2, .slice A3 x.fuses.length c3] 35)) = W := ⟨_, rfl⟩
      have hz0 : W0.heap.size = w.heap.size + 2 := by rw [← hW0]; simp
      have hb0 : Below w.heap.size w W0 := by rw [← hW0]; exact ((Below.refl _ _).alloc (Nat.le_refl _) _).alloc (by first | (simp; done) | (simp; omega)) _
      have HZ := Lib.hid hz0
      have HB0 := Lib.hid hb0
      have R0_0 := Lib.hid (show W0.heap[w.heap.size]? = some (.cells #[.int .i64 c.log, .int .i64 c.pages, .int .i64 c.entities, .int .i64 c.gens, .slice A c.comps.length cap] 24 (0, 0)) by rw [← hW0]; exact alloc_old (alloc_at rfl))
      have R1_0 := Lib.hid (show W0.heap[w.heap.size + 1]? = some (.cells #[.int .i64 x.kind, .int .i64 x.cmd.kind, .bool x.cmd.loc, .int .i64 x.cmd.id.index, .int .i64 x.cmd.id.gen, .int .i64 x.cmd.comp, .slice A1 x.cmd.data.length c1, .int .i64 x.policy.room, .int .i64 x.policy.frames, .int .i64 x.n, .slice A2 x.fates.length c2, .slice A3 x.fuses.length c3] 35 (0, 0)) by rw [← hW0]; exact alloc_at (by simp))
      have O0 := Lib.hid (Only.refl (Box w 2) W0)
      have Vc_0 := Lib.hid (show rConf.val (In Q w 2) W0 (.agg #[.int .i64 c.log, .int .i64 c.pages, .int .i64 c.entities, .int .i64 c.gens, .slice A c.comps.length cap]) c from val_in HU.out hb0)
      have Vx_0 := Lib.hid (show rAct.val (In Q' w 2) W0 (.agg #[.int .i64 x.kind, .int .i64 x.cmd.kind, .bool x.cmd.loc, .int .i64 x.cmd.id.index, .int .i64 x.cmd.id.gen, .int .i64 x.cmd.comp, .slice A1 x.cmd.data.length c1, .int .i64 x.policy.room, .int .i64 x.policy.frames, .int .i64 x.n, .slice A2 x.fates.length c2, .slice A3 x.fuses.length c3]) x from val_in HX.out hb0)
      have Vm_0 := Lib.hid (show rCmd.val (In Q' w 2) W0 (.agg #[.int .i64 x.cmd.kind, .bool x.cmd.loc, .int .i64 x.cmd.id.index, .int .i64 x.cmd.id.gen, .int .i64 x.cmd.comp, .slice A1 x.cmd.data.length c1]) x.cmd from val_in HCM.out hb0)
      clear hz0 hb0
      have q0_0 := rw5 R0_0.out
      have q1_0 := rw12 R1_0.out
      go_enter Tryz.func25, Tryz.ntmps25
      go_wp2_with fail
      try rw [hW0]
      clear hW0
      try go_wp2_with fail
      clear q0_0 q1_0
      refine nm_post (fun W9 hnm => ?_)
      have RN := Lib.hid (show W9.heap[W0.heap.size]? = some (.cells #[.string ⟨(wEnd).toArray⟩] 9 (0, 0)) by rw [hnm]; exact alloc_at rfl)
      have B9 := Lib.hid (show Below w.heap.size w W9 by rw [hnm]; exact Below.alloc (Only.fin HB0.out O0.out) (Below.size (Only.fin HB0.out O0.out)) _)
      have HZN := Lib.hid (Below.size (Only.fin HB0.out O0.out))
      clear hnm
      go_ret
      exact ⟨_, rfl, by rw [HW.out]; exact texts_val [wEnd] RN.out HL.out (by simp [maxLen]) HZN.out, B9.out⟩
    · skip
      by_cases n2 : x.kind = 2
      · have bk : (x.kind == 2) = true := by simp [n2]
        have c0_ : (x.kind == 0) = false := by simpa using n0
        have c1_ : (x.kind == 1) = false := by simpa using n1
        have HW := Lib.hid (show wordsS c.comps x = [wSync] by unfold wordsS; rw [if_neg n0]; rw [if_neg n1]; rw [if_pos n2])
        have HL := Lib.hid (show ∀ y ∈ [wSync], y.length ≤ maxLen by intro y hy; unfold maxLen; simp only [List.mem_cons, List.not_mem_nil, or_false] at hy; subst hy; first | (simp [wSync]; done) | omega)
        clear n0 n1 n2
        obtain ⟨W0, hW0⟩ : ∃ W, ((w.alloc (.cells #[.int .i64 c.log, .int .i64 c.pages, .int .i64 c.entities, .int .i64 c.gens, .slice A c.comps.length cap] 24)).alloc (.cells #[.int .i64 x.kind, .int .i64 x.cmd.kind, .bool x.cmd.loc, .int .i64 x.cmd.id.index, .int .i64 x.cmd.id.gen, .int .i64 x.cmd.comp, .slice A1 x.cmd.data.length c1, .int .i64 x.policy.room, .int .i64 x.policy.frames, .int .i64 x.n, .slice A2 x.fates.length c2, .slice A3 x.fuses.length c3] 35)) = W := ⟨_, rfl⟩
        have hz0 : W0.heap.size = w.heap.size + 2 := by rw [← hW0]; simp
        have hb0 : Below w.heap.size w W0 := by rw [← hW0]; exact ((Below.refl _ _).alloc (Nat.le_refl _) _).alloc (by first | (simp; done) | (simp; omega)) _
        have HZ := Lib.hid hz0
        have HB0 := Lib.hid hb0
        have R0_0 := Lib.hid (show W0.heap[w.heap.size]? = some (.cells #[.int .i64 c.log, .int .i64 c.pages, .int .i64 c.entities, .int .i64 c.gens, .slice A c.comps.length cap] 24 (0, 0)) by rw [← hW0]; exact alloc_old (alloc_at rfl))
        have R1_0 := Lib.hid (show W0.heap[w.heap.size + 1]? = some (.cells #[.int .i64 x.kind, .int .i64 x.cmd.kind, .bool x.cmd.loc, .int .i64 x.cmd.id.index, .int .i64 x.cmd.id.gen, .int .i64 x.cmd.comp, .slice A1 x.cmd.data.length c1, .int .i64 x.policy.room, .int .i64 x.policy.frames, .int .i64 x.n, .slice A2 x.fates.length c2, .slice A3 x.fuses.length c3] 35 (0, 0)) by rw [← hW0]; exact alloc_at (by simp))
        have O0 := Lib.hid (Only.refl (Box w 2) W0)
        have Vc_0 := Lib.hid (show rConf.val (In Q w 2) W0 (.agg #[.int .i64 c.log, .int .i64 c.pages, .int .i64 c.entities, .int .i64 c.gens, .slice A c.comps.length cap]) c from val_in HU.out hb0)
        have Vx_0 := Lib.hid (show rAct.val (In Q' w 2) W0 (.agg #[.int .i64 x.kind, .int .i64 x.cmd.kind, .bool x.cmd.loc, .int .i64 x.cmd.id.index, .int .i64 x.cmd.id.gen, .int .i64 x.cmd.comp, .slice A1 x.cmd.data.length c1, .int .i64 x.policy.room, .int .i64 x.policy.frames, .int .i64 x.n, .slice A2 x.fates.length c2, .slice A3 x.fuses.length c3]) x from val_in HX.out hb0)
        have Vm_0 := Lib.hid (show rCmd.val (In Q' w 2) W0 (.agg #[.int .i64 x.cmd.kind, .bool x.cmd.loc, .int .i64 x.cmd.id.index, .int .i64 x.cmd.id.gen, .int .i64 x.cmd.comp, .slice A1 x.cmd.data.length c1]) x.cmd from val_in HCM.out hb0)
        clear hz0 hb0
        have q0_0 := rw5 R0_0.out
        have q1_0 := rw12 R1_0.out
        go_enter Tryz.func25, Tryz.ntmps25
        go_wp2_with fail
        try rw [hW0]
        clear hW0
        try go_wp2_with fail
        clear q0_0 q1_0
        refine nm_post (fun W9 hnm => ?_)
        have RN := Lib.hid (show W9.heap[W0.heap.size]? = some (.cells #[.string ⟨(wSync).toArray⟩] 9 (0, 0)) by rw [hnm]; exact alloc_at rfl)
        have B9 := Lib.hid (show Below w.heap.size w W9 by rw [hnm]; exact Below.alloc (Only.fin HB0.out O0.out) (Below.size (Only.fin HB0.out O0.out)) _)
        have HZN := Lib.hid (Below.size (Only.fin HB0.out O0.out))
        clear hnm
        go_ret
        exact ⟨_, rfl, by rw [HW.out]; exact texts_val [wSync] RN.out HL.out (by simp [maxLen]) HZN.out, B9.out⟩
      · skip
        by_cases n3 : x.kind = 3
        · have bk : (x.kind == 3) = true := by simp [n3]
          have c0_ : (x.kind == 0) = false := by simpa using n0
          have c1_ : (x.kind == 1) = false := by simpa using n1
          have c2_ : (x.kind == 2) = false := by simpa using n2
          have HW := Lib.hid (show wordsS c.comps x = [wCheck] by unfold wordsS; rw [if_neg n0]; rw [if_neg n1]; rw [if_neg n2]; rw [if_pos n3])
          have HL := Lib.hid (show ∀ y ∈ [wCheck], y.length ≤ maxLen by intro y hy; unfold maxLen; simp only [List.mem_cons, List.not_mem_nil, or_false] at hy; subst hy; first | (simp [wCheck]; done) | omega)
          clear n0 n1 n2 n3
          obtain ⟨W0, hW0⟩ : ∃ W, ((w.alloc (.cells #[.int .i64 c.log, .int .i64 c.pages, .int .i64 c.entities, .int .i64 c.gens, .slice A c.comps.length cap] 24)).alloc (.cells #[.int .i64 x.kind, .int .i64 x.cmd.kind, .bool x.cmd.loc, .int .i64 x.cmd.id.index, .int .i64 x.cmd.id.gen, .int .i64 x.cmd.comp, .slice A1 x.cmd.data.length c1, .int .i64 x.policy.room, .int .i64 x.policy.frames, .int .i64 x.n, .slice A2 x.fates.length c2, .slice A3 x.fuses.length c3] 35)) = W := ⟨_, rfl⟩
          have hz0 : W0.heap.size = w.heap.size + 2 := by rw [← hW0]; simp
          have hb0 : Below w.heap.size w W0 := by rw [← hW0]; exact ((Below.refl _ _).alloc (Nat.le_refl _) _).alloc (by first | (simp; done) | (simp; omega)) _
          have HZ := Lib.hid hz0
          have HB0 := Lib.hid hb0
          have R0_0 := Lib.hid (show W0.heap[w.heap.size]? = some (.cells #[.int .i64 c.log, .int .i64 c.pages, .int .i64 c.entities, .int .i64 c.gens, .slice A c.comps.length cap] 24 (0, 0)) by rw [← hW0]; exact alloc_old (alloc_at rfl))
          have R1_0 := Lib.hid (show W0.heap[w.heap.size + 1]? = some (.cells #[.int .i64 x.kind, .int .i64 x.cmd.kind, .bool x.cmd.loc, .int .i64 x.cmd.id.index, .int .i64 x.cmd.id.gen, .int .i64 x.cmd.comp, .slice A1 x.cmd.data.length c1, .int .i64 x.policy.room, .int .i64 x.policy.frames, .int .i64 x.n, .slice A2 x.fates.length c2, .slice A3 x.fuses.length c3] 35 (0, 0)) by rw [← hW0]; exact alloc_at (by simp))
          have O0 := Lib.hid (Only.refl (Box w 2) W0)
          have Vc_0 := Lib.hid (show rConf.val (In Q w 2) W0 (.agg #[.int .i64 c.log, .int .i64 c.pages, .int .i64 c.entities, .int .i64 c.gens, .slice A c.comps.length cap]) c from val_in HU.out hb0)
          have Vx_0 := Lib.hid (show rAct.val (In Q' w 2) W0 (.agg #[.int .i64 x.kind, .int .i64 x.cmd.kind, .bool x.cmd.loc, .int .i64 x.cmd.id.index, .int .i64 x.cmd.id.gen, .int .i64 x.cmd.comp, .slice A1 x.cmd.data.length c1, .int .i64 x.policy.room, .int .i64 x.policy.frames, .int .i64 x.n, .slice A2 x.fates.length c2, .slice A3 x.fuses.length c3]) x from val_in HX.out hb0)
          have Vm_0 := Lib.hid (show rCmd.val (In Q' w 2) W0 (.agg #[.int .i64 x.cmd.kind, .bool x.cmd.loc, .int .i64 x.cmd.id.index, .int .i64 x.cmd.id.gen, .int .i64 x.cmd.comp, .slice A1 x.cmd.data.length c1]) x.cmd from val_in HCM.out hb0)
          clear hz0 hb0
          have q0_0 := rw5 R0_0.out
          have q1_0 := rw12 R1_0.out
          go_enter Tryz.func25, Tryz.ntmps25
          go_wp2_with fail
          try rw [hW0]
          clear hW0
          try go_wp2_with fail
          clear q0_0 q1_0
          refine nm_post (fun W9 hnm => ?_)
          have RN := Lib.hid (show W9.heap[W0.heap.size]? = some (.cells #[.string ⟨(wCheck).toArray⟩] 9 (0, 0)) by rw [hnm]; exact alloc_at rfl)
          have B9 := Lib.hid (show Below w.heap.size w W9 by rw [hnm]; exact Below.alloc (Only.fin HB0.out O0.out) (Below.size (Only.fin HB0.out O0.out)) _)
          have HZN := Lib.hid (Below.size (Only.fin HB0.out O0.out))
          clear hnm
          go_ret
          exact ⟨_, rfl, by rw [HW.out]; exact texts_val [wCheck] RN.out HL.out (by simp [maxLen]) HZN.out, B9.out⟩
        · skip
          by_cases n4 : x.kind = 4
          · have bk : (x.kind == 4) = true := by simp [n4]
            have c0_ : (x.kind == 0) = false := by simpa using n0
            have c1_ : (x.kind == 1) = false := by simpa using n1
            have c2_ : (x.kind == 2) = false := by simpa using n2
            have c3_ : (x.kind == 3) = false := by simpa using n3
            have HW := Lib.hid (show wordsS c.comps x = [wUpkeep, Lib.itoa x.policy.room, Lib.itoa x.policy.frames] by unfold wordsS; rw [if_neg n0]; rw [if_neg n1]; rw [if_neg n2]; rw [if_neg n3]; rw [if_pos n4])
            have HL := Lib.hid (show ∀ y ∈ [wUpkeep, Lib.itoa x.policy.room, Lib.itoa x.policy.frames], y.length ≤ maxLen by intro y hy; unfold maxLen; simp only [List.mem_cons, List.not_mem_nil, or_false] at hy; rcases hy with rfl | rfl | rfl <;> (first | (simp [wUpkeep]; done) | omega))
            clear n0 n1 n2 n3 n4
            obtain ⟨W0, hW0⟩ : ∃ W, ((w.alloc (.cells #[.int .i64 c.log, .int .i64 c.pages, .int .i64 c.entities, .int .i64 c.gens, .slice A c.comps.length cap] 24)).alloc (.cells #[.int .i64 x.kind, .int .i64 x.cmd.kind, .bool x.cmd.loc, .int .i64 x.cmd.id.index, .int .i64 x.cmd.id.gen, .int .i64 x.cmd.comp, .slice A1 x.cmd.data.length c1, .int .i64 x.policy.room, .int .i64 x.policy.frames, .int .i64 x.n, .slice A2 x.fates.length c2, .slice A3 x.fuses.length c3] 35)) = W := ⟨_, rfl⟩
            have hz0 : W0.heap.size = w.heap.size + 2 := by rw [← hW0]; simp
            have hb0 : Below w.heap.size w W0 := by rw [← hW0]; exact ((Below.refl _ _).alloc (Nat.le_refl _) _).alloc (by first | (simp; done) | (simp; omega)) _
            have HZ := Lib.hid hz0
            have HB0 := Lib.hid hb0
            have R0_0 := Lib.hid (show W0.heap[w.heap.size]? = some (.cells #[.int .i64 c.log, .int .i64 c.pages, .int .i64 c.entities, .int .i64 c.gens, .slice A c.comps.length cap] 24 (0, 0)) by rw [← hW0]; exact alloc_old (alloc_at rfl))
            have R1_0 := Lib.hid (show W0.heap[w.heap.size + 1]? = some (.cells #[.int .i64 x.kind, .int .i64 x.cmd.kind, .bool x.cmd.loc, .int .i64 x.cmd.id.index, .int .i64 x.cmd.id.gen, .int .i64 x.cmd.comp, .slice A1 x.cmd.data.length c1, .int .i64 x.policy.room, .int .i64 x.policy.frames, .int .i64 x.n, .slice A2 x.fates.length c2, .slice A3 x.fuses.length c3] 35 (0, 0)) by rw [← hW0]; exact alloc_at (by simp))
            have O0 := Lib.hid (Only.refl (Box w 2) W0)
            have Vc_0 := Lib.hid (show rConf.val (In Q w 2) W0 (.agg #[.int .i64 c.log, .int .i64 c.pages, .int .i64 c.entities, .int .i64 c.gens, .slice A c.comps.length cap]) c from val_in HU.out hb0)
            have Vx_0 := Lib.hid (show rAct.val (In Q' w 2) W0 (.agg #[.int .i64 x.kind, .int .i64 x.cmd.kind, .bool x.cmd.loc, .int .i64 x.cmd.id.index, .int .i64 x.cmd.id.gen, .int .i64 x.cmd.comp, .slice A1 x.cmd.data.length c1, .int .i64 x.policy.room, .int .i64 x.policy.frames, .int .i64 x.n, .slice A2 x.fates.length c2, .slice A3 x.fuses.length c3]) x from val_in HX.out hb0)
            have Vm_0 := Lib.hid (show rCmd.val (In Q' w 2) W0 (.agg #[.int .i64 x.cmd.kind, .bool x.cmd.loc, .int .i64 x.cmd.id.index, .int .i64 x.cmd.id.gen, .int .i64 x.cmd.comp, .slice A1 x.cmd.data.length c1]) x.cmd from val_in HCM.out hb0)
            clear hz0 hb0
            have q0_0 := rw5 R0_0.out
            have q1_0 := rw12 R1_0.out
            go_enter Tryz.func25, Tryz.ntmps25
            go_wp2_with fail
            try rw [hW0]
            clear hW0
            try go_wp2_with fail
            clear q0_0 q1_0
            refine wp_region_held_drew (S := fun W => Below W0.heap.size W0 W) (by kernel_rfl) ((Below.refl _ _).drew) (fun s0 => ?_)
            obtain ⟨v1, hv0⟩ : ∃ V, V = W0.drew := ⟨_, rfl⟩
            rw [← hv0] at s0 ⊢
            have t1 : Below W0.heap.size W0 v1 := s0
            clear hv0 s0
            refine tkHV (i := 0) (v := .pointer (some ⟨w.heap.size + 1, 7, none⟩)) rfl t1 ?_
            go_simp
            refine tkHV (i := 1) (v := .pointer (some ⟨w.heap.size + 1, 7, none⟩)) rfl t1 ?_
            go_simp
            refine tkH (i := 2) (v := .int .i64 x.policy.room) rfl (Or.inl ⟨by rfl, fun w' h => by have e := row_call (h : Below W0.heap.size W0 w') R1_0.out; have e0 := cell_row e 0; have e1 := cell_row e 1; have e2 := cell_row e 2; have e3 := cell_row e 3; have e4 := cell_row e 4; have e5 := cell_row e 5; have e6 := cell_row e 6; have e7 := cell_row e 7; have e8 := cell_row e 8; have e9 := cell_row e 9; have e10 := cell_row e 10; have e11 := cell_row e 11; go_simp⟩) t1 ?_
            go_simp
            refine tkHV (i := 4) (v := .pointer (some ⟨w.heap.size + 1, 7, none⟩)) rfl t1 ?_
            go_simp
            refine tkHV (i := 5) (v := .pointer (some ⟨w.heap.size + 1, 8, none⟩)) rfl t1 ?_
            go_simp
            refine tkH (i := 6) (v := .int .i64 x.policy.frames) rfl (Or.inl ⟨by rfl, fun w' h => by have e := row_call (h : Below W0.heap.size W0 w') R1_0.out; have e0 := cell_row e 0; have e1 := cell_row e 1; have e2 := cell_row e 2; have e3 := cell_row e 3; have e4 := cell_row e 4; have e5 := cell_row e 5; have e6 := cell_row e 6; have e7 := cell_row e 7; have e8 := cell_row e 8; have e9 := cell_row e 9; have e10 := cell_row e 10; have e11 := cell_row e 11; go_simp⟩) t1 ?_
            go_simp
            refine wpAnyH_all (rs := [3]) (by kernel_rfl) (by simp) ?_
            intro i hi
            obtain rfl : i = 3 := by simpa using hi
            clear hi
            refine wpOp_step rfl (fun K hK => ?_)
            go_simp
            refine (itoa_calls HS.out.inn.r (HT.out.call ((Only.fin HB0.out O0.out).trans (Below.mono t1 (Only.fin HB0.out O0.out).size)))).mono ?_
            rintro e v2 ⟨rfl, hb⟩
            have t2 : Below W0.heap.size W0 v2 := Below.trans t1 (hb.mono (Below.size t1))
            refine hK _ _ ⟨t2, ?_⟩
            clear hb
            clear hK K
            refine wpAnyH_all (rs := [7]) (by kernel_rfl) (by simp) ?_
            intro i hi
            obtain rfl : i = 7 := by simpa using hi
            clear hi
            refine wpOp_step rfl (fun K hK => ?_)
            go_simp
            refine (itoa_calls HS.out.inn.f (HT.out.call ((Only.fin HB0.out O0.out).trans (Below.mono t2 (Only.fin HB0.out O0.out).size)))).mono ?_
            rintro e v3 ⟨rfl, hb⟩
            have t3 : Below W0.heap.size W0 v3 := Below.trans t2 (hb.mono (Below.size t2))
            refine hK _ _ ⟨t3, ?_⟩
            clear hb
            clear hK K
            refine wpAnyH_all (rs := [8]) (by kernel_rfl) (by simp) ?_
            intro i hi
            obtain rfl : i = 8 := by simpa using hi
            clear hi
            refine wpOp_step rfl (fun K hK => ?_)
            go_simp
            go_simp
            refine hK _ _ ⟨Below.alloc t3 (Below.size t3) _, ?_⟩
            clear hK K
            refine nm_any (fun v4 hnm => ?_)
            have RN := Lib.hid (show v4.heap[v3.heap.size]? = some (.cells #[.string ⟨(wUpkeep).toArray⟩, .string ⟨(Lib.itoa x.policy.room).toArray⟩, .string ⟨(Lib.itoa x.policy.frames).toArray⟩] 9 (0, 0)) by rw [hnm]; exact alloc_at rfl)
            have t4 : Below W0.heap.size W0 v4 := by rw [hnm]; exact Below.alloc t3 (Below.size t3) _
            have HZN := Lib.hid (Below.size t3)
            clear hnm
            refine tkHV (i := 9) (v := .slice (some ⟨v3.heap.size, 0, none⟩) 3 3) rfl t4 ?_
            go_simp
            refine wpAnyH_done (by kernel_rfl) ?_ _
            have S1 := Lib.hid (show Only (Box w 2) W0 v4 from Only.of_below t4)
            have O1 := Lib.hid (O0.out.trans S1.out)
            have R0_1 := Lib.hid (row_call t4 R0_0.out)
            have R1_1 := Lib.hid (row_call t4 R1_0.out)
            have Vc_1 := Lib.hid (val_only Vc_0.out S1.out)
            have Vx_1 := Lib.hid (val_only Vx_0.out S1.out)
            have Vm_1 := Lib.hid (val_only Vm_0.out S1.out)
            go_wp2_with fail
            go_ret
            exact ⟨_, rfl, by rw [HW.out]; exact texts_val [wUpkeep, Lib.itoa x.policy.room, Lib.itoa x.policy.frames] RN.out HL.out (by simp [maxLen]) (by have := HZN.out; have := HZ.out; omega), Only.fin HB0.out O1.out⟩
          · skip
            by_cases n5 : x.kind = 5
            · have bk : (x.kind == 5) = true := by simp [n5]
              have c0_ : (x.kind == 0) = false := by simpa using n0
              have c1_ : (x.kind == 1) = false := by simpa using n1
              have c2_ : (x.kind == 2) = false := by simpa using n2
              have c3_ : (x.kind == 3) = false := by simpa using n3
              have c4_ : (x.kind == 4) = false := by simpa using n4
              have HW := Lib.hid (show wordsS c.comps x = [wFuse, Lib.itoa x.n] by unfold wordsS; rw [if_neg n0]; rw [if_neg n1]; rw [if_neg n2]; rw [if_neg n3]; rw [if_neg n4]; rw [if_pos n5])
              have HL := Lib.hid (show ∀ y ∈ [wFuse, Lib.itoa x.n], y.length ≤ maxLen by intro y hy; unfold maxLen; simp only [List.mem_cons, List.not_mem_nil, or_false] at hy; rcases hy with rfl | rfl <;> (first | (simp [wFuse]; done) | omega))
              clear n0 n1 n2 n3 n4 n5
              obtain ⟨W0, hW0⟩ : ∃ W, ((w.alloc (.cells #[.int .i64 c.log, .int .i64 c.pages, .int .i64 c.entities, .int .i64 c.gens, .slice A c.comps.length cap] 24)).alloc (.cells #[.int .i64 x.kind, .int .i64 x.cmd.kind, .bool x.cmd.loc, .int .i64 x.cmd.id.index, .int .i64 x.cmd.id.gen, .int .i64 x.cmd.comp, .slice A1 x.cmd.data.length c1, .int .i64 x.policy.room, .int .i64 x.policy.frames, .int .i64 x.n, .slice A2 x.fates.length c2, .slice A3 x.fuses.length c3] 35)) = W := ⟨_, rfl⟩
              have hz0 : W0.heap.size = w.heap.size + 2 := by rw [← hW0]; simp
              have hb0 : Below w.heap.size w W0 := by rw [← hW0]; exact ((Below.refl _ _).alloc (Nat.le_refl _) _).alloc (by first | (simp; done) | (simp; omega)) _
              have HZ := Lib.hid hz0
              have HB0 := Lib.hid hb0
              have R0_0 := Lib.hid (show W0.heap[w.heap.size]? = some (.cells #[.int .i64 c.log, .int .i64 c.pages, .int .i64 c.entities, .int .i64 c.gens, .slice A c.comps.length cap] 24 (0, 0)) by rw [← hW0]; exact alloc_old (alloc_at rfl))
              have R1_0 := Lib.hid (show W0.heap[w.heap.size + 1]? = some (.cells #[.int .i64 x.kind, .int .i64 x.cmd.kind, .bool x.cmd.loc, .int .i64 x.cmd.id.index, .int .i64 x.cmd.id.gen, .int .i64 x.cmd.comp, .slice A1 x.cmd.data.length c1, .int .i64 x.policy.room, .int .i64 x.policy.frames, .int .i64 x.n, .slice A2 x.fates.length c2, .slice A3 x.fuses.length c3] 35 (0, 0)) by rw [← hW0]; exact alloc_at (by simp))
              have O0 := Lib.hid (Only.refl (Box w 2) W0)
              have Vc_0 := Lib.hid (show rConf.val (In Q w 2) W0 (.agg #[.int .i64 c.log, .int .i64 c.pages, .int .i64 c.entities, .int .i64 c.gens, .slice A c.comps.length cap]) c from val_in HU.out hb0)
              have Vx_0 := Lib.hid (show rAct.val (In Q' w 2) W0 (.agg #[.int .i64 x.kind, .int .i64 x.cmd.kind, .bool x.cmd.loc, .int .i64 x.cmd.id.index, .int .i64 x.cmd.id.gen, .int .i64 x.cmd.comp, .slice A1 x.cmd.data.length c1, .int .i64 x.policy.room, .int .i64 x.policy.frames, .int .i64 x.n, .slice A2 x.fates.length c2, .slice A3 x.fuses.length c3]) x from val_in HX.out hb0)
              have Vm_0 := Lib.hid (show rCmd.val (In Q' w 2) W0 (.agg #[.int .i64 x.cmd.kind, .bool x.cmd.loc, .int .i64 x.cmd.id.index, .int .i64 x.cmd.id.gen, .int .i64 x.cmd.comp, .slice A1 x.cmd.data.length c1]) x.cmd from val_in HCM.out hb0)
              clear hz0 hb0
              have q0_0 := rw5 R0_0.out
              have q1_0 := rw12 R1_0.out
              go_enter Tryz.func25, Tryz.ntmps25
              go_wp2_with fail
              try rw [hW0]
              clear hW0
              try go_wp2_with fail
              clear q0_0 q1_0
              refine (itoa_calls HS.out.inn.n (HT.out.call (Only.fin HB0.out O0.out))).mono ?_
              rintro e w1 ⟨rfl, hb⟩
              have S1 := Lib.hid (show Only (Box w 2) W0 w1 from Only.of_below hb)
              have O1 := Lib.hid (O0.out.trans S1.out)
              have R0_1 := Lib.hid (row_call hb R0_0.out)
              have R1_1 := Lib.hid (row_call hb R1_0.out)
              have Vc_1 := Lib.hid (val_only Vc_0.out S1.out)
              have Vx_1 := Lib.hid (val_only Vx_0.out S1.out)
              have Vm_1 := Lib.hid (val_only Vm_0.out S1.out)
              clear hb
              go_wp2_with fail
              refine nm_post (fun W9 hnm => ?_)
              have RN := Lib.hid (show W9.heap[w1.heap.size]? = some (.cells #[.string ⟨(wFuse).toArray⟩, .string ⟨(Lib.itoa x.n).toArray⟩] 9 (0, 0)) by rw [hnm]; exact alloc_at rfl)
              have B9 := Lib.hid (show Below w.heap.size w W9 by rw [hnm]; exact Below.alloc (Only.fin HB0.out O1.out) (Below.size (Only.fin HB0.out O1.out)) _)
              have HZN := Lib.hid (Below.size (Only.fin HB0.out O1.out))
              clear hnm
              go_ret
              exact ⟨_, rfl, by rw [HW.out]; exact texts_val [wFuse, Lib.itoa x.n] RN.out HL.out (by simp [maxLen]) HZN.out, B9.out⟩
            · skip
              have c0_ : (x.kind == 0) = false := by simpa using n0
              have c1_ : (x.kind == 1) = false := by simpa using n1
              have c2_ : (x.kind == 2) = false := by simpa using n2
              have c3_ : (x.kind == 3) = false := by simpa using n3
              have c4_ : (x.kind == 4) = false := by simpa using n4
              have c5_ : (x.kind == 5) = false := by simpa using n5
              have HW := Lib.hid (show wordsS c.comps x = crashS x by unfold wordsS; rw [if_neg n0]; rw [if_neg n1]; rw [if_neg n2]; rw [if_neg n3]; rw [if_neg n4]; rw [if_neg n5])
              clear n0 n1 n2 n3 n4 n5
              obtain ⟨W0, hW0⟩ : ∃ W, ((w.alloc (.cells #[.int .i64 c.log, .int .i64 c.pages, .int .i64 c.entities, .int .i64 c.gens, .slice A c.comps.length cap] 24)).alloc (.cells #[.int .i64 x.kind, .int .i64 x.cmd.kind, .bool x.cmd.loc, .int .i64 x.cmd.id.index, .int .i64 x.cmd.id.gen, .int .i64 x.cmd.comp, .slice A1 x.cmd.data.length c1, .int .i64 x.policy.room, .int .i64 x.policy.frames, .int .i64 x.n, .slice A2 x.fates.length c2, .slice A3 x.fuses.length c3] 35)) = W := ⟨_, rfl⟩
              have hz0 : W0.heap.size = w.heap.size + 2 := by rw [← hW0]; simp
              have hb0 : Below w.heap.size w W0 := by rw [← hW0]; exact ((Below.refl _ _).alloc (Nat.le_refl _) _).alloc (by first | (simp; done) | (simp; omega)) _
              have HZ := Lib.hid hz0
              have HB0 := Lib.hid hb0
              have R0_0 := Lib.hid (show W0.heap[w.heap.size]? = some (.cells #[.int .i64 c.log, .int .i64 c.pages, .int .i64 c.entities, .int .i64 c.gens, .slice A c.comps.length cap] 24 (0, 0)) by rw [← hW0]; exact alloc_old (alloc_at rfl))
              have R1_0 := Lib.hid (show W0.heap[w.heap.size + 1]? = some (.cells #[.int .i64 x.kind, .int .i64 x.cmd.kind, .bool x.cmd.loc, .int .i64 x.cmd.id.index, .int .i64 x.cmd.id.gen, .int .i64 x.cmd.comp, .slice A1 x.cmd.data.length c1, .int .i64 x.policy.room, .int .i64 x.policy.frames, .int .i64 x.n, .slice A2 x.fates.length c2, .slice A3 x.fuses.length c3] 35 (0, 0)) by rw [← hW0]; exact alloc_at (by simp))
              have O0 := Lib.hid (Only.refl (Box w 2) W0)
              have Vc_0 := Lib.hid (show rConf.val (In Q w 2) W0 (.agg #[.int .i64 c.log, .int .i64 c.pages, .int .i64 c.entities, .int .i64 c.gens, .slice A c.comps.length cap]) c from val_in HU.out hb0)
              have Vx_0 := Lib.hid (show rAct.val (In Q' w 2) W0 (.agg #[.int .i64 x.kind, .int .i64 x.cmd.kind, .bool x.cmd.loc, .int .i64 x.cmd.id.index, .int .i64 x.cmd.id.gen, .int .i64 x.cmd.comp, .slice A1 x.cmd.data.length c1, .int .i64 x.policy.room, .int .i64 x.policy.frames, .int .i64 x.n, .slice A2 x.fates.length c2, .slice A3 x.fuses.length c3]) x from val_in HX.out hb0)
              have Vm_0 := Lib.hid (show rCmd.val (In Q' w 2) W0 (.agg #[.int .i64 x.cmd.kind, .bool x.cmd.loc, .int .i64 x.cmd.id.index, .int .i64 x.cmd.id.gen, .int .i64 x.cmd.comp, .slice A1 x.cmd.data.length c1]) x.cmd from val_in HCM.out hb0)
              clear hz0 hb0
              have q0_0 := rw5 R0_0.out
              have q1_0 := rw12 R1_0.out
              go_enter Tryz.func25, Tryz.ntmps25
              go_wp2_with fail
              try rw [hW0]
              clear hW0
              try go_wp2_with fail
              clear q0_0 q1_0
              refine (crashWords_calls Vx_0.out (HT.out.call (Only.fin HB0.out O0.out)) HS.out.f HS.out.u).mono ?_
              rintro e w1 ⟨v9, rfl, hv, hb⟩
              have HV := Lib.hid (show Rep.text.list.val (fun b => w.heap.size ≤ b) w1 v9 _ from Rep.val_mono (fun b hb2 _ => Nat.le_trans (Below.size (Only.fin HB0.out O0.out)) hb2) hv)
              have HB := Lib.hid (show Below w.heap.size w w1 from (Only.fin HB0.out O0.out).trans (hb.mono (Below.size (Only.fin HB0.out O0.out))))
              clear hv hb
              go_wp2_with fail
              go_ret
              exact ⟨_, rfl, by rw [HW.out]; exact HV.out, HB.out⟩

set_option maxRecDepth 100000 in
set_option maxHeartbeats 4000000 in
/-- script.Right -/
theorem sright_calls {Q : Nat → Prop} {w : World} {v : Value} {x : DAct} (hx : rAct.val Q w v x) :
    Calls Tryz.prog 23 #[v] w fun e w' => e = .returned (.bool (rightA x)) ∧ Below w.heap.size w w' := by
  obtain ⟨A1, c1, A2, c2, A3, c3, rfl, f0, f1, f2, f3, f4, s1, f5, f6, f7, s2, s3⟩ := rAct_val hx
  have HX := Lib.hid hx
  have HCM := Lib.hid (show rCmd.val Q w (.agg #[.int .i64 x.cmd.kind, .bool x.cmd.loc, .int .i64 x.cmd.id.index, .int .i64 x.cmd.id.gen, .int .i64 x.cmd.comp, .slice A1 x.cmd.data.length c1]) x.cmd from rCmd_agg f1 f2 f3 f4 s1)
  have h1 := s2.1
  have h1m := s2.2.1
  have h2 := s3.1
  have h2m := s3.2.1
  unfold maxLen at h1m h2m
  clear hx f0 f1 f2 f3 f4 s1 f5 f6 f7 s2 s3
  obtain ⟨r, hr⟩ : ∃ r, rightA x = r := ⟨_, rfl⟩
  rw [hr]
  have HR := Lib.hid hr
  clear hr
  rcases dec_split (0 ≤ x.kind) with k0 | ⟨k0, e0⟩
  · rcases dec_split (x.kind ≤ 6) with k6 | ⟨k6, e6⟩
    · by_cases kz : x.kind = 0
      · have bz : (x.kind == 0) = true := by simp [kz]
        have bzn : (x.kind != 0) = false := by simp [kz]
        obtain ⟨ck, hck⟩ : ∃ ck, checkCmd x.cmd = ck := ⟨_, rfl⟩
        have HCK := Lib.hid hck
        by_cases ckz : ck = 0
        · have bc : (ck == 0) = true := by simp [ckz]
          rcases dec_split ((x.fates.length : Int) ≤ 65535) with t1 | ⟨t1, d1⟩
          · rcases dec_split ((x.fuses.length : Int) ≤ 65535) with t2 | ⟨t2, d2⟩
            · skip
              have HE := Lib.hid (show r = true by rw [← HR.out]; simp [rightA, *] <;> omega)
              clear kz ckz
              obtain ⟨W0, hW0⟩ : ∃ W, (w.alloc (.cells #[.int .i64 x.kind, .int .i64 x.cmd.kind, .bool x.cmd.loc, .int .i64 x.cmd.id.index, .int .i64 x.cmd.id.gen, .int .i64 x.cmd.comp, .slice A1 x.cmd.data.length c1, .int .i64 x.policy.room, .int .i64 x.policy.frames, .int .i64 x.n, .slice A2 x.fates.length c2, .slice A3 x.fuses.length c3] 35)) = W := ⟨_, rfl⟩
              have hz0 : W0.heap.size = w.heap.size + 1 := by rw [← hW0]; simp
              have hb0 : Below w.heap.size w W0 := by rw [← hW0]; exact (Below.refl _ _).alloc (Nat.le_refl _) _
              have HZ := Lib.hid hz0
              have HB0 := Lib.hid hb0
              have R0_0 := Lib.hid (show W0.heap[w.heap.size]? = some (.cells #[.int .i64 x.kind, .int .i64 x.cmd.kind, .bool x.cmd.loc, .int .i64 x.cmd.id.index, .int .i64 x.cmd.id.gen, .int .i64 x.cmd.comp, .slice A1 x.cmd.data.length c1, .int .i64 x.policy.room, .int .i64 x.policy.frames, .int .i64 x.n, .slice A2 x.fates.length c2, .slice A3 x.fuses.length c3] 35 (0, 0)) by rw [← hW0]; exact alloc_at rfl)
              have O0 := Lib.hid (Only.refl (Box w 1) W0)
              have Vm_0 := Lib.hid (show rCmd.val (In Q w 1) W0 (.agg #[.int .i64 x.cmd.kind, .bool x.cmd.loc, .int .i64 x.cmd.id.index, .int .i64 x.cmd.id.gen, .int .i64 x.cmd.comp, .slice A1 x.cmd.data.length c1]) x.cmd from val_in HCM.out hb0)
              clear hz0 hb0
              have q0_0 := rw12 R0_0.out
              go_enter Tryz.func23, Tryz.ntmps23
              go_wp2_with fail
              try rw [hW0]
              clear hW0
              try go_wp2_with fail
              clear q0_0
              refine (cmdCheck_calls Vm_0.out).mono ?_
              rintro e w1 ⟨rfl, hb⟩
              have S1 := Lib.hid (show Only (Box w 1) W0 w1 from Only.of_below hb)
              have O1 := Lib.hid (O0.out.trans S1.out)
              have R0_1 := Lib.hid (row_call hb R0_0.out)
              have Vm_1 := Lib.hid (val_only Vm_0.out S1.out)
              rw [HCK.out]
              have q0_0 := rw12 R0_1.out
              clear hb
              go_wp2_with fail
              clear q0_0
              go_ret
              exact ⟨by rw [HE.out]; rfl, Only.fin HB0.out O1.out⟩
            · skip
              have HE := Lib.hid (show r = false by rw [← HR.out]; simp [rightA, *] <;> omega)
              clear kz ckz
              obtain ⟨W0, hW0⟩ : ∃ W, (w.alloc (.cells #[.int .i64 x.kind, .int .i64 x.cmd.kind, .bool x.cmd.loc, .int .i64 x.cmd.id.index, .int .i64 x.cmd.id.gen, .int .i64 x.cmd.comp, .slice A1 x.cmd.data.length c1, .int .i64 x.policy.room, .int .i64 x.policy.frames, .int .i64 x.n, .slice A2 x.fates.length c2, .slice A3 x.fuses.length c3] 35)) = W := ⟨_, rfl⟩
              have hz0 : W0.heap.size = w.heap.size + 1 := by rw [← hW0]; simp
              have hb0 : Below w.heap.size w W0 := by rw [← hW0]; exact (Below.refl _ _).alloc (Nat.le_refl _) _
              have HZ := Lib.hid hz0
              have HB0 := Lib.hid hb0
              have R0_0 := Lib.hid (show W0.heap[w.heap.size]? = some (.cells #[.int .i64 x.kind, .int .i64 x.cmd.kind, .bool x.cmd.loc, .int .i64 x.cmd.id.index, .int .i64 x.cmd.id.gen, .int .i64 x.cmd.comp, .slice A1 x.cmd.data.length c1, .int .i64 x.policy.room, .int .i64 x.policy.frames, .int .i64 x.n, .slice A2 x.fates.length c2, .slice A3 x.fuses.length c3] 35 (0, 0)) by rw [← hW0]; exact alloc_at rfl)
              have O0 := Lib.hid (Only.refl (Box w 1) W0)
              have Vm_0 := Lib.hid (show rCmd.val (In Q w 1) W0 (.agg #[.int .i64 x.cmd.kind, .bool x.cmd.loc, .int .i64 x.cmd.id.index, .int .i64 x.cmd.id.gen, .int .i64 x.cmd.comp, .slice A1 x.cmd.data.length c1]) x.cmd from val_in HCM.out hb0)
              clear hz0 hb0
              have q0_0 := rw12 R0_0.out
              go_enter Tryz.func23, Tryz.ntmps23
              go_wp2_with fail
              try rw [hW0]
              clear hW0
              try go_wp2_with fail
              clear q0_0
              refine (cmdCheck_calls Vm_0.out).mono ?_
              rintro e w1 ⟨rfl, hb⟩
              have S1 := Lib.hid (show Only (Box w 1) W0 w1 from Only.of_below hb)
              have O1 := Lib.hid (O0.out.trans S1.out)
              have R0_1 := Lib.hid (row_call hb R0_0.out)
              have Vm_1 := Lib.hid (val_only Vm_0.out S1.out)
              rw [HCK.out]
              have q0_0 := rw12 R0_1.out
              clear hb
              go_wp2_with fail
              clear q0_0
              go_ret
              exact ⟨by rw [HE.out]; rfl, Only.fin HB0.out O1.out⟩
          · skip
            have HE := Lib.hid (show r = false by rw [← HR.out]; simp [rightA, *] <;> omega)
            clear kz ckz
            obtain ⟨W0, hW0⟩ : ∃ W, (w.alloc (.cells #[.int .i64 x.kind, .int .i64 x.cmd.kind, .bool x.cmd.loc, .int .i64 x.cmd.id.index, .int .i64 x.cmd.id.gen, .int .i64 x.cmd.comp, .slice A1 x.cmd.data.length c1, .int .i64 x.policy.room, .int .i64 x.policy.frames, .int .i64 x.n, .slice A2 x.fates.length c2, .slice A3 x.fuses.length c3] 35)) = W := ⟨_, rfl⟩
            have hz0 : W0.heap.size = w.heap.size + 1 := by rw [← hW0]; simp
            have hb0 : Below w.heap.size w W0 := by rw [← hW0]; exact (Below.refl _ _).alloc (Nat.le_refl _) _
            have HZ := Lib.hid hz0
            have HB0 := Lib.hid hb0
            have R0_0 := Lib.hid (show W0.heap[w.heap.size]? = some (.cells #[.int .i64 x.kind, .int .i64 x.cmd.kind, .bool x.cmd.loc, .int .i64 x.cmd.id.index, .int .i64 x.cmd.id.gen, .int .i64 x.cmd.comp, .slice A1 x.cmd.data.length c1, .int .i64 x.policy.room, .int .i64 x.policy.frames, .int .i64 x.n, .slice A2 x.fates.length c2, .slice A3 x.fuses.length c3] 35 (0, 0)) by rw [← hW0]; exact alloc_at rfl)
            have O0 := Lib.hid (Only.refl (Box w 1) W0)
            have Vm_0 := Lib.hid (show rCmd.val (In Q w 1) W0 (.agg #[.int .i64 x.cmd.kind, .bool x.cmd.loc, .int .i64 x.cmd.id.index, .int .i64 x.cmd.id.gen, .int .i64 x.cmd.comp, .slice A1 x.cmd.data.length c1]) x.cmd from val_in HCM.out hb0)
            clear hz0 hb0
            have q0_0 := rw12 R0_0.out
            go_enter Tryz.func23, Tryz.ntmps23
            go_wp2_with fail
            try rw [hW0]
            clear hW0
            try go_wp2_with fail
            clear q0_0
            refine (cmdCheck_calls Vm_0.out).mono ?_
            rintro e w1 ⟨rfl, hb⟩
            have S1 := Lib.hid (show Only (Box w 1) W0 w1 from Only.of_below hb)
            have O1 := Lib.hid (O0.out.trans S1.out)
            have R0_1 := Lib.hid (row_call hb R0_0.out)
            have Vm_1 := Lib.hid (val_only Vm_0.out S1.out)
            rw [HCK.out]
            have q0_0 := rw12 R0_1.out
            clear hb
            go_wp2_with fail
            clear q0_0
            go_ret
            exact ⟨by rw [HE.out]; rfl, Only.fin HB0.out O1.out⟩
        · have bc : (ck == 0) = false := by simpa using ckz
          have HE := Lib.hid (show r = false by rw [← HR.out]; simp [rightA, *])
          clear kz ckz
          obtain ⟨W0, hW0⟩ : ∃ W, (w.alloc (.cells #[.int .i64 x.kind, .int .i64 x.cmd.kind, .bool x.cmd.loc, .int .i64 x.cmd.id.index, .int .i64 x.cmd.id.gen, .int .i64 x.cmd.comp, .slice A1 x.cmd.data.length c1, .int .i64 x.policy.room, .int .i64 x.policy.frames, .int .i64 x.n, .slice A2 x.fates.length c2, .slice A3 x.fuses.length c3] 35)) = W := ⟨_, rfl⟩
          have hz0 : W0.heap.size = w.heap.size + 1 := by rw [← hW0]; simp
          have hb0 : Below w.heap.size w W0 := by rw [← hW0]; exact (Below.refl _ _).alloc (Nat.le_refl _) _
          have HZ := Lib.hid hz0
          have HB0 := Lib.hid hb0
          have R0_0 := Lib.hid (show W0.heap[w.heap.size]? = some (.cells #[.int .i64 x.kind, .int .i64 x.cmd.kind, .bool x.cmd.loc, .int .i64 x.cmd.id.index, .int .i64 x.cmd.id.gen, .int .i64 x.cmd.comp, .slice A1 x.cmd.data.length c1, .int .i64 x.policy.room, .int .i64 x.policy.frames, .int .i64 x.n, .slice A2 x.fates.length c2, .slice A3 x.fuses.length c3] 35 (0, 0)) by rw [← hW0]; exact alloc_at rfl)
          have O0 := Lib.hid (Only.refl (Box w 1) W0)
          have Vm_0 := Lib.hid (show rCmd.val (In Q w 1) W0 (.agg #[.int .i64 x.cmd.kind, .bool x.cmd.loc, .int .i64 x.cmd.id.index, .int .i64 x.cmd.id.gen, .int .i64 x.cmd.comp, .slice A1 x.cmd.data.length c1]) x.cmd from val_in HCM.out hb0)
          clear hz0 hb0
          have q0_0 := rw12 R0_0.out
          go_enter Tryz.func23, Tryz.ntmps23
          go_wp2_with fail
          try rw [hW0]
          clear hW0
          try go_wp2_with fail
          clear q0_0
          refine (cmdCheck_calls Vm_0.out).mono ?_
          rintro e w1 ⟨rfl, hb⟩
          have S1 := Lib.hid (show Only (Box w 1) W0 w1 from Only.of_below hb)
          have O1 := Lib.hid (O0.out.trans S1.out)
          have R0_1 := Lib.hid (row_call hb R0_0.out)
          have Vm_1 := Lib.hid (val_only Vm_0.out S1.out)
          rw [HCK.out]
          have q0_0 := rw12 R0_1.out
          clear hb
          go_wp2_with fail
          clear q0_0
          go_ret
          exact ⟨by rw [HE.out]; rfl, Only.fin HB0.out O1.out⟩
      · have bz : (x.kind == 0) = false := by simpa using kz
        have bzn : (x.kind != 0) = true := by simpa using kz
        rcases dec_split ((x.fates.length : Int) ≤ 65535) with t1 | ⟨t1, d1⟩
        · rcases dec_split ((x.fuses.length : Int) ≤ 65535) with t2 | ⟨t2, d2⟩
          · skip
            have HE := Lib.hid (show r = true by rw [← HR.out]; simp [rightA, *] <;> omega)
            obtain ⟨W0, hW0⟩ : ∃ W, (w.alloc (.cells #[.int .i64 x.kind, .int .i64 x.cmd.kind, .bool x.cmd.loc, .int .i64 x.cmd.id.index, .int .i64 x.cmd.id.gen, .int .i64 x.cmd.comp, .slice A1 x.cmd.data.length c1, .int .i64 x.policy.room, .int .i64 x.policy.frames, .int .i64 x.n, .slice A2 x.fates.length c2, .slice A3 x.fuses.length c3] 35)) = W := ⟨_, rfl⟩
            have hz0 : W0.heap.size = w.heap.size + 1 := by rw [← hW0]; simp
            have hb0 : Below w.heap.size w W0 := by rw [← hW0]; exact (Below.refl _ _).alloc (Nat.le_refl _) _
            have HZ := Lib.hid hz0
            have HB0 := Lib.hid hb0
            have R0_0 := Lib.hid (show W0.heap[w.heap.size]? = some (.cells #[.int .i64 x.kind, .int .i64 x.cmd.kind, .bool x.cmd.loc, .int .i64 x.cmd.id.index, .int .i64 x.cmd.id.gen, .int .i64 x.cmd.comp, .slice A1 x.cmd.data.length c1, .int .i64 x.policy.room, .int .i64 x.policy.frames, .int .i64 x.n, .slice A2 x.fates.length c2, .slice A3 x.fuses.length c3] 35 (0, 0)) by rw [← hW0]; exact alloc_at rfl)
            have O0 := Lib.hid (Only.refl (Box w 1) W0)
            have Vm_0 := Lib.hid (show rCmd.val (In Q w 1) W0 (.agg #[.int .i64 x.cmd.kind, .bool x.cmd.loc, .int .i64 x.cmd.id.index, .int .i64 x.cmd.id.gen, .int .i64 x.cmd.comp, .slice A1 x.cmd.data.length c1]) x.cmd from val_in HCM.out hb0)
            clear hz0 hb0
            have q0_0 := rw12 R0_0.out
            go_enter Tryz.func23, Tryz.ntmps23
            go_wp2_with fail
            try rw [hW0]
            clear hW0
            try go_wp2_with fail
            clear q0_0
            go_ret
            exact ⟨by rw [HE.out]; rfl, Only.fin HB0.out O0.out⟩
          · skip
            have HE := Lib.hid (show r = false by rw [← HR.out]; simp [rightA, *] <;> omega)
            obtain ⟨W0, hW0⟩ : ∃ W, (w.alloc (.cells #[.int .i64 x.kind, .int .i64 x.cmd.kind, .bool x.cmd.loc, .int .i64 x.cmd.id.index, .int .i64 x.cmd.id.gen, .int .i64 x.cmd.comp, .slice A1 x.cmd.data.length c1, .int .i64 x.policy.room, .int .i64 x.policy.frames, .int .i64 x.n, .slice A2 x.fates.length c2, .slice A3 x.fuses.length c3] 35)) = W := ⟨_, rfl⟩
            have hz0 : W0.heap.size = w.heap.size + 1 := by rw [← hW0]; simp
            have hb0 : Below w.heap.size w W0 := by rw [← hW0]; exact (Below.refl _ _).alloc (Nat.le_refl _) _
            have HZ := Lib.hid hz0
            have HB0 := Lib.hid hb0
            have R0_0 := Lib.hid (show W0.heap[w.heap.size]? = some (.cells #[.int .i64 x.kind, .int .i64 x.cmd.kind, .bool x.cmd.loc, .int .i64 x.cmd.id.index, .int .i64 x.cmd.id.gen, .int .i64 x.cmd.comp, .slice A1 x.cmd.data.length c1, .int .i64 x.policy.room, .int .i64 x.policy.frames, .int .i64 x.n, .slice A2 x.fates.length c2, .slice A3 x.fuses.length c3] 35 (0, 0)) by rw [← hW0]; exact alloc_at rfl)
            have O0 := Lib.hid (Only.refl (Box w 1) W0)
            have Vm_0 := Lib.hid (show rCmd.val (In Q w 1) W0 (.agg #[.int .i64 x.cmd.kind, .bool x.cmd.loc, .int .i64 x.cmd.id.index, .int .i64 x.cmd.id.gen, .int .i64 x.cmd.comp, .slice A1 x.cmd.data.length c1]) x.cmd from val_in HCM.out hb0)
            clear hz0 hb0
            have q0_0 := rw12 R0_0.out
            go_enter Tryz.func23, Tryz.ntmps23
            go_wp2_with fail
            try rw [hW0]
            clear hW0
            try go_wp2_with fail
            clear q0_0
            go_ret
            exact ⟨by rw [HE.out]; rfl, Only.fin HB0.out O0.out⟩
        · skip
          have HE := Lib.hid (show r = false by rw [← HR.out]; simp [rightA, *] <;> omega)
          obtain ⟨W0, hW0⟩ : ∃ W, (w.alloc (.cells #[.int .i64 x.kind, .int .i64 x.cmd.kind, .bool x.cmd.loc, .int .i64 x.cmd.id.index, .int .i64 x.cmd.id.gen, .int .i64 x.cmd.comp, .slice A1 x.cmd.data.length c1, .int .i64 x.policy.room, .int .i64 x.policy.frames, .int .i64 x.n, .slice A2 x.fates.length c2, .slice A3 x.fuses.length c3] 35)) = W := ⟨_, rfl⟩
          have hz0 : W0.heap.size = w.heap.size + 1 := by rw [← hW0]; simp
          have hb0 : Below w.heap.size w W0 := by rw [← hW0]; exact (Below.refl _ _).alloc (Nat.le_refl _) _
          have HZ := Lib.hid hz0
          have HB0 := Lib.hid hb0
          have R0_0 := Lib.hid (show W0.heap[w.heap.size]? = some (.cells #[.int .i64 x.kind, .int .i64 x.cmd.kind, .bool x.cmd.loc, .int .i64 x.cmd.id.index, .int .i64 x.cmd.id.gen, .int .i64 x.cmd.comp, .slice A1 x.cmd.data.length c1, .int .i64 x.policy.room, .int .i64 x.policy.frames, .int .i64 x.n, .slice A2 x.fates.length c2, .slice A3 x.fuses.length c3] 35 (0, 0)) by rw [← hW0]; exact alloc_at rfl)
          have O0 := Lib.hid (Only.refl (Box w 1) W0)
          have Vm_0 := Lib.hid (show rCmd.val (In Q w 1) W0 (.agg #[.int .i64 x.cmd.kind, .bool x.cmd.loc, .int .i64 x.cmd.id.index, .int .i64 x.cmd.id.gen, .int .i64 x.cmd.comp, .slice A1 x.cmd.data.length c1]) x.cmd from val_in HCM.out hb0)
          clear hz0 hb0
          have q0_0 := rw12 R0_0.out
          go_enter Tryz.func23, Tryz.ntmps23
          go_wp2_with fail
          try rw [hW0]
          clear hW0
          try go_wp2_with fail
          clear q0_0
          go_ret
          exact ⟨by rw [HE.out]; rfl, Only.fin HB0.out O0.out⟩
    · skip
      have HE := Lib.hid (show r = false by rw [← HR.out]; simp [rightA]; omega)
      obtain ⟨W0, hW0⟩ : ∃ W, (w.alloc (.cells #[.int .i64 x.kind, .int .i64 x.cmd.kind, .bool x.cmd.loc, .int .i64 x.cmd.id.index, .int .i64 x.cmd.id.gen, .int .i64 x.cmd.comp, .slice A1 x.cmd.data.length c1, .int .i64 x.policy.room, .int .i64 x.policy.frames, .int .i64 x.n, .slice A2 x.fates.length c2, .slice A3 x.fuses.length c3] 35)) = W := ⟨_, rfl⟩
      have hz0 : W0.heap.size = w.heap.size + 1 := by rw [← hW0]; simp
      have hb0 : Below w.heap.size w W0 := by rw [← hW0]; exact (Below.refl _ _).alloc (Nat.le_refl _) _
      have HZ := Lib.hid hz0
      have HB0 := Lib.hid hb0
      have R0_0 := Lib.hid (show W0.heap[w.heap.size]? = some (.cells #[.int .i64 x.kind, .int .i64 x.cmd.kind, .bool x.cmd.loc, .int .i64 x.cmd.id.index, .int .i64 x.cmd.id.gen, .int .i64 x.cmd.comp, .slice A1 x.cmd.data.length c1, .int .i64 x.policy.room, .int .i64 x.policy.frames, .int .i64 x.n, .slice A2 x.fates.length c2, .slice A3 x.fuses.length c3] 35 (0, 0)) by rw [← hW0]; exact alloc_at rfl)
      have O0 := Lib.hid (Only.refl (Box w 1) W0)
      have Vm_0 := Lib.hid (show rCmd.val (In Q w 1) W0 (.agg #[.int .i64 x.cmd.kind, .bool x.cmd.loc, .int .i64 x.cmd.id.index, .int .i64 x.cmd.id.gen, .int .i64 x.cmd.comp, .slice A1 x.cmd.data.length c1]) x.cmd from val_in HCM.out hb0)
      clear hz0 hb0
      have q0_0 := rw12 R0_0.out
      go_enter Tryz.func23, Tryz.ntmps23
      go_wp2_with fail
      try rw [hW0]
      clear hW0
      try go_wp2_with fail
      clear q0_0
      go_ret
      exact ⟨by rw [HE.out]; rfl, Only.fin HB0.out O0.out⟩
  · skip
    have HE := Lib.hid (show r = false by rw [← HR.out]; simp [rightA]; omega)
    obtain ⟨W0, hW0⟩ : ∃ W, (w.alloc (.cells #[.int .i64 x.kind, .int .i64 x.cmd.kind, .bool x.cmd.loc, .int .i64 x.cmd.id.index, .int .i64 x.cmd.id.gen, .int .i64 x.cmd.comp, .slice A1 x.cmd.data.length c1, .int .i64 x.policy.room, .int .i64 x.policy.frames, .int .i64 x.n, .slice A2 x.fates.length c2, .slice A3 x.fuses.length c3] 35)) = W := ⟨_, rfl⟩
    have hz0 : W0.heap.size = w.heap.size + 1 := by rw [← hW0]; simp
    have hb0 : Below w.heap.size w W0 := by rw [← hW0]; exact (Below.refl _ _).alloc (Nat.le_refl _) _
    have HZ := Lib.hid hz0
    have HB0 := Lib.hid hb0
    have R0_0 := Lib.hid (show W0.heap[w.heap.size]? = some (.cells #[.int .i64 x.kind, .int .i64 x.cmd.kind, .bool x.cmd.loc, .int .i64 x.cmd.id.index, .int .i64 x.cmd.id.gen, .int .i64 x.cmd.comp, .slice A1 x.cmd.data.length c1, .int .i64 x.policy.room, .int .i64 x.policy.frames, .int .i64 x.n, .slice A2 x.fates.length c2, .slice A3 x.fuses.length c3] 35 (0, 0)) by rw [← hW0]; exact alloc_at rfl)
    have O0 := Lib.hid (Only.refl (Box w 1) W0)
    have Vm_0 := Lib.hid (show rCmd.val (In Q w 1) W0 (.agg #[.int .i64 x.cmd.kind, .bool x.cmd.loc, .int .i64 x.cmd.id.index, .int .i64 x.cmd.id.gen, .int .i64 x.cmd.comp, .slice A1 x.cmd.data.length c1]) x.cmd from val_in HCM.out hb0)
    clear hz0 hb0
    have q0_0 := rw12 R0_0.out
    go_enter Tryz.func23, Tryz.ntmps23
    go_wp2_with fail
    try rw [hW0]
    clear hW0
    try go_wp2_with fail
    clear q0_0
    go_ret
    exact ⟨by rw [HE.out]; rfl, Only.fin HB0.out O0.out⟩

theorem texts_cells {Q : Nat → Prop} {w : World} {v : Value} {l : List (List UInt8)} (h : Rep.text.list.val Q w v l) (hne : l ≠ []) : ∃ b off c, v = .slice (some ⟨b, off, none⟩) l.length c ∧ b < w.heap.size ∧ l.length ≤ c ∧ ∀ (j : Nat) x, (l.map fun y => ByteArray.mk y.toArray)[j]? = some x → w.cell? ⟨b, off + j, none⟩ = some (.string x) := by
  obtain ⟨A, c, rfl, h1, h2, hA⟩ := Rep.val_list h
  have hp := List.length_pos_iff.2 hne
  obtain ⟨b, off, rfl⟩ := hA.addr hp
  obtain ⟨b', off', he, hb, _, _⟩ := text_at hA (List.getElem?_eq_getElem hp)
  obtain ⟨rfl, rfl⟩ : b = b' ∧ off = off' := by simpa using he
  refine ⟨b, off, c, rfl, hb.lt, h1, fun j x hx => ?_⟩
  rw [List.getElem?_map, Option.map_eq_some_iff] at hx
  obtain ⟨y, hy, rfl⟩ := hx
  obtain ⟨b', off', he, _, hc, _⟩ := text_at hA hy
  obtain ⟨rfl, rfl⟩ : b = b' ∧ off = off' := by simpa using he
  exact hc
theorem join_len {c : UInt8} {m : Nat} : ∀ (ws : List (List UInt8)), (∀ y ∈ ws, y.length ≤ m) → (Lib.join ws [c]).length ≤ ws.length * (m + 1)
  | [], _ => by simp [Lib.join, List.intercalate]
  | [x], h => by
    have := h x (by simp)
    rw [Lib.join_one]
    simp; omega
  | x :: y :: ws, h => by
    have e : Lib.join (x :: y :: ws) [c] = x ++ c :: Lib.join (y :: ws) [c] := by simp [Lib.join, List.intercalate, List.intersperse]
    have ih := join_len (c := c) (y :: ws) fun z hz => h z (by simp [hz])
    have hx := h x (by simp)
    rw [e, List.length_append, List.length_cons]
    have h2 : (x :: y :: ws).length * (m + 1) = (y :: ws).length * (m + 1) + (m + 1) := by rw [List.length_cons, Nat.succ_mul]
    omega
theorem words_len {l : List DComp} {x : DAct} (h : ActSmall x) (hm : ∀ y ∈ l, y.name.length ≤ 1000000) : (Lib.join (wordsS l x) [32]).length ≤ 140737488355328 ∧ (wordsS l x).length ≤ 140737488355328 := by
  have hw : ∀ y ∈ wordsS l x, y.length ≤ 2000001 := by
    have i1 := (itoa_len h.inn.r).1
    have i2 := (itoa_len h.inn.f).1
    have i3 := (itoa_len h.inn.n).1
    have i4 := whom_len (x := x.cmd) ⟨h.inn.c.i, h.inn.c.g⟩
    have i5 := cpart_len h.inn.c.k hm (by omega)
    have i6 := hex_len x.cmd.data
    have i7 := h.d
    have hc : ∀ y ∈ crashS x, y.length ≤ 2000001 := by
      intro y hy
      unfold crashS at hy
      rcases List.mem_cons.1 hy with rfl | hy
      · decide
      · rcases List.mem_append.1 hy with hy | hy
        · rcases List.mem_append.1 hy with hy | hy
          · obtain ⟨f, hf, rfl⟩ := List.mem_map.1 hy
            have := fate_len (h.inn.fa f hf); omega
          · split at hy
            · cases hy
            · rw [List.mem_singleton] at hy; subst hy; decide
        · obtain ⟨n, hn, rfl⟩ := List.mem_map.1 hy
          have := (itoa_len (h.inn.fu n hn)).1; omega
    unfold wordsS commandS
    intro y hy
    repeat' split at hy
    all_goals first
      | exact hc y hy
      | (simp only [List.mem_cons, List.not_mem_nil, or_false] at hy
         first
         | (rcases hy with hy | hy | hy | hy <;> (rw [hy]; first | decide | omega))
         | (rcases hy with hy | hy | hy <;> (rw [hy]; first | decide | omega))
         | (rcases hy with hy | hy <;> (rw [hy]; first | decide | omega))
         | (rw [hy]; decide))
  have hn : (wordsS l x).length ≤ 200010 := by
    have h1 := h.f
    have h2 := h.u
    unfold wordsS commandS crashS
    repeat' split
    all_goals simp
    all_goals omega
  have := join_len (c := 32) _ hw
  have h3 : (wordsS l x).length * (2000001 + 1) ≤ 200010 * 2000002 := Nat.mul_le_mul hn (Nat.le_refl _)
  omega
theorem words_ne {l : List DComp} {x : DAct} : wordsS l x ≠ [] := by
  unfold wordsS commandS crashS
  repeat' split
  all_goals simp

set_option maxRecDepth 100000 in
set_option maxHeartbeats 4000000 in
/-- console.Show -/
theorem show_calls {Q Q' : Nat → Prop} {w : World} {u v : Value} {c : DConf} {x : DAct} (hu : rConf.val Q w u c) (hx : rAct.val Q' w v x) (ht : Tabs w) (hs : ActSmall x) (hm : ∀ y ∈ c.comps, y.name.length ≤ 1000000) :
    Calls Tryz.prog 8 #[u, v] w fun e w' => e = .returned (.string ⟨(showS c.comps x).toArray⟩) ∧ Below w.heap.size w w' := by
  have HT := Lib.hid ht
  have HM := Lib.hid hm
  have HS := Lib.hid hs
  have HLEN := Lib.hid (show (Lib.join (wordsS c.comps x) [32]).length ≤ 140737488355328 ∧ (wordsS c.comps x).length ≤ 140737488355328 from words_len hs hm)
  obtain ⟨A, cap, rfl, _, _, _, _, _, _, _⟩ := rConf_val hu
  obtain ⟨A1, c1, A2, c2, A3, c3, rfl, f0, f1, f2, f3, f4, s1, f5, f6, f7, s2, s3⟩ := rAct_val hx
  have HU := Lib.hid hu
  have HX := Lib.hid hx
  clear hx ht hu hm hs f0 f1 f2 f3 f4 s1 f5 f6 f7 s2 s3
  cases hr : rightA x
  case true =>
    have HR := Lib.hid hr
    have HW := Lib.hid (show showS c.comps x = Lib.join (wordsS c.comps x) [32] by unfold showS; rw [hr]; rfl)
    clear hr
    obtain ⟨W0, hW0⟩ : ∃ W, ((w.alloc (.cells #[.int .i64 c.log, .int .i64 c.pages, .int .i64 c.entities, .int .i64 c.gens, .slice A c.comps.length cap] 24)).alloc (.cells #[.int .i64 x.kind, .int .i64 x.cmd.kind, .bool x.cmd.loc, .int .i64 x.cmd.id.index, .int .i64 x.cmd.id.gen, .int .i64 x.cmd.comp, .slice A1 x.cmd.data.length c1, .int .i64 x.policy.room, .int .i64 x.policy.frames, .int .i64 x.n, .slice A2 x.fates.length c2, .slice A3 x.fuses.length c3] 35)) = W := ⟨_, rfl⟩
    have hz0 : W0.heap.size = w.heap.size + 2 := by rw [← hW0]; simp
    have hb0 : Below w.heap.size w W0 := by rw [← hW0]; exact ((Below.refl _ _).alloc (Nat.le_refl _) _).alloc (by first | (simp; done) | (simp; omega)) _
    have HZ := Lib.hid hz0
    have HB0 := Lib.hid hb0
    have R0_0 := Lib.hid (show W0.heap[w.heap.size]? = some (.cells #[.int .i64 c.log, .int .i64 c.pages, .int .i64 c.entities, .int .i64 c.gens, .slice A c.comps.length cap] 24 (0, 0)) by rw [← hW0]; exact alloc_old (alloc_at rfl))
    have R1_0 := Lib.hid (show W0.heap[w.heap.size + 1]? = some (.cells #[.int .i64 x.kind, .int .i64 x.cmd.kind, .bool x.cmd.loc, .int .i64 x.cmd.id.index, .int .i64 x.cmd.id.gen, .int .i64 x.cmd.comp, .slice A1 x.cmd.data.length c1, .int .i64 x.policy.room, .int .i64 x.policy.frames, .int .i64 x.n, .slice A2 x.fates.length c2, .slice A3 x.fuses.length c3] 35 (0, 0)) by rw [← hW0]; exact alloc_at (by simp))
    have O0 := Lib.hid (Only.refl (Box w 2) W0)
    have Vc_0 := Lib.hid (show rConf.val (In Q w 2) W0 (.agg #[.int .i64 c.log, .int .i64 c.pages, .int .i64 c.entities, .int .i64 c.gens, .slice A c.comps.length cap]) c from val_in HU.out hb0)
    have Vx_0 := Lib.hid (show rAct.val (In Q' w 2) W0 (.agg #[.int .i64 x.kind, .int .i64 x.cmd.kind, .bool x.cmd.loc, .int .i64 x.cmd.id.index, .int .i64 x.cmd.id.gen, .int .i64 x.cmd.comp, .slice A1 x.cmd.data.length c1, .int .i64 x.policy.room, .int .i64 x.policy.frames, .int .i64 x.n, .slice A2 x.fates.length c2, .slice A3 x.fuses.length c3]) x from val_in HX.out hb0)
    clear hz0 hb0
    have q0_0 := rw5 R0_0.out
    have q1_0 := rw12 R1_0.out
    go_enter Tryz.func8, Tryz.ntmps8
    go_wp2_with fail
    try rw [hW0]
    clear hW0
    try go_wp2_with fail
    clear q0_0 q1_0
    refine (sright_calls Vx_0.out).mono ?_
    rintro e w1 ⟨rfl, hb⟩
    have S1 := Lib.hid (show Only (Box w 2) W0 w1 from Only.of_below hb)
    have O1 := Lib.hid (O0.out.trans S1.out)
    have R0_1 := Lib.hid (row_call hb R0_0.out)
    have R1_1 := Lib.hid (row_call hb R1_0.out)
    have Vc_1 := Lib.hid (val_only Vc_0.out S1.out)
    have Vx_1 := Lib.hid (val_only Vx_0.out S1.out)
    clear hb
    rw [HR.out]
    have q0_0 := rw5 R0_1.out
    have q1_0 := rw12 R1_1.out
    go_wp2_with fail
    clear q0_0 q1_0
    refine (words_calls Vc_1.out Vx_1.out (HT.out.call (Only.fin HB0.out O1.out)) HS.out HM.out).mono ?_
    rintro e w2 ⟨v9, rfl, hv, hb⟩
    have S2 := Lib.hid (show Only (Box w 2) w1 w2 from Only.of_below hb)
    have O2 := Lib.hid (O1.out.trans S2.out)
    have R0_2 := Lib.hid (row_call hb R0_1.out)
    have R1_2 := Lib.hid (row_call hb R1_1.out)
    have Vc_2 := Lib.hid (val_only Vc_1.out S2.out)
    have Vx_2 := Lib.hid (val_only Vx_1.out S2.out)
    obtain ⟨bk, off, cc, rfl, hbk, hcc, hcell⟩ := texts_cells hv words_ne
    have HBK := Lib.hid (And.intro hbk hcc)
    have HC := Lib.hid hcell
    clear hv hb hbk hcc hcell
    obtain ⟨ws, hws⟩ : ∃ ws, wordsS c.comps x = ws := ⟨_, rfl⟩
    rw [hws] at HW HLEN HC HBK ⊢
    clear hws
    go_wp2_with fail
    have hjm := Tryz.strings_Join bk off cc (ws.map fun y => ByteArray.mk y.toArray) ⟨#[32]⟩ w2 HC.out HBK.out.1 (by rw [List.length_map]; exact HLEN.out.2) (by rw [List.length_map]; exact HBK.out.2) (by simpa [Function.comp_def] using HLEN.out.1)
    rw [List.length_map] at hjm
    refine hjm.mono ?_
    rintro e w3 ⟨rfl, hb⟩
    have HB3 := Lib.hid hb
    clear hjm hb
    go_wp2_with fail
    go_ret
    exact ⟨by rw [HW.out]; simp [Function.comp_def], (Only.fin HB0.out O2.out).trans (HB3.out.mono (Below.size (Only.fin HB0.out O2.out)))⟩
  case false =>
    have HR := Lib.hid hr
    have HW := Lib.hid (show showS c.comps x = [63] by unfold showS; rw [hr]; rfl)
    clear hr
    obtain ⟨W0, hW0⟩ : ∃ W, ((w.alloc (.cells #[.int .i64 c.log, .int .i64 c.pages, .int .i64 c.entities, .int .i64 c.gens, .slice A c.comps.length cap] 24)).alloc (.cells #[.int .i64 x.kind, .int .i64 x.cmd.kind, .bool x.cmd.loc, .int .i64 x.cmd.id.index, .int .i64 x.cmd.id.gen, .int .i64 x.cmd.comp, .slice A1 x.cmd.data.length c1, .int .i64 x.policy.room, .int .i64 x.policy.frames, .int .i64 x.n, .slice A2 x.fates.length c2, .slice A3 x.fuses.length c3] 35)) = W := ⟨_, rfl⟩
    have hz0 : W0.heap.size = w.heap.size + 2 := by rw [← hW0]; simp
    have hb0 : Below w.heap.size w W0 := by rw [← hW0]; exact ((Below.refl _ _).alloc (Nat.le_refl _) _).alloc (by first | (simp; done) | (simp; omega)) _
    have HZ := Lib.hid hz0
    have HB0 := Lib.hid hb0
    have R0_0 := Lib.hid (show W0.heap[w.heap.size]? = some (.cells #[.int .i64 c.log, .int .i64 c.pages, .int .i64 c.entities, .int .i64 c.gens, .slice A c.comps.length cap] 24 (0, 0)) by rw [← hW0]; exact alloc_old (alloc_at rfl))
    have R1_0 := Lib.hid (show W0.heap[w.heap.size + 1]? = some (.cells #[.int .i64 x.kind, .int .i64 x.cmd.kind, .bool x.cmd.loc, .int .i64 x.cmd.id.index, .int .i64 x.cmd.id.gen, .int .i64 x.cmd.comp, .slice A1 x.cmd.data.length c1, .int .i64 x.policy.room, .int .i64 x.policy.frames, .int .i64 x.n, .slice A2 x.fates.length c2, .slice A3 x.fuses.length c3] 35 (0, 0)) by rw [← hW0]; exact alloc_at (by simp))
    have O0 := Lib.hid (Only.refl (Box w 2) W0)
    have Vc_0 := Lib.hid (show rConf.val (In Q w 2) W0 (.agg #[.int .i64 c.log, .int .i64 c.pages, .int .i64 c.entities, .int .i64 c.gens, .slice A c.comps.length cap]) c from val_in HU.out hb0)
    have Vx_0 := Lib.hid (show rAct.val (In Q' w 2) W0 (.agg #[.int .i64 x.kind, .int .i64 x.cmd.kind, .bool x.cmd.loc, .int .i64 x.cmd.id.index, .int .i64 x.cmd.id.gen, .int .i64 x.cmd.comp, .slice A1 x.cmd.data.length c1, .int .i64 x.policy.room, .int .i64 x.policy.frames, .int .i64 x.n, .slice A2 x.fates.length c2, .slice A3 x.fuses.length c3]) x from val_in HX.out hb0)
    clear hz0 hb0
    have q0_0 := rw5 R0_0.out
    have q1_0 := rw12 R1_0.out
    go_enter Tryz.func8, Tryz.ntmps8
    go_wp2_with fail
    try rw [hW0]
    clear hW0
    try go_wp2_with fail
    clear q0_0 q1_0
    refine (sright_calls Vx_0.out).mono ?_
    rintro e w1 ⟨rfl, hb⟩
    have S1 := Lib.hid (show Only (Box w 2) W0 w1 from Only.of_below hb)
    have O1 := Lib.hid (O0.out.trans S1.out)
    have R0_1 := Lib.hid (row_call hb R0_0.out)
    have R1_1 := Lib.hid (row_call hb R1_0.out)
    have Vc_1 := Lib.hid (val_only Vc_0.out S1.out)
    have Vx_1 := Lib.hid (val_only Vx_0.out S1.out)
    clear hb
    rw [HR.out]
    have q0_0 := rw5 R0_1.out
    have q1_0 := rw12 R1_1.out
    go_wp2_with fail
    clear q0_0 q1_0
    go_ret
    exact ⟨by rw [HW.out]; rfl, Only.fin HB0.out O1.out⟩
end Go.Proofs.YtejibngkeaamkaaGreatDoor
namespace Go.Proofs.YtejibngkeaamkaaGreatDoor
open Go.RowKit

set_option maxRecDepth 100000 in
set_option maxHeartbeats 1500000 in
/-- cmd.Plain, of a command that is known -/
theorem cplain_calls {Q : Nat → Prop} {w : World} {v : Value} {x : DCmd} (hx : rCmd.val Q w v x) (hk : knownB x.kind = true) (hd : x.data.length ≤ 1000000) :
    Calls Tryz.prog 57 #[v] w (Res rCmd (fun b => w.heap.size ≤ b) w (plainC x)) := by
  have hfr : Tryz.f57.results = #[.cell 2 29] := rfl
  obtain ⟨Ad, cd, rfl, f0, f1, f2, f3, hs⟩ := rCmd_val hx
  have HSL := Lib.hid hs.val
  have HF := Lib.hid (And.intro f0 (And.intro f1 (And.intro f2 f3)))
  have HK := Lib.hid hk
  have HD := Lib.hid hd
  have h4 : x.kind = 0 ∨ x.kind = 1 ∨ x.kind = 2 ∨ x.kind = 3 := by
    have := hk
    unfold knownB at this
    simp at this
    omega
  clear hx hs f0 f1 f2 f3 hk hd
  cases hl : x.loc
  case false =>
    have HL := Lib.hid hl
    clear hl
    rcases h4 with h | h | h | h
    · have HKK := Lib.hid h
      have b2 : (x.kind == 2) = false := by simp [h]
      have b3 : (x.kind == 3) = false := by simp [h]
      have b1 : (x.kind == 1) = false := by simp [h]
      clear h
      obtain ⟨W0, hW0⟩ : ∃ W, ((w.alloc (.cells #[.int .i64 x.kind, .bool false, .int .i64 x.id.index, .int .i64 x.id.gen, .int .i64 x.comp, .slice Ad x.data.length cd] 29)).alloc (.cells #[.int .i64 0, .bool false, .int .i64 0, .int .i64 0, .int .i64 0, .slice none 0 0] 29)) = W := ⟨_, rfl⟩
      have hz0 : W0.heap.size = w.heap.size + 2 := by rw [← hW0]; simp
      have hb0 : Below w.heap.size w W0 := by rw [← hW0]; exact ((Below.refl _ _).alloc (Nat.le_refl _) _).alloc (by first | (simp; done) | (simp; omega)) _
      have HZ := Lib.hid hz0
      have HB0 := Lib.hid hb0
      have R0_0 := Lib.hid (show W0.heap[w.heap.size]? = some (.cells #[.int .i64 x.kind, .bool false, .int .i64 x.id.index, .int .i64 x.id.gen, .int .i64 x.comp, .slice Ad x.data.length cd] 29 (0, 0)) by rw [← hW0]; exact alloc_old (alloc_at rfl))
      have R1_0 := Lib.hid (show W0.heap[w.heap.size + 1]? = some (.cells #[.int .i64 0, .bool false, .int .i64 0, .int .i64 0, .int .i64 0, .slice none 0 0] 29 (0, 0)) by rw [← hW0]; exact alloc_at (by simp))
      have O0 := Lib.hid (Only.refl (Box w 3) W0)
      clear hz0 hb0
      have q0_0 := rw6 R0_0.out
      have q1_0 := rw6 R1_0.out
      go_enter Tryz.func57, Tryz.ntmps57
      go_wp2_with fail
      try rw [hW0]
      clear hW0
      try go_wp2_with fail
      clear q0_0 q1_0
      refine (known_calls _ _).mono ?_
      rintro e w1 ⟨rfl, rfl⟩
      rw [HK.out]
      have q0_0 := rw6 R0_0.out
      have q1_0 := rw6 R1_0.out
      go_wp2_with (with_reducible refine stopLoad 3 16 rfl ?_)
      refine Lib.hid ?_
      clear q0_0 q1_0
      rw [show w1.heap.size = w.heap.size + 1 + 1 by have := HZ.out; omega]
      refine nm_list (fun V1 hnm => ?_)
      have S1 := Lib.hid (show Only (Box w 3) w1 V1 from (by rw [hnm]; exact (Only.refl (Box w 3) w1).alloc _))
      have O1 := Lib.hid (O0.out.trans S1.out)
      have R0_1 := Lib.hid (row_nm hnm (alloc_old (R0_0.out)))
      have R1_1 := Lib.hid (row_nm hnm (alloc_old (R1_0.out)))
      have R2_1 := Lib.hid (show V1.heap[w.heap.size + 1 + 1]? = some (.cells #[.int .i64 x.kind, .bool false, .int .i64 0, .int .i64 0, .int .i64 0, .slice none 0 0] 29 (0, 0)) from (by rw [hnm]; exact alloc_at (by have := HZ.out; first | omega | (simp <;> omega))))
      clear hnm
      have q0_0 := rw6 R0_1.out
      have q1_0 := rw6 R1_1.out
      have q2_0 := rw6 R2_1.out
      go_wp2_with fail
      clear q0_0 q1_0 q2_0
      refine nm_post (fun V9 hnm => ?_)
      have S2 := Lib.hid (show Only (Box w 3) V1 V9 from (by rw [hnm]; exact ((((((Only.refl (Box w 3) V1).put ⟨by omega, by omega⟩).put ⟨by omega, by omega⟩).put ⟨by omega, by omega⟩).put ⟨by omega, by omega⟩).put ⟨by omega, by omega⟩).put ⟨by omega, by omega⟩))
      have O2 := Lib.hid (O1.out.trans S2.out)
      have R0_2 := Lib.hid (row_nm hnm (row_other (row_other (row_other (row_other (row_other (row_other (R0_1.out) (by omega)) (by omega)) (by omega)) (by omega)) (by omega)) (by omega)))
      have R1_2 := Lib.hid (show V9.heap[w.heap.size + 1]? = some (.cells #[.int .i64 x.kind, .bool false, .int .i64 0, .int .i64 0, .int .i64 0, .slice none 0 0] 29 (0, 0)) from (by rw [hnm]; exact heap_setList (heap_setList (heap_setList (heap_setList (heap_setList (heap_setList (R1_1.out))))))))
      have R2_2 := Lib.hid (row_nm hnm (row_other (row_other (row_other (row_other (row_other (row_other (R2_1.out) (by omega)) (by omega)) (by omega)) (by omega)) (by omega)) (by omega)))
      clear hnm
      have q1_0 := cl6 R1_2.out
      refine ⟨rfl, .agg #[.int .i64 x.kind, .bool false, .int .i64 0, .int .i64 0, .int .i64 0, .slice none 0 0], by simp only [results, hfr]; go_simp, ?_⟩
      clear q1_0
      have HP := Lib.hid (show plainC x = ⟨x.kind, false, ⟨0, 0⟩, 0, []⟩ by unfold plainC; rw [if_pos HK.out]; simp [HKK.out])
      exact ⟨_, rfl, by rw [HP.out]; exact cmd_bare (x := ⟨x.kind, false, ⟨0, 0⟩, 0, []⟩) HF.out.1 wf0 wf0 wf0 rfl, Only.fin HB0.out O2.out⟩
    · have HKK := Lib.hid h
      have b2 : (x.kind == 2) = false := by simp [h]
      have b3 : (x.kind == 3) = false := by simp [h]
      have b1 : (x.kind == 1) = true := by simp [h]
      clear h
      obtain ⟨W0, hW0⟩ : ∃ W, ((w.alloc (.cells #[.int .i64 x.kind, .bool false, .int .i64 x.id.index, .int .i64 x.id.gen, .int .i64 x.comp, .slice Ad x.data.length cd] 29)).alloc (.cells #[.int .i64 0, .bool false, .int .i64 0, .int .i64 0, .int .i64 0, .slice none 0 0] 29)) = W := ⟨_, rfl⟩
      have hz0 : W0.heap.size = w.heap.size + 2 := by rw [← hW0]; simp
      have hb0 : Below w.heap.size w W0 := by rw [← hW0]; exact ((Below.refl _ _).alloc (Nat.le_refl _) _).alloc (by first | (simp; done) | (simp; omega)) _
      have HZ := Lib.hid hz0
      have HB0 := Lib.hid hb0
      have R0_0 := Lib.hid (show W0.heap[w.heap.size]? = some (.cells #[.int .i64 x.kind, .bool false, .int .i64 x.id.index, .int .i64 x.id.gen, .int .i64 x.comp, .slice Ad x.data.length cd] 29 (0, 0)) by rw [← hW0]; exact alloc_old (alloc_at rfl))
      have R1_0 := Lib.hid (show W0.heap[w.heap.size + 1]? = some (.cells #[.int .i64 0, .bool false, .int .i64 0, .int .i64 0, .int .i64 0, .slice none 0 0] 29 (0, 0)) by rw [← hW0]; exact alloc_at (by simp))
      have O0 := Lib.hid (Only.refl (Box w 3) W0)
      clear hz0 hb0
      have q0_0 := rw6 R0_0.out
      have q1_0 := rw6 R1_0.out
      go_enter Tryz.func57, Tryz.ntmps57
      go_wp2_with fail
      try rw [hW0]
      clear hW0
      try go_wp2_with fail
      clear q0_0 q1_0
      refine (known_calls _ _).mono ?_
      rintro e w1 ⟨rfl, rfl⟩
      rw [HK.out]
      have q0_0 := rw6 R0_0.out
      have q1_0 := rw6 R1_0.out
      go_wp2_with (with_reducible refine stopLoad 3 16 rfl ?_)
      refine Lib.hid ?_
      clear q0_0 q1_0
      rw [show w1.heap.size = w.heap.size + 1 + 1 by have := HZ.out; omega]
      refine nm_list (fun V1 hnm => ?_)
      have S1 := Lib.hid (show Only (Box w 3) w1 V1 from (by rw [hnm]; exact (Only.refl (Box w 3) w1).alloc _))
      have O1 := Lib.hid (O0.out.trans S1.out)
      have R0_1 := Lib.hid (row_nm hnm (alloc_old (R0_0.out)))
      have R1_1 := Lib.hid (row_nm hnm (alloc_old (R1_0.out)))
      have R2_1 := Lib.hid (show V1.heap[w.heap.size + 1 + 1]? = some (.cells #[.int .i64 x.kind, .bool false, .int .i64 0, .int .i64 0, .int .i64 0, .slice none 0 0] 29 (0, 0)) from (by rw [hnm]; exact alloc_at (by have := HZ.out; first | omega | (simp <;> omega))))
      clear hnm
      have q0_0 := rw6 R0_1.out
      have q1_0 := rw6 R1_1.out
      have q2_0 := rw6 R2_1.out
      go_wp2_with fail
      clear q0_0 q1_0 q2_0
      refine wp_region_held_drew (S := fun W => Only (fun b => b = w.heap.size + 1 + 1) V1 W) (by kernel_rfl) ((Only.refl _ _).drw) (fun s0 => ?_)
      obtain ⟨v1, hv0⟩ : ∃ V, V = V1.drew := ⟨_, rfl⟩
      rw [← hv0] at s0 ⊢
      have t1 : Only (fun b => b = w.heap.size + 1 + 1) V1 v1 := s0
      have rb2_1 : v1.heap[w.heap.size + 1 + 1]? = some (.cells #[.int .i64 x.kind, .bool false, .int .i64 0, .int .i64 0, .int .i64 0, .slice none 0 0] 29 (0, 0)) := by rw [hv0]; exact R2_1.out
      clear hv0 s0
      refine tkHV (i := 0) (v := .pointer (some ⟨w.heap.size, 1, none⟩)) rfl t1 ?_
      go_simp
      refine tkH (i := 1) (v := .bool false) rfl (Or.inl ⟨by rfl, fun w' h => by have e := row_only (h : Only (fun b => b = w.heap.size + 1 + 1) V1 w') R0_1.out (by first | omega | (dsimp only; omega)); have e0 := cell_row e 0; have e1 := cell_row e 1; have e2 := cell_row e 2; have e3 := cell_row e 3; have e4 := cell_row e 4; have e5 := cell_row e 5; go_simp⟩) t1 ?_
      go_simp
      refine tkHV (i := 2) (v := .pointer (some ⟨w.heap.size, 2, none⟩)) rfl t1 ?_
      go_simp
      refine tkH (i := 3) (v := .agg #[.int .i64 x.id.index, .int .i64 x.id.gen]) rfl (Or.inl ⟨by rfl, fun w' h => by have e := row_only (h : Only (fun b => b = w.heap.size + 1 + 1) V1 w') R0_1.out (by first | omega | (dsimp only; omega)); have e0 := cell_row e 0; have e1 := cell_row e 1; have e2 := cell_row e 2; have e3 := cell_row e 3; have e4 := cell_row e 4; have e5 := cell_row e 5; go_simp⟩) t1 ?_
      go_simp
      refine tkHV (i := 4) (v := .pointer (some ⟨w.heap.size + 1 + 1, 1, none⟩)) rfl t1 ?_
      go_simp
      refine wpAnyH_all (rs := [5]) (by kernel_rfl) (by simp) ?_
      intro i hi
      obtain rfl : i = 5 := by simpa using hi
      clear hi
      refine wpOp_step rfl (fun K hK => ?_)
      go_simp
      have eb := rb2_1
      have q0 := rw6 eb
      go_simp
      refine hK _ _ ⟨(t1).put rfl, ?_⟩
      clear hK K q0
      refine nm_any (fun v2 hnm => ?_)
      have t2 : Only (fun b => b = w.heap.size + 1 + 1) V1 v2 := by rw [hnm]; exact (t1).put rfl
      have rb2_2 : v2.heap[w.heap.size + 1 + 1]? = some (.cells #[.int .i64 x.kind, .bool false, .int .i64 0, .int .i64 0, .int .i64 0, .slice none 0 0] 29 (0, 0)) := by rw [hnm]; exact heap_setList (rb2_1)
      clear hnm eb
      refine tkHV (i := 6) (v := .pointer (some ⟨w.heap.size + 1 + 1, 2, none⟩)) rfl t2 ?_
      go_simp
      refine wpAnyH_all (rs := [7]) (by kernel_rfl) (by simp) ?_
      intro i hi
      obtain rfl : i = 7 := by simpa using hi
      clear hi
      refine wpOp_step rfl (fun K hK => ?_)
      go_simp
      have eb := rb2_2
      have q0 := rw6 eb
      go_simp
      refine hK _ _ ⟨((t2).put rfl).put rfl, ?_⟩
      clear hK K q0
      refine nm_any (fun v3 hnm => ?_)
      have t3 : Only (fun b => b = w.heap.size + 1 + 1) V1 v3 := by rw [hnm]; exact ((t2).put rfl).put rfl
      have rb2_3 : v3.heap[w.heap.size + 1 + 1]? = some (.cells #[.int .i64 x.kind, .bool false, .int .i64 x.id.index, .int .i64 x.id.gen, .int .i64 0, .slice none 0 0] 29 (0, 0)) := by rw [hnm]; exact heap_setList (heap_setList (rb2_2))
      clear hnm eb
      refine wpAnyH_done (by kernel_rfl) ?_ _
      have S2 := Lib.hid (show Only (Box w 3) V1 v3 from (t3).wid (fun b hb => by first | (unfold Box; omega) | (dsimp only at hb; unfold Box; omega)))
      have O2 := Lib.hid (O1.out.trans S2.out)
      have R0_2 := Lib.hid (row_only t3 R0_1.out (by first | omega | (dsimp only; omega)))
      have R1_2 := Lib.hid (row_only t3 R1_1.out (by first | omega | (dsimp only; omega)))
      have R2_2 := Lib.hid (show v3.heap[w.heap.size + 1 + 1]? = some (.cells #[.int .i64 x.kind, .bool false, .int .i64 x.id.index, .int .i64 x.id.gen, .int .i64 0, .slice none 0 0] 29 (0, 0)) from rb2_3)
      clear rb2_3
      have q0_0 := rw6 R0_2.out
      have q1_0 := rw6 R1_2.out
      have q2_0 := rw6 R2_2.out
      go_wp2_with fail
      clear q0_0 q1_0 q2_0
      refine nm_post (fun V9 hnm => ?_)
      have S3 := Lib.hid (show Only (Box w 3) v3 V9 from (by rw [hnm]; exact ((((((Only.refl (Box w 3) v3).put ⟨by omega, by omega⟩).put ⟨by omega, by omega⟩).put ⟨by omega, by omega⟩).put ⟨by omega, by omega⟩).put ⟨by omega, by omega⟩).put ⟨by omega, by omega⟩))
      have O3 := Lib.hid (O2.out.trans S3.out)
      have R0_3 := Lib.hid (row_nm hnm (row_other (row_other (row_other (row_other (row_other (row_other (R0_2.out) (by omega)) (by omega)) (by omega)) (by omega)) (by omega)) (by omega)))
      have R1_3 := Lib.hid (show V9.heap[w.heap.size + 1]? = some (.cells #[.int .i64 x.kind, .bool false, .int .i64 x.id.index, .int .i64 x.id.gen, .int .i64 0, .slice none 0 0] 29 (0, 0)) from (by rw [hnm]; exact heap_setList (heap_setList (heap_setList (heap_setList (heap_setList (heap_setList (R1_2.out))))))))
      have R2_3 := Lib.hid (row_nm hnm (row_other (row_other (row_other (row_other (row_other (row_other (R2_2.out) (by omega)) (by omega)) (by omega)) (by omega)) (by omega)) (by omega)))
      clear hnm
      have q1_0 := cl6 R1_3.out
      refine ⟨rfl, .agg #[.int .i64 x.kind, .bool false, .int .i64 x.id.index, .int .i64 x.id.gen, .int .i64 0, .slice none 0 0], by simp only [results, hfr]; go_simp, ?_⟩
      clear q1_0
      have HP := Lib.hid (show plainC x = ⟨x.kind, false, ⟨x.id.index, x.id.gen⟩, 0, []⟩ by unfold plainC; rw [if_pos HK.out]; simp [HKK.out, HL.out])
      exact ⟨_, rfl, by rw [HP.out]; exact cmd_bare (x := ⟨x.kind, false, ⟨x.id.index, x.id.gen⟩, 0, []⟩) HF.out.1 HF.out.2.1 HF.out.2.2.1 wf0 rfl, Only.fin HB0.out O3.out⟩
    · have HKK := Lib.hid h
      have b2 : (x.kind == 2) = true := by simp [h]
      have b3 : (x.kind == 3) = false := by simp [h]
      have b1 : (x.kind == 1) = false := by simp [h]
      clear h
      obtain ⟨W0, hW0⟩ : ∃ W, ((w.alloc (.cells #[.int .i64 x.kind, .bool false, .int .i64 x.id.index, .int .i64 x.id.gen, .int .i64 x.comp, .slice Ad x.data.length cd] 29)).alloc (.cells #[.int .i64 0, .bool false, .int .i64 0, .int .i64 0, .int .i64 0, .slice none 0 0] 29)) = W := ⟨_, rfl⟩
      have hz0 : W0.heap.size = w.heap.size + 2 := by rw [← hW0]; simp
      have hb0 : Below w.heap.size w W0 := by rw [← hW0]; exact ((Below.refl _ _).alloc (Nat.le_refl _) _).alloc (by first | (simp; done) | (simp; omega)) _
      have HZ := Lib.hid hz0
      have HB0 := Lib.hid hb0
      have R0_0 := Lib.hid (show W0.heap[w.heap.size]? = some (.cells #[.int .i64 x.kind, .bool false, .int .i64 x.id.index, .int .i64 x.id.gen, .int .i64 x.comp, .slice Ad x.data.length cd] 29 (0, 0)) by rw [← hW0]; exact alloc_old (alloc_at rfl))
      have R1_0 := Lib.hid (show W0.heap[w.heap.size + 1]? = some (.cells #[.int .i64 0, .bool false, .int .i64 0, .int .i64 0, .int .i64 0, .slice none 0 0] 29 (0, 0)) by rw [← hW0]; exact alloc_at (by simp))
      have O0 := Lib.hid (Only.refl (Box w 3) W0)
      have Vd_0 := Lib.hid (show Rep.byte.list.val (In Q w 3) W0 (.slice Ad x.data.length cd) x.data from val_in HSL.out hb0)
      clear hz0 hb0
      have q0_0 := rw6 R0_0.out
      have q1_0 := rw6 R1_0.out
      go_enter Tryz.func57, Tryz.ntmps57
      go_wp2_with fail
      try rw [hW0]
      clear hW0
      try go_wp2_with fail
      clear q0_0 q1_0
      refine (known_calls _ _).mono ?_
      rintro e w1 ⟨rfl, rfl⟩
      rw [HK.out]
      have q0_0 := rw6 R0_0.out
      have q1_0 := rw6 R1_0.out
      go_wp2_with (with_reducible refine stopLoad 3 16 rfl ?_)
      refine Lib.hid ?_
      clear q0_0 q1_0
      rw [show w1.heap.size = w.heap.size + 1 + 1 by have := HZ.out; omega]
      refine nm_list (fun V1 hnm => ?_)
      have S1 := Lib.hid (show Only (Box w 3) w1 V1 from (by rw [hnm]; exact (Only.refl (Box w 3) w1).alloc _))
      have O1 := Lib.hid (O0.out.trans S1.out)
      have R0_1 := Lib.hid (row_nm hnm (alloc_old (R0_0.out)))
      have R1_1 := Lib.hid (row_nm hnm (alloc_old (R1_0.out)))
      have R2_1 := Lib.hid (show V1.heap[w.heap.size + 1 + 1]? = some (.cells #[.int .i64 x.kind, .bool false, .int .i64 0, .int .i64 0, .int .i64 0, .slice none 0 0] 29 (0, 0)) from (by rw [hnm]; exact alloc_at (by have := HZ.out; first | omega | (simp <;> omega))))
      have Vd_1 := Lib.hid (val_only Vd_0.out S1.out)
      clear hnm
      have q0_0 := rw6 R0_1.out
      have q1_0 := rw6 R1_1.out
      have q2_0 := rw6 R2_1.out
      go_wp2_with fail
      clear q0_0 q1_0 q2_0
      refine (bytesClone Vd_1.out (by have := HD.out; omega)).mono ?_
      rintro e w2 ⟨vd, rfl, hvd, hb⟩
      have S2 := Lib.hid (show Only (Box w 3) V1 w2 from Only.of_below hb)
      have O2 := Lib.hid (O1.out.trans S2.out)
      have R0_2 := Lib.hid (row_call hb R0_1.out)
      have R1_2 := Lib.hid (row_call hb R1_1.out)
      have R2_2 := Lib.hid (row_call hb R2_1.out)
      have Vd_2 := Lib.hid (val_only Vd_1.out S2.out)
      have Ve_2 := Lib.hid (val_fresh (Q := fun _ => False) (w := w) (n := 3) hvd (by have := O1.out.size; have := HZ.out; have := Below.size hb; have h9 := (Array.getElem?_eq_some_iff.1 R2_1.out).1; omega))
      obtain ⟨Bd, dd, rfl, hsl⟩ := Rep.val_sl hvd
      clear hvd hb hsl
      have q0_0 := rw6 R0_2.out
      have q1_0 := rw6 R1_2.out
      have q2_0 := rw6 R2_2.out
      go_wp2_with fail
      clear q0_0 q1_0 q2_0
      refine nm_region (fun V3 hnm => ?_)
      have S3 := Lib.hid (show Only (Box w 3) w2 V3 from (by rw [hnm]; exact ((Only.refl (Box w 3) w2).put ⟨by omega, by omega⟩).put ⟨by omega, by omega⟩))
      have O3 := Lib.hid (O2.out.trans S3.out)
      have R0_3 := Lib.hid (row_nm hnm (row_other (row_other (R0_2.out) (by omega)) (by omega)))
      have R1_3 := Lib.hid (row_nm hnm (row_other (row_other (R1_2.out) (by omega)) (by omega)))
      have R2_3 := Lib.hid (show V3.heap[w.heap.size + 1 + 1]? = some (.cells #[.int .i64 x.kind, .bool false, .int .i64 0, .int .i64 0, .int .i64 x.comp, .slice Bd x.data.length dd] 29 (0, 0)) from (by rw [hnm]; exact heap_setList (heap_setList (R2_2.out))))
      have Vd_3 := Lib.hid (val_only Vd_2.out S3.out)
      have Ve_3 := Lib.hid (val_only Ve_2.out S3.out)
      clear hnm
      refine wp_region_held_drew (S := fun W => Only (fun b => b = w.heap.size + 1 + 1) V3 W) (by kernel_rfl) ((Only.refl _ _).drw) (fun s0 => ?_)
      obtain ⟨v1, hv0⟩ : ∃ V, V = V3.drew := ⟨_, rfl⟩
      rw [← hv0] at s0 ⊢
      have t1 : Only (fun b => b = w.heap.size + 1 + 1) V3 v1 := s0
      have rb2_1 : v1.heap[w.heap.size + 1 + 1]? = some (.cells #[.int .i64 x.kind, .bool false, .int .i64 0, .int .i64 0, .int .i64 x.comp, .slice Bd x.data.length dd] 29 (0, 0)) := by rw [hv0]; exact R2_3.out
      clear hv0 s0
      refine tkHV (i := 0) (v := .pointer (some ⟨w.heap.size, 1, none⟩)) rfl t1 ?_
      go_simp
      refine tkH (i := 1) (v := .bool false) rfl (Or.inl ⟨by rfl, fun w' h => by have e := row_only (h : Only (fun b => b = w.heap.size + 1 + 1) V3 w') R0_3.out (by first | omega | (dsimp only; omega)); have e0 := cell_row e 0; have e1 := cell_row e 1; have e2 := cell_row e 2; have e3 := cell_row e 3; have e4 := cell_row e 4; have e5 := cell_row e 5; go_simp⟩) t1 ?_
      go_simp
      refine tkHV (i := 2) (v := .pointer (some ⟨w.heap.size, 2, none⟩)) rfl t1 ?_
      go_simp
      refine tkH (i := 3) (v := .agg #[.int .i64 x.id.index, .int .i64 x.id.gen]) rfl (Or.inl ⟨by rfl, fun w' h => by have e := row_only (h : Only (fun b => b = w.heap.size + 1 + 1) V3 w') R0_3.out (by first | omega | (dsimp only; omega)); have e0 := cell_row e 0; have e1 := cell_row e 1; have e2 := cell_row e 2; have e3 := cell_row e 3; have e4 := cell_row e 4; have e5 := cell_row e 5; go_simp⟩) t1 ?_
      go_simp
      refine tkHV (i := 4) (v := .pointer (some ⟨w.heap.size + 1 + 1, 1, none⟩)) rfl t1 ?_
      go_simp
      refine wpAnyH_all (rs := [5]) (by kernel_rfl) (by simp) ?_
      intro i hi
      obtain rfl : i = 5 := by simpa using hi
      clear hi
      refine wpOp_step rfl (fun K hK => ?_)
      go_simp
      have eb := rb2_1
      have q0 := rw6 eb
      go_simp
      refine hK _ _ ⟨(t1).put rfl, ?_⟩
      clear hK K q0
      refine nm_any (fun v2 hnm => ?_)
      have t2 : Only (fun b => b = w.heap.size + 1 + 1) V3 v2 := by rw [hnm]; exact (t1).put rfl
      have rb2_2 : v2.heap[w.heap.size + 1 + 1]? = some (.cells #[.int .i64 x.kind, .bool false, .int .i64 0, .int .i64 0, .int .i64 x.comp, .slice Bd x.data.length dd] 29 (0, 0)) := by rw [hnm]; exact heap_setList (rb2_1)
      clear hnm eb
      refine tkHV (i := 6) (v := .pointer (some ⟨w.heap.size + 1 + 1, 2, none⟩)) rfl t2 ?_
      go_simp
      refine wpAnyH_all (rs := [7]) (by kernel_rfl) (by simp) ?_
      intro i hi
      obtain rfl : i = 7 := by simpa using hi
      clear hi
      refine wpOp_step rfl (fun K hK => ?_)
      go_simp
      have eb := rb2_2
      have q0 := rw6 eb
      go_simp
      refine hK _ _ ⟨((t2).put rfl).put rfl, ?_⟩
      clear hK K q0
      refine nm_any (fun v3 hnm => ?_)
      have t3 : Only (fun b => b = w.heap.size + 1 + 1) V3 v3 := by rw [hnm]; exact ((t2).put rfl).put rfl
      have rb2_3 : v3.heap[w.heap.size + 1 + 1]? = some (.cells #[.int .i64 x.kind, .bool false, .int .i64 x.id.index, .int .i64 x.id.gen, .int .i64 x.comp, .slice Bd x.data.length dd] 29 (0, 0)) := by rw [hnm]; exact heap_setList (heap_setList (rb2_2))
      clear hnm eb
      refine wpAnyH_done (by kernel_rfl) ?_ _
      have S4 := Lib.hid (show Only (Box w 3) V3 v3 from (t3).wid (fun b hb => by first | (unfold Box; omega) | (dsimp only at hb; unfold Box; omega)))
      have O4 := Lib.hid (O3.out.trans S4.out)
      have R0_4 := Lib.hid (row_only t3 R0_3.out (by first | omega | (dsimp only; omega)))
      have R1_4 := Lib.hid (row_only t3 R1_3.out (by first | omega | (dsimp only; omega)))
      have R2_4 := Lib.hid (show v3.heap[w.heap.size + 1 + 1]? = some (.cells #[.int .i64 x.kind, .bool false, .int .i64 x.id.index, .int .i64 x.id.gen, .int .i64 x.comp, .slice Bd x.data.length dd] 29 (0, 0)) from rb2_3)
      have Vd_4 := Lib.hid (val_only Vd_3.out S4.out)
      have Ve_4 := Lib.hid (val_only Ve_3.out S4.out)
      clear rb2_3
      have q0_0 := rw6 R0_4.out
      have q1_0 := rw6 R1_4.out
      have q2_0 := rw6 R2_4.out
      go_wp2_with fail
      clear q0_0 q1_0 q2_0
      refine nm_post (fun V9 hnm => ?_)
      have S5 := Lib.hid (show Only (Box w 3) v3 V9 from (by rw [hnm]; exact ((((((Only.refl (Box w 3) v3).put ⟨by omega, by omega⟩).put ⟨by omega, by omega⟩).put ⟨by omega, by omega⟩).put ⟨by omega, by omega⟩).put ⟨by omega, by omega⟩).put ⟨by omega, by omega⟩))
      have O5 := Lib.hid (O4.out.trans S5.out)
      have R0_5 := Lib.hid (row_nm hnm (row_other (row_other (row_other (row_other (row_other (row_other (R0_4.out) (by omega)) (by omega)) (by omega)) (by omega)) (by omega)) (by omega)))
      have R1_5 := Lib.hid (show V9.heap[w.heap.size + 1]? = some (.cells #[.int .i64 x.kind, .bool false, .int .i64 x.id.index, .int .i64 x.id.gen, .int .i64 x.comp, .slice Bd x.data.length dd] 29 (0, 0)) from (by rw [hnm]; exact heap_setList (heap_setList (heap_setList (heap_setList (heap_setList (heap_setList (R1_4.out))))))))
      have R2_5 := Lib.hid (row_nm hnm (row_other (row_other (row_other (row_other (row_other (row_other (R2_4.out) (by omega)) (by omega)) (by omega)) (by omega)) (by omega)) (by omega)))
      have Vd_5 := Lib.hid (val_only Vd_4.out S5.out)
      have Ve_5 := Lib.hid (val_only Ve_4.out S5.out)
      clear hnm
      have q1_0 := cl6 R1_5.out
      refine ⟨rfl, .agg #[.int .i64 x.kind, .bool false, .int .i64 x.id.index, .int .i64 x.id.gen, .int .i64 x.comp, .slice Bd x.data.length dd], by simp only [results, hfr]; go_simp, ?_⟩
      clear q1_0
      have HP := Lib.hid (show plainC x = ⟨x.kind, false, ⟨x.id.index, x.id.gen⟩, x.comp, x.data⟩ by unfold plainC; rw [if_pos HK.out]; simp [HKK.out, HL.out])
      exact ⟨_, rfl, by rw [HP.out]; exact rCmd_agg (x := ⟨x.kind, false, ⟨x.id.index, x.id.gen⟩, x.comp, x.data⟩) HF.out.1 HF.out.2.1 HF.out.2.2.1 HF.out.2.2.2 (sl_of (Rep.val_mono (fun b hb _ => by rcases hb with h | h; exact absurd h.1 id; omega) Ve_5.out)), Only.fin HB0.out O5.out⟩
    · have HKK := Lib.hid h
      have b2 : (x.kind == 2) = false := by simp [h]
      have b3 : (x.kind == 3) = true := by simp [h]
      have b1 : (x.kind == 1) = false := by simp [h]
      clear h
      obtain ⟨W0, hW0⟩ : ∃ W, ((w.alloc (.cells #[.int .i64 x.kind, .bool false, .int .i64 x.id.index, .int .i64 x.id.gen, .int .i64 x.comp, .slice Ad x.data.length cd] 29)).alloc (.cells #[.int .i64 0, .bool false, .int .i64 0, .int .i64 0, .int .i64 0, .slice none 0 0] 29)) = W := ⟨_, rfl⟩
      have hz0 : W0.heap.size = w.heap.size + 2 := by rw [← hW0]; simp
      have hb0 : Below w.heap.size w W0 := by rw [← hW0]; exact ((Below.refl _ _).alloc (Nat.le_refl _) _).alloc (by first | (simp; done) | (simp; omega)) _
      have HZ := Lib.hid hz0
      have HB0 := Lib.hid hb0
      have R0_0 := Lib.hid (show W0.heap[w.heap.size]? = some (.cells #[.int .i64 x.kind, .bool false, .int .i64 x.id.index, .int .i64 x.id.gen, .int .i64 x.comp, .slice Ad x.data.length cd] 29 (0, 0)) by rw [← hW0]; exact alloc_old (alloc_at rfl))
      have R1_0 := Lib.hid (show W0.heap[w.heap.size + 1]? = some (.cells #[.int .i64 0, .bool false, .int .i64 0, .int .i64 0, .int .i64 0, .slice none 0 0] 29 (0, 0)) by rw [← hW0]; exact alloc_at (by simp))
      have O0 := Lib.hid (Only.refl (Box w 3) W0)
      clear hz0 hb0
      have q0_0 := rw6 R0_0.out
      have q1_0 := rw6 R1_0.out
      go_enter Tryz.func57, Tryz.ntmps57
      go_wp2_with fail
      try rw [hW0]
      clear hW0
      try go_wp2_with fail
      clear q0_0 q1_0
      refine (known_calls _ _).mono ?_
      rintro e w1 ⟨rfl, rfl⟩
      rw [HK.out]
      have q0_0 := rw6 R0_0.out
      have q1_0 := rw6 R1_0.out
      go_wp2_with (with_reducible refine stopLoad 3 16 rfl ?_)
      refine Lib.hid ?_
      clear q0_0 q1_0
      rw [show w1.heap.size = w.heap.size + 1 + 1 by have := HZ.out; omega]
      refine nm_list (fun V1 hnm => ?_)
      have S1 := Lib.hid (show Only (Box w 3) w1 V1 from (by rw [hnm]; exact (Only.refl (Box w 3) w1).alloc _))
      have O1 := Lib.hid (O0.out.trans S1.out)
      have R0_1 := Lib.hid (row_nm hnm (alloc_old (R0_0.out)))
      have R1_1 := Lib.hid (row_nm hnm (alloc_old (R1_0.out)))
      have R2_1 := Lib.hid (show V1.heap[w.heap.size + 1 + 1]? = some (.cells #[.int .i64 x.kind, .bool false, .int .i64 0, .int .i64 0, .int .i64 0, .slice none 0 0] 29 (0, 0)) from (by rw [hnm]; exact alloc_at (by have := HZ.out; first | omega | (simp <;> omega))))
      clear hnm
      have q0_0 := rw6 R0_1.out
      have q1_0 := rw6 R1_1.out
      have q2_0 := rw6 R2_1.out
      go_wp2_with fail
      clear q0_0 q1_0 q2_0
      refine nm_region (fun V3 hnm => ?_)
      have S2 := Lib.hid (show Only (Box w 3) V1 V3 from (by rw [hnm]; exact (Only.refl (Box w 3) V1).put ⟨by omega, by omega⟩))
      have O2 := Lib.hid (O1.out.trans S2.out)
      have R0_2 := Lib.hid (row_nm hnm (row_other (R0_1.out) (by omega)))
      have R1_2 := Lib.hid (row_nm hnm (row_other (R1_1.out) (by omega)))
      have R2_2 := Lib.hid (show V3.heap[w.heap.size + 1 + 1]? = some (.cells #[.int .i64 x.kind, .bool false, .int .i64 0, .int .i64 0, .int .i64 x.comp, .slice none 0 0] 29 (0, 0)) from (by rw [hnm]; exact heap_setList (R2_1.out)))
      clear hnm
      refine wp_region_held_drew (S := fun W => Only (fun b => b = w.heap.size + 1 + 1) V3 W) (by kernel_rfl) ((Only.refl _ _).drw) (fun s0 => ?_)
      obtain ⟨v1, hv0⟩ : ∃ V, V = V3.drew := ⟨_, rfl⟩
      rw [← hv0] at s0 ⊢
      have t1 : Only (fun b => b = w.heap.size + 1 + 1) V3 v1 := s0
      have rb2_1 : v1.heap[w.heap.size + 1 + 1]? = some (.cells #[.int .i64 x.kind, .bool false, .int .i64 0, .int .i64 0, .int .i64 x.comp, .slice none 0 0] 29 (0, 0)) := by rw [hv0]; exact R2_2.out
      clear hv0 s0
      refine tkHV (i := 0) (v := .pointer (some ⟨w.heap.size, 1, none⟩)) rfl t1 ?_
      go_simp
      refine tkH (i := 1) (v := .bool false) rfl (Or.inl ⟨by rfl, fun w' h => by have e := row_only (h : Only (fun b => b = w.heap.size + 1 + 1) V3 w') R0_2.out (by first | omega | (dsimp only; omega)); have e0 := cell_row e 0; have e1 := cell_row e 1; have e2 := cell_row e 2; have e3 := cell_row e 3; have e4 := cell_row e 4; have e5 := cell_row e 5; go_simp⟩) t1 ?_
      go_simp
      refine tkHV (i := 2) (v := .pointer (some ⟨w.heap.size, 2, none⟩)) rfl t1 ?_
      go_simp
      refine tkH (i := 3) (v := .agg #[.int .i64 x.id.index, .int .i64 x.id.gen]) rfl (Or.inl ⟨by rfl, fun w' h => by have e := row_only (h : Only (fun b => b = w.heap.size + 1 + 1) V3 w') R0_2.out (by first | omega | (dsimp only; omega)); have e0 := cell_row e 0; have e1 := cell_row e 1; have e2 := cell_row e 2; have e3 := cell_row e 3; have e4 := cell_row e 4; have e5 := cell_row e 5; go_simp⟩) t1 ?_
      go_simp
      refine tkHV (i := 4) (v := .pointer (some ⟨w.heap.size + 1 + 1, 1, none⟩)) rfl t1 ?_
      go_simp
      refine wpAnyH_all (rs := [5]) (by kernel_rfl) (by simp) ?_
      intro i hi
      obtain rfl : i = 5 := by simpa using hi
      clear hi
      refine wpOp_step rfl (fun K hK => ?_)
      go_simp
      have eb := rb2_1
      have q0 := rw6 eb
      go_simp
      refine hK _ _ ⟨(t1).put rfl, ?_⟩
      clear hK K q0
      refine nm_any (fun v2 hnm => ?_)
      have t2 : Only (fun b => b = w.heap.size + 1 + 1) V3 v2 := by rw [hnm]; exact (t1).put rfl
      have rb2_2 : v2.heap[w.heap.size + 1 + 1]? = some (.cells #[.int .i64 x.kind, .bool false, .int .i64 0, .int .i64 0, .int .i64 x.comp, .slice none 0 0] 29 (0, 0)) := by rw [hnm]; exact heap_setList (rb2_1)
      clear hnm eb
      refine tkHV (i := 6) (v := .pointer (some ⟨w.heap.size + 1 + 1, 2, none⟩)) rfl t2 ?_
      go_simp
      refine wpAnyH_all (rs := [7]) (by kernel_rfl) (by simp) ?_
      intro i hi
      obtain rfl : i = 7 := by simpa using hi
      clear hi
      refine wpOp_step rfl (fun K hK => ?_)
      go_simp
      have eb := rb2_2
      have q0 := rw6 eb
      go_simp
      refine hK _ _ ⟨((t2).put rfl).put rfl, ?_⟩
      clear hK K q0
      refine nm_any (fun v3 hnm => ?_)
      have t3 : Only (fun b => b = w.heap.size + 1 + 1) V3 v3 := by rw [hnm]; exact ((t2).put rfl).put rfl
      have rb2_3 : v3.heap[w.heap.size + 1 + 1]? = some (.cells #[.int .i64 x.kind, .bool false, .int .i64 x.id.index, .int .i64 x.id.gen, .int .i64 x.comp, .slice none 0 0] 29 (0, 0)) := by rw [hnm]; exact heap_setList (heap_setList (rb2_2))
      clear hnm eb
      refine wpAnyH_done (by kernel_rfl) ?_ _
      have S3 := Lib.hid (show Only (Box w 3) V3 v3 from (t3).wid (fun b hb => by first | (unfold Box; omega) | (dsimp only at hb; unfold Box; omega)))
      have O3 := Lib.hid (O2.out.trans S3.out)
      have R0_3 := Lib.hid (row_only t3 R0_2.out (by first | omega | (dsimp only; omega)))
      have R1_3 := Lib.hid (row_only t3 R1_2.out (by first | omega | (dsimp only; omega)))
      have R2_3 := Lib.hid (show v3.heap[w.heap.size + 1 + 1]? = some (.cells #[.int .i64 x.kind, .bool false, .int .i64 x.id.index, .int .i64 x.id.gen, .int .i64 x.comp, .slice none 0 0] 29 (0, 0)) from rb2_3)
      clear rb2_3
      have q0_0 := rw6 R0_3.out
      have q1_0 := rw6 R1_3.out
      have q2_0 := rw6 R2_3.out
      go_wp2_with fail
      clear q0_0 q1_0 q2_0
      refine nm_post (fun V9 hnm => ?_)
      have S4 := Lib.hid (show Only (Box w 3) v3 V9 from (by rw [hnm]; exact ((((((Only.refl (Box w 3) v3).put ⟨by omega, by omega⟩).put ⟨by omega, by omega⟩).put ⟨by omega, by omega⟩).put ⟨by omega, by omega⟩).put ⟨by omega, by omega⟩).put ⟨by omega, by omega⟩))
      have O4 := Lib.hid (O3.out.trans S4.out)
      have R0_4 := Lib.hid (row_nm hnm (row_other (row_other (row_other (row_other (row_other (row_other (R0_3.out) (by omega)) (by omega)) (by omega)) (by omega)) (by omega)) (by omega)))
      have R1_4 := Lib.hid (show V9.heap[w.heap.size + 1]? = some (.cells #[.int .i64 x.kind, .bool false, .int .i64 x.id.index, .int .i64 x.id.gen, .int .i64 x.comp, .slice none 0 0] 29 (0, 0)) from (by rw [hnm]; exact heap_setList (heap_setList (heap_setList (heap_setList (heap_setList (heap_setList (R1_3.out))))))))
      have R2_4 := Lib.hid (row_nm hnm (row_other (row_other (row_other (row_other (row_other (row_other (R2_3.out) (by omega)) (by omega)) (by omega)) (by omega)) (by omega)) (by omega)))
      clear hnm
      have q1_0 := cl6 R1_4.out
      refine ⟨rfl, .agg #[.int .i64 x.kind, .bool false, .int .i64 x.id.index, .int .i64 x.id.gen, .int .i64 x.comp, .slice none 0 0], by simp only [results, hfr]; go_simp, ?_⟩
      clear q1_0
      have HP := Lib.hid (show plainC x = ⟨x.kind, false, ⟨x.id.index, x.id.gen⟩, x.comp, []⟩ by unfold plainC; rw [if_pos HK.out]; simp [HKK.out, HL.out])
      exact ⟨_, rfl, by rw [HP.out]; exact cmd_bare (x := ⟨x.kind, false, ⟨x.id.index, x.id.gen⟩, x.comp, []⟩) HF.out.1 HF.out.2.1 HF.out.2.2.1 HF.out.2.2.2 rfl, Only.fin HB0.out O4.out⟩
  case true =>
    have HL := Lib.hid hl
    clear hl
    rcases h4 with h | h | h | h
    · have HKK := Lib.hid h
      have b2 : (x.kind == 2) = false := by simp [h]
      have b3 : (x.kind == 3) = false := by simp [h]
      have b1 : (x.kind == 1) = false := by simp [h]
      clear h
      obtain ⟨W0, hW0⟩ : ∃ W, ((w.alloc (.cells #[.int .i64 x.kind, .bool true, .int .i64 x.id.index, .int .i64 x.id.gen, .int .i64 x.comp, .slice Ad x.data.length cd] 29)).alloc (.cells #[.int .i64 0, .bool false, .int .i64 0, .int .i64 0, .int .i64 0, .slice none 0 0] 29)) = W := ⟨_, rfl⟩
      have hz0 : W0.heap.size = w.heap.size + 2 := by rw [← hW0]; simp
      have hb0 : Below w.heap.size w W0 := by rw [← hW0]; exact ((Below.refl _ _).alloc (Nat.le_refl _) _).alloc (by first | (simp; done) | (simp; omega)) _
      have HZ := Lib.hid hz0
      have HB0 := Lib.hid hb0
      have R0_0 := Lib.hid (show W0.heap[w.heap.size]? = some (.cells #[.int .i64 x.kind, .bool true, .int .i64 x.id.index, .int .i64 x.id.gen, .int .i64 x.comp, .slice Ad x.data.length cd] 29 (0, 0)) by rw [← hW0]; exact alloc_old (alloc_at rfl))
      have R1_0 := Lib.hid (show W0.heap[w.heap.size + 1]? = some (.cells #[.int .i64 0, .bool false, .int .i64 0, .int .i64 0, .int .i64 0, .slice none 0 0] 29 (0, 0)) by rw [← hW0]; exact alloc_at (by simp))
      have O0 := Lib.hid (Only.refl (Box w 3) W0)
      clear hz0 hb0
      have q0_0 := rw6 R0_0.out
      have q1_0 := rw6 R1_0.out
      go_enter Tryz.func57, Tryz.ntmps57
      go_wp2_with fail
      try rw [hW0]
      clear hW0
      try go_wp2_with fail
      clear q0_0 q1_0
      refine (known_calls _ _).mono ?_
      rintro e w1 ⟨rfl, rfl⟩
      rw [HK.out]
      have q0_0 := rw6 R0_0.out
      have q1_0 := rw6 R1_0.out
      go_wp2_with (with_reducible refine stopLoad 3 16 rfl ?_)
      refine Lib.hid ?_
      clear q0_0 q1_0
      rw [show w1.heap.size = w.heap.size + 1 + 1 by have := HZ.out; omega]
      refine nm_list (fun V1 hnm => ?_)
      have S1 := Lib.hid (show Only (Box w 3) w1 V1 from (by rw [hnm]; exact (Only.refl (Box w 3) w1).alloc _))
      have O1 := Lib.hid (O0.out.trans S1.out)
      have R0_1 := Lib.hid (row_nm hnm (alloc_old (R0_0.out)))
      have R1_1 := Lib.hid (row_nm hnm (alloc_old (R1_0.out)))
      have R2_1 := Lib.hid (show V1.heap[w.heap.size + 1 + 1]? = some (.cells #[.int .i64 x.kind, .bool false, .int .i64 0, .int .i64 0, .int .i64 0, .slice none 0 0] 29 (0, 0)) from (by rw [hnm]; exact alloc_at (by have := HZ.out; first | omega | (simp <;> omega))))
      clear hnm
      have q0_0 := rw6 R0_1.out
      have q1_0 := rw6 R1_1.out
      have q2_0 := rw6 R2_1.out
      go_wp2_with fail
      clear q0_0 q1_0 q2_0
      refine nm_post (fun V9 hnm => ?_)
      have S2 := Lib.hid (show Only (Box w 3) V1 V9 from (by rw [hnm]; exact ((((((Only.refl (Box w 3) V1).put ⟨by omega, by omega⟩).put ⟨by omega, by omega⟩).put ⟨by omega, by omega⟩).put ⟨by omega, by omega⟩).put ⟨by omega, by omega⟩).put ⟨by omega, by omega⟩))
      have O2 := Lib.hid (O1.out.trans S2.out)
      have R0_2 := Lib.hid (row_nm hnm (row_other (row_other (row_other (row_other (row_other (row_other (R0_1.out) (by omega)) (by omega)) (by omega)) (by omega)) (by omega)) (by omega)))
      have R1_2 := Lib.hid (show V9.heap[w.heap.size + 1]? = some (.cells #[.int .i64 x.kind, .bool false, .int .i64 0, .int .i64 0, .int .i64 0, .slice none 0 0] 29 (0, 0)) from (by rw [hnm]; exact heap_setList (heap_setList (heap_setList (heap_setList (heap_setList (heap_setList (R1_1.out))))))))
      have R2_2 := Lib.hid (row_nm hnm (row_other (row_other (row_other (row_other (row_other (row_other (R2_1.out) (by omega)) (by omega)) (by omega)) (by omega)) (by omega)) (by omega)))
      clear hnm
      have q1_0 := cl6 R1_2.out
      refine ⟨rfl, .agg #[.int .i64 x.kind, .bool false, .int .i64 0, .int .i64 0, .int .i64 0, .slice none 0 0], by simp only [results, hfr]; go_simp, ?_⟩
      clear q1_0
      have HP := Lib.hid (show plainC x = ⟨x.kind, false, ⟨0, 0⟩, 0, []⟩ by unfold plainC; rw [if_pos HK.out]; simp [HKK.out])
      exact ⟨_, rfl, by rw [HP.out]; exact cmd_bare (x := ⟨x.kind, false, ⟨0, 0⟩, 0, []⟩) HF.out.1 wf0 wf0 wf0 rfl, Only.fin HB0.out O2.out⟩
    · have HKK := Lib.hid h
      have b2 : (x.kind == 2) = false := by simp [h]
      have b3 : (x.kind == 3) = false := by simp [h]
      have b1 : (x.kind == 1) = true := by simp [h]
      clear h
      obtain ⟨W0, hW0⟩ : ∃ W, ((w.alloc (.cells #[.int .i64 x.kind, .bool true, .int .i64 x.id.index, .int .i64 x.id.gen, .int .i64 x.comp, .slice Ad x.data.length cd] 29)).alloc (.cells #[.int .i64 0, .bool false, .int .i64 0, .int .i64 0, .int .i64 0, .slice none 0 0] 29)) = W := ⟨_, rfl⟩
      have hz0 : W0.heap.size = w.heap.size + 2 := by rw [← hW0]; simp
      have hb0 : Below w.heap.size w W0 := by rw [← hW0]; exact ((Below.refl _ _).alloc (Nat.le_refl _) _).alloc (by first | (simp; done) | (simp; omega)) _
      have HZ := Lib.hid hz0
      have HB0 := Lib.hid hb0
      have R0_0 := Lib.hid (show W0.heap[w.heap.size]? = some (.cells #[.int .i64 x.kind, .bool true, .int .i64 x.id.index, .int .i64 x.id.gen, .int .i64 x.comp, .slice Ad x.data.length cd] 29 (0, 0)) by rw [← hW0]; exact alloc_old (alloc_at rfl))
      have R1_0 := Lib.hid (show W0.heap[w.heap.size + 1]? = some (.cells #[.int .i64 0, .bool false, .int .i64 0, .int .i64 0, .int .i64 0, .slice none 0 0] 29 (0, 0)) by rw [← hW0]; exact alloc_at (by simp))
      have O0 := Lib.hid (Only.refl (Box w 3) W0)
      clear hz0 hb0
      have q0_0 := rw6 R0_0.out
      have q1_0 := rw6 R1_0.out
      go_enter Tryz.func57, Tryz.ntmps57
      go_wp2_with fail
      try rw [hW0]
      clear hW0
      try go_wp2_with fail
      clear q0_0 q1_0
      refine (known_calls _ _).mono ?_
      rintro e w1 ⟨rfl, rfl⟩
      rw [HK.out]
      have q0_0 := rw6 R0_0.out
      have q1_0 := rw6 R1_0.out
      go_wp2_with (with_reducible refine stopLoad 3 16 rfl ?_)
      refine Lib.hid ?_
      clear q0_0 q1_0
      rw [show w1.heap.size = w.heap.size + 1 + 1 by have := HZ.out; omega]
      refine nm_list (fun V1 hnm => ?_)
      have S1 := Lib.hid (show Only (Box w 3) w1 V1 from (by rw [hnm]; exact (Only.refl (Box w 3) w1).alloc _))
      have O1 := Lib.hid (O0.out.trans S1.out)
      have R0_1 := Lib.hid (row_nm hnm (alloc_old (R0_0.out)))
      have R1_1 := Lib.hid (row_nm hnm (alloc_old (R1_0.out)))
      have R2_1 := Lib.hid (show V1.heap[w.heap.size + 1 + 1]? = some (.cells #[.int .i64 x.kind, .bool false, .int .i64 0, .int .i64 0, .int .i64 0, .slice none 0 0] 29 (0, 0)) from (by rw [hnm]; exact alloc_at (by have := HZ.out; first | omega | (simp <;> omega))))
      clear hnm
      have q0_0 := rw6 R0_1.out
      have q1_0 := rw6 R1_1.out
      have q2_0 := rw6 R2_1.out
      go_wp2_with fail
      clear q0_0 q1_0 q2_0
      refine wp_region_held_drew (S := fun W => Only (fun b => b = w.heap.size + 1 + 1) V1 W) (by kernel_rfl) ((Only.refl _ _).drw) (fun s0 => ?_)
      obtain ⟨v1, hv0⟩ : ∃ V, V = V1.drew := ⟨_, rfl⟩
      rw [← hv0] at s0 ⊢
      have t1 : Only (fun b => b = w.heap.size + 1 + 1) V1 v1 := s0
      have rb2_1 : v1.heap[w.heap.size + 1 + 1]? = some (.cells #[.int .i64 x.kind, .bool false, .int .i64 0, .int .i64 0, .int .i64 0, .slice none 0 0] 29 (0, 0)) := by rw [hv0]; exact R2_1.out
      clear hv0 s0
      refine tkHV (i := 0) (v := .pointer (some ⟨w.heap.size, 1, none⟩)) rfl t1 ?_
      go_simp
      refine tkH (i := 1) (v := .bool true) rfl (Or.inl ⟨by rfl, fun w' h => by have e := row_only (h : Only (fun b => b = w.heap.size + 1 + 1) V1 w') R0_1.out (by first | omega | (dsimp only; omega)); have e0 := cell_row e 0; have e1 := cell_row e 1; have e2 := cell_row e 2; have e3 := cell_row e 3; have e4 := cell_row e 4; have e5 := cell_row e 5; go_simp⟩) t1 ?_
      go_simp
      refine tkHV (i := 2) (v := .pointer (some ⟨w.heap.size, 2, none⟩)) rfl t1 ?_
      go_simp
      refine tkH (i := 3) (v := .agg #[.int .i64 x.id.index, .int .i64 x.id.gen]) rfl (Or.inl ⟨by rfl, fun w' h => by have e := row_only (h : Only (fun b => b = w.heap.size + 1 + 1) V1 w') R0_1.out (by first | omega | (dsimp only; omega)); have e0 := cell_row e 0; have e1 := cell_row e 1; have e2 := cell_row e 2; have e3 := cell_row e 3; have e4 := cell_row e 4; have e5 := cell_row e 5; go_simp⟩) t1 ?_
      go_simp
      refine tkHV (i := 4) (v := .pointer (some ⟨w.heap.size + 1 + 1, 1, none⟩)) rfl t1 ?_
      go_simp
      refine wpAnyH_all (rs := [5]) (by kernel_rfl) (by simp) ?_
      intro i hi
      obtain rfl : i = 5 := by simpa using hi
      clear hi
      refine wpOp_step rfl (fun K hK => ?_)
      go_simp
      have eb := rb2_1
      have q0 := rw6 eb
      go_simp
      refine hK _ _ ⟨(t1).put rfl, ?_⟩
      clear hK K q0
      refine nm_any (fun v2 hnm => ?_)
      have t2 : Only (fun b => b = w.heap.size + 1 + 1) V1 v2 := by rw [hnm]; exact (t1).put rfl
      have rb2_2 : v2.heap[w.heap.size + 1 + 1]? = some (.cells #[.int .i64 x.kind, .bool true, .int .i64 0, .int .i64 0, .int .i64 0, .slice none 0 0] 29 (0, 0)) := by rw [hnm]; exact heap_setList (rb2_1)
      clear hnm eb
      refine tkHV (i := 6) (v := .pointer (some ⟨w.heap.size + 1 + 1, 2, none⟩)) rfl t2 ?_
      go_simp
      refine wpAnyH_all (rs := [7]) (by kernel_rfl) (by simp) ?_
      intro i hi
      obtain rfl : i = 7 := by simpa using hi
      clear hi
      refine wpOp_step rfl (fun K hK => ?_)
      go_simp
      have eb := rb2_2
      have q0 := rw6 eb
      go_simp
      refine hK _ _ ⟨((t2).put rfl).put rfl, ?_⟩
      clear hK K q0
      refine nm_any (fun v3 hnm => ?_)
      have t3 : Only (fun b => b = w.heap.size + 1 + 1) V1 v3 := by rw [hnm]; exact ((t2).put rfl).put rfl
      have rb2_3 : v3.heap[w.heap.size + 1 + 1]? = some (.cells #[.int .i64 x.kind, .bool true, .int .i64 x.id.index, .int .i64 x.id.gen, .int .i64 0, .slice none 0 0] 29 (0, 0)) := by rw [hnm]; exact heap_setList (heap_setList (rb2_2))
      clear hnm eb
      refine wpAnyH_done (by kernel_rfl) ?_ _
      have S2 := Lib.hid (show Only (Box w 3) V1 v3 from (t3).wid (fun b hb => by first | (unfold Box; omega) | (dsimp only at hb; unfold Box; omega)))
      have O2 := Lib.hid (O1.out.trans S2.out)
      have R0_2 := Lib.hid (row_only t3 R0_1.out (by first | omega | (dsimp only; omega)))
      have R1_2 := Lib.hid (row_only t3 R1_1.out (by first | omega | (dsimp only; omega)))
      have R2_2 := Lib.hid (show v3.heap[w.heap.size + 1 + 1]? = some (.cells #[.int .i64 x.kind, .bool true, .int .i64 x.id.index, .int .i64 x.id.gen, .int .i64 0, .slice none 0 0] 29 (0, 0)) from rb2_3)
      clear rb2_3
      have q0_0 := rw6 R0_2.out
      have q1_0 := rw6 R1_2.out
      have q2_0 := rw6 R2_2.out
      go_wp2_with (with_reducible refine stopLoad 29 3 rfl ?_)
      refine Lib.hid ?_
      clear q0_0 q1_0 q2_0
      refine nm_list (fun V4 hnm => ?_)
      have S3 := Lib.hid (show Only (Box w 3) v3 V4 from (by rw [hnm]; exact (Only.refl (Box w 3) v3).put ⟨by omega, by omega⟩))
      have O3 := Lib.hid (O2.out.trans S3.out)
      have R0_3 := Lib.hid (row_nm hnm (row_other (R0_2.out) (by omega)))
      have R1_3 := Lib.hid (row_nm hnm (row_other (R1_2.out) (by omega)))
      have R2_3 := Lib.hid (show V4.heap[w.heap.size + 1 + 1]? = some (.cells #[.int .i64 x.kind, .bool true, .int .i64 x.id.index, .int .i64 0, .int .i64 0, .slice none 0 0] 29 (0, 0)) from (by rw [hnm]; exact heap_setList (R2_2.out)))
      clear hnm
      have q0_0 := rw6 R0_3.out
      have q1_0 := rw6 R1_3.out
      have q2_0 := rw6 R2_3.out
      go_wp2_with fail
      clear q0_0 q1_0 q2_0
      refine nm_post (fun V9 hnm => ?_)
      have S4 := Lib.hid (show Only (Box w 3) V4 V9 from (by rw [hnm]; exact ((((((Only.refl (Box w 3) V4).put ⟨by omega, by omega⟩).put ⟨by omega, by omega⟩).put ⟨by omega, by omega⟩).put ⟨by omega, by omega⟩).put ⟨by omega, by omega⟩).put ⟨by omega, by omega⟩))
      have O4 := Lib.hid (O3.out.trans S4.out)
      have R0_4 := Lib.hid (row_nm hnm (row_other (row_other (row_other (row_other (row_other (row_other (R0_3.out) (by omega)) (by omega)) (by omega)) (by omega)) (by omega)) (by omega)))
      have R1_4 := Lib.hid (show V9.heap[w.heap.size + 1]? = some (.cells #[.int .i64 x.kind, .bool true, .int .i64 x.id.index, .int .i64 0, .int .i64 0, .slice none 0 0] 29 (0, 0)) from (by rw [hnm]; exact heap_setList (heap_setList (heap_setList (heap_setList (heap_setList (heap_setList (R1_3.out))))))))
      have R2_4 := Lib.hid (row_nm hnm (row_other (row_other (row_other (row_other (row_other (row_other (R2_3.out) (by omega)) (by omega)) (by omega)) (by omega)) (by omega)) (by omega)))
      clear hnm
      have q1_0 := cl6 R1_4.out
      refine ⟨rfl, .agg #[.int .i64 x.kind, .bool true, .int .i64 x.id.index, .int .i64 0, .int .i64 0, .slice none 0 0], by simp only [results, hfr]; go_simp, ?_⟩
      clear q1_0
      have HP := Lib.hid (show plainC x = ⟨x.kind, true, ⟨x.id.index, 0⟩, 0, []⟩ by unfold plainC; rw [if_pos HK.out]; simp [HKK.out, HL.out])
      exact ⟨_, rfl, by rw [HP.out]; exact cmd_bare (x := ⟨x.kind, true, ⟨x.id.index, 0⟩, 0, []⟩) HF.out.1 HF.out.2.1 wf0 wf0 rfl, Only.fin HB0.out O4.out⟩
    · have HKK := Lib.hid h
      have b2 : (x.kind == 2) = true := by simp [h]
      have b3 : (x.kind == 3) = false := by simp [h]
      have b1 : (x.kind == 1) = false := by simp [h]
      clear h
      obtain ⟨W0, hW0⟩ : ∃ W, ((w.alloc (.cells #[.int .i64 x.kind, .bool true, .int .i64 x.id.index, .int .i64 x.id.gen, .int .i64 x.comp, .slice Ad x.data.length cd] 29)).alloc (.cells #[.int .i64 0, .bool false, .int .i64 0, .int .i64 0, .int .i64 0, .slice none 0 0] 29)) = W := ⟨_, rfl⟩
      have hz0 : W0.heap.size = w.heap.size + 2 := by rw [← hW0]; simp
      have hb0 : Below w.heap.size w W0 := by rw [← hW0]; exact ((Below.refl _ _).alloc (Nat.le_refl _) _).alloc (by first | (simp; done) | (simp; omega)) _
      have HZ := Lib.hid hz0
      have HB0 := Lib.hid hb0
      have R0_0 := Lib.hid (show W0.heap[w.heap.size]? = some (.cells #[.int .i64 x.kind, .bool true, .int .i64 x.id.index, .int .i64 x.id.gen, .int .i64 x.comp, .slice Ad x.data.length cd] 29 (0, 0)) by rw [← hW0]; exact alloc_old (alloc_at rfl))
      have R1_0 := Lib.hid (show W0.heap[w.heap.size + 1]? = some (.cells #[.int .i64 0, .bool false, .int .i64 0, .int .i64 0, .int .i64 0, .slice none 0 0] 29 (0, 0)) by rw [← hW0]; exact alloc_at (by simp))
      have O0 := Lib.hid (Only.refl (Box w 3) W0)
      have Vd_0 := Lib.hid (show Rep.byte.list.val (In Q w 3) W0 (.slice Ad x.data.length cd) x.data from val_in HSL.out hb0)
      clear hz0 hb0
      have q0_0 := rw6 R0_0.out
      have q1_0 := rw6 R1_0.out
      go_enter Tryz.func57, Tryz.ntmps57
      go_wp2_with fail
      try rw [hW0]
      clear hW0
      try go_wp2_with fail
      clear q0_0 q1_0
      refine (known_calls _ _).mono ?_
      rintro e w1 ⟨rfl, rfl⟩
      rw [HK.out]
      have q0_0 := rw6 R0_0.out
      have q1_0 := rw6 R1_0.out
      go_wp2_with (with_reducible refine stopLoad 3 16 rfl ?_)
      refine Lib.hid ?_
      clear q0_0 q1_0
      rw [show w1.heap.size = w.heap.size + 1 + 1 by have := HZ.out; omega]
      refine nm_list (fun V1 hnm => ?_)
      have S1 := Lib.hid (show Only (Box w 3) w1 V1 from (by rw [hnm]; exact (Only.refl (Box w 3) w1).alloc _))
      have O1 := Lib.hid (O0.out.trans S1.out)
      have R0_1 := Lib.hid (row_nm hnm (alloc_old (R0_0.out)))
      have R1_1 := Lib.hid (row_nm hnm (alloc_old (R1_0.out)))
      have R2_1 := Lib.hid (show V1.heap[w.heap.size + 1 + 1]? = some (.cells #[.int .i64 x.kind, .bool false, .int .i64 0, .int .i64 0, .int .i64 0, .slice none 0 0] 29 (0, 0)) from (by rw [hnm]; exact alloc_at (by have := HZ.out; first | omega | (simp <;> omega))))
      have Vd_1 := Lib.hid (val_only Vd_0.out S1.out)
      clear hnm
      have q0_0 := rw6 R0_1.out
      have q1_0 := rw6 R1_1.out
      have q2_0 := rw6 R2_1.out
      go_wp2_with fail
      clear q0_0 q1_0 q2_0
      refine (bytesClone Vd_1.out (by have := HD.out; omega)).mono ?_
      rintro e w2 ⟨vd, rfl, hvd, hb⟩
      have S2 := Lib.hid (show Only (Box w 3) V1 w2 from Only.of_below hb)
      have O2 := Lib.hid (O1.out.trans S2.out)
      have R0_2 := Lib.hid (row_call hb R0_1.out)
      have R1_2 := Lib.hid (row_call hb R1_1.out)
      have R2_2 := Lib.hid (row_call hb R2_1.out)
      have Vd_2 := Lib.hid (val_only Vd_1.out S2.out)
      have Ve_2 := Lib.hid (val_fresh (Q := fun _ => False) (w := w) (n := 3) hvd (by have := O1.out.size; have := HZ.out; have := Below.size hb; have h9 := (Array.getElem?_eq_some_iff.1 R2_1.out).1; omega))
      obtain ⟨Bd, dd, rfl, hsl⟩ := Rep.val_sl hvd
      clear hvd hb hsl
      have q0_0 := rw6 R0_2.out
      have q1_0 := rw6 R1_2.out
      have q2_0 := rw6 R2_2.out
      go_wp2_with fail
      clear q0_0 q1_0 q2_0
      refine nm_region (fun V3 hnm => ?_)
      have S3 := Lib.hid (show Only (Box w 3) w2 V3 from (by rw [hnm]; exact ((Only.refl (Box w 3) w2).put ⟨by omega, by omega⟩).put ⟨by omega, by omega⟩))
      have O3 := Lib.hid (O2.out.trans S3.out)
      have R0_3 := Lib.hid (row_nm hnm (row_other (row_other (R0_2.out) (by omega)) (by omega)))
      have R1_3 := Lib.hid (row_nm hnm (row_other (row_other (R1_2.out) (by omega)) (by omega)))
      have R2_3 := Lib.hid (show V3.heap[w.heap.size + 1 + 1]? = some (.cells #[.int .i64 x.kind, .bool false, .int .i64 0, .int .i64 0, .int .i64 x.comp, .slice Bd x.data.length dd] 29 (0, 0)) from (by rw [hnm]; exact heap_setList (heap_setList (R2_2.out))))
      have Vd_3 := Lib.hid (val_only Vd_2.out S3.out)
      have Ve_3 := Lib.hid (val_only Ve_2.out S3.out)
      clear hnm
      refine wp_region_held_drew (S := fun W => Only (fun b => b = w.heap.size + 1 + 1) V3 W) (by kernel_rfl) ((Only.refl _ _).drw) (fun s0 => ?_)
      obtain ⟨v1, hv0⟩ : ∃ V, V = V3.drew := ⟨_, rfl⟩
      rw [← hv0] at s0 ⊢
      have t1 : Only (fun b => b = w.heap.size + 1 + 1) V3 v1 := s0
      have rb2_1 : v1.heap[w.heap.size + 1 + 1]? = some (.cells #[.int .i64 x.kind, .bool false, .int .i64 0, .int .i64 0, .int .i64 x.comp, .slice Bd x.data.length dd] 29 (0, 0)) := by rw [hv0]; exact R2_3.out
      clear hv0 s0
      refine tkHV (i := 0) (v := .pointer (some ⟨w.heap.size, 1, none⟩)) rfl t1 ?_
      go_simp
      refine tkH (i := 1) (v := .bool true) rfl (Or.inl ⟨by rfl, fun w' h => by have e := row_only (h : Only (fun b => b = w.heap.size + 1 + 1) V3 w') R0_3.out (by first | omega | (dsimp only; omega)); have e0 := cell_row e 0; have e1 := cell_row e 1; have e2 := cell_row e 2; have e3 := cell_row e 3; have e4 := cell_row e 4; have e5 := cell_row e 5; go_simp⟩) t1 ?_
      go_simp
      refine tkHV (i := 2) (v := .pointer (some ⟨w.heap.size, 2, none⟩)) rfl t1 ?_
      go_simp
      refine tkH (i := 3) (v := .agg #[.int .i64 x.id.index, .int .i64 x.id.gen]) rfl (Or.inl ⟨by rfl, fun w' h => by have e := row_only (h : Only (fun b => b = w.heap.size + 1 + 1) V3 w') R0_3.out (by first | omega | (dsimp only; omega)); have e0 := cell_row e 0; have e1 := cell_row e 1; have e2 := cell_row e 2; have e3 := cell_row e 3; have e4 := cell_row e 4; have e5 := cell_row e 5; go_simp⟩) t1 ?_
      go_simp
      refine tkHV (i := 4) (v := .pointer (some ⟨w.heap.size + 1 + 1, 1, none⟩)) rfl t1 ?_
      go_simp
      refine wpAnyH_all (rs := [5]) (by kernel_rfl) (by simp) ?_
      intro i hi
      obtain rfl : i = 5 := by simpa using hi
      clear hi
      refine wpOp_step rfl (fun K hK => ?_)
      go_simp
      have eb := rb2_1
      have q0 := rw6 eb
      go_simp
      refine hK _ _ ⟨(t1).put rfl, ?_⟩
      clear hK K q0
      refine nm_any (fun v2 hnm => ?_)
      have t2 : Only (fun b => b = w.heap.size + 1 + 1) V3 v2 := by rw [hnm]; exact (t1).put rfl
      have rb2_2 : v2.heap[w.heap.size + 1 + 1]? = some (.cells #[.int .i64 x.kind, .bool true, .int .i64 0, .int .i64 0, .int .i64 x.comp, .slice Bd x.data.length dd] 29 (0, 0)) := by rw [hnm]; exact heap_setList (rb2_1)
      clear hnm eb
      refine tkHV (i := 6) (v := .pointer (some ⟨w.heap.size + 1 + 1, 2, none⟩)) rfl t2 ?_
      go_simp
      refine wpAnyH_all (rs := [7]) (by kernel_rfl) (by simp) ?_
      intro i hi
      obtain rfl : i = 7 := by simpa using hi
      clear hi
      refine wpOp_step rfl (fun K hK => ?_)
      go_simp
      have eb := rb2_2
      have q0 := rw6 eb
      go_simp
      refine hK _ _ ⟨((t2).put rfl).put rfl, ?_⟩
      clear hK K q0
      refine nm_any (fun v3 hnm => ?_)
      have t3 : Only (fun b => b = w.heap.size + 1 + 1) V3 v3 := by rw [hnm]; exact ((t2).put rfl).put rfl
      have rb2_3 : v3.heap[w.heap.size + 1 + 1]? = some (.cells #[.int .i64 x.kind, .bool true, .int .i64 x.id.index, .int .i64 x.id.gen, .int .i64 x.comp, .slice Bd x.data.length dd] 29 (0, 0)) := by rw [hnm]; exact heap_setList (heap_setList (rb2_2))
      clear hnm eb
      refine wpAnyH_done (by kernel_rfl) ?_ _
      have S4 := Lib.hid (show Only (Box w 3) V3 v3 from (t3).wid (fun b hb => by first | (unfold Box; omega) | (dsimp only at hb; unfold Box; omega)))
      have O4 := Lib.hid (O3.out.trans S4.out)
      have R0_4 := Lib.hid (row_only t3 R0_3.out (by first | omega | (dsimp only; omega)))
      have R1_4 := Lib.hid (row_only t3 R1_3.out (by first | omega | (dsimp only; omega)))
      have R2_4 := Lib.hid (show v3.heap[w.heap.size + 1 + 1]? = some (.cells #[.int .i64 x.kind, .bool true, .int .i64 x.id.index, .int .i64 x.id.gen, .int .i64 x.comp, .slice Bd x.data.length dd] 29 (0, 0)) from rb2_3)
      have Vd_4 := Lib.hid (val_only Vd_3.out S4.out)
      have Ve_4 := Lib.hid (val_only Ve_3.out S4.out)
      clear rb2_3
      have q0_0 := rw6 R0_4.out
      have q1_0 := rw6 R1_4.out
      have q2_0 := rw6 R2_4.out
      go_wp2_with (with_reducible refine stopLoad 29 3 rfl ?_)
      refine Lib.hid ?_
      clear q0_0 q1_0 q2_0
      refine nm_list (fun V4 hnm => ?_)
      have S5 := Lib.hid (show Only (Box w 3) v3 V4 from (by rw [hnm]; exact (Only.refl (Box w 3) v3).put ⟨by omega, by omega⟩))
      have O5 := Lib.hid (O4.out.trans S5.out)
      have R0_5 := Lib.hid (row_nm hnm (row_other (R0_4.out) (by omega)))
      have R1_5 := Lib.hid (row_nm hnm (row_other (R1_4.out) (by omega)))
      have R2_5 := Lib.hid (show V4.heap[w.heap.size + 1 + 1]? = some (.cells #[.int .i64 x.kind, .bool true, .int .i64 x.id.index, .int .i64 0, .int .i64 x.comp, .slice Bd x.data.length dd] 29 (0, 0)) from (by rw [hnm]; exact heap_setList (R2_4.out)))
      have Vd_5 := Lib.hid (val_only Vd_4.out S5.out)
      have Ve_5 := Lib.hid (val_only Ve_4.out S5.out)
      clear hnm
      have q0_0 := rw6 R0_5.out
      have q1_0 := rw6 R1_5.out
      have q2_0 := rw6 R2_5.out
      go_wp2_with fail
      clear q0_0 q1_0 q2_0
      refine nm_post (fun V9 hnm => ?_)
      have S6 := Lib.hid (show Only (Box w 3) V4 V9 from (by rw [hnm]; exact ((((((Only.refl (Box w 3) V4).put ⟨by omega, by omega⟩).put ⟨by omega, by omega⟩).put ⟨by omega, by omega⟩).put ⟨by omega, by omega⟩).put ⟨by omega, by omega⟩).put ⟨by omega, by omega⟩))
      have O6 := Lib.hid (O5.out.trans S6.out)
      have R0_6 := Lib.hid (row_nm hnm (row_other (row_other (row_other (row_other (row_other (row_other (R0_5.out) (by omega)) (by omega)) (by omega)) (by omega)) (by omega)) (by omega)))
      have R1_6 := Lib.hid (show V9.heap[w.heap.size + 1]? = some (.cells #[.int .i64 x.kind, .bool true, .int .i64 x.id.index, .int .i64 0, .int .i64 x.comp, .slice Bd x.data.length dd] 29 (0, 0)) from (by rw [hnm]; exact heap_setList (heap_setList (heap_setList (heap_setList (heap_setList (heap_setList (R1_5.out))))))))
      have R2_6 := Lib.hid (row_nm hnm (row_other (row_other (row_other (row_other (row_other (row_other (R2_5.out) (by omega)) (by omega)) (by omega)) (by omega)) (by omega)) (by omega)))
      have Vd_6 := Lib.hid (val_only Vd_5.out S6.out)
      have Ve_6 := Lib.hid (val_only Ve_5.out S6.out)
      clear hnm
      have q1_0 := cl6 R1_6.out
      refine ⟨rfl, .agg #[.int .i64 x.kind, .bool true, .int .i64 x.id.index, .int .i64 0, .int .i64 x.comp, .slice Bd x.data.length dd], by simp only [results, hfr]; go_simp, ?_⟩
      clear q1_0
      have HP := Lib.hid (show plainC x = ⟨x.kind, true, ⟨x.id.index, 0⟩, x.comp, x.data⟩ by unfold plainC; rw [if_pos HK.out]; simp [HKK.out, HL.out])
      exact ⟨_, rfl, by rw [HP.out]; exact rCmd_agg (x := ⟨x.kind, true, ⟨x.id.index, 0⟩, x.comp, x.data⟩) HF.out.1 HF.out.2.1 wf0 HF.out.2.2.2 (sl_of (Rep.val_mono (fun b hb _ => by rcases hb with h | h; exact absurd h.1 id; omega) Ve_6.out)), Only.fin HB0.out O6.out⟩
    · have HKK := Lib.hid h
      have b2 : (x.kind == 2) = false := by simp [h]
      have b3 : (x.kind == 3) = true := by simp [h]
      have b1 : (x.kind == 1) = false := by simp [h]
      clear h
      obtain ⟨W0, hW0⟩ : ∃ W, ((w.alloc (.cells #[.int .i64 x.kind, .bool true, .int .i64 x.id.index, .int .i64 x.id.gen, .int .i64 x.comp, .slice Ad x.data.length cd] 29)).alloc (.cells #[.int .i64 0, .bool false, .int .i64 0, .int .i64 0, .int .i64 0, .slice none 0 0] 29)) = W := ⟨_, rfl⟩
      have hz0 : W0.heap.size = w.heap.size + 2 := by rw [← hW0]; simp
      have hb0 : Below w.heap.size w W0 := by rw [← hW0]; exact ((Below.refl _ _).alloc (Nat.le_refl _) _).alloc (by first | (simp; done) | (simp; omega)) _
      have HZ := Lib.hid hz0
      have HB0 := Lib.hid hb0
      have R0_0 := Lib.hid (show W0.heap[w.heap.size]? = some (.cells #[.int .i64 x.kind, .bool true, .int .i64 x.id.index, .int .i64 x.id.gen, .int .i64 x.comp, .slice Ad x.data.length cd] 29 (0, 0)) by rw [← hW0]; exact alloc_old (alloc_at rfl))
      have R1_0 := Lib.hid (show W0.heap[w.heap.size + 1]? = some (.cells #[.int .i64 0, .bool false, .int .i64 0, .int .i64 0, .int .i64 0, .slice none 0 0] 29 (0, 0)) by rw [← hW0]; exact alloc_at (by simp))
      have O0 := Lib.hid (Only.refl (Box w 3) W0)
      clear hz0 hb0
      have q0_0 := rw6 R0_0.out
      have q1_0 := rw6 R1_0.out
      go_enter Tryz.func57, Tryz.ntmps57
      go_wp2_with fail
      try rw [hW0]
      clear hW0
      try go_wp2_with fail
      clear q0_0 q1_0
      refine (known_calls _ _).mono ?_
      rintro e w1 ⟨rfl, rfl⟩
      rw [HK.out]
      have q0_0 := rw6 R0_0.out
      have q1_0 := rw6 R1_0.out
      go_wp2_with (with_reducible refine stopLoad 3 16 rfl ?_)
      refine Lib.hid ?_
      clear q0_0 q1_0
      rw [show w1.heap.size = w.heap.size + 1 + 1 by have := HZ.out; omega]
      refine nm_list (fun V1 hnm => ?_)
      have S1 := Lib.hid (show Only (Box w 3) w1 V1 from (by rw [hnm]; exact (Only.refl (Box w 3) w1).alloc _))
      have O1 := Lib.hid (O0.out.trans S1.out)
      have R0_1 := Lib.hid (row_nm hnm (alloc_old (R0_0.out)))
      have R1_1 := Lib.hid (row_nm hnm (alloc_old (R1_0.out)))
      have R2_1 := Lib.hid (show V1.heap[w.heap.size + 1 + 1]? = some (.cells #[.int .i64 x.kind, .bool false, .int .i64 0, .int .i64 0, .int .i64 0, .slice none 0 0] 29 (0, 0)) from (by rw [hnm]; exact alloc_at (by have := HZ.out; first | omega | (simp <;> omega))))
      clear hnm
      have q0_0 := rw6 R0_1.out
      have q1_0 := rw6 R1_1.out
      have q2_0 := rw6 R2_1.out
      go_wp2_with fail
      clear q0_0 q1_0 q2_0
      refine nm_region (fun V3 hnm => ?_)
      have S2 := Lib.hid (show Only (Box w 3) V1 V3 from (by rw [hnm]; exact (Only.refl (Box w 3) V1).put ⟨by omega, by omega⟩))
      have O2 := Lib.hid (O1.out.trans S2.out)
      have R0_2 := Lib.hid (row_nm hnm (row_other (R0_1.out) (by omega)))
      have R1_2 := Lib.hid (row_nm hnm (row_other (R1_1.out) (by omega)))
      have R2_2 := Lib.hid (show V3.heap[w.heap.size + 1 + 1]? = some (.cells #[.int .i64 x.kind, .bool false, .int .i64 0, .int .i64 0, .int .i64 x.comp, .slice none 0 0] 29 (0, 0)) from (by rw [hnm]; exact heap_setList (R2_1.out)))
      clear hnm
      refine wp_region_held_drew (S := fun W => Only (fun b => b = w.heap.size + 1 + 1) V3 W) (by kernel_rfl) ((Only.refl _ _).drw) (fun s0 => ?_)
      obtain ⟨v1, hv0⟩ : ∃ V, V = V3.drew := ⟨_, rfl⟩
      rw [← hv0] at s0 ⊢
      have t1 : Only (fun b => b = w.heap.size + 1 + 1) V3 v1 := s0
      have rb2_1 : v1.heap[w.heap.size + 1 + 1]? = some (.cells #[.int .i64 x.kind, .bool false, .int .i64 0, .int .i64 0, .int .i64 x.comp, .slice none 0 0] 29 (0, 0)) := by rw [hv0]; exact R2_2.out
      clear hv0 s0
      refine tkHV (i := 0) (v := .pointer (some ⟨w.heap.size, 1, none⟩)) rfl t1 ?_
      go_simp
      refine tkH (i := 1) (v := .bool true) rfl (Or.inl ⟨by rfl, fun w' h => by have e := row_only (h : Only (fun b => b = w.heap.size + 1 + 1) V3 w') R0_2.out (by first | omega | (dsimp only; omega)); have e0 := cell_row e 0; have e1 := cell_row e 1; have e2 := cell_row e 2; have e3 := cell_row e 3; have e4 := cell_row e 4; have e5 := cell_row e 5; go_simp⟩) t1 ?_
      go_simp
      refine tkHV (i := 2) (v := .pointer (some ⟨w.heap.size, 2, none⟩)) rfl t1 ?_
      go_simp
      refine tkH (i := 3) (v := .agg #[.int .i64 x.id.index, .int .i64 x.id.gen]) rfl (Or.inl ⟨by rfl, fun w' h => by have e := row_only (h : Only (fun b => b = w.heap.size + 1 + 1) V3 w') R0_2.out (by first | omega | (dsimp only; omega)); have e0 := cell_row e 0; have e1 := cell_row e 1; have e2 := cell_row e 2; have e3 := cell_row e 3; have e4 := cell_row e 4; have e5 := cell_row e 5; go_simp⟩) t1 ?_
      go_simp
      refine tkHV (i := 4) (v := .pointer (some ⟨w.heap.size + 1 + 1, 1, none⟩)) rfl t1 ?_
      go_simp
      refine wpAnyH_all (rs := [5]) (by kernel_rfl) (by simp) ?_
      intro i hi
      obtain rfl : i = 5 := by simpa using hi
      clear hi
      refine wpOp_step rfl (fun K hK => ?_)
      go_simp
      have eb := rb2_1
      have q0 := rw6 eb
      go_simp
      refine hK _ _ ⟨(t1).put rfl, ?_⟩
      clear hK K q0
      refine nm_any (fun v2 hnm => ?_)
      have t2 : Only (fun b => b = w.heap.size + 1 + 1) V3 v2 := by rw [hnm]; exact (t1).put rfl
      have rb2_2 : v2.heap[w.heap.size + 1 + 1]? = some (.cells #[.int .i64 x.kind, .bool true, .int .i64 0, .int .i64 0, .int .i64 x.comp, .slice none 0 0] 29 (0, 0)) := by rw [hnm]; exact heap_setList (rb2_1)
      clear hnm eb
      refine tkHV (i := 6) (v := .pointer (some ⟨w.heap.size + 1 + 1, 2, none⟩)) rfl t2 ?_
      go_simp
      refine wpAnyH_all (rs := [7]) (by kernel_rfl) (by simp) ?_
      intro i hi
      obtain rfl : i = 7 := by simpa using hi
      clear hi
      refine wpOp_step rfl (fun K hK => ?_)
      go_simp
      have eb := rb2_2
      have q0 := rw6 eb
      go_simp
      refine hK _ _ ⟨((t2).put rfl).put rfl, ?_⟩
      clear hK K q0
      refine nm_any (fun v3 hnm => ?_)
      have t3 : Only (fun b => b = w.heap.size + 1 + 1) V3 v3 := by rw [hnm]; exact ((t2).put rfl).put rfl
      have rb2_3 : v3.heap[w.heap.size + 1 + 1]? = some (.cells #[.int .i64 x.kind, .bool true, .int .i64 x.id.index, .int .i64 x.id.gen, .int .i64 x.comp, .slice none 0 0] 29 (0, 0)) := by rw [hnm]; exact heap_setList (heap_setList (rb2_2))
      clear hnm eb
      refine wpAnyH_done (by kernel_rfl) ?_ _
      have S3 := Lib.hid (show Only (Box w 3) V3 v3 from (t3).wid (fun b hb => by first | (unfold Box; omega) | (dsimp only at hb; unfold Box; omega)))
      have O3 := Lib.hid (O2.out.trans S3.out)
      have R0_3 := Lib.hid (row_only t3 R0_2.out (by first | omega | (dsimp only; omega)))
      have R1_3 := Lib.hid (row_only t3 R1_2.out (by first | omega | (dsimp only; omega)))
      have R2_3 := Lib.hid (show v3.heap[w.heap.size + 1 + 1]? = some (.cells #[.int .i64 x.kind, .bool true, .int .i64 x.id.index, .int .i64 x.id.gen, .int .i64 x.comp, .slice none 0 0] 29 (0, 0)) from rb2_3)
      clear rb2_3
      have q0_0 := rw6 R0_3.out
      have q1_0 := rw6 R1_3.out
      have q2_0 := rw6 R2_3.out
      go_wp2_with (with_reducible refine stopLoad 29 3 rfl ?_)
      refine Lib.hid ?_
      clear q0_0 q1_0 q2_0
      refine nm_list (fun V4 hnm => ?_)
      have S4 := Lib.hid (show Only (Box w 3) v3 V4 from (by rw [hnm]; exact (Only.refl (Box w 3) v3).put ⟨by omega, by omega⟩))
      have O4 := Lib.hid (O3.out.trans S4.out)
      have R0_4 := Lib.hid (row_nm hnm (row_other (R0_3.out) (by omega)))
      have R1_4 := Lib.hid (row_nm hnm (row_other (R1_3.out) (by omega)))
      have R2_4 := Lib.hid (show V4.heap[w.heap.size + 1 + 1]? = some (.cells #[.int .i64 x.kind, .bool true, .int .i64 x.id.index, .int .i64 0, .int .i64 x.comp, .slice none 0 0] 29 (0, 0)) from (by rw [hnm]; exact heap_setList (R2_3.out)))
      clear hnm
      have q0_0 := rw6 R0_4.out
      have q1_0 := rw6 R1_4.out
      have q2_0 := rw6 R2_4.out
      go_wp2_with fail
      clear q0_0 q1_0 q2_0
      refine nm_post (fun V9 hnm => ?_)
      have S5 := Lib.hid (show Only (Box w 3) V4 V9 from (by rw [hnm]; exact ((((((Only.refl (Box w 3) V4).put ⟨by omega, by omega⟩).put ⟨by omega, by omega⟩).put ⟨by omega, by omega⟩).put ⟨by omega, by omega⟩).put ⟨by omega, by omega⟩).put ⟨by omega, by omega⟩))
      have O5 := Lib.hid (O4.out.trans S5.out)
      have R0_5 := Lib.hid (row_nm hnm (row_other (row_other (row_other (row_other (row_other (row_other (R0_4.out) (by omega)) (by omega)) (by omega)) (by omega)) (by omega)) (by omega)))
      have R1_5 := Lib.hid (show V9.heap[w.heap.size + 1]? = some (.cells #[.int .i64 x.kind, .bool true, .int .i64 x.id.index, .int .i64 0, .int .i64 x.comp, .slice none 0 0] 29 (0, 0)) from (by rw [hnm]; exact heap_setList (heap_setList (heap_setList (heap_setList (heap_setList (heap_setList (R1_4.out))))))))
      have R2_5 := Lib.hid (row_nm hnm (row_other (row_other (row_other (row_other (row_other (row_other (R2_4.out) (by omega)) (by omega)) (by omega)) (by omega)) (by omega)) (by omega)))
      clear hnm
      have q1_0 := cl6 R1_5.out
      refine ⟨rfl, .agg #[.int .i64 x.kind, .bool true, .int .i64 x.id.index, .int .i64 0, .int .i64 x.comp, .slice none 0 0], by simp only [results, hfr]; go_simp, ?_⟩
      clear q1_0
      have HP := Lib.hid (show plainC x = ⟨x.kind, true, ⟨x.id.index, 0⟩, x.comp, []⟩ by unfold plainC; rw [if_pos HK.out]; simp [HKK.out, HL.out])
      exact ⟨_, rfl, by rw [HP.out]; exact cmd_bare (x := ⟨x.kind, true, ⟨x.id.index, 0⟩, x.comp, []⟩) HF.out.1 HF.out.2.1 wf0 HF.out.2.2.2 rfl, Only.fin HB0.out O5.out⟩
end Go.Proofs.YtejibngkeaamkaaGreatDoor
