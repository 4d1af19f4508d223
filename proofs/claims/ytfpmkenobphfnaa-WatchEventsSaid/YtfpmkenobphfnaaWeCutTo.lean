/- Walks of bytes cut to a length (the reference's) and of a reader's next bytes. -/
import Derived.Test.YtfpmkenobphfnaaWeRCmdPut
import Derived.Test.YtfpmkenobphfnaaWeReader
import Derived.Test.YtfpmkenobphfnaaWeSealMath
namespace Go.Proofs.Ytfpmkenobphfnaa
open Go.RowKit

theorem cutTo_in {l : List UInt8} {k : Nat} (h : k < l.length) : cutTo l (k + 1) = cutTo l k ++ [l[k]] := by
  unfold cutTo
  rw [List.take_succ_eq_append_getElem h, show k + 1 - l.length = 0 by omega, show k - l.length = 0 by omega]; simp
theorem cutTo_out {l : List UInt8} {k : Nat} (h : l.length ≤ k) : cutTo l (k + 1) = cutTo l k ++ [0] := by
  unfold cutTo
  rw [List.take_of_length_le (by omega), List.take_of_length_le h, show k + 1 - l.length = (k - l.length) + 1 by omega, List.replicate_succ', List.append_assoc]

set_option maxRecDepth 100000 in
set_option maxHeartbeats 1000000 in
/-- ref01.Cut -/
theorem rcutTo_calls {Q : Nat → Prop} {w : World} {v : Value} {l : List UInt8} {n : Nat} (hx : Rep.byte.list.val Q w v l) (hn : n ≤ 65535) :
    Calls Try.prog 84 #[v, .int .i64 n] w (ResA Rep.byte 5 w (cutTo l n)) := by
  obtain ⟨A, c, rfl, hc1, hc2, hA⟩ := Rep.val_list hx
  unfold maxLen at hc2
  have HA := Lib.hid hA
  have h65 : (n : Int) ≤ 65535 := by omega
  clear hx hA
  go_enter Try.func84, Try.ntmps84
  go_wp2_with fail
  go_loopw [5, 6] (fun s i wr => ∃ k : Nat, i = .int .i64 k ∧ k ≤ n ∧ Rep.byte.acc 5 w.heap.size (fun _ => False) wr s (cutTo l k) ∧ Below w.heap.size w wr)
    (fun _ i _ => n - (intOf i).toNat)
  case atStart => exact ⟨0, rfl, by omega, by simpa [cutTo] using Rep.acc_nil, Below.refl _ _⟩
  case round =>
    obtain ⟨k, rfl, hk, hv, hb1⟩ := hrel
    have HB1 := Lib.hid hb1
    have HL := Lib.hid (cutTo_length l k)
    have HL2 := Lib.hid (show (cutTo l k).length + 1 ≤ maxLen ∧ ((cutTo l k).length + 1) * 1 ≤ 140737488355328 by rw [HL.out]; unfold maxLen; omega)
    by_cases hlt : (k : Int) < n
    · by_cases hin : (k : Int) < l.length
      · have hk' : k < l.length := by omega
        obtain ⟨b, off, rfl, d0⟩ := Rep.At.byte (Rep.At.keep (w := w) (Q' := fun _ => True) (fun b _ hb => ⟨trivial, hb1.block b hb.lt⟩) HA.out) (List.getElem?_eq_getElem hk')
        have T := Lib.hid (cutTo_in hk')
        generalize l[k] = x at *
        generalize cutTo l k = q at *
        have HV := Lib.hid hv
        clear hv hb1
        go_wp2_with (refine wpList_snoc (e := 5) (base := w.heap.size) (Q := fun _ => False) (r := Rep.byte) rfl rfl _ _ 36 _ rfl rfl rfl (.int .u8 0) 1 1 Try.underlying36 info5 rfl (by decide) rfl _ _ HV.out x _ (by exact rfl) ⟨_, rfl, rfl⟩ (by exact rfl) (by exact rfl) HL2.out.1 HL2.out.2 HB1.out.size ?_; intro v5 w5 hacc5 hgr5 hat5; rw [← T.out] at hacc5; have HU5 := Lib.hid hacc5; have D5 := Lib.hid (Rep.acc_below HV.out HB1.out hgr5 HB1.out.size); clear hacc5 hgr5 hat5)
        exact ⟨⟨k + 1, by go_num, by omega, HU5.out, D5.out⟩, by simp [intOf]; omega⟩
      · have T := Lib.hid (cutTo_out (l := l) (k := k) (by omega))
        generalize cutTo l k = q at *
        have HV := Lib.hid hv
        clear hv hb1
        go_wp2_with (refine wpList_snoc (e := 5) (base := w.heap.size) (Q := fun _ => False) (r := Rep.byte) rfl rfl _ _ 36 _ rfl rfl rfl (.int .u8 0) 1 1 Try.underlying36 info5 rfl (by decide) rfl _ _ HV.out (0 : UInt8) _ (by exact rfl) lit0 (by exact rfl) (by exact rfl) HL2.out.1 HL2.out.2 HB1.out.size ?_; intro v5 w5 hacc5 hgr5 hat5; rw [← T.out] at hacc5; have HU5 := Lib.hid hacc5; have D5 := Lib.hid (Rep.acc_below HV.out HB1.out hgr5 HB1.out.size); clear hacc5 hgr5 hat5)
        exact ⟨⟨k + 1, by go_num, by omega, HU5.out, D5.out⟩, by simp [intOf]; omega⟩
    · obtain rfl : k = n := by omega
      generalize cutTo l k = q at *
      have HV := Lib.hid hv
      clear hv hb1
      go_wp2_with fail
      go_ret
      exact ⟨_, rfl, HV.out, HB1.out⟩

/-- What the next bytes are, where the reader is then, and whether something was not there. -/
def rdBytes (b : List UInt8) (at_ : Nat) (bad : Bool) (n : Int) : List UInt8 × Nat × Bool :=
  if bad then ([], at_, true) else if n < 0 then ([], at_, false) else if (b.length : Int) - at_ < n then ([], at_, true) else ((b.drop at_).take n.toNat, at_ + n.toNat, false)
def BytesRes (w : World) (p : Nat) (A : Option Addr) (c : Nat) (b : List UInt8) (r : List UInt8 × Nat × Bool) (e : Ending) (w' : World) : Prop :=
  ∃ u, e = .returned u ∧ Rep.byte.list.val (fun x => w.heap.size ≤ x) w' u r.1 ∧ RdrAt w' p A c b r.2.1 r.2.2 ∧ w.grownBy w' (some p)
theorem grownBy_below {w w' : World} (h : Below w.heap.size w w') (row : Option Nat) : w.grownBy w' row := ⟨h.os, h.tape, h.output, h.size, fun k hk _ => h.block k hk⟩

set_option maxRecDepth 100000 in
set_option maxHeartbeats 1000000 in
/-- (*le.Reader).Bytes -/
theorem rdbytes_calls {w : World} {p : Nat} {A : Option Addr} {c : Nat} {b : List UInt8} {at_ : Nat} {bad : Bool} {n : Int} (h : RdrAt w p A c b at_ bad) (hb : b.length ≤ 1000000000) :
    Calls Try.prog 205 #[.pointer (some ⟨p, 0, none⟩), .int .i64 n] w (BytesRes w p A c b (rdBytes b at_ bad n)) := by
  have H := Lib.hid h
  have HBL := Lib.hid hb
  have hle := h.le
  have c0 := h.c0
  have c1 := h.c1
  have c2 := h.c2
  have z1 := h.z 1
  have z2 := h.z 2
  have HZ := Lib.hid (show ∀ w' : World, Rep.byte.list.val (fun x => w.heap.size ≤ x) w' (.slice none 0 0) ([] : List UInt8) from fun w => Rep.val_nil (by simp [maxLen]))
  clear h
  cases bad with
  | true =>
    have R := Lib.hid (show rdBytes b at_ true n = ([], at_, true) from rfl)
    go_enter Try.func205, Try.ntmps205
    go_wp2_with (go_at_call 109; refine (ok_calls H.out).mono ?_; rintro e w' ⟨rfl, rfl⟩)
    go_ret
    rw [R.out]
    exact ⟨_, rfl, HZ.out _, H.out, World.grownBy.refl _ _⟩
  | false =>
    by_cases hn : n < 0
    · have R := Lib.hid (show rdBytes b at_ false n = ([], at_, false) by unfold rdBytes; rw [if_pos hn]; rfl)
      go_enter Try.func205, Try.ntmps205
      go_wp2_with (go_at_call 109; refine (ok_calls H.out).mono ?_; rintro e w' ⟨rfl, rfl⟩)
      go_ret
      rw [R.out]
      exact ⟨_, rfl, HZ.out _, H.out, World.grownBy.refl _ _⟩
    · by_cases hlo : (b.length : Int) - at_ < n
      · have R := Lib.hid (show rdBytes b at_ false n = ([], at_, true) by unfold rdBytes; rw [if_neg hn, if_pos hlo]; rfl)
        go_enter Try.func205, Try.ntmps205
        go_wp2_with (first
          | (go_at_call 109; refine (ok_calls H.out).mono ?_; rintro e w' ⟨rfl, rfl⟩)
          | (go_at_call 110; refine (left_calls H.out HBL.out).mono ?_; rintro e w' ⟨rfl, nq, rfl⟩))
        go_ret
        rw [R.out]
        have hg := grownBy_drewN w' nq (some p)
        have h1 : RdrAt (w'.drewN nq) p A c b at_ false := H.out.drewN nq
        generalize w'.drewN nq = W at *
        exact ⟨_, rfl, HZ.out _, setBad h1, hg.trans (grownBy_setCell _ _ _)⟩
      · obtain ⟨m, rfl⟩ : ∃ m : Nat, n = m := ⟨n.toNat, by omega⟩
        have R := Lib.hid (show rdBytes b at_ false m = ((b.drop at_).take m, at_ + m, false) by unfold rdBytes; rw [if_neg hn, if_neg hlo]; rfl)
        go_enter Try.func205, Try.ntmps205
        go_wp2_with (first
          | (go_at_call 109; refine (ok_calls H.out).mono ?_; rintro e w' ⟨rfl, rfl⟩)
          | (go_at_call 110; refine (left_calls H.out HBL.out).mono ?_; rintro e w' ⟨rfl, nq, rfl⟩))
        have hd1 : RdrAt (w'.drewN nq) p A c b at_ false := H.out.drewN nq
        have hg := Lib.hid (grownBy_drewN w' nq (some p))
        have HSZ := Lib.hid (show (w'.drewN nq).heap.size = w'.heap.size from rfl)
        generalize w'.drewN nq = W at *
        have hm1 : (m : Int) ≤ (b.length : Int) - at_ := by omega
        have hs := hd1.sl
        have hs1 := hs.1
        have hs2 := hs.2.1
        unfold maxLen at hs2
        have hlt := hd1.lt
        have KS := Lib.hid (show ∀ W', Below W.heap.size W W' → RdrAt W' p A c b at_ false from fun W' hb => ⟨(hb.block p hlt).trans hd1.blk, hd1.sl.keep fun x hx _ => ⟨hx, hb.block x (by omega)⟩, hd1.le⟩)
        have hbl := HBL.out
        have g0 : (0 : Int) ≤ at_ + m := by omega
        have g1 : (at_ : Int) + m ≤ c := by omega
        have g2 : (at_ : Int) ≤ at_ + m := by omega
        have g3 : IntKind.i64.wrap ((at_ : Int) + m) = (at_ : Int) + m := IntWalk.i64_in _ ⟨by omega, by omega⟩
        clear hs2
        by_cases h0 : m = 0
        · subst h0
          have g5 : (at_ : Int) ≤ c := by omega
          have g6 : IntKind.i64.wrap (at_ : Int) = (at_ : Int) := IntWalk.i64_in _ ⟨by omega, by omega⟩
          clear g0 g1 g2 g3
          have HE := Lib.hid (show (b.drop at_).take 0 = [] by simp)
          have HVN := Lib.hid (show ∀ W', Rep.byte.list.val (fun _ => True) W' (.slice A 0 0) ([] : List UInt8) from fun W' => Rep.list_val rfl (Nat.le_refl _) (by simp [maxLen]) ⟨[], rfl, fun h => absurd h (by simp)⟩)
          go_region_held3 (fun W => W.cell? ⟨p, 0, none⟩ = some (.slice A b.length c) ∧ W.cell? ⟨p, 1, none⟩ = some (.int .i64 at_))
            (first
              | exact ⟨(KS.out _ (Below.refl _ _).drew).c0, (KS.out _ (Below.refl _ _).drew).c1⟩
              | exact ⟨(KS.out _ D1.out).c0, (KS.out _ D1.out).c1⟩)
            ((go_at_call 152; refine (sliceClone (HVN.out W.drew) (by simp)).mono ?_; rintro e w1 ⟨u1, rfl, hu1, hb1⟩; have D1 := Lib.hid ((Below.refl W.heap.size W).drew.trans hb1); have HU1 := Lib.hid (Rep.acc_fresh hu1); clear hu1 hb1))
          have q0 := (KS.out _ D1.out).c0
          have q1 := (KS.out _ D1.out).c1
          have y1 := (KS.out _ D1.out).z 1
          go_wp2_with fail
          go_ret
          rw [R.out, HE.out]
          have hk := Lib.hid (setAt (at2 := at_ + 0) (KS.out _ D1.out) (by omega))
          exact ⟨_, rfl, Rep.val_keep (fun x hx _ => ⟨by have := HSZ.out; have hx' : W.heap.size ≤ x := hx; omega, Below.heap_setCell _ _ _ _ (by have hx' : W.heap.size ≤ x := hx; show x ≠ p; omega)⟩) HU1.out, hk.out, hg.out.trans ((grownBy_below D1.out (some p)).trans (grownBy_setCell _ _ _))⟩
        · obtain ⟨bb, off, hA⟩ := Rep.At.addr hs.2.2 (by omega)
          subst hA
          have hm0 : ¬ ((at_ : Int) + m).toNat = at_ := by omega
          have g4 : ((at_ : Int) + m).toNat - at_ = m := by omega
          have HVN := Lib.hid (show ∀ W', Below W.heap.size W W' → Rep.byte.list.val (fun x => x < p) W' (.slice (some ⟨bb, off + at_, none⟩) m m) ((b.drop at_).take m) from fun W' hb =>
            Rep.list_val (by rw [List.length_take, List.length_drop]; omega) (Nat.le_refl _) (by unfold maxLen; omega) (Rep.At.take (by have := Rep.At.drop ((KS.out W' hb).sl.2.2) (n := at_) hle; simpa [Rep.byte] using this) m))
          have HLN := Lib.hid (show ((b.drop at_).take m).length ≤ 100000000000000 by rw [List.length_take]; omega)
          generalize (b.drop at_).take m = X at *
          go_region_held3 (fun W => W.cell? ⟨p, 0, none⟩ = some (.slice (some ⟨bb, off, none⟩) b.length c) ∧ W.cell? ⟨p, 1, none⟩ = some (.int .i64 at_))
            (first
              | exact ⟨(KS.out _ (Below.refl _ _).drew).c0, (KS.out _ (Below.refl _ _).drew).c1⟩
              | exact ⟨(KS.out _ D1.out).c0, (KS.out _ D1.out).c1⟩)
            ((go_at_call 152; refine (sliceClone (HVN.out _ (Below.refl _ _).drew) HLN.out).mono ?_; rintro e w1 ⟨u1, rfl, hu1, hb1⟩; have D1 := Lib.hid ((Below.refl W.heap.size W).drew.trans hb1); have HU1 := Lib.hid (Rep.acc_fresh hu1); clear hu1 hb1))
          have q0 := (KS.out _ D1.out).c0
          have q1 := (KS.out _ D1.out).c1
          have y1 := (KS.out _ D1.out).z 1
          go_wp2_with fail
          go_ret
          rw [R.out]
          have hk := Lib.hid (setAt (at2 := at_ + m) (KS.out _ D1.out) (by omega))
          exact ⟨_, rfl, Rep.val_keep (fun x hx _ => ⟨by have := HSZ.out; have hx' : W.heap.size ≤ x := hx; omega, Below.heap_setCell _ _ _ _ (by have hx' : W.heap.size ≤ x := hx; show x ≠ p; omega)⟩) HU1.out, hk.out, hg.out.trans ((grownBy_below D1.out (some p)).trans (grownBy_setCell _ _ _))⟩
end Go.Proofs.Ytfpmkenobphfnaa
