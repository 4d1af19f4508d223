/- Texts on which the proofs stand: CutTo, RDirBytes, Same, Entries, RDirGet. No condition is laid on any input. -/
import Derived.Test.YteljibjbndpncaaWfG2
import Derived.Test.YteljibjbndpncaaWfG5
import Derived.Test.YteljibjbndpncaaWfG6
import Derived.Test.YteljibjbndpncaaWfG7
import Derived.Test.YteljibjbndpncaaWfRCmdPut
import Derived.Test.YteljibjbndpncaaWfTypes
import Derived.BigQuiet
import Derived.Deep.QuietTactic
/- Walks of bytes cut to a length (the reference's) and of a reader's next bytes. -/
namespace Go.Proofs.Yteljibjbndpncaa
open Go.RowKit

theorem cutTo_in {l : List UInt8} {k : Nat} (h : k < l.length) : cutTo l (k + 1) = cutTo l k ++ [l[k]] := by
  unfold cutTo
  rw [List.take_succ_eq_append_getElem h, show k + 1 - l.length = 0 by omega, show k - l.length = 0 by omega]; simp
theorem cutTo_out {l : List UInt8} {k : Nat} (h : l.length ≤ k) : cutTo l (k + 1) = cutTo l k ++ [0] := by
  unfold cutTo
  rw [List.take_of_length_le (by omega), List.take_of_length_le h, show k + 1 - l.length = (k - l.length) + 1 by omega, List.replicate_succ', List.append_assoc]

/-- What the next bytes are, where the reader is then, and whether something was not there. -/
def rdBytes (b : List UInt8) (at_ : Nat) (bad : Bool) (n : Int) : List UInt8 × Nat × Bool :=
  if bad then ([], at_, true) else if n < 0 then ([], at_, false) else if (b.length : Int) - at_ < n then ([], at_, true) else ((b.drop at_).take n.toNat, at_ + n.toNat, false)
def BytesRes (w : World) (p : Nat) (A : Option Addr) (c : Nat) (b : List UInt8) (r : List UInt8 × Nat × Bool) (e : Ending) (w' : World) : Prop :=
  ∃ u, e = .returned u ∧ Rep.byte.list.val (fun x => w.heap.size ≤ x) w' u r.1 ∧ RdrAt w' p A c b r.2.1 r.2.2 ∧ w.grownBy w' (some p)
theorem grownBy_below {w w' : World} (h : Below w.heap.size w w') (row : Option Nat) : w.grownBy w' row := ⟨h.os, h.tape, h.output, h.size, fun k hk _ => h.block k hk⟩

set_option maxRecDepth 100000 in
set_option maxHeartbeats 1000000 in
/-- (*le.Reader).Bytes -/
theorem rdbytes_calls {w : World} {p : Nat} {A : Option Addr} {c : Nat} {b : List UInt8} {at_ : Nat} {bad : Bool} {n : Int} (h : RdrAt w p A c b at_ bad) (hb : b.length ≤ 1000000000) :
    Calls Try.prog 134 #[.pointer (some ⟨p, 0, none⟩), .int .i64 n] w (BytesRes w p A c b (rdBytes b at_ bad n)) := by
  have H := Lib.hid h
  have HBL := Lib.hid hb
  have hle := h.le
  have c0 := h.c0
  have c1 := h.c1
  have c2 := h.c2
  have z1 := h.z 1
  have z2 := h.z 2
  have HZ := Lib.hid (show ∀ w' : World, Rep.byte.list.val (fun x => w.heap.size ≤ x) w' (.slice none 0 0) ([] : List UInt8) from fun w => Rep.val_nil (by simp [maxLen]))
  clear h
  cases bad with
  | true =>
    have R := Lib.hid (show rdBytes b at_ true n = ([], at_, true) from rfl)
    go_enter Try.func134, Try.ntmps134
    go_wp2_with (go_at_call 135; refine (ok_calls H.out).mono ?_; rintro e w' ⟨rfl, rfl⟩)
    go_ret
    rw [R.out]
    exact ⟨_, rfl, HZ.out _, H.out, World.grownBy.refl _ _⟩
  | false =>
    by_cases hn : n < 0
    · have R := Lib.hid (show rdBytes b at_ false n = ([], at_, false) by unfold rdBytes; rw [if_pos hn]; rfl)
      go_enter Try.func134, Try.ntmps134
      go_wp2_with (go_at_call 135; refine (ok_calls H.out).mono ?_; rintro e w' ⟨rfl, rfl⟩)
      go_ret
      rw [R.out]
      exact ⟨_, rfl, HZ.out _, H.out, World.grownBy.refl _ _⟩
    · by_cases hlo : (b.length : Int) - at_ < n
      · have R := Lib.hid (show rdBytes b at_ false n = ([], at_, true) by unfold rdBytes; rw [if_neg hn, if_pos hlo]; rfl)
        go_enter Try.func134, Try.ntmps134
        go_wp2_with (first
          | (go_at_call 135; refine (ok_calls H.out).mono ?_; rintro e w' ⟨rfl, rfl⟩)
          | (go_at_call 147; refine (left_calls H.out HBL.out).mono ?_; rintro e w' ⟨rfl, nq, rfl⟩))
        go_ret
        rw [R.out]
        have hg := grownBy_drewN w' nq (some p)
        have h1 : RdrAt (w'.drewN nq) p A c b at_ false := H.out.drewN nq
        generalize w'.drewN nq = W at *
        exact ⟨_, rfl, HZ.out _, setBad h1, hg.trans (grownBy_setCell _ _ _)⟩
      · obtain ⟨m, rfl⟩ : ∃ m : Nat, n = m := ⟨n.toNat, by omega⟩
        have R := Lib.hid (show rdBytes b at_ false m = ((b.drop at_).take m, at_ + m, false) by unfold rdBytes; rw [if_neg hn, if_neg hlo]; rfl)
        go_enter Try.func134, Try.ntmps134
        go_wp2_with (first
          | (go_at_call 135; refine (ok_calls H.out).mono ?_; rintro e w' ⟨rfl, rfl⟩)
          | (go_at_call 147; refine (left_calls H.out HBL.out).mono ?_; rintro e w' ⟨rfl, nq, rfl⟩))
        have hd1 : RdrAt (w'.drewN nq) p A c b at_ false := H.out.drewN nq
        have hg := Lib.hid (grownBy_drewN w' nq (some p))
        have HSZ := Lib.hid (show (w'.drewN nq).heap.size = w'.heap.size from rfl)
        generalize w'.drewN nq = W at *
        have hm1 : (m : Int) ≤ (b.length : Int) - at_ := by omega
        have hs := hd1.sl
        have hs1 := hs.1
        have hs2 := hs.2.1
        unfold maxLen at hs2
        have hlt := hd1.lt
        have KS := Lib.hid (show ∀ W', Below W.heap.size W W' → RdrAt W' p A c b at_ false from fun W' hb => ⟨(hb.block p hlt).trans hd1.blk, hd1.sl.keep fun x hx _ => ⟨hx, hb.block x (by omega)⟩, hd1.le⟩)
        have hbl := HBL.out
        have g0 : (0 : Int) ≤ at_ + m := by omega
        have g1 : (at_ : Int) + m ≤ c := by omega
        have g2 : (at_ : Int) ≤ at_ + m := by omega
        have g3 : IntKind.i64.wrap ((at_ : Int) + m) = (at_ : Int) + m := IntWalk.i64_in _ ⟨by omega, by omega⟩
        clear hs2
        by_cases h0 : m = 0
        · subst h0
          have g5 : (at_ : Int) ≤ c := by omega
          have g6 : IntKind.i64.wrap (at_ : Int) = (at_ : Int) := IntWalk.i64_in _ ⟨by omega, by omega⟩
          clear g0 g1 g2 g3
          have HE := Lib.hid (show (b.drop at_).take 0 = [] by simp)
          have HVN := Lib.hid (show ∀ W', Rep.byte.list.val (fun _ => True) W' (.slice A 0 0) ([] : List UInt8) from fun W' => Rep.list_val rfl (Nat.le_refl _) (by simp [maxLen]) ⟨[], rfl, fun h => absurd h (by simp)⟩)
          go_region_held3 (fun W => W.cell? ⟨p, 0, none⟩ = some (.slice A b.length c) ∧ W.cell? ⟨p, 1, none⟩ = some (.int .i64 at_))
            (first
              | exact ⟨(KS.out _ (Below.refl _ _).drew).c0, (KS.out _ (Below.refl _ _).drew).c1⟩
              | exact ⟨(KS.out _ D1.out).c0, (KS.out _ D1.out).c1⟩)
            ((go_at_call 97; refine (sliceClone (HVN.out W.drew) (by simp)).mono ?_; rintro e w1 ⟨u1, rfl, hu1, hb1⟩; have D1 := Lib.hid ((Below.refl W.heap.size W).drew.trans hb1); have HU1 := Lib.hid (Rep.acc_fresh hu1); clear hu1 hb1))
          have q0 := (KS.out _ D1.out).c0
          have q1 := (KS.out _ D1.out).c1
          have y1 := (KS.out _ D1.out).z 1
          go_wp2_with fail
          go_ret
          rw [R.out, HE.out]
          have hk := Lib.hid (setAt (at2 := at_ + 0) (KS.out _ D1.out) (by omega))
          exact ⟨_, rfl, Rep.val_keep (fun x hx _ => ⟨by have := HSZ.out; have hx' : W.heap.size ≤ x := hx; omega, Below.heap_setCell _ _ _ _ (by have hx' : W.heap.size ≤ x := hx; show x ≠ p; omega)⟩) HU1.out, hk.out, hg.out.trans ((grownBy_below D1.out (some p)).trans (grownBy_setCell _ _ _))⟩
        · obtain ⟨bb, off, hA⟩ := Rep.At.addr hs.2.2 (by omega)
          subst hA
          have hm0 : ¬ ((at_ : Int) + m).toNat = at_ := by omega
          have g4 : ((at_ : Int) + m).toNat - at_ = m := by omega
          have HVN := Lib.hid (show ∀ W', Below W.heap.size W W' → Rep.byte.list.val (fun x => x < p) W' (.slice (some ⟨bb, off + at_, none⟩) m m) ((b.drop at_).take m) from fun W' hb =>
            Rep.list_val (by rw [List.length_take, List.length_drop]; omega) (Nat.le_refl _) (by unfold maxLen; omega) (Rep.At.take (by have := Rep.At.drop ((KS.out W' hb).sl.2.2) (n := at_) hle; simpa [Rep.byte] using this) m))
          have HLN := Lib.hid (show ((b.drop at_).take m).length ≤ 100000000000000 by rw [List.length_take]; omega)
          generalize (b.drop at_).take m = X at *
          go_region_held3 (fun W => W.cell? ⟨p, 0, none⟩ = some (.slice (some ⟨bb, off, none⟩) b.length c) ∧ W.cell? ⟨p, 1, none⟩ = some (.int .i64 at_))
            (first
              | exact ⟨(KS.out _ (Below.refl _ _).drew).c0, (KS.out _ (Below.refl _ _).drew).c1⟩
              | exact ⟨(KS.out _ D1.out).c0, (KS.out _ D1.out).c1⟩)
            ((go_at_call 97; refine (sliceClone (HVN.out _ (Below.refl _ _).drew) HLN.out).mono ?_; rintro e w1 ⟨u1, rfl, hu1, hb1⟩; have D1 := Lib.hid ((Below.refl W.heap.size W).drew.trans hb1); have HU1 := Lib.hid (Rep.acc_fresh hu1); clear hu1 hb1))
          have q0 := (KS.out _ D1.out).c0
          have q1 := (KS.out _ D1.out).c1
          have y1 := (KS.out _ D1.out).z 1
          go_wp2_with fail
          go_ret
          rw [R.out]
          have hk := Lib.hid (setAt (at2 := at_ + m) (KS.out _ D1.out) (by omega))
          exact ⟨_, rfl, Rep.val_keep (fun x hx _ => ⟨by have := HSZ.out; have hx' : W.heap.size ≤ x := hx; omega, Below.heap_setCell _ _ _ _ (by have hx' : W.heap.size ≤ x := hx; show x ≠ p; omega)⟩) HU1.out, hk.out, hg.out.trans ((grownBy_below D1.out (some p)).trans (grownBy_setCell _ _ _))⟩
end Go.Proofs.Yteljibjbndpncaa
/- Walk of the reference's directory as0 bytes. -/
namespace Go.Proofs.Yteljibjbndpncaa
open Go.RowKit

end Go.Proofs.Yteljibjbndpncaa
/- Walks of the references' comparisons of lists and tables. -/
namespace Go.Proofs.Yteljibjbndpncaa
open Go.RowKit

set_option maxHeartbeats 400000 in
theorem sameList {Q Q' : Nat → Prop} {w : World} {v u : Value} {xs ys : List Int} (hx : (Rep.int .i64).list.val Q w v xs) (hy : (Rep.int .i64).list.val Q' w u ys) :
    Calls Try.prog 17 #[v, u] w fun e w' => e = .returned (.bool (decide (xs = ys))) ∧ ∃ n, w' = w.drewN n := by
  obtain ⟨A, c, rfl, hc1, hc2, hA⟩ := Rep.val_list hx
  obtain ⟨B, d, rfl, hd1, hd2, hB⟩ := Rep.val_list hy
  clear hx hy
  unfold maxLen at hc2 hd2
  by_cases hlen : xs.length = ys.length
  · have hne : ((xs.length : Int) != (ys.length : Int)) = false := by simp [hlen]
    have H := Lib.hid hlen
    clear hlen
    go_enter Try.func17, Try.ntmps17
    go_wp2_with fail
    go_loopw [5] (fun i wr => ∃ k : Nat, i = .int .i64 k ∧ k ≤ xs.length ∧ xs.take k = ys.take k ∧ ∃ n, w.drewN n = wr) (fun i _ => xs.length - (intOf i).toNat)
    case atStart => exact ⟨0, rfl, Nat.zero_le _, by simp, 0, rfl⟩
    case round =>
      obtain ⟨k, rfl, hk, htk, n, rfl⟩ := hrel
      by_cases hlt : k < xs.length
      · obtain ⟨b, off, rfl, cx, wx⟩ := hA.int (List.getElem?_eq_getElem hlt)
        have hlt' : k < ys.length := by rw [← H.out]; exact hlt
        obtain ⟨b', off', rfl, cy, wy⟩ := hB.int (List.getElem?_eq_getElem hlt')
        have T := Lib.hid htk
        clear htk
        have i1 : (k : Int) < (xs.length : Int) := by omega
        have i2 : (k : Int) < (ys.length : Int) := by omega
        generalize hX : xs[k] = x at *
        generalize hY : ys[k] = y at *
        have HX := Lib.hid hX
        have HY := Lib.hid hY
        clear hX hY
        by_cases hxy : x = y
        · have g1 : (x != y) = false := by simp [hxy]
          have HXY := Lib.hid hxy
          clear hxy
          go_wp2_with fail
          go_quiet (fail)
          go_wp2_with fail
          go_roundw
          case rel => exact ⟨k + 1, by go_num, by omega, by rw [List.take_succ_eq_append_getElem hlt, List.take_succ_eq_append_getElem hlt', T.out, HX.out, HY.out, HXY.out], _, rfl⟩
          case measure => simp [intOf]; omega
        · have g1 : (x != y) = true := by simp [hxy]
          have HXY := Lib.hid hxy
          clear hxy
          go_wp2_with fail
          go_quiet (fail)
          go_wp2_with fail
          go_ret
          refine ⟨?_, by rw [World.drewN_drewN]; exact ⟨_, rfl⟩⟩
          have : ¬ xs = ys := by rintro rfl; exact HXY.out (HX.out.symm.trans HY.out)
          simp [this]
      · have hk' : k = xs.length := by omega
        have hall : xs = ys := by rw [← List.take_length (l := xs), ← hk', htk, hk', H.out, List.take_length]
        have HA := Lib.hid hall
        have HK := Lib.hid hk'
        clear hall hk' htk
        have i1 : ¬ (k : Int) < (xs.length : Int) := by omega
        go_wp2_with fail
        go_ret
        exact ⟨by simp [HA.out], _, rfl⟩
  · have hne : ((xs.length : Int) != (ys.length : Int)) = true := by simp; omega
    have H := Lib.hid hlen
    clear hlen
    go_enter Try.func17, Try.ntmps17
    go_wp2_with fail
    go_ret
    refine ⟨?_, 0, rfl⟩
    have : ¬ xs = ys := by rintro rfl; exact H.out rfl
    simp [this]
end Go.Proofs.Yteljibjbndpncaa
/- Walk of the entries of flows. -/
namespace Go.Proofs.Yteljibjbndpncaa
open Go.RowKit

theorem info3 : (Try.prog.info? 3).map (fun i => (i.zero, i.size, i.bytes)) = some (some (.int .i64 0), 1, 8) := by kernel_rfl
/-- slices.Clone of numbers -/
theorem intClone {Q : Nat → Prop} {w : World} {v : Value} {l : List Int} (hx : (Rep.int .i64).list.val Q w v l) (hl : l.length ≤ 1000000000000) :
    Calls Try.prog 192 #[v] w (ResA (Rep.int .i64) 3 w l) := by
  obtain ⟨A, c, rfl, hc1, hc2, hA⟩ := Rep.val_list hx
  unfold maxLen at hc2
  cases A with
  | none =>
    have hnil : l = [] := by
      rcases Nat.eq_zero_or_pos l.length with h | h
      · exact List.eq_nil_of_length_eq_zero h
      · obtain ⟨b, off, h⟩ := hA.addr h; cases h
    subst hnil
    have he := fun w => Lib.run_eql_slice_nil (P := Try.prog) w 27 3 none 0 c 0 0 Try.underlying27
    go_enter Try.func192, Try.ntmps192
    go_wp2_with fail
    go_ret
    exact ⟨_, rfl, Rep.acc_nil, Below.refl _ _⟩
  | some a =>
    have he := fun w => Lib.run_eql_slice_nil (P := Try.prog) w 27 3 (some a) l.length c 0 0 Try.underlying27
    have HX := Lib.hid (show (Rep.int .i64).list.val (fun b => b < w.heap.size) (w.alloc (.cells #[] 3)) (.slice (some a) l.length c) l from Rep.val_keep (w := w) (fun b _ hl => ⟨hl.lt, Below.heap_alloc _ _ _ hl.lt⟩) hx)
    have HA := Lib.hid (show (Rep.int .i64).acc 3 w.heap.size (fun _ => False) (w.alloc (.cells #[] 3)) (.slice (some ⟨w.heap.size, 0, none⟩) 0 0) [] from Rep.acc_made w #[] 0 (Nat.le_refl _) (by simp [maxLen]) (by simp))
    have HB1 := Lib.hid (show ([] : List Int).length + l.length ≤ maxLen from by simp [maxLen]; omega)
    have HB2 := Lib.hid (show (([] : List Int).length + l.length) * 8 ≤ 140737488355328 from by simp; omega)
    have HB3 := Lib.hid (show w.heap.size ≤ (w.alloc (.cells #[] 3)).heap.size from by simp)
    clear hx hA
    go_enter Try.func192, Try.ntmps192
    go_wp2_with (refine wpList_spread_leaf (e := 3) (base := w.heap.size) (Q := fun _ => False) (Rep.leaf_int .i64) rfl _ _ 27 rfl (.int .i64 0) 1 8 Try.underlying27 info3 rfl (by decide) rfl _ [] (by exact rfl) HA.out _ l (by exact rfl) HX.out HB1.out HB2.out HB3.out ?_; intro v' w' hacc' hgr hat)
    go_ret
    exact ⟨_, rfl, by simpa using hacc', Rep.acc_below HA.out ((Below.refl _ w).alloc (Nat.le_refl _) _) hgr HB3.out⟩

/-- 'append(s, x)' as0 a step of a region that draws its order, the element in a block just made. -/
theorem step_snoc {α : Type} {r : Rep α} {e base : Nat} {Q : Nat → Prop} {P : Program} {w : World} {ops : Array Oper} {o : Oper} {a : Act} {K : Act → World → Prop} {R : Exit → Act → World → Prop} {E : Prop} (hg : o.guard = none) (s x : Operand) (t : TypeId)
    (ho : o.op = .call { callee := .builtin .append, args := #[s, x], argTypes := #[t, t] })
    (z : Value) (size bytes : Nat) (ht : P.underlying t = some (.slice e)) (hi : (P.info? e).map (fun i => (i.zero, i.size, i.bytes)) = some (some z, size, bytes)) (hzs : z.cells.size = size) (hsz : 0 < size)
    (hr : r.size = size) (v : Value) (xs : List α) (hs : a.eval s = v) (h : r.acc e base Q w v xs) (y : α) (vy : Value) (hy : r.val (fun b => Q b ∧ v.ownBlock ≠ some b) w vy y) (hx : a.eval x = .slice (some ⟨w.heap.size, 0, none⟩) 1 1)
    (h63 : xs.length + 1 ≤ maxLen) (hbytes : (xs.length + 1) * bytes ≤ 140737488355328) (hbase : base ≤ w.heap.size)
    (H : ∀ v' w', r.acc e base Q w' v' (xs ++ [y]) → w.grownBy w' v.ownBlock → K (a.put o.dst v') w') :
    if Region.wanted o (yielded ops a.tmps) = true then Oper.wp P o a (w.alloc (.cells vy.cells e)) K R else E := by
  have hw : Region.wanted o (yielded ops a.tmps) = true := by simp [Region.wanted, hg]
  rw [if_pos hw]
  obtain ⟨cs, hv, hrd⟩ := hy
  have hcells : vy.cells.toList = cs := by rw [hv]; exact r.back hrd
  have hkeep : ∀ b, b < w.heap.size → (w.alloc (.cells vy.cells e)).heap[b]? = w.heap[b]? := fun b hb => Below.heap_alloc _ _ _ hb
  have hacc' : r.acc e base Q (w.alloc (.cells vy.cells e)) v xs := Rep.acc_keep (fun b _ hl => hkeep b hl.lt) (fun _ hb _ => hb) h
  have hbn : (w.alloc (.cells vy.cells e)).heap[w.heap.size]? = some (.cells vy.cells e) := heap_alloc_new w _
  obtain ⟨v', w', q1, q2, q3, q4⟩ := Rep.acc_more (P := P) (w := w.alloc (.cells vy.cells e)) (ty := o.type) (ys := [y]) (A := some ⟨w.heap.size, 0, none⟩) (m := 1) (c := 1) (es := cs)
    ht hi hzs hsz hr hacc' rfl
    (Rep.row_one_elem (r.keep (fun b hb hl => ⟨hb, hkeep b hl.lt⟩) hrd)) (fun _ => ⟨w.heap.size, 0, rfl, fun j u hj => by
      rw [cell_of_row _ _ _ _ _ _ hbn, Nat.zero_add, ← hj, ← hcells]; simp⟩)
    (by simpa using h63) (by simpa using hbytes) (by simp; omega)
  unfold Oper.wp execOp
  simp only [ho, resolve, invoke, builtin, Sem.run_bind, Sem.run_pure, Result.andThen_ok, List.map_toArray, List.map_cons, List.map_nil, hs, hx, q1]
  exact H v' w' q2 ((World.grownBy_alloc w _ _).trans q3)

def entryOf (f : DFlow) : DEntry := ⟨f.key, f.data.length, f.pages⟩

end Go.Proofs.Yteljibjbndpncaa
/- Walk of the reference's directory out of bytes. -/
namespace Go.Proofs.Yteljibjbndpncaa
open Go.RowKit

/-- A call that returns a value that reads as0 x, and a number. -/
def ResN {α : Type} (r : Rep α) (Q : Nat → Prop) (w : World) (x : α) (n : Int) (e : Ending) (w' : World) : Prop := ∃ u, e = .returned (.tuple #[u, .int .i64 n]) ∧ r.val Q w' u x ∧ Below w.heap.size w w'

theorem u64_i64of (n : Nat) (h : n < 18446744073709551616) : IntKind.u64.wrap (i64of n) = n := by rw [wrap_u64, i64of_emod n h]
theorem natAt8_lt (b : List UInt8) (at_ : Nat) : natAt b at_ 8 < 18446744073709551616 := natAt_lt b at_ 8
theorem natAt_wf (b : List UInt8) (at_ w : Nat) (h : w ≤ 7) : (Lit.int .i64 (natAt b at_ w : Int)).wf = true := by rw [← i64of_natAt b at_ w h]; exact i64of_wf _
theorem u64_wf (n : Nat) (h : n < 18446744073709551616) : (Lit.int .u64 (n : Int)).wf = true := by
  simp [Lit.wf, IntKind.min, IntKind.max, IntKind.signed, IntKind.bits]; omega
theorem entAt_wf (b : List UInt8) (at_ : Nat) : (Lit.int .i64 (entAt b at_).key.kind).wf = true ∧ (Lit.int .u64 (entAt b at_).key.sig).wf = true ∧ (Lit.int .i64 (entAt b at_).key.comp).wf = true ∧ (Lit.int .i64 (entAt b at_).long).wf = true :=
  ⟨natAt_wf _ _ _ (by decide), u64_wf _ (natAt8_lt _ _), natAt_wf _ _ _ (by decide), natAt_wf _ _ _ (by decide)⟩

theorem cell_row {w : World} {b e : Nat} {cs : Array Value} {f : Nat × Nat} (h : w.heap[b]? = some (.cells cs e f)) (i : Nat) : w.cell? ⟨b, i, none⟩ = cs[i]? := by simp [World.cell?, h]
theorem frozen_row {w : World} {b e : Nat} {cs : Array Value} (h : w.heap[b]? = some (.cells cs e (0, 0))) (i : Nat) : w.frozen? ⟨b, i, none⟩ = false := by simp [World.frozen?, h]
theorem dirGet_short {b : List UInt8} (h : b.length < 2) : dirGet b = ([], 12) := by rw [dirGet, if_pos h]
theorem dirGet_none {b : List UInt8} (h : ¬ b.length < 2) (hp : parseDir b (natAt b 0 2) = none) : dirGet b = ([], 12) := by rw [dirGet, if_neg h, hp]
theorem dirGet_form {b : List UInt8} {l : List DEntry} {e : Nat} (h : ¬ b.length < 2) (hp : parseDir b (natAt b 0 2) = some (l, e)) (he : e ≠ b.length) : dirGet b = ([], 11) := by
  rw [dirGet, if_neg h, hp]; simp only [if_neg he]
theorem dirGet_ok {b : List UInt8} {l : List DEntry} {e : Nat} (h : ¬ b.length < 2) (hp : parseDir b (natAt b 0 2) = some (l, e)) (he : e = b.length) : dirGet b = (l, 0) := by
  rw [dirGet, if_neg h, hp]; simp only [if_pos he]
theorem parse_fail {b : List UInt8} {i N at_ : Nat} {l : List DEntry} (hi : i < N) (h : parseDir b i = some (l, at_)) (h2 : parseEnt b at_ = none) : parseDir b N = none := by
  refine parseDir_none (n := i + 1) ?_ N hi
  rw [parseDir, h]; simp only [h2]
theorem parse_step {b : List UInt8} {i at_ : Nat} {l : List DEntry} (h : parseDir b i = some (l, at_)) (h1 : at_ + 16 ≤ b.length) (h2 : at_ + 16 + 2 * countAt b at_ ≤ b.length) : parseDir b (i + 1) = some (l ++ [entAt b at_], at_ + 16 + 2 * countAt b at_) := by
  rw [parseDir, h]; simp only [parseEnt, if_pos (And.intro h1 h2)]
theorem parseEnt_none {b : List UInt8} {at_ : Nat} (h : ¬ (at_ + 16 ≤ b.length ∧ at_ + 16 + 2 * countAt b at_ ≤ b.length)) : parseEnt b at_ = none := by rw [parseEnt, if_neg h]

end Go.Proofs.Yteljibjbndpncaa
