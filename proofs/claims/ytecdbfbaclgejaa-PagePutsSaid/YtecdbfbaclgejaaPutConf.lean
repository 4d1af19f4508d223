/- Walks of a layout as bytes. -/
import Derived.Test.YtecdbfbaclgejaaRRight
namespace Go.Proofs.Ytecdbfbaclgejaa
open Go.RowKit

/-- 'append(s, xs...)' of values without blocks of their own, as a step of a region that draws its order. -/
theorem step_spread_leaf {α : Type} {r : Rep α} {e base : Nat} {Q Q' : Nat → Prop} {P : Program} {w : World} {ops : Array Oper} {o : Oper} {a : Act} {K : Act → World → Prop} {R : Exit → Act → World → Prop} {E : Prop} (hleaf : r.Leaf) (hg : o.guard = none) (s x : Operand) (t : TypeId)
    (ho : o.op = .call { callee := .builtin .append, args := #[s, x], argTypes := #[t, t] })
    (z : Value) (size bytes : Nat) (ht : P.underlying t = some (.slice e)) (hi : (P.info? e).map (fun i => (i.zero, i.size, i.bytes)) = some (some z, size, bytes)) (hzs : z.cells.size = size) (hsz : 0 < size)
    (hr : r.size = size) (v : Value) (xs : List α) (hs : a.eval s = v) (h : r.acc e base Q w v xs) (u : Value) (ys : List α) (hx : a.eval x = u) (hy : r.list.val Q' w u ys)
    (h63 : xs.length + ys.length ≤ maxLen) (hbytes : (xs.length + ys.length) * bytes ≤ 140737488355328) (hbase : base ≤ w.heap.size)
    (H : ∀ v' w', r.acc e base Q w' v' (xs ++ ys) → w.grownBy w' v.ownBlock → (v'.ownBlock = v.ownBlock ∨ v'.ownBlock = some w.heap.size) → K (a.put o.dst v') w') :
    if Region.wanted o (yielded ops a.tmps) = true then Oper.wp P o a w K R else E := by
  have hw : Region.wanted o (yielded ops a.tmps) = true := by simp [Region.wanted, hg]
  rw [if_pos hw]
  obtain ⟨A, c, rfl, h1, h2, es, h3, h4⟩ := Rep.val_list hy
  obtain ⟨v', w', q1, q2, q3, q4⟩ := Rep.acc_more (P := P) (ty := o.type) (c := c) ht hi hzs hsz hr h rfl (Rep.row_leaf hleaf h3)
    (fun hn => by obtain ⟨b, off, q1, _, _, q2⟩ := h4 hn; exact ⟨b, off, q1, q2⟩) h63 hbytes hbase
  unfold Oper.wp execOp
  simp only [ho, resolve, invoke, builtin, Sem.run_bind, Sem.run_pure, Result.andThen_ok, List.map_toArray, List.map_cons, List.map_nil, hs, hx, q1]
  exact H v' w' q2 q3 q4

def compBytes (x : DComp) : List UInt8 := textBytes x.name ++ num 1 x.size
def headOf (c : DConf) : List Int := [c.log, c.pages, c.entities, c.gens]
def headBytes (c : DConf) : List UInt8 := ((headOf c).map (num 4)).flatten ++ num 1 c.comps.length
def confBytes (c : DConf) : List UInt8 := headBytes c ++ (c.comps.map compBytes).flatten

theorem textBytes_length (s : List UInt8) : (textBytes s).length ≤ 65543 := by
  have := num_length 2 (s.take 65535).length
  simp only [textBytes, List.length_append, List.length_take] at *
  omega
theorem compBytes_length (x : DComp) : (compBytes x).length ≤ 65551 := by
  have h1 := textBytes_length x.name
  have h2 := num_length 1 x.size
  simp only [compBytes, List.length_append]; omega
theorem flatten_le {α : Type} (f : α → List UInt8) (n : Nat) (h : ∀ x, (f x).length ≤ n) : ∀ l : List α, ((l.map f).flatten).length ≤ n * l.length
  | [] => by simp
  | x :: l => by
    have := flatten_le f n h l
    have := h x
    simp only [List.map_cons, List.flatten_cons, List.length_append, List.length_cons, Nat.mul_succ]; omega
theorem take_flatten_succ {α : Type} (f : α → List UInt8) {l : List α} {k : Nat} (hk : k < l.length) : ((l.take (k + 1)).map f).flatten = ((l.take k).map f).flatten ++ f l[k] := by
  rw [List.take_succ_eq_append_getElem hk, List.map_append, List.flatten_append]; simp

theorem wf4 : (Lit.int .i64 4).wf = true := rfl
theorem wf1 : (Lit.int .i64 1).wf = true := rfl

set_option maxRecDepth 100000 in
set_option maxHeartbeats 1000000 in
/-- comp.Put -/
theorem cput_calls {Q : Nat → Prop} {w : World} {v : Value} {c : DConf} (hx : rConf.val Q w v c) (hn : c.comps.length ≤ 1000) :
    Calls Try.prog 177 #[v] w (Res Rep.byte.list (fun b => w.heap.size ≤ b) w (confBytes c)) := by
  obtain ⟨A, cap, rfl, f0, f1, f2, f3, hc1, hc2, hA⟩ := rConf_val hx
  unfold maxLen at hc2
  obtain ⟨W1, hW1⟩ : ∃ W1, w.alloc (.cells #[.int .i64 c.log, .int .i64 c.pages, .int .i64 c.entities, .int .i64 c.gens, .slice A c.comps.length cap] 88) = W1 := ⟨_, rfl⟩
  have hbel : Below w.heap.size w W1 := by rw [← hW1]; exact (Below.refl _ _).alloc (Nat.le_refl _) _
  have hsz : W1.heap.size = w.heap.size + 1 := by rw [← hW1]; simp
  have e0 : W1.cell? ⟨w.heap.size, 0, none⟩ = some (.int .i64 c.log) := by rw [← hW1]; simp
  have e1 : W1.cell? ⟨w.heap.size, 1, none⟩ = some (.int .i64 c.pages) := by rw [← hW1]; simp
  have e2 : W1.cell? ⟨w.heap.size, 2, none⟩ = some (.int .i64 c.entities) := by rw [← hW1]; simp
  have e3 : W1.cell? ⟨w.heap.size, 3, none⟩ = some (.int .i64 c.gens) := by rw [← hW1]; simp
  have e4 : W1.cell? ⟨w.heap.size, 4, none⟩ = some (.slice A c.comps.length cap) := by rw [← hW1]; simp
  have HX := Lib.hid hA
  clear hx hA
  go_enter Try.func177, Try.ntmps177
  go_wp2_with fail
  try rw [hW1]
  clear hW1
  go_wp2_with fail
  obtain ⟨W2, hW2⟩ : ∃ W2, W1.alloc (.cells #[.int .i64 c.log, .int .i64 c.pages, .int .i64 c.entities, .int .i64 c.gens] 3) = W2 := ⟨_, rfl⟩
  have hbel2 : Below (w.heap.size + 1) W1 W2 := by rw [← hW2]; exact (Below.refl _ _).alloc (by omega) _
  have hsz2 : W2.heap.size = w.heap.size + 2 := by rw [← hW2]; simp [hsz]
  have hhead : ∀ (k : Nat) (hk : k < 4), W2.cell? ⟨w.heap.size + 1, k, none⟩ = some (.int .i64 ((headOf c)[k]'hk)) := by
    intro k hk
    rw [← hW2, ← hsz]
    rcases (by omega : k = 0 ∨ k = 1 ∨ k = 2 ∨ k = 3) with rfl | rfl | rfl | rfl <;> simp [headOf]
  have hwf : ∀ (k : Nat) (hk : k < 4), (Lit.int .i64 ((headOf c)[k]'hk)).wf = true := by
    intro k hk
    rcases (by omega : k = 0 ∨ k = 1 ∨ k = 2 ∨ k = 3) with rfl | rfl | rfl | rfl <;> assumption
  rw [hW2]
  have HH := Lib.hid hhead
  have HWF := Lib.hid hwf
  have E4 := (hbel2.cell (p := ⟨w.heap.size, 4, none⟩) (Nat.lt_succ_self _)).trans e4
  have B0 := Lib.hid (hbel.trans (hbel2.mono (by omega)))
  clear hW2 hhead hwf e0 e1 e2 e3 e4 hbel hbel2 hsz
  go_loopw [3, 18] (fun s i wr => ∃ k : Nat, i = .int .i64 k ∧ k ≤ 4 ∧ Rep.byte.list.val (fun b => w.heap.size ≤ b) wr s (((headOf c).take k).map (num 4)).flatten ∧ Below (w.heap.size + 2) W2 wr)
    (fun _ i _ => 4 - (intOf i).toNat)
  case atStart => exact ⟨0, rfl, by omega, Rep.val_nil (by simp [maxLen]), Below.refl _ _⟩
  case round =>
    obtain ⟨k, rfl, hk, hv, hb1⟩ := hrel
    have HB1 := Lib.hid hb1
    by_cases hlt : (k : Int) < 4
    · have hk' : k < 4 := by omega
      have hc := (hb1.cell (p := ⟨w.heap.size + 1, k, none⟩) (show w.heap.size + 1 < w.heap.size + 2 by omega)).trans (HH.out k hk')
      have hw := HWF.out k hk'
      have T := Lib.hid (take_flatten_succ (num 4) (l := headOf c) hk')
      have L := Lib.hid (show ((((headOf c).take k).map (num 4)).flatten).length ≤ 1000000000 by
        have := flatten_le (num 4) 8 (num_length 4) ((headOf c).take k); simp only [List.length_take] at this; omega)
      generalize (headOf c)[k]'hk' = n at hc hw T
      generalize (((headOf c).take k).map (num 4)).flatten = l at hv T L
      have HV := Lib.hid hv
      obtain ⟨A2, c2, rfl, _, _, _⟩ := Rep.val_list hv
      clear hv hb1
      go_wp2_with (go_at_call 116; refine (put_calls (width := 4) HV.out L.out wf4 hw).mono ?_; rintro e w' ⟨u, rfl, hu, hb⟩)
      exact ⟨⟨k + 1, by go_num, by omega, by rw [T.out]; exact Rep.val_mono (fun b hb' _ => Nat.le_trans (by have := B0.out.size; have := HB1.out.size; omega) hb') (Rep.acc_fresh hu), HB1.out.trans (hb.mono (by have := HB1.out.size; omega))⟩, by simp [intOf]; omega⟩
    · obtain rfl : k = 4 := by omega
      have L := Lib.hid (show ((((headOf c).take 4).map (num 4)).flatten).length ≤ 1000000000 by
        have := flatten_le (num 4) 8 (num_length 4) ((headOf c).take 4); simp only [List.length_take] at this; omega)
      have T := Lib.hid (show headBytes c = (((headOf c).take 4).map (num 4)).flatten ++ num 1 c.comps.length from rfl)
      generalize (((headOf c).take 4).map (num 4)).flatten = l at hv T L
      have HV := Lib.hid hv
      obtain ⟨A2, c2, rfl, _, _, _⟩ := Rep.val_list hv
      have E4' := (hb1.cell (p := ⟨w.heap.size, 4, none⟩) (show w.heap.size < w.heap.size + 2 by omega)).trans E4
      have hwn := wf_i64 (n := (c.comps.length : Int)) (by omega) (by omega)
      clear hv hb1
      go_wp2_with (go_at_call 116; refine (put_calls (width := 1) HV.out L.out wf1 hwn).mono ?_; rintro e w' ⟨u, rfl, hu, hb⟩; have E5 := (hb.cell (p := ⟨w.heap.size, 4, none⟩) (show w.heap.size < wr.heap.size by have := HB1.out.size; omega)).trans E4')
      rw [← T.out] at hu
      have B4 := Lib.hid ((B0.out.trans (HB1.out.mono (by omega))).trans (hb.mono (by have := HB1.out.size; omega)))
      have hu0 : Rep.byte.list.val (fun b => w.heap.size ≤ b) w' u (headBytes c) := Rep.val_mono (fun b hb' _ => Nat.le_trans (by have := B0.out.size; have := HB1.out.size; omega) hb') (Rep.acc_fresh hu)
      clear hu hb E5 E4' E4 HV T L HB1 HH HWF hsz2
      rename World => W4
      go_loopw [3, 34] (fun s i wr => ∃ k : Nat, i = .int .i64 k ∧ k ≤ c.comps.length ∧ Rep.byte.list.val (fun b => w.heap.size ≤ b) wr s (headBytes c ++ ((c.comps.take k).map compBytes).flatten) ∧ Below w.heap.size w wr)
        (fun _ i _ => c.comps.length - (intOf i).toNat)
      case atStart => exact ⟨0, rfl, by omega, by simpa using hu0, B4.out⟩
      case round =>
        obtain ⟨k, rfl, hk, hv, hb1⟩ := hrel
        have HB1 := Lib.hid hb1
        by_cases hlt : (k : Int) < c.comps.length
        · have hk' : k < c.comps.length := by omega
          have hAw : rComp.At (fun b => b < w.heap.size) wr A c.comps := Rep.At.keep (w := w) (fun b _ hb => ⟨hb.lt, hb1.block b hb.lt⟩) HX.out
          obtain ⟨b, off, rfl, hbc, cx0, cx1, g0, g1⟩ := rComp_at hAw (List.getElem?_eq_getElem hk')
          have T := Lib.hid (show headBytes c ++ ((c.comps.take (k + 1)).map compBytes).flatten = (headBytes c ++ ((c.comps.take k).map compBytes).flatten) ++ textBytes c.comps[k].name ++ num 1 c.comps[k].size by
            rw [take_flatten_succ compBytes hk', compBytes]; simp only [List.append_assoc])
          have L := Lib.hid (show (headBytes c ++ ((c.comps.take k).map compBytes).flatten).length ≤ 100000000 by
            have h1 := flatten_le compBytes 65551 compBytes_length (c.comps.take k)
            have h2 := flatten_le (num 4) 8 (num_length 4) (headOf c)
            have h3 := num_length 1 c.comps.length
            have h4 : (headOf c).length = 4 := rfl
            simp only [headBytes, List.length_append, List.length_take] at *; omega)
          generalize c.comps[k] = x at *
          generalize headBytes c ++ ((c.comps.take k).map compBytes).flatten = l at hv T L
          have HV := Lib.hid hv
          have HL := Lib.hid (textBytes_length x.name)
          obtain ⟨A2, c2, rfl, _, _, _⟩ := Rep.val_list hv
          clear hv hb1 hAw
          go_wp2_with fail
          obtain ⟨W3, hW3⟩ : ∃ W3, wr.alloc (.cells #[.string ⟨x.name.toArray⟩, .int .i64 x.size] 167) = W3 := ⟨_, rfl⟩
          have d0 : W3.cell? ⟨wr.heap.size, 0, none⟩ = some (.string ⟨x.name.toArray⟩) := by rw [← hW3]; simp
          have d1 : W3.cell? ⟨wr.heap.size, 1, none⟩ = some (.int .i64 x.size) := by rw [← hW3]; simp
          have hb3 : Below wr.heap.size wr W3 := by rw [← hW3]; exact (Below.refl _ _).alloc (Nat.le_refl _) _
          have hs3 : W3.heap.size = wr.heap.size + 1 := by rw [← hW3]; simp
          rw [hW3]
          have KS := Lib.hid (show ∀ w', Below (wr.heap.size + 1) W3 w' → w'.cell? ⟨wr.heap.size, 0, none⟩ = some (.string ⟨x.name.toArray⟩) ∧ w'.cell? ⟨wr.heap.size, 1, none⟩ = some (.int .i64 x.size) ∧ Below (wr.heap.size + 1) W3 w' from
            fun w' h => ⟨(h.cell (p := ⟨wr.heap.size, 0, none⟩) (Nat.lt_succ_self _)).trans d0, (h.cell (p := ⟨wr.heap.size, 1, none⟩) (Nat.lt_succ_self _)).trans d1, h⟩)
          have HV3 := Lib.hid (show ∀ W, Below (wr.heap.size + 1) W3 W → Rep.byte.list.val (fun b => w.heap.size ≤ b) W (.slice A2 l.length c2) l from
            fun W h => Rep.val_below (B := wr.heap.size) HV.out (hb3.trans (h.mono (by omega))) (fun _ _ hb => hb.lt))
          have L2 := Lib.hid (show (l ++ textBytes x.name).length ≤ 1000000000 by have := L.out; have := HL.out; simp only [List.length_append]; omega)
          have B3 := Lib.hid hb3
          have HS3 := Lib.hid hs3
          clear hW3 hb3 hs3 d0 d1 cx0 cx1
          go_region_held3 (fun w' => w'.cell? ⟨wr.heap.size, 0, none⟩ = some (.string ⟨x.name.toArray⟩) ∧ w'.cell? ⟨wr.heap.size, 1, none⟩ = some (.int .i64 x.size) ∧ Below (wr.heap.size + 1) W3 w')
            (first
              | exact KS.out _ (Below.refl _ _).drew
              | exact KS.out _ (((Below.refl _ _).drew.trans (hb1.mono (Nat.le_of_eq HS3.out.symm))).trans (hb2.mono (Nat.le_trans (Nat.le_of_eq HS3.out.symm) hb1.size)))
              | exact KS.out _ ((Below.refl _ _).drew.trans (hb1.mono (Nat.le_of_eq HS3.out.symm))))
            (first
              | (go_at_call 215; refine (putText_calls (HV3.out _ (Below.refl _ _).drew) L.out g0).mono ?_; rintro e w1 ⟨u1, rfl, hu1, hb1⟩)
              | (go_at_call 116; refine (put_calls (width := 1) (Rep.acc_val hu1) L2.out wf1 g1).mono ?_; rintro e w2 ⟨u2, rfl, hu2, hb2⟩))
          rename_i hHeld
          have hB := Lib.hid ((HB1.out.trans (B3.out.mono HB1.out.size)).trans (hHeld.2.2.mono (by have := HB1.out.size; omega)))
          have hsz1 := Lib.hid (show w.heap.size ≤ w1.heap.size from Nat.le_trans HB1.out.size (Nat.le_trans B3.out.size hb1.size))
          clear hHeld
          go_wp2_with fail
          exact ⟨⟨k + 1, by go_num, by omega, by rw [T.out]; exact Rep.val_mono (fun b hb' _ => Nat.le_trans hsz1.out hb') (Rep.acc_fresh hu2), hB.out⟩, by simp [intOf]; omega⟩
        · obtain rfl : k = c.comps.length := by omega
          have T := Lib.hid (show confBytes c = headBytes c ++ ((c.comps.take c.comps.length).map compBytes).flatten by rw [List.take_length]; rfl)
          generalize headBytes c ++ ((c.comps.take c.comps.length).map compBytes).flatten = l at hv T
          have HV := Lib.hid hv
          clear hv hb1
          go_wp2_with fail
          go_ret
          exact ⟨_, rfl, by rw [T.out]; exact HV.out, HB1.out⟩
end Go.Proofs.Ytecdbfbaclgejaa
