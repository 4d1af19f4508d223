/- Walk of the entries of flows. -/
import Derived.Test.YtecdbfbaclgejaaRDirBytes
import Derived.Test.YtecdbfbaclgejaaSame
namespace Go.Proofs.Ytecdbfbaclgejaa
open Go.RowKit

theorem info3 : (Try.prog.info? 3).map (fun i => (i.zero, i.size, i.bytes)) = some (some (.int .i64 0), 1, 8) := by kernel_rfl
theorem infoEntry : (Try.prog.info? 83).map (fun i => (i.zero, i.size, i.bytes)) = some (some (.agg #[.int .i64 0, .int .u64 0, .int .i64 0, .int .i64 0, .slice none 0 0]), 5, 56) := by kernel_rfl

/-- slices.Clone of numbers -/
theorem intClone {Q : Nat → Prop} {w : World} {v : Value} {l : List Int} (hx : (Rep.int .i64).list.val Q w v l) (hl : l.length ≤ 1000000000000) :
    Calls Try.prog 120 #[v] w (ResA (Rep.int .i64) 3 w l) := by
  obtain ⟨A, c, rfl, hc1, hc2, hA⟩ := Rep.val_list hx
  unfold maxLen at hc2
  cases A with
  | none =>
    have hnil : l = [] := by
      rcases Nat.eq_zero_or_pos l.length with h | h
      · exact List.eq_nil_of_length_eq_zero h
      · obtain ⟨b, off, h⟩ := hA.addr h; cases h
    subst hnil
    have he := fun w => Lib.run_eql_slice_nil (P := Try.prog) w 30 3 none 0 c 0 0 Try.underlying30
    go_enter Try.func120, Try.ntmps120
    go_wp2_with fail
    go_ret
    exact ⟨_, rfl, Rep.acc_nil, Below.refl _ _⟩
  | some a =>
    have he := fun w => Lib.run_eql_slice_nil (P := Try.prog) w 30 3 (some a) l.length c 0 0 Try.underlying30
    have HX := Lib.hid (show (Rep.int .i64).list.val (fun b => b < w.heap.size) (w.alloc (.cells #[] 3)) (.slice (some a) l.length c) l from Rep.val_keep (w := w) (fun b _ hl => ⟨hl.lt, Below.heap_alloc _ _ _ hl.lt⟩) hx)
    have HA := Lib.hid (show (Rep.int .i64).acc 3 w.heap.size (fun _ => False) (w.alloc (.cells #[] 3)) (.slice (some ⟨w.heap.size, 0, none⟩) 0 0) [] from Rep.acc_made w #[] 0 (Nat.le_refl _) (by simp [maxLen]) (by simp))
    have HB1 := Lib.hid (show ([] : List Int).length + l.length ≤ maxLen from by simp [maxLen]; omega)
    have HB2 := Lib.hid (show (([] : List Int).length + l.length) * 8 ≤ 140737488355328 from by simp; omega)
    have HB3 := Lib.hid (show w.heap.size ≤ (w.alloc (.cells #[] 3)).heap.size from by simp)
    clear hx hA
    go_enter Try.func120, Try.ntmps120
    go_wp2_with (refine wpList_spread_leaf (e := 3) (base := w.heap.size) (Q := fun _ => False) (Rep.leaf_int .i64) rfl _ _ 30 rfl (.int .i64 0) 1 8 Try.underlying30 info3 rfl (by decide) rfl _ [] (by exact rfl) HA.out _ l (by exact rfl) HX.out HB1.out HB2.out HB3.out ?_; intro v' w' hacc' hgr hat)
    go_ret
    exact ⟨_, rfl, by simpa using hacc', Rep.acc_below HA.out ((Below.refl _ w).alloc (Nat.le_refl _) _) hgr HB3.out⟩

/-- 'append(s, x)' as a step of a region that draws its order, the element in a block just made. -/
theorem step_snoc {α : Type} {r : Rep α} {e base : Nat} {Q : Nat → Prop} {P : Program} {w : World} {ops : Array Oper} {o : Oper} {a : Act} {K : Act → World → Prop} {R : Exit → Act → World → Prop} {E : Prop} (hg : o.guard = none) (s x : Operand) (t : TypeId)
    (ho : o.op = .call { callee := .builtin .append, args := #[s, x], argTypes := #[t, t] })
    (z : Value) (size bytes : Nat) (ht : P.underlying t = some (.slice e)) (hi : (P.info? e).map (fun i => (i.zero, i.size, i.bytes)) = some (some z, size, bytes)) (hzs : z.cells.size = size) (hsz : 0 < size)
    (hr : r.size = size) (v : Value) (xs : List α) (hs : a.eval s = v) (h : r.acc e base Q w v xs) (y : α) (vy : Value) (hy : r.val (fun b => Q b ∧ v.ownBlock ≠ some b) w vy y) (hx : a.eval x = .slice (some ⟨w.heap.size, 0, none⟩) 1 1)
    (h63 : xs.length + 1 ≤ maxLen) (hbytes : (xs.length + 1) * bytes ≤ 140737488355328) (hbase : base ≤ w.heap.size)
    (H : ∀ v' w', r.acc e base Q w' v' (xs ++ [y]) → w.grownBy w' v.ownBlock → K (a.put o.dst v') w') :
    if Region.wanted o (yielded ops a.tmps) = true then Oper.wp P o a (w.alloc (.cells vy.cells e)) K R else E := by
  have hw : Region.wanted o (yielded ops a.tmps) = true := by simp [Region.wanted, hg]
  rw [if_pos hw]
  obtain ⟨cs, hv, hrd⟩ := hy
  have hcells : vy.cells.toList = cs := by rw [hv]; exact r.back hrd
  have hkeep : ∀ b, b < w.heap.size → (w.alloc (.cells vy.cells e)).heap[b]? = w.heap[b]? := fun b hb => Below.heap_alloc _ _ _ hb
  have hacc' : r.acc e base Q (w.alloc (.cells vy.cells e)) v xs := Rep.acc_keep (fun b _ hl => hkeep b hl.lt) (fun _ hb _ => hb) h
  have hbn : (w.alloc (.cells vy.cells e)).heap[w.heap.size]? = some (.cells vy.cells e) := heap_alloc_new w _
  obtain ⟨v', w', q1, q2, q3, q4⟩ := Rep.acc_more (P := P) (w := w.alloc (.cells vy.cells e)) (ty := o.type) (ys := [y]) (A := some ⟨w.heap.size, 0, none⟩) (m := 1) (c := 1) (es := cs)
    ht hi hzs hsz hr hacc' rfl
    (Rep.row_one_elem (r.keep (fun b hb hl => ⟨hb, hkeep b hl.lt⟩) hrd)) (fun _ => ⟨w.heap.size, 0, rfl, fun j u hj => by
      rw [cell_of_row _ _ _ _ _ _ hbn, Nat.zero_add, ← hj, ← hcells]; simp⟩)
    (by simpa using h63) (by simpa using hbytes) (by simp; omega)
  unfold Oper.wp execOp
  simp only [ho, resolve, invoke, builtin, Sem.run_bind, Sem.run_pure, Result.andThen_ok, List.map_toArray, List.map_cons, List.map_nil, hs, hx, q1]
  exact H v' w' q2 ((World.grownBy_alloc w _ _).trans q3)

def entryOf (f : DFlow) : DEntry := ⟨f.key, f.data.length, f.pages⟩

set_option maxRecDepth 100000 in
set_option maxHeartbeats 1000000 in
/-- dir.Entries -/
theorem entries_calls {Q : Nat → Prop} {w : World} {v : Value} {l : List DFlow} (hx : rFlow.list.val Q w v l) (hn : l.length ≤ 1000000) (hp : ∀ f ∈ l, f.pages.length ≤ 1000000 ∧ f.data.length ≤ 1000000) :
    Calls Try.prog 50 #[v] w (Res rEntry.list (fun b => w.heap.size ≤ b) w (l.map entryOf)) := by
  obtain ⟨A, c, rfl, hc1, hc2, hA⟩ := Rep.val_list hx
  unfold maxLen at hc2
  have HX := Lib.hid hA
  have HP := Lib.hid hp
  clear hx hA hp
  go_enter Try.func50, Try.ntmps50
  go_wp2_with fail
  go_loopw [3, 8] (fun s i wr => ∃ k : Nat, i = .int .i64 k ∧ k ≤ l.length ∧ rEntry.acc 83 w.heap.size (fun b => w.heap.size ≤ b) wr s ((l.take k).map entryOf) ∧ Below w.heap.size w wr)
    (fun _ i _ => l.length - (intOf i).toNat)
  case atStart => exact ⟨0, rfl, by omega, by simpa using Rep.acc_nil, Below.refl _ _⟩
  case round =>
    obtain ⟨k, rfl, hk, hv, hb1⟩ := hrel
    have HB1 := Lib.hid hb1
    by_cases hlt : (k : Int) < l.length
    · have hk' : k < l.length := by omega
      have hAw : rFlow.At (fun b => b < w.heap.size) wr A l := Rep.At.keep (w := w) (fun b _ hb => ⟨hb.lt, hb1.block b hb.lt⟩) HX.out
      obtain ⟨b, off, Ad, cd, Ap, cp, rfl, hbc, cx0, cx1, cx2, cx3, cx4, g0, g1, g2, hsd, hs⟩ := rFlow_at hAw (List.getElem?_eq_getElem hk')
      have T := Lib.hid (show (l.take (k + 1)).map entryOf = (l.take k).map entryOf ++ [entryOf l[k]] by
        rw [List.take_succ_eq_append_getElem hk', List.map_append]; rfl)
      obtain ⟨p1, p2⟩ := HP.out l[k] (List.getElem_mem hk')
      generalize l[k] = x at *
      have L := Lib.hid (show ((l.take k).map entryOf).length + 1 ≤ maxLen ∧ (((l.take k).map entryOf).length + 1) * 56 ≤ 140737488355328 by rw [List.length_map, List.length_take]; unfold maxLen; omega)
      generalize (l.take k).map entryOf = q at *
      have HS := Lib.hid hs
      have HV := Lib.hid hv
      obtain ⟨A2, c2, rfl, _, _⟩ := Rep.acc_form hv
      clear hv hb1 hAw hs hsd
      go_wp2_with fail
      obtain ⟨W3, hW3⟩ : ∃ W3, wr.alloc (.cells #[.int .i64 x.key.kind, .int .u64 x.key.sig, .int .i64 x.key.comp, .slice Ad x.data.length cd, .slice Ap x.pages.length cp] 71) = W3 := ⟨_, rfl⟩
      have d0 : W3.cell? ⟨wr.heap.size, 0, none⟩ = some (.int .i64 x.key.kind) := by rw [← hW3]; simp
      have d1 : W3.cell? ⟨wr.heap.size, 1, none⟩ = some (.int .u64 x.key.sig) := by rw [← hW3]; simp
      have d2 : W3.cell? ⟨wr.heap.size, 2, none⟩ = some (.int .i64 x.key.comp) := by rw [← hW3]; simp
      have d3 : W3.cell? ⟨wr.heap.size, 3, none⟩ = some (.slice Ad x.data.length cd) := by rw [← hW3]; simp
      have d4 : W3.cell? ⟨wr.heap.size, 4, none⟩ = some (.slice Ap x.pages.length cp) := by rw [← hW3]; simp
      have hb3 : Below wr.heap.size wr W3 := by rw [← hW3]; exact (Below.refl _ _).alloc (Nat.le_refl _) _
      have hs3 : W3.heap.size = wr.heap.size + 1 := by rw [← hW3]; simp
      rw [hW3]
      have KS := Lib.hid (show ∀ w', Below (wr.heap.size + 1) W3 w' → w'.cell? ⟨wr.heap.size, 0, none⟩ = some (.int .i64 x.key.kind) ∧ w'.cell? ⟨wr.heap.size, 1, none⟩ = some (.int .u64 x.key.sig) ∧ w'.cell? ⟨wr.heap.size, 2, none⟩ = some (.int .i64 x.key.comp) ∧ w'.cell? ⟨wr.heap.size, 3, none⟩ = some (.slice Ad x.data.length cd) ∧ w'.cell? ⟨wr.heap.size, 4, none⟩ = some (.slice Ap x.pages.length cp) from
        fun w' h => ⟨(h.cell (p := ⟨wr.heap.size, 0, none⟩) (Nat.lt_succ_self _)).trans d0, (h.cell (p := ⟨wr.heap.size, 1, none⟩) (Nat.lt_succ_self _)).trans d1, (h.cell (p := ⟨wr.heap.size, 2, none⟩) (Nat.lt_succ_self _)).trans d2, (h.cell (p := ⟨wr.heap.size, 3, none⟩) (Nat.lt_succ_self _)).trans d3, (h.cell (p := ⟨wr.heap.size, 4, none⟩) (Nat.lt_succ_self _)).trans d4⟩)
      have HS3 := Lib.hid (show ∀ W, Below (wr.heap.size + 1) W3 W → (Rep.int .i64).list.val (fun b => b < w.heap.size) W (.slice Ap x.pages.length cp) x.pages from
        fun W h => (HS.out.below (hb3.trans (h.mono (by omega))) (fun _ _ hb => hb.lt)).val)
      have HV3 := Lib.hid (show ∀ W, Below (wr.heap.size + 1) W3 W → rEntry.acc 83 w.heap.size (fun b => w.heap.size ≤ b) W (.slice A2 q.length c2) q from
        fun W h => Rep.acc_later HV.out (hb3.trans (h.mono (by omega))))
      have HO := Lib.hid (show ∀ b, (Value.slice A2 q.length c2).ownBlock = some b → b < wr.heap.size from fun b hb => (Rep.acc_own HV.out b hb).2)
      have B3 := Lib.hid (HB1.out.trans (hb3.mono HB1.out.size))
      have HZ3 := Lib.hid hs3
      have HW0 := Lib.hid HB1.out.size
      have HB4 := Lib.hid (show w.heap.size ≤ wr.heap.size + 1 by have := HB1.out.size; omega)
      have HG2 := Lib.hid (show ∀ w1 w2, Below (wr.heap.size + 1) W3 w1 → w1.grownBy w2 (Value.slice A2 q.length c2).ownBlock → w2.cell? ⟨wr.heap.size, 0, none⟩ = some (.int .i64 x.key.kind) ∧ w2.cell? ⟨wr.heap.size, 1, none⟩ = some (.int .u64 x.key.sig) ∧ w2.cell? ⟨wr.heap.size, 2, none⟩ = some (.int .i64 x.key.comp) ∧ w2.cell? ⟨wr.heap.size, 3, none⟩ = some (.slice Ad x.data.length cd) ∧ w2.cell? ⟨wr.heap.size, 4, none⟩ = some (.slice Ap x.pages.length cp) from
        fun w1 w2 h hg => by
          have hne : some wr.heap.size ≠ (Value.slice A2 q.length c2).ownBlock := fun e => by have := HO.out _ e.symm; omega
          obtain ⟨y0, y1, y2, y3, y4⟩ := KS.out _ h
          exact ⟨hg.cell y0 hne, hg.cell y1 hne, hg.cell y2 hne, hg.cell y3 hne, hg.cell y4 hne⟩)
      have gl := wf_i64 (n := (x.data.length : Int)) (by omega) (by omega)
      have HAg := Lib.hid (show ∀ W (A5 : Option Addr) (c5 : Nat), (Rep.int .i64).list.val (fun b => wr.heap.size + 1 ≤ b) W (.slice A5 x.pages.length c5) x.pages → rEntry.val (fun b => w.heap.size ≤ b ∧ (Value.slice A2 q.length c2).ownBlock ≠ some b) W (.agg #[.int .i64 x.key.kind, .int .u64 x.key.sig, .int .i64 x.key.comp, .int .i64 x.data.length, .slice A5 x.pages.length c5]) (entryOf x) from
        fun W A5 c5 h => by
          obtain ⟨A6, c6, he, h6⟩ := Rep.val_sl h
          cases he
          exact rEntry_agg (x := entryOf x) g0 g1 g2 gl (h6.keep fun b hb _ => ⟨⟨by have := HW0.out; omega, fun e => by have := HO.out b e; omega⟩, rfl⟩))
      clear hW3 hb3 hs3 d0 d1 d2 d3 d4 cx0 cx1 cx2 cx3 cx4 g0 g1 g2 gl
      go_region_held3 (fun w' => w'.cell? ⟨wr.heap.size, 0, none⟩ = some (.int .i64 x.key.kind) ∧ w'.cell? ⟨wr.heap.size, 1, none⟩ = some (.int .u64 x.key.sig) ∧ w'.cell? ⟨wr.heap.size, 2, none⟩ = some (.int .i64 x.key.comp) ∧ w'.cell? ⟨wr.heap.size, 3, none⟩ = some (.slice Ad x.data.length cd) ∧ w'.cell? ⟨wr.heap.size, 4, none⟩ = some (.slice Ap x.pages.length cp))
        (first
          | exact KS.out _ (Below.refl _ _).drew
          | exact KS.out _ D1.out
          | exact KS.out _ (D1.out.alloc (Nat.le_trans (Nat.le_of_eq HZ3.out.symm) D1.out.size) _)
          | exact D2.out)
        (first
          | (go_at_call 120; refine (intClone (HS3.out _ (Below.refl _ _).drew) (by omega)).mono ?_; rintro e w1 ⟨u, rfl, hu, hb1⟩; have D1 := Lib.hid ((Below.refl (wr.heap.size + 1) W3).drew.trans (hb1.mono (Nat.le_of_eq HZ3.out.symm))); obtain ⟨A5, c5, rfl, _, _⟩ := Rep.acc_form hu; have HU := Lib.hid (HAg.out w1 A5 c5 (Rep.val_mono (fun b hb _ => Nat.le_trans (Nat.le_of_eq HZ3.out.symm) hb) (Rep.acc_fresh hu))); clear hu hb1)
          | (refine step_snoc (e := 83) (base := w.heap.size) (Q := fun b => w.heap.size ≤ b) (r := rEntry) rfl _ _ 52 rfl (.agg #[.int .i64 0, .int .u64 0, .int .i64 0, .int .i64 0, .slice none 0 0]) 5 56 Try.underlying52 infoEntry rfl (by decide) rfl _ q (by rfl) (HV3.out _ D1.out) (entryOf x) _ HU.out (by rfl) L.out.1 L.out.2 (Nat.le_trans B3.out.size D1.out.size) ?_; intro s2 w2 hacc2 hgr2; have D2 := Lib.hid (HG2.out w1 w2 D1.out hgr2); have D3 := Lib.hid (Rep.acc_below (HV3.out _ D1.out) (B3.out.trans (D1.out.mono HB4.out)) hgr2 (Nat.le_trans B3.out.size D1.out.size)); have HV4 := Lib.hid hacc2; clear hacc2 hgr2))
      go_wp2_with fail
      exact ⟨⟨k + 1, by go_num, by omega, by rw [T.out]; exact HV4.out, D3.out⟩, by simp [intOf]; omega⟩
    · obtain rfl : k = l.length := by omega
      rw [List.take_length] at hv
      have HV := Lib.hid hv
      clear hv hb1
      go_wp2_with fail
      go_ret
      refine ⟨_, rfl, ?_, HB1.out⟩
      refine Rep.val_mono (fun b hb _ => ?_) (Rep.acc_val HV.out)
      rcases hb with hb | hb
      · exact hb
      · exact (Rep.acc_own HV.out b hb).1
end Go.Proofs.Ytecdbfbaclgejaa
