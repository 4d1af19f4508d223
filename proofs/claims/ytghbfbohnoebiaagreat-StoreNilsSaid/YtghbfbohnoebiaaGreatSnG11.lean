/- Texts on which the proofs stand: Conf, PutConf, Count, Most, CmdCheck, Geom, StateMath, PageAt. No condition is laid on any input. -/
import Derived.Test.YtghbfbohnoebiaaGreatSnG9
import Derived.WalkMore
namespace Go.Proofs.YtghbfbohnoebiaaGreat
open Go.RowKit

def compOk (l : List DComp) (i : Nat) : Bool := match l[i]? with
  | some x => (l.take i).all (fun y => decide (y.name ≠ x.name)) && nameB x.name && withinB x.size 0 64
  | none => true
def confRange (c : DConf) : Bool := withinB c.log 2 1024 && withinB c.pages 4 1024 && withinB c.entities 1 1024 && withinB c.gens 1 1073741824 && decide (c.comps.length ≤ 32)
def confRight (c : DConf) : Bool := confRange c && (List.range c.comps.length).all (compOk c.comps)
def checkOf (b : Bool) : Int := if b then 0 else 1

theorem range_all_succ {p : Nat → Bool} {k : Nat} (h : (List.range k).all p = true) (hk : p k = true) : (List.range (k + 1)).all p = true := by
  rw [List.range_succ, List.all_append, h]; simp [hk]
theorem range_not_all {p : Nat → Bool} {k n : Nat} (hk : k < n) (h : p k = false) : (List.range n).all p = false := by
  rw [Bool.eq_false_iff]
  intro hh
  have := List.all_eq_true.1 hh k (List.mem_range.2 hk)
  rw [h] at this; cases this

theorem compOk_dup {l : List DComp} {j k : Nat} {x y : DComp} (hjk : j < k) (hk : k < l.length) (hx : l[k] = x) (hj : j < l.length) (hy : l[j] = y) (h : y.name = x.name) : compOk l k = false := by
  unfold compOk
  rw [List.getElem?_eq_getElem hk, hx]
  have : ((l.take k).all fun y => decide (y.name ≠ x.name)) = false := by
    rw [Bool.eq_false_iff]
    intro hh
    have hm : y ∈ l.take k := by rw [← hy]; exact List.mem_take_iff_getElem.2 ⟨j, by omega, rfl⟩
    have := List.all_eq_true.1 hh y hm
    simp [h] at this
  simp only [this, Bool.false_and]

set_option maxRecDepth 100000 in
set_option maxHeartbeats 4000000 in
/-- comp.Check -/
theorem check_calls {Q : Nat → Prop} {w : World} {v : Value} {c : DConf} (hx : rConf.val Q w v c) :
    Calls Tryz.prog 43 #[v] w fun e w' => e = .returned (.int .i64 (checkOf (confRight c))) ∧ Below w.heap.size w w' := by
  obtain ⟨A, cap, rfl, f0, f1, f2, f3, hc1, hc2, hA⟩ := rConf_val hx
  unfold maxLen at hc2
  have hlen : (c.comps.length : Int) ≤ 9223372036854775807 := by omega
  cases h0 : withinB c.log 2 1024 <;> cases h1 : withinB c.pages 4 1024 <;> cases h2 : withinB c.entities 1 1024 <;> cases h3 : withinB c.gens 1 1073741824
  case true.true.true.true =>
    have H0 := Lib.hid h0
    have H1 := Lib.hid h1
    have H2 := Lib.hid h2
    have H3 := Lib.hid h3
    by_cases hlong : (32 : Int) < c.comps.length
    · have hr : confRight c = false := by simp [confRight, confRange]; intros; omega
      have HR := Lib.hid hr
      clear hr h0 h1 h2 h3 hx hA
      go_enter Tryz.func43, Tryz.ntmps43
      go_wp2_with fail
      go_step3
      go_wp2_with (go_at_call 96; refine (within_calls _ _ _ _).mono ?_; rintro e w' ⟨rfl, rfl⟩; first | rw [H0.out] | rw [H1.out] | rw [H2.out] | rw [H3.out])
      try rw [Exit.noGoto_ret]
      go_ret
      exact ⟨by rw [HR.out]; rfl, (Below.refl _ _).alloc (Nat.le_refl _) _⟩
    · have hr : confRight c = (List.range c.comps.length).all (compOk c.comps) := by
        have : decide (c.comps.length ≤ 32) = true := by simp; omega
        simp [confRight, confRange, h0, h1, h2, h3, this]
      have HR := Lib.hid hr
      have HX := Lib.hid hA
      clear hr h0 h1 h2 h3 hx hA
      go_enter Tryz.func43, Tryz.ntmps43
      go_wp2_with fail
      go_step3
      go_wp2_with (go_at_call 96; refine (within_calls _ _ _ _).mono ?_; rintro e w' ⟨rfl, rfl⟩; first | rw [H0.out] | rw [H1.out] | rw [H2.out] | rw [H3.out])
      obtain ⟨W1, hW1⟩ : ∃ W1, w.alloc (.cells #[.int .i64 c.log, .int .i64 c.pages, .int .i64 c.entities, .int .i64 c.gens, .slice A c.comps.length cap] 34) = W1 := ⟨_, rfl⟩
      have hcell : W1.cell? ⟨w.heap.size, 4, none⟩ = some (.slice A c.comps.length cap) := by rw [← hW1]; simp
      have hbel : Below w.heap.size w W1 := by rw [← hW1]; exact (Below.refl _ _).alloc (Nat.le_refl _) _
      have hsz : W1.heap.size = w.heap.size + 1 := by rw [← hW1]; simp
      rw [hW1]
      clear hW1
      go_wp2_with fail
      go_step3
      go_wp2_with fail
      go_loopw [40] (fun i wr => ∃ k : Nat, i = .int .i64 k ∧ k ≤ c.comps.length ∧ Hid ((List.range k).all (compOk c.comps) = true) ∧ Below (w.heap.size + 1) W1 wr)
        (fun i _ => c.comps.length - (intOf i).toNat)
      case atStart => exact ⟨0, rfl, by omega, rfl, Below.refl _ _⟩
      case round =>
        obtain ⟨k, rfl, hk, hall, hb1⟩ := hrel
        by_cases hlt : (k : Int) < c.comps.length
        · have hk' : k < c.comps.length := by omega
          have hAw : rComp.At (fun b => b < w.heap.size) wr A c.comps := Rep.At.keep (w := w) (fun b _ hb => ⟨hb.lt, (hb1.block b (by have := hb.lt; omega)).trans (hbel.block b hb.lt)⟩) HX.out
          obtain ⟨b, off, rfl, hb, cx0, cx1, g0, g1⟩ := rComp_at hAw (List.getElem?_eq_getElem hk')
          generalize hxx : c.comps[k] = x at *
          have HXX := Lib.hid hxx
          clear hxx
          have hcw : wr.cell? ⟨w.heap.size, 4, none⟩ = some (.slice (some ⟨b, off, none⟩) c.comps.length cap) := (hb1.cell (p := ⟨w.heap.size, 4, none⟩) (Nat.lt_succ_self _)).trans hcell
          have hlw : w.heap.size < wr.heap.size := by have := hb1.size; omega
          have hca : ∀ o, (wr.alloc o).cell? ⟨w.heap.size, 4, none⟩ = some (.slice (some ⟨b, off, none⟩) c.comps.length cap) := fun o => (World.cell?_of_block (w := wr) (Below.heap_alloc _ _ _ hlw)).trans hcw
          have HB1 := Lib.hid hb1
          have HAW := Lib.hid hAw
          clear hb1 hAw
          go_wp2_with fail
          rename World => wo
          obtain ⟨W2, hW2⟩ : ∃ W2, wo.alloc (.cells #[.string ⟨x.name.toArray⟩, .int .i64 x.size] 164) = W2 := ⟨_, rfl⟩
          have d0 : W2.cell? ⟨wo.heap.size, 0, none⟩ = some (.string ⟨x.name.toArray⟩) := by rw [← hW2]; simp
          have d1 : W2.cell? ⟨wo.heap.size, 1, none⟩ = some (.int .i64 x.size) := by rw [← hW2]; simp
          have hb2 : Below wo.heap.size wo W2 := by rw [← hW2]; exact (Below.refl _ _).alloc (Nat.le_refl _) _
          have hs2 : W2.heap.size = wo.heap.size + 1 := by rw [← hW2]; simp
          rw [hW2]
          clear hW2 hca hcw cx0 cx1
          have HAW2 := Lib.hid (HAW.out.keep (w := wo) (w' := W2) (Q' := fun b => b < wo.heap.size) fun b _ hb => ⟨hb.lt, hb2.block b hb.lt⟩)
          have HB2 := Lib.hid hb2
          clear hb2
          go_loopw [50] (fun i wr2 => ∃ j : Nat, i = .int .i64 j ∧ j ≤ k ∧ Hid ((c.comps.take j).all (fun y => decide (y.name ≠ x.name)) = true) ∧ Below (wo.heap.size + 1) W2 wr2)
            (fun i _ => k - (intOf i).toNat)
          case atStart => exact ⟨0, rfl, by omega, rfl, Below.refl _ _⟩
          case round =>
            obtain ⟨j, rfl, hj, hdif, hb3⟩ := hrel
            by_cases hjk : (j : Int) < k
            · have hj' : j < c.comps.length := by omega
              have hA3 := HAW2.out.keep (w := W2) (w' := wr) (Q' := fun _ => True) fun b hq hb => ⟨trivial, hb3.block b (by omega)⟩
              obtain ⟨b', off', heq, hb', cy0, cy1, g3, g4⟩ := rComp_at hA3 (List.getElem?_eq_getElem hj')
              cases heq
              generalize hyy : c.comps[j] = y at *
              have HYY := Lib.hid hyy
              have d0' := (hb3.cell (p := ⟨wo.heap.size, 0, none⟩) (Nat.lt_succ_self _)).trans d0
              have hlw3 : wo.heap.size < wr.heap.size := by have := hb3.size; omega
              have hca : ∀ o, (wr.alloc o).cell? ⟨wo.heap.size, 0, none⟩ = some (.string ⟨x.name.toArray⟩) := fun o => (World.cell?_of_block (w := wr) (Below.heap_alloc _ _ _ hlw3)).trans d0'
              have HB3 := Lib.hid hb3
              clear hyy hA3 hb3
              by_cases hq : y.name = x.name
              · have HF := Lib.hid (show confRight c = false by rw [HR.out]; exact range_not_all hk' (compOk_dup (j := j) (by omega) hk' HXX.out hj' HYY.out hq))
                replace hq : (x.name == y.name) = true := by simp [hq]
                go_wp2_with fail
                try rw [Exit.noGoto_ret]
                go_ret
                refine ⟨by rw [HF.out]; rfl, ?_⟩
                exact ((((hbel.trans (HB1.out.mono (by omega))).trans (HB2.out.mono (by omega))).trans (HB3.out.mono (by omega))).alloc (by omega) _)
              · have HD := Lib.hid (show ((c.comps.take (j + 1)).all fun y => decide (y.name ≠ x.name)) = true from all_take_succ (p := fun y : DComp => decide (y.name ≠ x.name)) hj' hdif (by rw [HYY.out]; simpa using hq))
                replace hq : (x.name == y.name) = false := by simpa using fun h => hq h.symm
                go_wp2_with fail
                exact ⟨⟨j + 1, by go_num, by omega, HD, HB3.out.alloc (by omega) _⟩, by simp [intOf]; omega⟩
            · obtain rfl : j = k := by omega
              have e0 := (hb3.cell (p := ⟨wo.heap.size, 0, none⟩) (Nat.lt_succ_self _)).trans d0
              have e1 := (hb3.cell (p := ⟨wo.heap.size, 1, none⟩) (Nat.lt_succ_self _)).trans d1
              have HB3 := Lib.hid hb3
              have hcomp : compOk c.comps j = (nameB x.name && withinB x.size 0 64) := by
                unfold compOk
                rw [List.getElem?_eq_getElem hk', HXX.out]
                simp only [hdif.out, Bool.true_and]
              have HW : Below (w.heap.size + 1) W1 wr := (HB1.out.trans (HB2.out.mono (by omega))).trans (hb3.mono (by omega))
              have HBW := Lib.hid HW
              clear hb3 HW
              by_cases hn : nameB x.name = true
              · by_cases hw : withinB x.size 0 64 = true
                · have HA := Lib.hid (range_all_succ hall (by rw [hcomp, hn, hw]; rfl))
                  have HN := Lib.hid hn
                  have HWI := Lib.hid hw
                  clear hcomp hn hw
                  go_wp2_with (first
                    | (go_at_call 97; refine (name_calls _ _ g0).mono ?_; rintro e w' ⟨rfl, rfl⟩; rw [HN.out])
                    | (go_at_call 96; refine (within_calls _ _ _ _).mono ?_; rintro e w' ⟨rfl, rfl⟩; rw [HWI.out]))
                  exact ⟨⟨j + 1, by go_num, by omega, HA, HBW.out⟩, by simp [intOf]; omega⟩
                · have HF := Lib.hid (show confRight c = false by rw [HR.out]; exact range_not_all hk' (by rw [hcomp, hn]; simpa using hw))
                  have HN := Lib.hid hn
                  have HWI := Lib.hid (show withinB x.size 0 64 = false by simpa using hw)
                  clear hcomp hn hw
                  go_wp2_with (first
                    | (go_at_call 97; refine (name_calls _ _ g0).mono ?_; rintro e w' ⟨rfl, rfl⟩; rw [HN.out])
                    | (go_at_call 96; refine (within_calls _ _ _ _).mono ?_; rintro e w' ⟨rfl, rfl⟩; rw [HWI.out]))
                  try rw [Exit.noGoto_ret]
                  go_ret
                  exact ⟨by rw [HF.out]; rfl, hbel.trans (HBW.out.mono (by omega))⟩
              · have HF := Lib.hid (show confRight c = false by rw [HR.out]; exact range_not_all hk' (by rw [hcomp]; simp [hn]))
                have HN := Lib.hid (show nameB x.name = false by simpa using hn)
                clear hcomp hn
                go_wp2_with (go_at_call 97; refine (name_calls _ _ g0).mono ?_; rintro e w' ⟨rfl, rfl⟩; rw [HN.out])
                try rw [Exit.noGoto_ret]
                go_ret
                exact ⟨by rw [HF.out]; rfl, hbel.trans (HBW.out.mono (by omega))⟩
        · obtain rfl : k = c.comps.length := by omega
          have HF := Lib.hid (show confRight c = true by rw [HR.out]; exact hall.out)
          have HB1 := Lib.hid hb1
          clear hb1
          go_wp2_with fail
          try rw [Exit.noGoto_ret]
          go_ret
          exact ⟨by rw [HF.out]; rfl, hbel.trans (HB1.out.mono (by omega))⟩
  all_goals
    have hr : confRight c = false := by simp [confRight, confRange, h0, h1, h2, h3]
    have HR := Lib.hid hr
    have H0 := Lib.hid h0
    have H1 := Lib.hid h1
    have H2 := Lib.hid h2
    have H3 := Lib.hid h3
    clear hr h0 h1 h2 h3 hx hA
    go_enter Tryz.func43, Tryz.ntmps43
    go_wp2_with fail
    go_step3
    go_wp2_with (go_at_call 96; refine (within_calls _ _ _ _).mono ?_; rintro e w' ⟨rfl, rfl⟩; first | rw [H0.out] | rw [H1.out] | rw [H2.out] | rw [H3.out])
    try rw [Exit.noGoto_ret]
    go_ret
    exact ⟨by rw [HR.out]; rfl, (Below.refl _ _).alloc (Nat.le_refl _) _⟩
end Go.Proofs.YtghbfbohnoebiaaGreat
namespace Go.Proofs.YtghbfbohnoebiaaGreat
open Go.RowKit

/-- 'append(s, xs...)' of values without blocks of their own, as0 a step of a region that draws its order. -/
theorem step_spread_leaf {α : Type} {r : Rep α} {e base : Nat} {Q Q' : Nat → Prop} {P : Program} {w : World} {ops : Array Oper} {o : Oper} {a : Act} {K : Act → World → Prop} {R : Exit → Act → World → Prop} {E : Prop} (hleaf : r.Leaf) (hg : o.guard = none) (s x : Operand) (t : TypeId)
    (ho : o.op = .call { callee := .builtin .append, args := #[s, x], argTypes := #[t, t] })
    (z : Value) (size bytes : Nat) (ht : P.underlying t = some (.slice e)) (hi : (P.info? e).map (fun i => (i.zero, i.size, i.bytes)) = some (some z, size, bytes)) (hzs : z.cells.size = size) (hsz : 0 < size)
    (hr : r.size = size) (v : Value) (xs : List α) (hs : a.eval s = v) (h : r.acc e base Q w v xs) (u : Value) (ys : List α) (hx : a.eval x = u) (hy : r.list.val Q' w u ys)
    (h63 : xs.length + ys.length ≤ maxLen) (hbytes : (xs.length + ys.length) * bytes ≤ 140737488355328) (hbase : base ≤ w.heap.size)
    (H : ∀ v' w', r.acc e base Q w' v' (xs ++ ys) → w.grownBy w' v.ownBlock → (v'.ownBlock = v.ownBlock ∨ v'.ownBlock = some w.heap.size) → K (a.put o.dst v') w') :
    if Region.wanted o (yielded ops a.tmps) = true then Oper.wp P o a w K R else E := by
  have hw : Region.wanted o (yielded ops a.tmps) = true := by simp [Region.wanted, hg]
  rw [if_pos hw]
  obtain ⟨A, c, rfl, h1, h2, es, h3, h4⟩ := Rep.val_list hy
  obtain ⟨v', w', q1, q2, q3, q4⟩ := Rep.acc_more (P := P) (ty := o.type) (c := c) ht hi hzs hsz hr h rfl (Rep.row_leaf hleaf h3)
    (fun hn => by obtain ⟨b, off, q1, _, _, q2⟩ := h4 hn; exact ⟨b, off, q1, q2⟩) h63 hbytes hbase
  unfold Oper.wp execOp
  simp only [ho, resolve, invoke, builtin, Sem.run_bind, Sem.run_pure, Result.andThen_ok, List.map_toArray, List.map_cons, List.map_nil, hs, hx, q1]
  exact H v' w' q2 q3 q4

theorem take_flatten_succ {α : Type} (f : α → List UInt8) {l : List α} {k : Nat} (hk : k < l.length) : ((l.take (k + 1)).map f).flatten = ((l.take k).map f).flatten ++ f l[k] := by
  rw [List.take_succ_eq_append_getElem hk, List.map_append, List.flatten_append]; simp

theorem wf1 : (Lit.int .i64 1).wf = true := rfl

end Go.Proofs.YtghbfbohnoebiaaGreat
namespace Go.Proofs.YtghbfbohnoebiaaGreat
open Go.RowKit

theorem right_facts {c : DConf} (h : confRight c = true) : (2 ≤ c.log ∧ c.log ≤ 1024 ∧ 4 ≤ c.pages ∧ c.pages ≤ 1024 ∧ 1 ≤ c.entities ∧ c.entities ≤ 1024 ∧ 1 ≤ c.gens ∧ c.gens ≤ 1073741824 ∧ c.comps.length ≤ 32) ∧
    ∀ (k : Nat) (hk : k < c.comps.length), 0 ≤ c.comps[k].size ∧ c.comps[k].size ≤ 64 ∧ c.comps[k].name.length ≤ 16 := by
  simp only [confRight, Bool.and_eq_true] at h
  obtain ⟨h1, h2⟩ := h
  refine ⟨?_, fun k hk => ?_⟩
  · simp only [confRange, withinB, Bool.and_eq_true, decide_eq_true_eq] at h1; omega
  · have h3 := List.all_eq_true.1 h2 k (List.mem_range.2 hk)
    unfold compOk at h3
    rw [List.getElem?_eq_getElem hk] at h3
    simp only [Bool.and_eq_true] at h3
    obtain ⟨⟨_, h4⟩, h5⟩ := h3
    simp only [withinB, decide_eq_true_eq] at h5
    simp only [nameB, Bool.and_eq_true, decide_eq_true_eq] at h4
    exact ⟨h5.1, h5.2, h4.1.2⟩

end Go.Proofs.YtghbfbohnoebiaaGreat
namespace Go.Proofs.YtghbfbohnoebiaaGreat
open Go.RowKit

/-- A layout in a box, and what reads it. -/
structure InBox (W : World) (B : Nat) (c : DConf) (A : Option Addr) (cap : Nat) : Prop where
  c0 : W.cell? ⟨B, 0, none⟩ = some (.int .i64 c.log)
  c1 : W.cell? ⟨B, 1, none⟩ = some (.int .i64 c.pages)
  c2 : W.cell? ⟨B, 2, none⟩ = some (.int .i64 c.entities)
  c3 : W.cell? ⟨B, 3, none⟩ = some (.int .i64 c.gens)
  c4 : W.cell? ⟨B, 4, none⟩ = some (.slice A c.comps.length cap)
  val : rConf.val (fun b => b < B) W (.agg #[.int .i64 c.log, .int .i64 c.pages, .int .i64 c.entities, .int .i64 c.gens, .slice A c.comps.length cap]) c
theorem InBox.later {W W' : World} {B : Nat} {c : DConf} {A : Option Addr} {cap : Nat} (h : InBox W B c A cap) (hb : Below (B + 1) W W') : InBox W' B c A cap :=
  ⟨(hb.cell (p := ⟨B, 0, none⟩) (Nat.lt_succ_self _)).trans h.c0, (hb.cell (p := ⟨B, 1, none⟩) (Nat.lt_succ_self _)).trans h.c1, (hb.cell (p := ⟨B, 2, none⟩) (Nat.lt_succ_self _)).trans h.c2,
   (hb.cell (p := ⟨B, 3, none⟩) (Nat.lt_succ_self _)).trans h.c3, (hb.cell (p := ⟨B, 4, none⟩) (Nat.lt_succ_self _)).trans h.c4, Rep.val_keep (fun b hq _ => ⟨hq, hb.block b (by omega)⟩) h.val⟩
theorem InBox.made {Q : Nat → Prop} {w : World} {c : DConf} {A : Option Addr} {cap : Nat} (h : rConf.val Q w (.agg #[.int .i64 c.log, .int .i64 c.pages, .int .i64 c.entities, .int .i64 c.gens, .slice A c.comps.length cap]) c) (t : TypeId) :
    InBox (w.alloc (.cells #[.int .i64 c.log, .int .i64 c.pages, .int .i64 c.entities, .int .i64 c.gens, .slice A c.comps.length cap] t)) w.heap.size c A cap :=
  ⟨by simp, by simp, by simp, by simp, by simp, Rep.val_keep (w := w) (fun _ _ hl => ⟨hl.lt, Below.heap_alloc _ _ _ hl.lt⟩) h⟩

end Go.Proofs.YtghbfbohnoebiaaGreat
namespace Go.Proofs.YtghbfbohnoebiaaGreat
open Go.RowKit

/-- A command in a box. -/
structure CmdBox (W : World) (B : Nat) (x : DCmd) (A : Option Addr) (c : Nat) : Prop where
  c0 : W.cell? ⟨B, 0, none⟩ = some (.int .i64 x.kind)
  c1 : W.cell? ⟨B, 1, none⟩ = some (.bool x.loc)
  c2 : W.cell? ⟨B, 2, none⟩ = some (.int .i64 x.id.index)
  c3 : W.cell? ⟨B, 3, none⟩ = some (.int .i64 x.id.gen)
  c4 : W.cell? ⟨B, 4, none⟩ = some (.int .i64 x.comp)
  c5 : W.cell? ⟨B, 5, none⟩ = some (.slice A x.data.length c)
  val : rCmd.val (fun b => b < B) W (.agg #[.int .i64 x.kind, .bool x.loc, .int .i64 x.id.index, .int .i64 x.id.gen, .int .i64 x.comp, .slice A x.data.length c]) x
theorem CmdBox.later {W W' : World} {B : Nat} {x : DCmd} {A : Option Addr} {c : Nat} (h : CmdBox W B x A c) (hb : Below (B + 1) W W') : CmdBox W' B x A c :=
  ⟨(hb.cell (p := ⟨B, 0, none⟩) (Nat.lt_succ_self _)).trans h.c0, (hb.cell (p := ⟨B, 1, none⟩) (Nat.lt_succ_self _)).trans h.c1, (hb.cell (p := ⟨B, 2, none⟩) (Nat.lt_succ_self _)).trans h.c2,
   (hb.cell (p := ⟨B, 3, none⟩) (Nat.lt_succ_self _)).trans h.c3, (hb.cell (p := ⟨B, 4, none⟩) (Nat.lt_succ_self _)).trans h.c4, (hb.cell (p := ⟨B, 5, none⟩) (Nat.lt_succ_self _)).trans h.c5, Rep.val_keep (fun b hq _ => ⟨hq, hb.block b (by omega)⟩) h.val⟩
theorem CmdBox.made {Q : Nat → Prop} {w : World} {x : DCmd} {A : Option Addr} {c : Nat} (h : rCmd.val Q w (.agg #[.int .i64 x.kind, .bool x.loc, .int .i64 x.id.index, .int .i64 x.id.gen, .int .i64 x.comp, .slice A x.data.length c]) x) (t : TypeId) :
    CmdBox (w.alloc (.cells #[.int .i64 x.kind, .bool x.loc, .int .i64 x.id.index, .int .i64 x.id.gen, .int .i64 x.comp, .slice A x.data.length c] t)) w.heap.size x A c :=
  ⟨by simp, by simp, by simp, by simp, by simp, by simp, Rep.val_keep (w := w) (fun _ _ hl => ⟨hl.lt, Below.heap_alloc _ _ _ hl.lt⟩) h⟩

end Go.Proofs.YtghbfbohnoebiaaGreat
namespace Go.Proofs.YtghbfbohnoebiaaGreat
open Go.RowKit

def placeB (n : Int) : Bool := decide (0 ≤ n) && decide (n ≤ 281474976710656)
def logOf (c : DConf) (lsn : Int) : Int := if confRight c && placeB lsn then 2 + lsn % c.log else -1
set_option maxRecDepth 100000 in
/-- geom.place -/
theorem place_calls (k : Int) (w : World) : Calls Tryz.prog 158 #[.int .i64 k] w fun e w' => e = .returned (.bool (placeB k)) ∧ w' = w := by
  obtain ⟨r, hr⟩ : ∃ r, r = placeB k := ⟨_, rfl⟩
  rw [← hr]
  unfold placeB at hr
  rcases dec_split (0 ≤ k) with t1 | ⟨t1, d1⟩ <;> rcases dec_split (k ≤ 281474976710656) with t2 | ⟨t2, d2⟩
  all_goals
    simp [*] at hr
    subst hr
    go_enter Tryz.func158, Tryz.ntmps158
    go_wp2_with fail
    go_ret
    exact ⟨by first | rfl | (simp only [*]; rfl), rfl⟩
theorem check_right {c : DConf} (h : confRight c = true) : checkOf (confRight c) = 0 := by rw [h]; rfl
theorem check_wrong {c : DConf} (h : confRight c = false) : checkOf (confRight c) = 1 := by rw [h]; rfl

set_option maxRecDepth 100000 in
set_option maxHeartbeats 1000000 in
/-- geom.right -/
theorem geomRight_calls {Q : Nat → Prop} {w : World} {v : Value} {c : DConf} (hx : rConf.val Q w v c) :
    Calls Tryz.prog 157 #[v] w fun e w' => e = .returned (.bool (confRight c)) ∧ Below w.heap.size w w' := by
  obtain ⟨A, cap, rfl, _⟩ := rConf_val hx
  have hm := InBox.made hx 34
  have hbel : Below w.heap.size w (w.alloc (.cells #[.int .i64 c.log, .int .i64 c.pages, .int .i64 c.entities, .int .i64 c.gens, .slice A c.comps.length cap] 34)) := (Below.refl _ _).alloc (Nat.le_refl _) _
  generalize hW1 : w.alloc (.cells #[.int .i64 c.log, .int .i64 c.pages, .int .i64 c.entities, .int .i64 c.gens, .slice A c.comps.length cap] 34) = W1 at *
  have HM := Lib.hid hm
  have HB := Lib.hid hbel
  obtain ⟨a0, a1, a2, a3, a4, _⟩ := hm
  clear hx hbel
  cases hr : confRight c with
  | false =>
    have HR := Lib.hid (check_wrong hr)
    clear hr
    go_enter Tryz.func157, Tryz.ntmps157
    go_wp2_with (go_at_call 43; refine (check_calls HM.out.val).mono ?_; rintro e w2 ⟨rfl, hb2⟩; rw [HR.out])
    go_ret
    exact ⟨rfl, HB.out.trans (hb2.mono HB.out.size)⟩
  | true =>
    have HR := Lib.hid (check_right hr)
    clear hr
    go_enter Tryz.func157, Tryz.ntmps157
    go_wp2_with (go_at_call 43; refine (check_calls HM.out.val).mono ?_; rintro e w2 ⟨rfl, hb2⟩; rw [HR.out])
    go_ret
    exact ⟨rfl, HB.out.trans (hb2.mono HB.out.size)⟩

set_option maxRecDepth 100000 in
set_option maxHeartbeats 1000000 in
/-- geom.Log -/
theorem geomLog_calls {Q : Nat → Prop} {w : World} {v : Value} {c : DConf} {lsn : Int} (hx : rConf.val Q w v c) :
    Calls Tryz.prog 107 #[v, .int .i64 lsn] w fun e w' => e = .returned (.int .i64 (logOf c lsn)) ∧ Below w.heap.size w w' := by
  obtain ⟨A, cap, rfl, _⟩ := rConf_val hx
  have hm := InBox.made hx 34
  have hbel : Below w.heap.size w (w.alloc (.cells #[.int .i64 c.log, .int .i64 c.pages, .int .i64 c.entities, .int .i64 c.gens, .slice A c.comps.length cap] 34)) := (Below.refl _ _).alloc (Nat.le_refl _) _
  have hsz : (w.alloc (.cells #[.int .i64 c.log, .int .i64 c.pages, .int .i64 c.entities, .int .i64 c.gens, .slice A c.comps.length cap] 34)).heap.size = w.heap.size + 1 := by simp
  generalize hW1 : w.alloc (.cells #[.int .i64 c.log, .int .i64 c.pages, .int .i64 c.entities, .int .i64 c.gens, .slice A c.comps.length cap] 34) = W1 at *
  have HM := Lib.hid hm
  have HB := Lib.hid hbel
  have HS := Lib.hid hsz
  obtain ⟨a0, a1, a2, a3, a4, _⟩ := hm
  clear hx hbel hsz
  cases hr : confRight c with
  | false =>
    have HR := Lib.hid hr
    have HF := Lib.hid (show logOf c lsn = -1 by unfold logOf; rw [hr]; rfl)
    clear hr
    go_enter Tryz.func107, Tryz.ntmps107
    go_wp2_with (go_at_call 157; refine (geomRight_calls HM.out.val).mono ?_; rintro e w2 ⟨rfl, hb2⟩; rw [HR.out])
    go_ret
    exact ⟨by rw [HF.out]; rfl, HB.out.trans (hb2.mono HB.out.size)⟩
  | true =>
    have HR := Lib.hid hr
    have hf := (right_facts hr).1
    obtain ⟨g1, g2, _⟩ := hf
    cases hp : placeB lsn with
    | false =>
      have HP := Lib.hid hp
      have HF := Lib.hid (show logOf c lsn = -1 by unfold logOf; rw [hr, hp]; rfl)
      clear hr hp
      go_enter Tryz.func107, Tryz.ntmps107
      go_wp2_with (first
        | (go_at_call 157; refine (geomRight_calls HM.out.val).mono ?_; rintro e w2 ⟨rfl, hb2⟩; rw [HR.out])
        | (go_at_call 158; refine (place_calls _ _).mono ?_; rintro e w3 ⟨rfl, hw⟩; have hw2 := hw.symm; subst hw2; clear hw; rw [HP.out]))
      go_ret
      exact ⟨by rw [HF.out]; rfl, HB.out.trans (hb2.mono HB.out.size)⟩
    | true =>
      have HP := Lib.hid hp
      have HF := Lib.hid (show logOf c lsn = 2 + lsn % c.log by unfold logOf; rw [hr, hp]; rfl)
      have hp2 : 0 ≤ lsn ∧ lsn ≤ 281474976710656 := by simp [placeB] at hp; omega
      obtain ⟨p1, p2⟩ := hp2
      have m1 : 0 ≤ lsn % c.log := Int.emod_nonneg _ (by omega)
      have m2 : lsn % c.log < c.log := Int.emod_lt_of_pos _ (by omega)
      have m3 : lsn.tmod c.log = lsn % c.log := Int.tmod_eq_emod_of_nonneg p1
      have m4 : ¬ c.log = 0 := by omega
      clear hr hp
      go_enter Tryz.func107, Tryz.ntmps107
      go_wp2_with (first
        | (go_at_call 157; refine (geomRight_calls HM.out.val).mono ?_; rintro e w2 ⟨rfl, hb2⟩; rw [HR.out]; obtain ⟨b0, b1, b2, b3, b4, hv2⟩ := HM.out.later (hb2.mono (Nat.le_of_eq HS.out.symm)))
        | (go_at_call 158; refine (place_calls _ _).mono ?_; rintro e w3 ⟨rfl, hw⟩; have hw2 := hw.symm; subst hw2; clear hw; rw [HP.out]))
      go_ret
      exact ⟨by rw [HF.out]; rfl, HB.out.trans (hb2.mono HB.out.size)⟩
end Go.Proofs.YtghbfbohnoebiaaGreat
namespace Go.Proofs.YtghbfbohnoebiaaGreat
open Go.RowKit

def compSize (c : DConf) (k : Int) : Option Int := if 0 ≤ k then (c.comps[k.toNat]?).map (·.size) else none
/-- Parts that may be. -/
structure PartsOk (c : DConf) (l : List DPart) : Prop where
  size : ∀ p ∈ l, compSize c p.comp = some (p.data.length : Int)
  up : l.Pairwise fun a b => a.comp < b.comp
theorem up_length {l : List Int} {n : Nat} (hu : l.Pairwise (· < ·)) (h0 : ∀ x ∈ l, 0 ≤ x) (h1 : ∀ x ∈ l, x < n) : l.length ≤ n := by
  have key : ∀ (l : List Int) (lo : Int), l.Pairwise (· < ·) → (∀ x ∈ l, lo ≤ x) → (∀ x ∈ l, x < n) → lo ≤ n → lo + l.length ≤ n := by
    intro l
    induction l with
    | nil => intro lo _ _ _ h; simpa using h
    | cons x r ih =>
      intro lo hu h0 h1 hl
      have h2 := List.pairwise_cons.1 hu
      have hx := h0 x (by simp)
      have hx1 := h1 x (by simp)
      have := ih (x + 1) h2.2 (fun y hy => by have := h2.1 y hy; omega) (fun y hy => h1 y (by simp [hy])) (by omega)
      rw [List.length_cons]
      omega
  have := key l 0 hu h0 h1 (by omega)
  omega
theorem compSize_lt {c : DConf} {k n : Int} (h : compSize c k = some n) : 0 ≤ k ∧ k < c.comps.length ∧ ∃ x, c.comps[k.toNat]? = some x ∧ x.size = n := by
  unfold compSize at h
  split at h
  · rename_i h0
    obtain ⟨x, hx, he⟩ := Option.map_eq_some_iff.1 h
    have := (List.getElem?_eq_some_iff.1 hx).1
    exact ⟨h0, by omega, x, hx, he⟩
  · cases h
theorem compSize_small {c : DConf} {k n : Int} (hr : confRight c = true) (h : compSize c k = some n) : 0 ≤ n ∧ n ≤ 64 := by
  obtain ⟨h0, h1, x, hx, rfl⟩ := compSize_lt h
  obtain ⟨hl, he⟩ := List.getElem?_eq_some_iff.1 hx
  have := (right_facts hr).2 _ hl
  rw [he] at this
  exact ⟨this.1, this.2.1⟩
theorem PartsOk.len {c : DConf} {l : List DPart} (h : PartsOk c l) : l.length ≤ c.comps.length := by
  have := up_length (l := l.map (·.comp)) (n := c.comps.length) (List.pairwise_map.2 h.up) (fun x hx => by
    obtain ⟨p, hp, rfl⟩ := List.mem_map.1 hx
    exact (compSize_lt (h.size p hp)).1) (fun x hx => by
    obtain ⟨p, hp, rfl⟩ := List.mem_map.1 hx
    exact (compSize_lt (h.size p hp)).2.1)
  rwa [List.length_map] at this
theorem PartsOk.data {c : DConf} {l : List DPart} (hr : confRight c = true) (h : PartsOk c l) {p : DPart} (hp : p ∈ l) : p.data.length ≤ 64 := by
  have := compSize_small hr (h.size p hp)
  omega
section
variable {c : DConf} {s : DState}
end
end Go.Proofs.YtghbfbohnoebiaaGreat
namespace Go.Proofs.YtghbfbohnoebiaaGreat
open Go.RowKit

/-- A page's sector. -/
def pageOf (c : DConf) (p : Int) : Int := if confRight c = true ∧ 0 ≤ p ∧ p < c.pages then 2 + c.log + p else -1
theorem right_log_pages {c : DConf} (h : confRight c = true) : 2 ≤ c.log ∧ c.log ≤ 1024 ∧ 4 ≤ c.pages ∧ c.pages ≤ 1024 ∧ True := by
  have := (right_facts h).1
  obtain ⟨a, b, c, d, _⟩ := this
  exact ⟨by omega, by omega, by omega, by omega, trivial⟩

set_option maxRecDepth 100000 in
set_option maxHeartbeats 2000000 in
/-- geom.Page -/
theorem geomPage_calls {Q : Nat → Prop} {w : World} {v : Value} {c : DConf} {p : Int} (hx : rConf.val Q w v c) :
    Calls Tryz.prog 231 #[v, .int .i64 p] w fun e w' => e = .returned (.int .i64 (pageOf c p)) ∧ Below w.heap.size w w' := by
  obtain ⟨A, cap, rfl, _⟩ := rConf_val hx
  have hm := InBox.made hx 34
  have hbel : Below w.heap.size w (w.alloc (.cells #[.int .i64 c.log, .int .i64 c.pages, .int .i64 c.entities, .int .i64 c.gens, .slice A c.comps.length cap] 34)) := (Below.refl _ _).alloc (Nat.le_refl _) _
  have hsz : (w.alloc (.cells #[.int .i64 c.log, .int .i64 c.pages, .int .i64 c.entities, .int .i64 c.gens, .slice A c.comps.length cap] 34)).heap.size = w.heap.size + 1 := by simp
  generalize hW1 : w.alloc (.cells #[.int .i64 c.log, .int .i64 c.pages, .int .i64 c.entities, .int .i64 c.gens, .slice A c.comps.length cap] 34) = W1 at *
  have HM := Lib.hid hm
  have HB := Lib.hid hbel
  have HS := Lib.hid hsz
  obtain ⟨a0, a1, a2, a3, a4, _⟩ := hm
  clear hx hbel hsz
  cases hr : confRight c with
  | false =>
    have HR := Lib.hid hr
    have HF := Lib.hid (show pageOf c p = -1 from if_neg (fun h => by rw [hr] at h; cases h.1))
    clear hr
    go_enter Tryz.func231, Tryz.ntmps231
    go_wp2_with fail
    try rw [hW1]
    clear hW1
    try go_wp2_with fail
    refine (geomRight_calls HM.out.val).mono ?_
    rintro e w2 ⟨rfl, hb2⟩
    rw [HR.out]
    obtain ⟨b0, b1, b2, b3, b4, hv2⟩ := HM.out.later (hb2.mono (Nat.le_of_eq HS.out.symm))
    clear hv2
    go_wp2_with fail
    go_ret
    exact ⟨by rw [HF.out]; first | done | rfl | simp, HB.out.trans (hb2.mono HB.out.size)⟩
  | true =>
    have HR := Lib.hid hr
    obtain ⟨g1, g2, g3, g4, _⟩ := right_log_pages hr
    by_cases h0 : p < 0
    · have HF := Lib.hid (show pageOf c p = -1 from if_neg (fun h => by have := h.2.1; omega))
      have h0b : decide (0 ≤ p) = false := decide_eq_false (by omega)
      clear hr
      go_enter Tryz.func231, Tryz.ntmps231
      go_wp2_with fail
      try rw [hW1]
      clear hW1
      try go_wp2_with fail
      refine (geomRight_calls HM.out.val).mono ?_
      rintro e w2 ⟨rfl, hb2⟩
      rw [HR.out]
      obtain ⟨b0, b1, b2, b3, b4, hv2⟩ := HM.out.later (hb2.mono (Nat.le_of_eq HS.out.symm))
      clear hv2
      go_wp2_with fail
      go_ret
      exact ⟨by rw [HF.out]; first | done | rfl | simp, HB.out.trans (hb2.mono HB.out.size)⟩
    by_cases h1 : c.pages ≤ p
    · have HF := Lib.hid (show pageOf c p = -1 from if_neg (fun h => by have := h.2.2; omega))
      have h0b : decide (0 ≤ p) = true := decide_eq_true (by omega)
      have h1b : decide (p < c.pages) = false := decide_eq_false (by omega)
      clear hr
      go_enter Tryz.func231, Tryz.ntmps231
      go_wp2_with fail
      try rw [hW1]
      clear hW1
      try go_wp2_with fail
      refine (geomRight_calls HM.out.val).mono ?_
      rintro e w2 ⟨rfl, hb2⟩
      rw [HR.out]
      obtain ⟨b0, b1, b2, b3, b4, hv2⟩ := HM.out.later (hb2.mono (Nat.le_of_eq HS.out.symm))
      clear hv2
      go_wp2_with fail
      go_ret
      exact ⟨by rw [HF.out]; first | done | rfl | simp, HB.out.trans (hb2.mono HB.out.size)⟩
    have HF := Lib.hid (show pageOf c p = 2 + c.log + p from if_pos ⟨hr, by omega, by omega⟩)
    have h0b : decide (0 ≤ p) = true := decide_eq_true (by omega)
    have h1b : decide (p < c.pages) = true := decide_eq_true (by omega)
    have q1 : IntKind.i64.wrap (2 + c.log) = 2 + c.log := IntWalk.i64_in _ ⟨by omega, by omega⟩
    have q2 : IntKind.i64.wrap (2 + c.log + p) = 2 + c.log + p := IntWalk.i64_in _ ⟨by omega, by omega⟩
    clear hr
    go_enter Tryz.func231, Tryz.ntmps231
    go_wp2_with fail
    try rw [hW1]
    clear hW1
    try go_wp2_with fail
    refine (geomRight_calls HM.out.val).mono ?_
    rintro e w2 ⟨rfl, hb2⟩
    rw [HR.out]
    obtain ⟨b0, b1, b2, b3, b4, hv2⟩ := HM.out.later (hb2.mono (Nat.le_of_eq HS.out.symm))
    clear hv2
    go_wp2_with fail
    go_ret
    exact ⟨by rw [HF.out]; first | done | rfl | simp, HB.out.trans (hb2.mono HB.out.size)⟩

set_option maxRecDepth 100000 in
set_option maxHeartbeats 2000000 in
/-- page.at -/
theorem pageAt_calls9 {Q : Nat → Prop} {w : World} {v : Value} {c : DConf} {p : Int} {P : Nat} (hx : rConf.val Q w v c) :
    Calls Tryz.prog 202 #[.pointer (some ⟨P, 0, none⟩), v, .int .i64 p] w fun e w' => e = .returned (.tuple #[.int .i64 (if pageOf c p < 0 then 0 else pageOf c p), .int .i64 (if pageOf c p < 0 then 2 else 0)]) ∧ Below w.heap.size w w' := by
  obtain ⟨A, cap, rfl, _⟩ := rConf_val hx
  have hm := InBox.made hx 34
  have hbel : Below w.heap.size w (w.alloc (.cells #[.int .i64 c.log, .int .i64 c.pages, .int .i64 c.entities, .int .i64 c.gens, .slice A c.comps.length cap] 34)) := (Below.refl _ _).alloc (Nat.le_refl _) _
  have hsz : (w.alloc (.cells #[.int .i64 c.log, .int .i64 c.pages, .int .i64 c.entities, .int .i64 c.gens, .slice A c.comps.length cap] 34)).heap.size = w.heap.size + 1 := by simp
  generalize hW1 : w.alloc (.cells #[.int .i64 c.log, .int .i64 c.pages, .int .i64 c.entities, .int .i64 c.gens, .slice A c.comps.length cap] 34) = W1 at *
  have HM := Lib.hid hm
  have HB := Lib.hid hbel
  have HS := Lib.hid hsz
  obtain ⟨a0, a1, a2, a3, a4, _⟩ := hm
  clear hx hbel hsz
  obtain ⟨n, hn⟩ : ∃ n, n = pageOf c p := ⟨_, rfl⟩
  rw [← hn]
  have HN := Lib.hid hn
  clear hn
  by_cases h : n < 0
  · rw [if_pos h, if_pos h]
    go_enter Tryz.func202, Tryz.ntmps202
    go_wp2_with fail
    try rw [hW1]
    clear hW1
    try go_wp2_with fail
    refine (geomPage_calls (p := p) HM.out.val).mono ?_
    rintro e w2 ⟨rfl, hb2⟩
    rw [← HN.out]
    go_wp2_with fail
    go_ret2
    exact ⟨rfl, HB.out.trans (hb2.mono HB.out.size)⟩
  · rw [if_neg h, if_neg h]
    go_enter Tryz.func202, Tryz.ntmps202
    go_wp2_with fail
    try rw [hW1]
    clear hW1
    try go_wp2_with fail
    refine (geomPage_calls (p := p) HM.out.val).mono ?_
    rintro e w2 ⟨rfl, hb2⟩
    rw [← HN.out]
    go_wp2_with fail
    go_ret2
    exact ⟨rfl, HB.out.trans (hb2.mono HB.out.size)⟩

end Go.Proofs.YtghbfbohnoebiaaGreat
