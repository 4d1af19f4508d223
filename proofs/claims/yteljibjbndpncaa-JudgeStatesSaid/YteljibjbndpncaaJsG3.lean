/- Texts on which the proofs stand: RRight, PutConf, NumMath, Reader, DirMath, SealMath, Count, Most, CmdCheck, FrameCheck, Sector, Seal, Same, Entries, RDirGet, DirGet, SealGet, Disk, Region. No condition is laid on any input. -/
import Derived.Test.YteljibjbndpncaaJsG2
import Derived.StillTailTactics
import Derived.Deep.RegionWith
import Derived.Laws.CopyOwn
import Derived.Deep.WholeRow
import Derived.Deep.RegionLaw
import Derived.Deep.MidRow
import Derived.OwnWalk
import Derived.Stop.BytesEq
import Derived.Laws.BitsAllLaws
import Derived.Deep.RegionHeld
import Derived.Laws.Cover3
import Derived.Maps.OwnSet
import Derived.RangeFuncNested
import Derived.RangeFuncBound
import Derived.RangeFuncCalls
import Derived.RangeFuncLeaves
import Derived.RangeFuncBox
import Derived.Orders
import Derived.OrdersIn
namespace Go.Proofs.Yteljibjbndpncaa
open Go.RowKit

set_option maxRecDepth 100000 in
set_option maxHeartbeats 8000000 in
/-- ref07.Right -/
theorem right_calls {Q : Nat → Prop} {w : World} {v : Value} {c : DConf} (hx : rConf.val Q w v c) :
    Calls Try.prog 21 #[v] w fun e w' => e = .returned (.bool (confRight c)) ∧ Below w.heap.size w w' := by
  obtain ⟨A, cap, rfl, f0, f1, f2, f3, hc1, hc2, hA⟩ := rConf_val hx
  unfold maxLen at hc2
  have hlen : (c.comps.length : Int) ≤ 9223372036854775807 := by omega
  have HX := Lib.hid hA
  clear hx hA
  by_cases a0 : c.log < 2
  · have HF := Lib.hid (show confRight c = false by
      have : confRange c = false := by
        rw [Bool.eq_false_iff]
        simp only [confRange, withinB, ne_eq, Bool.and_eq_true, decide_eq_true_eq]
        omega
      unfold confRight; rw [this, Bool.false_and])
    go_enter Try.func21, Try.ntmps21
    go_wp2_with fail
    go_ret
    exact ⟨by rw [HF.out]; rfl, (Below.refl _ _).alloc (Nat.le_refl _) _⟩
  by_cases a1 : 1024 < c.log
  · have HF := Lib.hid (show confRight c = false by
      have : confRange c = false := by
        rw [Bool.eq_false_iff]
        simp only [confRange, withinB, ne_eq, Bool.and_eq_true, decide_eq_true_eq]
        omega
      unfold confRight; rw [this, Bool.false_and])
    go_enter Try.func21, Try.ntmps21
    go_wp2_with fail
    go_ret
    exact ⟨by rw [HF.out]; rfl, (Below.refl _ _).alloc (Nat.le_refl _) _⟩
  by_cases a2 : c.pages < 4
  · have HF := Lib.hid (show confRight c = false by
      have : confRange c = false := by
        rw [Bool.eq_false_iff]
        simp only [confRange, withinB, ne_eq, Bool.and_eq_true, decide_eq_true_eq]
        omega
      unfold confRight; rw [this, Bool.false_and])
    go_enter Try.func21, Try.ntmps21
    go_wp2_with fail
    go_ret
    exact ⟨by rw [HF.out]; rfl, (Below.refl _ _).alloc (Nat.le_refl _) _⟩
  by_cases a3 : 1024 < c.pages
  · have HF := Lib.hid (show confRight c = false by
      have : confRange c = false := by
        rw [Bool.eq_false_iff]
        simp only [confRange, withinB, ne_eq, Bool.and_eq_true, decide_eq_true_eq]
        omega
      unfold confRight; rw [this, Bool.false_and])
    go_enter Try.func21, Try.ntmps21
    go_wp2_with fail
    go_ret
    exact ⟨by rw [HF.out]; rfl, (Below.refl _ _).alloc (Nat.le_refl _) _⟩
  by_cases a4 : c.entities < 1
  · have HF := Lib.hid (show confRight c = false by
      have : confRange c = false := by
        rw [Bool.eq_false_iff]
        simp only [confRange, withinB, ne_eq, Bool.and_eq_true, decide_eq_true_eq]
        omega
      unfold confRight; rw [this, Bool.false_and])
    go_enter Try.func21, Try.ntmps21
    go_wp2_with fail
    go_ret
    exact ⟨by rw [HF.out]; rfl, (Below.refl _ _).alloc (Nat.le_refl _) _⟩
  by_cases a5 : 1024 < c.entities
  · have HF := Lib.hid (show confRight c = false by
      have : confRange c = false := by
        rw [Bool.eq_false_iff]
        simp only [confRange, withinB, ne_eq, Bool.and_eq_true, decide_eq_true_eq]
        omega
      unfold confRight; rw [this, Bool.false_and])
    go_enter Try.func21, Try.ntmps21
    go_wp2_with fail
    go_ret
    exact ⟨by rw [HF.out]; rfl, (Below.refl _ _).alloc (Nat.le_refl _) _⟩
  by_cases a6 : c.gens < 1
  · have HF := Lib.hid (show confRight c = false by
      have : confRange c = false := by
        rw [Bool.eq_false_iff]
        simp only [confRange, withinB, ne_eq, Bool.and_eq_true, decide_eq_true_eq]
        omega
      unfold confRight; rw [this, Bool.false_and])
    go_enter Try.func21, Try.ntmps21
    go_wp2_with fail
    go_ret
    exact ⟨by rw [HF.out]; rfl, (Below.refl _ _).alloc (Nat.le_refl _) _⟩
  by_cases a7 : 1073741824 < c.gens
  · have HF := Lib.hid (show confRight c = false by
      have : confRange c = false := by
        rw [Bool.eq_false_iff]
        simp only [confRange, withinB, ne_eq, Bool.and_eq_true, decide_eq_true_eq]
        omega
      unfold confRight; rw [this, Bool.false_and])
    go_enter Try.func21, Try.ntmps21
    go_wp2_with fail
    go_ret
    exact ⟨by rw [HF.out]; rfl, (Below.refl _ _).alloc (Nat.le_refl _) _⟩
  by_cases a8 : (32 : Int) < c.comps.length
  · have HF := Lib.hid (show confRight c = false by
      have : confRange c = false := by
        rw [Bool.eq_false_iff]
        simp only [confRange, withinB, ne_eq, Bool.and_eq_true, decide_eq_true_eq]
        omega
      unfold confRight; rw [this, Bool.false_and])
    go_enter Try.func21, Try.ntmps21
    go_wp2_with fail
    go_ret
    exact ⟨by rw [HF.out]; rfl, (Below.refl _ _).alloc (Nat.le_refl _) _⟩
  have HR := Lib.hid (show confRight c = (List.range c.comps.length).all (compOk c.comps) by
    have : confRange c = true := by
      simp only [confRange, withinB, Bool.and_eq_true, decide_eq_true_eq]
      omega
    unfold confRight; rw [this, Bool.true_and])
  obtain ⟨W1, hW1⟩ : ∃ W1, w.alloc (.cells #[.int .i64 c.log, .int .i64 c.pages, .int .i64 c.entities, .int .i64 c.gens, .slice A c.comps.length cap] 49) = W1 := ⟨_, rfl⟩
  have hbel : Below w.heap.size w W1 := by rw [← hW1]; exact (Below.refl _ _).alloc (Nat.le_refl _) _
  have hsz : W1.heap.size = w.heap.size + 1 := by rw [← hW1]; simp
  have e0 : W1.cell? ⟨w.heap.size, 0, none⟩ = some (.int .i64 c.log) := by rw [← hW1]; simp
  have e1 : W1.cell? ⟨w.heap.size, 1, none⟩ = some (.int .i64 c.pages) := by rw [← hW1]; simp
  have e2 : W1.cell? ⟨w.heap.size, 2, none⟩ = some (.int .i64 c.entities) := by rw [← hW1]; simp
  have e3 : W1.cell? ⟨w.heap.size, 3, none⟩ = some (.int .i64 c.gens) := by rw [← hW1]; simp
  have e4 : W1.cell? ⟨w.heap.size, 4, none⟩ = some (.slice A c.comps.length cap) := by rw [← hW1]; simp
  go_enter Try.func21, Try.ntmps21
  go_wp2_with fail
  try rw [hW1]
  clear hW1
  go_wp2_with fail
  go_loopw [3] (fun i wr => ∃ k : Nat, i = .int .i64 k ∧ k ≤ c.comps.length ∧ Hid ((List.range k).all (compOk c.comps) = true) ∧ Below (w.heap.size + 1) W1 wr)
    (fun i _ => c.comps.length - (intOf i).toNat)
  case atStart => exact ⟨0, rfl, by omega, rfl, Below.refl _ _⟩
  case round =>
    obtain ⟨k, rfl, hk, hall, hb1⟩ := hrel
    have E0 := (hb1.cell (p := ⟨w.heap.size, 0, none⟩) (Nat.lt_succ_self _)).trans e0
    have E1 := (hb1.cell (p := ⟨w.heap.size, 1, none⟩) (Nat.lt_succ_self _)).trans e1
    have E2 := (hb1.cell (p := ⟨w.heap.size, 2, none⟩) (Nat.lt_succ_self _)).trans e2
    have E3 := (hb1.cell (p := ⟨w.heap.size, 3, none⟩) (Nat.lt_succ_self _)).trans e3
    have E4 := (hb1.cell (p := ⟨w.heap.size, 4, none⟩) (Nat.lt_succ_self _)).trans e4
    have hb0 : Below w.heap.size w wr := hbel.trans (hb1.mono (by omega))
    have HB1 := Lib.hid hb1
    clear hb1
    by_cases hlt : (k : Int) < c.comps.length
    · have hk' : k < c.comps.length := by omega
      have hAw : rComp.At (fun b => b < w.heap.size) wr A c.comps := Rep.At.keep (w := w) (fun b _ hb => ⟨hb.lt, hb0.block b hb.lt⟩) HX.out
      obtain ⟨b, off, rfl, hb, cx0, cx1, g0, g1⟩ := rComp_at hAw (List.getElem?_eq_getElem hk')
      generalize hxx : c.comps[k] = x at *
      have HXX := Lib.hid hxx
      have HV := Lib.hid (show ∀ W, Below wr.heap.size wr W → rConf.val (fun _ => True) W (.agg #[.int .i64 c.log, .int .i64 c.pages, .int .i64 c.entities, .int .i64 c.gens, .slice (some ⟨b, off, none⟩) c.comps.length cap]) c from
        fun W hW => rConf_agg f0 f1 f2 f3 ⟨hc1, by unfold maxLen; omega, hAw.keep (w := wr) (w' := W) fun b _ hb => ⟨trivial, hW.block b hb.lt⟩⟩)
      have hl : w.heap.size < wr.heap.size := by have := HB1.out.size; omega
      have hbl := hb.lt
      clear hxx hAw
      go_wp2_with fail
      go_region_held3 (fun w' => w'.cell? ⟨w.heap.size, 0, none⟩ = some (.int .i64 c.log) ∧ w'.cell? ⟨w.heap.size, 1, none⟩ = some (.int .i64 c.pages) ∧ w'.cell? ⟨w.heap.size, 2, none⟩ = some (.int .i64 c.entities) ∧ w'.cell? ⟨w.heap.size, 3, none⟩ = some (.int .i64 c.gens) ∧ w'.cell? ⟨w.heap.size, 4, none⟩ = some (.slice (some ⟨b, off, none⟩) c.comps.length cap) ∧ w'.cell? ⟨b, off + k * 2, none⟩ = some (.string ⟨x.name.toArray⟩) ∧ Below wr.heap.size wr w')
        (first
          | exact ⟨E0, E1, E2, E3, E4, cx0, (Below.refl _ _).drew⟩
          | exact ⟨(hbf.cell (p := ⟨w.heap.size, 0, none⟩) hl).trans E0, (hbf.cell (p := ⟨w.heap.size, 1, none⟩) hl).trans E1, (hbf.cell (p := ⟨w.heap.size, 2, none⟩) hl).trans E2, (hbf.cell (p := ⟨w.heap.size, 3, none⟩) hl).trans E3, (hbf.cell (p := ⟨w.heap.size, 4, none⟩) hl).trans E4, (hbf.cell (p := ⟨b, off + k * 2, none⟩) hbl).trans cx0, (Below.refl wr.heap.size wr).drew.trans hbf⟩)
        (first | (go_at_call 55; refine (find_calls (HV.out _ ((Below.refl _ _).drew))).mono ?_; rintro e w' ⟨hbf, i, bb, rfl, hfr⟩))
      rename_i hHeld
      have hW : Below wr.heap.size wr w' := (Below.refl wr.heap.size wr).drew.trans hbf
      have F4 := (hW.cell (p := ⟨w.heap.size, 4, none⟩) hl).trans E4
      have G0 := (hW.cell (p := ⟨b, off + k * 2, none⟩) hbl).trans cx0
      have G1 := (hW.cell (p := ⟨b, off + k * 2 + 1, none⟩) hbl).trans cx1
      have HBW := Lib.hid (HB1.out.trans (hW.mono (by omega)))
      clear hbf hHeld hW E0 E1 E2 E3 E4 cx0 cx1
      rcases hfr with ⟨rfl, hpre, hi, hname⟩ | ⟨_, hno⟩
      · have hik : i ≤ k := by
          rcases Nat.lt_or_ge k i with h | h
          · have hm : x ∈ c.comps.take i := by rw [← HXX.out]; exact List.mem_take_iff_getElem.2 ⟨k, by omega, rfl⟩
            have := List.all_eq_true.1 hpre x hm
            simp at this
          · exact h
        rcases Nat.lt_or_ge i k with hlt2 | hge2
        · have HF := Lib.hid (show confRight c = false by rw [HR.out]; exact range_not_all hk' (compOk_dup hlt2 hk' HXX.out hi rfl hname))
          have hne : ((i : Int) != (k : Int)) = true := by simp; omega
          clear hpre hname hi
          go_wp2_with fail
          go_ret
          exact ⟨by rw [HF.out]; rfl, hbel.trans (HBW.out.mono (by omega))⟩
        · obtain rfl : i = k := by omega
          have hcomp : compOk c.comps i = (nameB x.name && withinB x.size 0 64) := by
            unfold compOk
            rw [List.getElem?_eq_getElem hk', HXX.out]
            simp only [hpre, Bool.true_and]
          have hne : ((i : Int) != (i : Int)) = false := by simp
          clear hpre hname hi hge2
          cases hn : nameB x.name with
          | false =>
            have HN := Lib.hid hn
            have HF := Lib.hid (show confRight c = false by rw [HR.out]; exact range_not_all hk' (by rw [hcomp, hn]; rfl))
            clear hn hcomp
            go_wp2_with (go_at_call 56; refine (rname_calls _ _ g0).mono ?_; rintro e w2 ⟨rfl, nd, rfl⟩; rw [HN.out])
            go_ret
            exact ⟨by rw [HF.out]; rfl, below_drewN (hbel.trans (HBW.out.mono (by omega))) _⟩
          | true =>
            have HN := Lib.hid hn
            by_cases s0 : x.size < 0
            · have HF := Lib.hid (show confRight c = false by rw [HR.out]; exact range_not_all hk' (by rw [hcomp, hn]; simp [withinB]; omega))
              clear hn hcomp
              go_wp2_with (go_at_call 56; refine (rname_calls _ _ g0).mono ?_; rintro e w2 ⟨rfl, nd, rfl⟩; rw [HN.out])
              go_ret
              exact ⟨by rw [HF.out]; rfl, below_drewN (hbel.trans (HBW.out.mono (by omega))) _⟩
            by_cases s1 : 64 < x.size
            · have HF := Lib.hid (show confRight c = false by rw [HR.out]; exact range_not_all hk' (by rw [hcomp, hn]; simp [withinB]; omega))
              clear hn hcomp
              go_wp2_with (go_at_call 56; refine (rname_calls _ _ g0).mono ?_; rintro e w2 ⟨rfl, nd, rfl⟩; rw [HN.out])
              go_ret
              exact ⟨by rw [HF.out]; rfl, below_drewN (hbel.trans (HBW.out.mono (by omega))) _⟩
            have HA := Lib.hid (range_all_succ hall (by rw [hcomp, hn]; simp [withinB]; omega))
            clear hn hcomp
            go_wp2_with (go_at_call 56; refine (rname_calls _ _ g0).mono ?_; rintro e w2 ⟨rfl, nd, rfl⟩; rw [HN.out])
            exact ⟨⟨i + 1, by go_num, by omega, HA, below_drewN HBW.out _⟩, by simp [intOf]; omega⟩
      · exfalso
        have hm : x ∈ c.comps := by rw [← HXX.out]; exact List.getElem_mem hk'
        have := List.all_eq_true.1 hno x hm
        simp at this
    · obtain rfl : k = c.comps.length := by omega
      have HF := Lib.hid (show confRight c = true by rw [HR.out]; exact hall.out)
      clear hall
      go_wp2_with fail
      go_ret
      exact ⟨by rw [HF.out]; rfl, hb0⟩
end Go.Proofs.Yteljibjbndpncaa
namespace Go.Proofs.Yteljibjbndpncaa
open Go.RowKit

/-- 'append(s, xs...)' of values without blocks of their own, as0 a step of a region that draws its order. -/
theorem step_spread_leaf {α : Type} {r : Rep α} {e base : Nat} {Q Q' : Nat → Prop} {P : Program} {w : World} {ops : Array Oper} {o : Oper} {a : Act} {K : Act → World → Prop} {R : Exit → Act → World → Prop} {E : Prop} (hleaf : r.Leaf) (hg : o.guard = none) (s x : Operand) (t : TypeId)
    (ho : o.op = .call { callee := .builtin .append, args := #[s, x], argTypes := #[t, t] })
    (z : Value) (size bytes : Nat) (ht : P.underlying t = some (.slice e)) (hi : (P.info? e).map (fun i => (i.zero, i.size, i.bytes)) = some (some z, size, bytes)) (hzs : z.cells.size = size) (hsz : 0 < size)
    (hr : r.size = size) (v : Value) (xs : List α) (hs : a.eval s = v) (h : r.acc e base Q w v xs) (u : Value) (ys : List α) (hx : a.eval x = u) (hy : r.list.val Q' w u ys)
    (h63 : xs.length + ys.length ≤ maxLen) (hbytes : (xs.length + ys.length) * bytes ≤ 140737488355328) (hbase : base ≤ w.heap.size)
    (H : ∀ v' w', r.acc e base Q w' v' (xs ++ ys) → w.grownBy w' v.ownBlock → (v'.ownBlock = v.ownBlock ∨ v'.ownBlock = some w.heap.size) → K (a.put o.dst v') w') :
    if Region.wanted o (yielded ops a.tmps) = true then Oper.wp P o a w K R else E := by
  have hw : Region.wanted o (yielded ops a.tmps) = true := by simp [Region.wanted, hg]
  rw [if_pos hw]
  obtain ⟨A, c, rfl, h1, h2, es, h3, h4⟩ := Rep.val_list hy
  obtain ⟨v', w', q1, q2, q3, q4⟩ := Rep.acc_more (P := P) (ty := o.type) (c := c) ht hi hzs hsz hr h rfl (Rep.row_leaf hleaf h3)
    (fun hn => by obtain ⟨b, off, q1, _, _, q2⟩ := h4 hn; exact ⟨b, off, q1, q2⟩) h63 hbytes hbase
  unfold Oper.wp execOp
  simp only [ho, resolve, invoke, builtin, Sem.run_bind, Sem.run_pure, Result.andThen_ok, List.map_toArray, List.map_cons, List.map_nil, hs, hx, q1]
  exact H v' w' q2 q3 q4

theorem wf1 : (Lit.int .i64 1).wf = true := rfl

end Go.Proofs.Yteljibjbndpncaa
namespace Go.Proofs.Yteljibjbndpncaa
open Go.RowKit

/-- The number that bytes are, the lowest first. -/
def leNat : List UInt8 → Nat
  | [] => 0
  | c :: l => c.toNat + 256 * leNat l
end Go.Proofs.Yteljibjbndpncaa
namespace Go.Proofs.Yteljibjbndpncaa
open Go.RowKit

/-- A reader lies in block p: over the bytes b, at a place; whether something was not there. -/
structure RdrAt (w : World) (p : Nat) (A : Option Addr) (c : Nat) (b : List UInt8) (at_ : Nat) (bad : Bool) : Prop where
  blk : w.heap[p]? = some (.cells #[.slice A b.length c, .int .i64 at_, .bool bad] 214 (0, 0))
  sl : Rep.byte.Sl (fun x => x < p) w A c b
  le : at_ ≤ b.length
theorem RdrAt.c0 {w : World} {p : Nat} {A : Option Addr} {c : Nat} {b : List UInt8} {at_ : Nat} {bad : Bool} (h : RdrAt w p A c b at_ bad) : w.cell? ⟨p, 0, none⟩ = some (.slice A b.length c) := by simp [World.cell?, h.blk]
theorem RdrAt.c1 {w : World} {p : Nat} {A : Option Addr} {c : Nat} {b : List UInt8} {at_ : Nat} {bad : Bool} (h : RdrAt w p A c b at_ bad) : w.cell? ⟨p, 1, none⟩ = some (.int .i64 at_) := by simp [World.cell?, h.blk]
theorem RdrAt.c2 {w : World} {p : Nat} {A : Option Addr} {c : Nat} {b : List UInt8} {at_ : Nat} {bad : Bool} (h : RdrAt w p A c b at_ bad) : w.cell? ⟨p, 2, none⟩ = some (.bool bad) := by simp [World.cell?, h.blk]
theorem RdrAt.z {w : World} {p : Nat} {A : Option Addr} {c : Nat} {b : List UInt8} {at_ : Nat} {bad : Bool} (h : RdrAt w p A c b at_ bad) (i : Nat) : w.frozen? ⟨p, i, none⟩ = false := by simp [World.frozen?, h.blk]
theorem RdrAt.keep {w w' : World} {p : Nat} {A : Option Addr} {c : Nat} {b : List UInt8} {at_ : Nat} {bad : Bool} (h : RdrAt w p A c b at_ bad) (hk : ∀ x, IsC w x → w'.heap[x]? = w.heap[x]?) : RdrAt w' p A c b at_ bad :=
  ⟨(hk p ⟨_, _, _, h.blk⟩).trans h.blk, h.sl.keep fun x hx hl => ⟨hx, hk x hl⟩, h.le⟩
theorem RdrAt.drewN {w : World} {p : Nat} {A : Option Addr} {c : Nat} {b : List UInt8} {at_ : Nat} {bad : Bool} (h : RdrAt w p A c b at_ bad) (n : Nat) : RdrAt (w.drewN n) p A c b at_ bad := h.keep (w' := w.drewN n) fun _ _ => rfl
theorem RdrAt.lt {w : World} {p : Nat} {A : Option Addr} {c : Nat} {b : List UInt8} {at_ : Nat} {bad : Bool} (h : RdrAt w p A c b at_ bad) : p < w.heap.size := IsC.lt ⟨_, _, _, h.blk⟩

theorem heap_setRow {w : World} {b i e : Nat} {cs : Array Value} {v : Value} {f : Nat × Nat} (h : w.heap[b]? = some (.cells cs e f)) : (w.setCell ⟨b, i, none⟩ v).heap[b]? = some (.cells (cs.setIfInBounds i v) e f) := by
  simp [World.setCell, Array.getElem?_modify, h]
end Go.Proofs.Yteljibjbndpncaa
namespace Go.Proofs.Yteljibjbndpncaa
open Go.RowKit

/-- The number at a place, of so many bytes. -/
def natAt (b : List UInt8) (at_ w : Nat) : Nat := leNat ((b.drop at_).take w)
theorem wide_small {w : Nat} (h1 : 1 ≤ w) (h8 : w ≤ 8) : wide (w : Int) = w := by
  unfold wide; rw [if_neg (by omega), if_neg (by omega)]
end Go.Proofs.Yteljibjbndpncaa
namespace Go.Proofs.Yteljibjbndpncaa
open Go.RowKit

theorem digit_nat (n k : Nat) : (digit (n : Int) k).toNat = n / 256 ^ k % 256 := by
  have e : ((n : Int) / 2 ^ (8 * k) % 256) = ((n / 256 ^ k % 256 : Nat) : Int) := by
    have e2 : (2 : Int) ^ (8 * k) = ((256 ^ k : Nat) : Int) := by rw [Int.natCast_pow, Int.pow_mul]; rfl
    rw [e2]; rfl
  unfold digit
  rw [e]
  have h : n / 256 ^ k % 256 < 256 := Nat.mod_lt _ (by decide)
  rw [Int.toNat_natCast, UInt8.toNat_ofNat']
  exact Nat.mod_eq_of_lt h
theorem leNat_digits (n : Nat) : ∀ len k, leNat ((List.range' k len).map (digit (n : Int))) = n / 256 ^ k % 256 ^ len
  | 0, k => by simp [leNat, Nat.mod_one]
  | len + 1, k => by
    rw [List.range'_succ, List.map_cons]
    show (digit (n : Int) k).toNat + 256 * leNat _ = _
    rw [leNat_digits n len (k + 1), digit_nat, Nat.pow_succ 256 len, Nat.mul_comm (256 ^ len) 256, Nat.mod_mul, Nat.pow_succ 256 k, ← Nat.div_div_eq_div_mul]
theorem leNat_num {n w : Nat} (h1 : 1 ≤ w) (h8 : w ≤ 8) (h : n < 256 ^ w) : leNat (num (w : Int) (n : Int)) = n := by
  unfold num
  rw [wide_small h1 h8, List.range_eq_range']
  show leNat ((List.range' 0 w).map _) = n
  rw [leNat_digits]
  simp
  exact Nat.mod_eq_of_lt h
theorem num_len {w : Nat} (h1 : 1 ≤ w) (h8 : w ≤ 8) (n : Int) : (num (w : Int) n).length = w := by
  unfold num
  rw [wide_small h1 h8]; simp
/-- A number, read where it was put. -/
theorem natAt_num {A C : List UInt8} {a n w : Nat} (ha : A.length = a) (h1 : 1 ≤ w) (h8 : w ≤ 8) (h : n < 256 ^ w) : natAt (A ++ (num (w : Int) (n : Int) ++ C)) a w = n := by
  unfold natAt
  rw [← ha, List.drop_left, List.take_append_of_le_length (by rw [num_len h1 h8]; exact Nat.le_refl _), List.take_of_length_le (by rw [num_len h1 h8]; exact Nat.le_refl _)]
  exact leNat_num h1 h8 h

end Go.Proofs.Yteljibjbndpncaa
namespace Go.Proofs.Yteljibjbndpncaa
open Go.RowKit

theorem right_facts {c : DConf} (h : confRight c = true) : (2 ≤ c.log ∧ c.log ≤ 1024 ∧ 4 ≤ c.pages ∧ c.pages ≤ 1024 ∧ 1 ≤ c.entities ∧ c.entities ≤ 1024 ∧ 1 ≤ c.gens ∧ c.gens ≤ 1073741824 ∧ c.comps.length ≤ 32) ∧
    ∀ (k : Nat) (hk : k < c.comps.length), 0 ≤ c.comps[k].size ∧ c.comps[k].size ≤ 64 ∧ c.comps[k].name.length ≤ 16 := by
  simp only [confRight, Bool.and_eq_true] at h
  obtain ⟨h1, h2⟩ := h
  refine ⟨?_, fun k hk => ?_⟩
  · simp only [confRange, withinB, Bool.and_eq_true, decide_eq_true_eq] at h1; omega
  · have h3 := List.all_eq_true.1 h2 k (List.mem_range.2 hk)
    unfold compOk at h3
    rw [List.getElem?_eq_getElem hk] at h3
    simp only [Bool.and_eq_true] at h3
    obtain ⟨⟨_, h4⟩, h5⟩ := h3
    simp only [withinB, decide_eq_true_eq] at h5
    simp only [nameB, Bool.and_eq_true, decide_eq_true_eq] at h4
    exact ⟨h5.1, h5.2, h4.1.2⟩

end Go.Proofs.Yteljibjbndpncaa
namespace Go.Proofs.Yteljibjbndpncaa
open Go.RowKit

/-- A layout in a box, and what reads it. -/
structure InBox (W : World) (B : Nat) (c : DConf) (A : Option Addr) (cap : Nat) : Prop where
  c0 : W.cell? ⟨B, 0, none⟩ = some (.int .i64 c.log)
  c1 : W.cell? ⟨B, 1, none⟩ = some (.int .i64 c.pages)
  c2 : W.cell? ⟨B, 2, none⟩ = some (.int .i64 c.entities)
  c3 : W.cell? ⟨B, 3, none⟩ = some (.int .i64 c.gens)
  c4 : W.cell? ⟨B, 4, none⟩ = some (.slice A c.comps.length cap)
  val : rConf.val (fun b => b < B) W (.agg #[.int .i64 c.log, .int .i64 c.pages, .int .i64 c.entities, .int .i64 c.gens, .slice A c.comps.length cap]) c
theorem InBox.later {W W' : World} {B : Nat} {c : DConf} {A : Option Addr} {cap : Nat} (h : InBox W B c A cap) (hb : Below (B + 1) W W') : InBox W' B c A cap :=
  ⟨(hb.cell (p := ⟨B, 0, none⟩) (Nat.lt_succ_self _)).trans h.c0, (hb.cell (p := ⟨B, 1, none⟩) (Nat.lt_succ_self _)).trans h.c1, (hb.cell (p := ⟨B, 2, none⟩) (Nat.lt_succ_self _)).trans h.c2,
   (hb.cell (p := ⟨B, 3, none⟩) (Nat.lt_succ_self _)).trans h.c3, (hb.cell (p := ⟨B, 4, none⟩) (Nat.lt_succ_self _)).trans h.c4, Rep.val_keep (fun b hq _ => ⟨hq, hb.block b (by omega)⟩) h.val⟩
end Go.Proofs.Yteljibjbndpncaa
namespace Go.Proofs.Yteljibjbndpncaa
open Go.RowKit

/-- A command in a box. -/
structure CmdBox (W : World) (B : Nat) (x : DCmd) (A : Option Addr) (c : Nat) : Prop where
  c0 : W.cell? ⟨B, 0, none⟩ = some (.int .i64 x.kind)
  c1 : W.cell? ⟨B, 1, none⟩ = some (.bool x.loc)
  c2 : W.cell? ⟨B, 2, none⟩ = some (.int .i64 x.id.index)
  c3 : W.cell? ⟨B, 3, none⟩ = some (.int .i64 x.id.gen)
  c4 : W.cell? ⟨B, 4, none⟩ = some (.int .i64 x.comp)
  c5 : W.cell? ⟨B, 5, none⟩ = some (.slice A x.data.length c)
  val : rCmd.val (fun b => b < B) W (.agg #[.int .i64 x.kind, .bool x.loc, .int .i64 x.id.index, .int .i64 x.id.gen, .int .i64 x.comp, .slice A x.data.length c]) x
theorem CmdBox.later {W W' : World} {B : Nat} {x : DCmd} {A : Option Addr} {c : Nat} (h : CmdBox W B x A c) (hb : Below (B + 1) W W') : CmdBox W' B x A c :=
  ⟨(hb.cell (p := ⟨B, 0, none⟩) (Nat.lt_succ_self _)).trans h.c0, (hb.cell (p := ⟨B, 1, none⟩) (Nat.lt_succ_self _)).trans h.c1, (hb.cell (p := ⟨B, 2, none⟩) (Nat.lt_succ_self _)).trans h.c2,
   (hb.cell (p := ⟨B, 3, none⟩) (Nat.lt_succ_self _)).trans h.c3, (hb.cell (p := ⟨B, 4, none⟩) (Nat.lt_succ_self _)).trans h.c4, (hb.cell (p := ⟨B, 5, none⟩) (Nat.lt_succ_self _)).trans h.c5, Rep.val_keep (fun b hq _ => ⟨hq, hb.block b (by omega)⟩) h.val⟩
end Go.Proofs.Yteljibjbndpncaa
namespace Go.Proofs.Yteljibjbndpncaa
open Go.RowKit

def MuchCmds (w : World) (l : List DCmd) (e : Ending) (w' : World) : Prop := ∃ r : Bool, e = .returned (.bool r) ∧ (r = false → l.length ≤ 70) ∧ w' = w
set_option maxRecDepth 100000 in
/-- ref13.Much -/
theorem muchCmds_calls {Q : Nat → Prop} {w : World} {v : Value} {l : List DCmd} (hx : rCmd.list.val Q w v l) :
    Calls Try.prog 25 #[v] w (MuchCmds w l) := by
  obtain ⟨A, c, rfl, hc1, hc2, hA⟩ := Rep.val_list hx
  unfold maxLen at hc2
  have HA := Lib.hid hA
  clear hx hA
  go_enter Try.func25, Try.ntmps25
  go_wp2_with fail
  go_loop [3] (fun i => ∃ k : Nat, i = .int .i64 k ∧ k ≤ l.length ∧ k ≤ 100) (fun i => l.length - (intOf i).toNat)
  case atStart => exact ⟨0, rfl, by omega, by omega⟩
  case round =>
    obtain ⟨k, rfl, hk, hk5⟩ := hrel
    by_cases hlt : (k : Int) < l.length
    · by_cases h50 : (k : Int) < 100
      · have hk' : k < l.length := by omega
        obtain ⟨b, off, A6, c6, rfl, _, d0, d1, d2, d3, d4, d5, _, _, _, _, sp⟩ := rCmd_at HA.out (List.getElem?_eq_getElem hk')
        have hp1 := sp.1
        have hp2 := sp.2.1
        unfold maxLen at hp2
        generalize l[k] = x at *
        clear sp
        by_cases h2 : (200 : Int) < x.data.length
        · go_wp2_with fail
          go_ret
          exact ⟨true, rfl, (fun h => (by cases h)), rfl⟩
        · go_wp2_with fail
          go_round
          case rel => exact ⟨k + 1, by go_num, by omega, by omega⟩
          case measure => simp [intOf]; omega
      · have h20 : (70 : Int) < l.length := by omega
        go_wp2_with fail
        go_ret
        exact ⟨true, rfl, (fun h => (by cases h)), rfl⟩
    · by_cases h20 : (70 : Int) < l.length
      · go_wp2_with fail
        go_ret
        exact ⟨true, rfl, (fun h => (by cases h)), rfl⟩
      · go_wp2_with fail
        go_ret
        exact ⟨false, rfl, fun _ => by omega, rfl⟩

end Go.Proofs.Yteljibjbndpncaa
namespace Go.Proofs.Yteljibjbndpncaa
open Go.RowKit
open Extern.Stop (cell)

theorem cells_of (l : List UInt8) : (l.map fun x => Value.int .u8 (x.toNat : Int)) = l.map cell := rfl
/-- Block S holds the bytes L. -/
structure SecAt (w : World) (S : Nat) (t : TypeId) (L : List UInt8) : Prop where
  blk : w.heap[S]? = some (.cells (L.map cell).toArray t (0, 0))
  len : L.length = 512
theorem SecAt.lt {w : World} {S : Nat} {t : TypeId} {L : List UInt8} (h : SecAt w S t L) : S < w.heap.size := IsC.lt ⟨_, _, _, h.blk⟩
theorem SecAt.keep {w w' : World} {S : Nat} {t : TypeId} {L : List UInt8} (h : SecAt w S t L) (hk : w'.heap[S]? = w.heap[S]?) : SecAt w' S t L := ⟨hk.trans h.blk, h.len⟩
theorem SecAt.below {w w' : World} {S : Nat} {t : TypeId} {L : List UInt8} (h : SecAt w S t L) (hb : Below w.heap.size w w') : SecAt w' S t L := h.keep (hb.block S h.lt)
theorem SecAt.sl {w : World} {S : Nat} {t : TypeId} {L : List UInt8} (h : SecAt w S t L) {a n c : Nat} (hn : a + n ≤ 512) (hc : n ≤ c) (hm : c ≤ maxLen) :
    Rep.byte.list.val (fun b => b = S) w (.slice (some ⟨S, a, none⟩) n c) ((L.drop a).take n) := by
  have hl := h.len
  refine Rep.list_val (by rw [List.length_take, List.length_drop]; omega) hc hm ⟨_, Rep.byte_row _, fun _ => ⟨S, a, rfl, rfl, ⟨_, _, _, h.blk⟩, fun j u hj => ?_⟩⟩
  rw [cell_of_row _ _ _ _ _ _ h.blk, ← hj, cells_of]
  have hj' := (List.getElem?_eq_some_iff.1 hj).1
  rw [List.length_map, List.length_take, List.length_drop] at hj'
  simp only [List.getElem?_toArray, List.getElem?_map, List.getElem?_take, List.getElem?_drop]
  rw [if_pos (by omega)]

end Go.Proofs.Yteljibjbndpncaa
namespace Go.Proofs.Yteljibjbndpncaa
open Go.RowKit
open Extern.Stop (cell)

/-- What stands while a sector is made: the seal in its box, the result's block. -/
structure SealBox (W : World) (B : Nat) (x : DSeal) (A : Option Addr) (c : Nat) : Prop where
  c0 : W.cell? ⟨B, 0, none⟩ = some (.int .i64 x.epoch)
  c1 : W.cell? ⟨B, 1, none⟩ = some (.int .i64 x.no)
  c2 : W.cell? ⟨B, 2, none⟩ = some (.int .i64 x.kind)
  c3 : W.cell? ⟨B, 3, none⟩ = some (.slice A x.body.length c)
  sl : Rep.byte.Sl (fun b => b < B) W A c x.body
theorem SealBox.later {W W' : World} {B : Nat} {x : DSeal} {A : Option Addr} {c : Nat} (h : SealBox W B x A c) (hb : Below (B + 1) W W') : SealBox W' B x A c :=
  ⟨(hb.cell (p := ⟨B, 0, none⟩) (Nat.lt_succ_self _)).trans h.c0, (hb.cell (p := ⟨B, 1, none⟩) (Nat.lt_succ_self _)).trans h.c1, (hb.cell (p := ⟨B, 2, none⟩) (Nat.lt_succ_self _)).trans h.c2,
   (hb.cell (p := ⟨B, 3, none⟩) (Nat.lt_succ_self _)).trans h.c3, h.sl.keep fun b hq _ => ⟨hq, hb.block b (by omega)⟩⟩
end Go.Proofs.Yteljibjbndpncaa
namespace Go.Proofs.Yteljibjbndpncaa
open Go.RowKit

set_option maxHeartbeats 400000 in
theorem sameList {Q Q' : Nat → Prop} {w : World} {v u : Value} {xs ys : List Int} (hx : (Rep.int .i64).list.val Q w v xs) (hy : (Rep.int .i64).list.val Q' w u ys) :
    Calls Try.prog 17 #[v, u] w fun e w' => e = .returned (.bool (decide (xs = ys))) ∧ ∃ n, w' = w.drewN n := by
  obtain ⟨A, c, rfl, hc1, hc2, hA⟩ := Rep.val_list hx
  obtain ⟨B, d, rfl, hd1, hd2, hB⟩ := Rep.val_list hy
  clear hx hy
  unfold maxLen at hc2 hd2
  by_cases hlen : xs.length = ys.length
  · have hne : ((xs.length : Int) != (ys.length : Int)) = false := by simp [hlen]
    have H := Lib.hid hlen
    clear hlen
    go_enter Try.func17, Try.ntmps17
    go_wp2_with fail
    go_loopw [5] (fun i wr => ∃ k : Nat, i = .int .i64 k ∧ k ≤ xs.length ∧ xs.take k = ys.take k ∧ ∃ n, w.drewN n = wr) (fun i _ => xs.length - (intOf i).toNat)
    case atStart => exact ⟨0, rfl, Nat.zero_le _, by simp, 0, rfl⟩
    case round =>
      obtain ⟨k, rfl, hk, htk, n, rfl⟩ := hrel
      by_cases hlt : k < xs.length
      · obtain ⟨b, off, rfl, cx, wx⟩ := hA.int (List.getElem?_eq_getElem hlt)
        have hlt' : k < ys.length := by rw [← H.out]; exact hlt
        obtain ⟨b', off', rfl, cy, wy⟩ := hB.int (List.getElem?_eq_getElem hlt')
        have T := Lib.hid htk
        clear htk
        have i1 : (k : Int) < (xs.length : Int) := by omega
        have i2 : (k : Int) < (ys.length : Int) := by omega
        generalize hX : xs[k] = x at *
        generalize hY : ys[k] = y at *
        have HX := Lib.hid hX
        have HY := Lib.hid hY
        clear hX hY
        by_cases hxy : x = y
        · have g1 : (x != y) = false := by simp [hxy]
          have HXY := Lib.hid hxy
          clear hxy
          go_wp2_with fail
          go_quiet (fail)
          go_wp2_with fail
          go_roundw
          case rel => exact ⟨k + 1, by go_num, by omega, by rw [List.take_succ_eq_append_getElem hlt, List.take_succ_eq_append_getElem hlt', T.out, HX.out, HY.out, HXY.out], _, rfl⟩
          case measure => simp [intOf]; omega
        · have g1 : (x != y) = true := by simp [hxy]
          have HXY := Lib.hid hxy
          clear hxy
          go_wp2_with fail
          go_quiet (fail)
          go_wp2_with fail
          go_ret
          refine ⟨?_, by rw [World.drewN_drewN]; exact ⟨_, rfl⟩⟩
          have : ¬ xs = ys := by rintro rfl; exact HXY.out (HX.out.symm.trans HY.out)
          simp [this]
      · have hk' : k = xs.length := by omega
        have hall : xs = ys := by rw [← List.take_length (l := xs), ← hk', htk, hk', H.out, List.take_length]
        have HA := Lib.hid hall
        have HK := Lib.hid hk'
        clear hall hk' htk
        have i1 : ¬ (k : Int) < (xs.length : Int) := by omega
        go_wp2_with fail
        go_ret
        exact ⟨by simp [HA.out], _, rfl⟩
  · have hne : ((xs.length : Int) != (ys.length : Int)) = true := by simp; omega
    have H := Lib.hid hlen
    clear hlen
    go_enter Try.func17, Try.ntmps17
    go_wp2_with fail
    go_ret
    refine ⟨?_, 0, rfl⟩
    have : ¬ xs = ys := by rintro rfl; exact H.out rfl
    simp [this]
end Go.Proofs.Yteljibjbndpncaa
namespace Go.Proofs.Yteljibjbndpncaa
open Go.RowKit

theorem info3 : (Try.prog.info? 3).map (fun i => (i.zero, i.size, i.bytes)) = some (some (.int .i64 0), 1, 8) := by kernel_rfl
end Go.Proofs.Yteljibjbndpncaa
namespace Go.Proofs.Yteljibjbndpncaa
open Go.RowKit

theorem cell_row {w : World} {b e : Nat} {cs : Array Value} {f : Nat × Nat} (h : w.heap[b]? = some (.cells cs e f)) (i : Nat) : w.cell? ⟨b, i, none⟩ = cs[i]? := by simp [World.cell?, h]
theorem frozen_row {w : World} {b e : Nat} {cs : Array Value} (h : w.heap[b]? = some (.cells cs e (0, 0))) (i : Nat) : w.frozen? ⟨b, i, none⟩ = false := by simp [World.frozen?, h]
end Go.Proofs.Yteljibjbndpncaa
namespace Go.Proofs.Yteljibjbndpncaa
open Go.RowKit

theorem RdrAt.grown {w w' : World} {p : Nat} {A : Option Addr} {c : Nat} {b : List UInt8} {at_ : Nat} {bad : Bool} {row : Option Nat} (h : RdrAt w p A c b at_ bad) (hg : w.grownBy w' row) (hr : ∀ x, row = some x → p < x) : RdrAt w' p A c b at_ bad :=
  ⟨(hg.block p h.lt (fun e => by have := hr p e.symm; omega)).trans h.blk, h.sl.keep fun x hx hl => ⟨hx, hg.block x hl.lt (fun e => by have := hr x e.symm; omega)⟩, h.le⟩

end Go.Proofs.Yteljibjbndpncaa
namespace Go.Proofs.Yteljibjbndpncaa
open Go.RowKit
open Extern.Stop (cell)

def zeroCells : Array Value := #[.int .i64 0, .int .i64 0, .int .i64 0, .slice none 0 0]
/-- What stands while a sector is read: the reader p, the seal's box X, the result's R. -/
structure GetAt (w W : World) (R p X : Nat) (A : Option Addr) (c : Nat) (b : List UInt8) (a : Nat) (cs : Array Value) : Prop where
  bel : Below w.heap.size w W
  rdr : RdrAt W p A c b a false
  xb : W.heap[X]? = some (.cells cs 157 (0, 0))
  rb : W.heap[R]? = some (.cells #[.int .i64 0, .int .i64 0, .int .i64 0, .slice none 0 0] 157 (0, 0))
  ok : w.heap.size ≤ R ∧ R < p ∧ p < X
theorem GetAt.num {w W W' : World} {R p X : Nat} {A : Option Addr} {c : Nat} {b : List UInt8} {a a' : Nat} {cs : Array Value} (h : GetAt w W R p X A c b a cs) (r : RdrAt W' p A c b a' false) (g : W.grownBy W' (some p)) : GetAt w W' R p X A c b a' cs :=
  ⟨h.bel.grown g h.bel.size (fun k hk => by have := Option.some.inj hk; have := h.ok; omega), r,
   (g.block X (IsC.lt ⟨_, _, _, h.xb⟩) (fun e => by have := Option.some.inj e; have := h.ok; omega)).trans h.xb,
   (g.block R (IsC.lt ⟨_, _, _, h.rb⟩) (fun e => by have := Option.some.inj e; have := h.ok; omega)).trans h.rb, h.ok⟩
theorem GetAt.put {w W : World} {R p X : Nat} {A : Option Addr} {c : Nat} {b : List UInt8} {a : Nat} {cs : Array Value} (h : GetAt w W R p X A c b a cs) (i : Nat) (v : Value) : GetAt w (W.setCell ⟨X, i, none⟩ v) R p X A c b a (cs.setIfInBounds i v) := by
  have ok := h.ok
  refine ⟨⟨h.bel.os, h.bel.tape, h.bel.output, by simpa using h.bel.size, fun k hk => (Below.heap_setCell _ _ _ _ (show k ≠ X by omega)).trans (h.bel.block k hk)⟩,
    ⟨(Below.heap_setCell _ _ _ _ (show p ≠ X by omega)).trans h.rdr.blk, h.rdr.sl.keep fun x hx _ => ⟨hx, Below.heap_setCell _ _ _ _ (show x ≠ X by have : x < p := hx; omega)⟩, h.rdr.le⟩,
    heap_setRow h.xb, (Below.heap_setCell _ _ _ _ (show R ≠ X by omega)).trans h.rb, ok⟩
end Go.Proofs.Yteljibjbndpncaa
namespace Go.Proofs.Yteljibjbndpncaa
open Go.RowKit
open Go.Maps (Keyed)

/-- A device: what is safe, the writes that wait for each sector, the fuse, whether it is off, and what was done. -/
structure DiskSt where
  safe : List (List UInt8)
  wait : Int → List (List UInt8)
  fuse : Int
  off : Bool
  reads : Int
  writes : Int

def heldElem (v : Value) : Option (DataW Value × List MemPlace) := some (.held v, [])
def nilList : Value := .slice none 0 0
/-- What lies at a key of the map. -/
def valAt (D : DataW Value) (i : Int) : Value := match D.atKey (.int .i64 i) (.held nilList) with | .held v => v | _ => nilList
/-- A device lies in block P. F: the blocks that it writes; B: those of its sectors' bytes, which are never written. -/
structure DiskW (W : World) (P : Nat) (Sf : Option Addr) (cs M : Nat) (D : DataW Value) (F B : Nat → Prop) (n : Nat) (st : DiskSt) : Prop where
  blk : W.heap[P]? = some (.cells #[.slice Sf st.safe.length cs, .map (some M), .int .i64 st.fuse, .bool st.off, .int .i64 st.reads, .int .i64 st.writes] 105 (0, 0))
  safe : Rep.byte.list.acc 33 0 B W (.slice Sf st.safe.length cs) st.safe
  map : W.ownsMap Try.prog 3 heldElem M n D
  wt : ∀ i, Rep.byte.list.acc 33 0 B W (valAt D i) (st.wait i)
  len : ∀ i, (st.wait i).length ≤ n
  keys : ∀ i, st.wait i ≠ [] → 0 ≤ i ∧ i < st.safe.length
  wf : (Lit.int .i64 st.fuse).wf = true
  fP : F P
  fM : F M
  fS : ∀ b, (Value.slice Sf st.safe.length cs).ownBlock = some b → F b
  fW : ∀ i b, (valAt D i).ownBlock = some b → F b
  dSW : ∀ i b, (valAt D i).ownBlock = some b → (Value.slice Sf st.safe.length cs).ownBlock ≠ some b
  dWW : ∀ i j b, i ≠ j → (valAt D i).ownBlock = some b → (valAt D j).ownBlock ≠ some b
  apart : ∀ b, F b → ¬ B b
  lt : ∀ b, F b ∨ B b → b < W.heap.size
  has : ∀ i, Go.Maps.has D (.int .i64 i) = true → st.wait i ≠ []
def DiskAt (W : World) (P : Nat) (F B : Nat → Prop) (n : Nat) (st : DiskSt) : Prop := ∃ Sf cs M D, DiskW W P Sf cs M D F B n st
/-- Nothing that was there is written but blocks of F. -/
structure Only (F : Nat → Prop) (W W' : World) : Prop where
  os : W'.os = W.os
  tape : W'.tape = W.tape
  output : W'.output = W.output
  size : W.heap.size ≤ W'.heap.size
  block : ∀ b, b < W.heap.size → ¬ F b → W'.heap[b]? = W.heap[b]?
theorem Only.refl (F : Nat → Prop) (W : World) : Only F W W := ⟨rfl, rfl, rfl, Nat.le_refl _, fun _ _ _ => rfl⟩
theorem Only.trans {F : Nat → Prop} {X Y Z : World} (h : Only F X Y) (k : Only F Y Z) : Only F X Z :=
  ⟨k.os.trans h.os, k.tape.trans h.tape, k.output.trans h.output, Nat.le_trans h.size k.size, fun b hb hf => (k.block b (Nat.lt_of_lt_of_le hb h.size) hf).trans (h.block b hb hf)⟩
theorem Only.of_below {F : Nat → Prop} {X Y : World} (h : Below X.heap.size X Y) : Only F X Y := ⟨h.os, h.tape, h.output, h.size, fun b hb _ => h.block b hb⟩
theorem Only.set {F : Nat → Prop} {X : World} {P i : Nat} {v : Value} (h : F P) : Only F X (X.setCell ⟨P, i, none⟩ v) :=
  ⟨rfl, rfl, rfl, by simp, fun b _ hf => Below.heap_setCell _ _ _ _ (fun e => hf (by rw [e]; exact h))⟩
theorem Only.below {F : Nat → Prop} {X Y : World} {base : Nat} (h : Only F X Y) (hb : base ≤ X.heap.size) (hf : ∀ b, F b → base ≤ b) : Below base X Y :=
  ⟨h.os, h.tape, h.output, h.size, fun b hl => h.block b (by omega) (fun hF => by have := hf b hF; omega)⟩

namespace DiskW
variable {W W' : World} {P : Nat} {Sf : Option Addr} {cs M : Nat} {D : DataW Value} {F B : Nat → Prop} {n : Nat} {st : DiskSt}

theorem map_keep (h : DiskW W P Sf cs M D F B n st) (hk : W'.heap[M]? = W.heap[M]?) : W'.ownsMap Try.prog 3 heldElem M n D := by
  obtain ⟨es, clock, hb, r⟩ := h.map
  exact ⟨es, clock, hk.trans hb, r⟩

/-- Whatever leaves its blocks leaves the device. -/
theorem keep (h : DiskW W P Sf cs M D F B n st) (hs : W.heap.size ≤ W'.heap.size) (hk : ∀ b, F b ∨ B b → W'.heap[b]? = W.heap[b]?) : DiskW W' P Sf cs M D F B n st :=
  ⟨(hk P (.inl h.fP)).trans h.blk,
   Rep.acc_keep (fun b hb _ => hk b (hb.elim .inr fun e => .inl (h.fS b e))) (fun _ hb _ => hb) h.safe,
   h.map_keep (hk M (.inl h.fM)),
   fun i => Rep.acc_keep (fun b hb _ => hk b (hb.elim .inr fun e => .inl (h.fW i b e))) (fun _ hb _ => hb) (h.wt i),
   h.len, h.keys, h.wf, h.fP, h.fM, h.fS, h.fW, h.dSW, h.dWW, h.apart, fun b hb => Nat.lt_of_lt_of_le (h.lt b hb) hs, h.has⟩

end DiskW
theorem DiskAt.keep {W W' : World} {P : Nat} {F B : Nat → Prop} {n : Nat} {st : DiskSt} (h : DiskAt W P F B n st) (hs : W.heap.size ≤ W'.heap.size) (hk : ∀ b, F b ∨ B b → W'.heap[b]? = W.heap[b]?) : DiskAt W' P F B n st := by
  obtain ⟨Sf, cs, M, D, h⟩ := h
  exact ⟨Sf, cs, M, D, h.keep hs hk⟩
theorem DiskAt.below {W W' : World} {P : Nat} {F B : Nat → Prop} {n : Nat} {st : DiskSt} (h : DiskAt W P F B n st) (hb : Below W.heap.size W W') : DiskAt W' P F B n st :=
  h.keep hb.size fun b hb' => hb.block b (by obtain ⟨_, _, _, _, h⟩ := h; exact h.lt b hb')

end Go.Proofs.Yteljibjbndpncaa
namespace Go.Proofs.Yteljibjbndpncaa
open Go.RowKit

section
variable {n l : Nat} {P : Program} {ops : Array Oper} {Q : Exit → Act → World → Prop} {md : Region.Mode}

end

/-- 'append' as0 one operation. -/
theorem exec_append {P : Program} {o : Oper} {a : Act} {w w' : World} {s x : Operand} {t : TypeId} {v u v' : Value} (ho : o.op = .call { callee := .builtin .append, args := #[s, x], argTypes := #[t, t] })
    (hs : a.eval s = v) (hx : a.eval x = u) (h : (Builtin.append_ #[t, t] o.type #[v, u]).run P w = .ok v' w') : (execOp a.eval o).run P w = .ok (.value v') w' := by
  unfold execOp
  simp only [ho, resolve, invoke, builtin, Sem.run_bind, Sem.run_pure, Result.andThen_ok, List.map_toArray, List.map_cons, List.map_nil, hs, hx, h]

/-- '[]T{x}' as0 one operation. -/
theorem exec_buildSlice {P : Program} {o : Oper} {a : Act} {w : World} {x : Operand} {t e : TypeId} {vy : Value} (ho : o.op = .buildSlice t 1 #[(0, x)])
    (z : Value) (size : Nat) (ht : P.underlying t = some (.slice e)) (hi : (P.info? e).map (fun i => (i.zero, i.size)) = some (some z, size)) (hx : a.eval x = vy) (hc : vy.cells.size = size) (hsz : 0 < size ∧ size ≤ 1000) :
    (execOp a.eval o).run P w = .ok (.value (.slice (some ⟨w.heap.size, 0, none⟩) 1 1)) (w.alloc (.cells vy.cells e)) := by
  have hb := run_buildSlice_one (P := P) w t e z size ht hi vy hc hsz.1 hsz.2
  simp only [execOp, ho, List.map_toArray, List.map_cons, List.map_nil, hx]
  simp only [Sem.run_bind, hb, Result.andThen_ok, Sem.run_pure]


theorem KeepsOthers.of_below {W W' : World} (h : Below W.heap.size W W') : KeepsOthers W W' := ⟨h.size, fun k _ hk _ => (h.block k (Array.getElem?_eq_some_iff.1 hk).1).trans hk⟩

theorem step_run {P : Program} {ops : Array Oper} {o : Oper} {a : Act} {w w' : World} {v : Value} {K : Act → World → Prop} {Q : Exit → Act → World → Prop} {E : Prop} (hg : o.guard = none) (hrun : (execOp a.eval o).run P w = .ok (.value v) w') (h : K (a.put o.dst v) w') :
    if Region.wanted o (yielded ops a.tmps) = true then Oper.wp P o a w K Q else E := by
  have hw : Region.wanted o (yielded ops a.tmps) = true := by simp [Region.wanted, hg]
  rw [if_pos hw]
  unfold Oper.wp
  rw [hrun]
  exact h
end Go.Proofs.Yteljibjbndpncaa
