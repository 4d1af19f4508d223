/- Texts on which the proofs stand, part 2: RRight, PutConf, NumMath, Get, RGet, Reader, DirBytes, DirMath, CrcMath, SealMath, RPutConf, Page, Count, PCount, RCounts, Most, Idx, CmdCheck, FrameCheck, CmdPut. No condition is laid on any input. -/
import Derived.Test.YtcfgckpjgihcgaaDskJ1
import Derived.BigQuiet
import Derived.Deep.QuietTactic
import Derived.StillTailTactics
import Derived.Deep.RegionWith
import Derived.Laws.CopyOwn
/- Walk of the reference's check of a layout. -/
namespace Go.Proofs.Ytcfgckpjgihcgaa
open Go.RowKit

set_option maxRecDepth 100000 in
set_option maxHeartbeats 8000000 in
/-- ref07.Right -/
theorem right_calls {Q : Nat → Prop} {w : World} {v : Value} {c : DConf} (hx : rConf.val Q w v c) :
    Calls Try.prog 51 #[v] w fun e w' => e = .returned (.bool (confRight c)) ∧ Below w.heap.size w w' := by
  obtain ⟨A, cap, rfl, f0, f1, f2, f3, hc1, hc2, hA⟩ := rConf_val hx
  unfold maxLen at hc2
  have hlen : (c.comps.length : Int) ≤ 9223372036854775807 := by omega
  have HX := Lib.hid hA
  clear hx hA
  by_cases a0 : c.log < 2
  · have HF := Lib.hid (show confRight c = false by
      have : confRange c = false := by
        rw [Bool.eq_false_iff]
        simp only [confRange, withinB, ne_eq, Bool.and_eq_true, decide_eq_true_eq]
        omega
      unfold confRight; rw [this, Bool.false_and])
    go_enter Try.func51, Try.ntmps51
    go_wp2_with fail
    go_ret
    exact ⟨by rw [HF.out]; rfl, (Below.refl _ _).alloc (Nat.le_refl _) _⟩
  by_cases a1 : 1024 < c.log
  · have HF := Lib.hid (show confRight c = false by
      have : confRange c = false := by
        rw [Bool.eq_false_iff]
        simp only [confRange, withinB, ne_eq, Bool.and_eq_true, decide_eq_true_eq]
        omega
      unfold confRight; rw [this, Bool.false_and])
    go_enter Try.func51, Try.ntmps51
    go_wp2_with fail
    go_ret
    exact ⟨by rw [HF.out]; rfl, (Below.refl _ _).alloc (Nat.le_refl _) _⟩
  by_cases a2 : c.pages < 4
  · have HF := Lib.hid (show confRight c = false by
      have : confRange c = false := by
        rw [Bool.eq_false_iff]
        simp only [confRange, withinB, ne_eq, Bool.and_eq_true, decide_eq_true_eq]
        omega
      unfold confRight; rw [this, Bool.false_and])
    go_enter Try.func51, Try.ntmps51
    go_wp2_with fail
    go_ret
    exact ⟨by rw [HF.out]; rfl, (Below.refl _ _).alloc (Nat.le_refl _) _⟩
  by_cases a3 : 1024 < c.pages
  · have HF := Lib.hid (show confRight c = false by
      have : confRange c = false := by
        rw [Bool.eq_false_iff]
        simp only [confRange, withinB, ne_eq, Bool.and_eq_true, decide_eq_true_eq]
        omega
      unfold confRight; rw [this, Bool.false_and])
    go_enter Try.func51, Try.ntmps51
    go_wp2_with fail
    go_ret
    exact ⟨by rw [HF.out]; rfl, (Below.refl _ _).alloc (Nat.le_refl _) _⟩
  by_cases a4 : c.entities < 1
  · have HF := Lib.hid (show confRight c = false by
      have : confRange c = false := by
        rw [Bool.eq_false_iff]
        simp only [confRange, withinB, ne_eq, Bool.and_eq_true, decide_eq_true_eq]
        omega
      unfold confRight; rw [this, Bool.false_and])
    go_enter Try.func51, Try.ntmps51
    go_wp2_with fail
    go_ret
    exact ⟨by rw [HF.out]; rfl, (Below.refl _ _).alloc (Nat.le_refl _) _⟩
  by_cases a5 : 1024 < c.entities
  · have HF := Lib.hid (show confRight c = false by
      have : confRange c = false := by
        rw [Bool.eq_false_iff]
        simp only [confRange, withinB, ne_eq, Bool.and_eq_true, decide_eq_true_eq]
        omega
      unfold confRight; rw [this, Bool.false_and])
    go_enter Try.func51, Try.ntmps51
    go_wp2_with fail
    go_ret
    exact ⟨by rw [HF.out]; rfl, (Below.refl _ _).alloc (Nat.le_refl _) _⟩
  by_cases a6 : c.gens < 1
  · have HF := Lib.hid (show confRight c = false by
      have : confRange c = false := by
        rw [Bool.eq_false_iff]
        simp only [confRange, withinB, ne_eq, Bool.and_eq_true, decide_eq_true_eq]
        omega
      unfold confRight; rw [this, Bool.false_and])
    go_enter Try.func51, Try.ntmps51
    go_wp2_with fail
    go_ret
    exact ⟨by rw [HF.out]; rfl, (Below.refl _ _).alloc (Nat.le_refl _) _⟩
  by_cases a7 : 1073741824 < c.gens
  · have HF := Lib.hid (show confRight c = false by
      have : confRange c = false := by
        rw [Bool.eq_false_iff]
        simp only [confRange, withinB, ne_eq, Bool.and_eq_true, decide_eq_true_eq]
        omega
      unfold confRight; rw [this, Bool.false_and])
    go_enter Try.func51, Try.ntmps51
    go_wp2_with fail
    go_ret
    exact ⟨by rw [HF.out]; rfl, (Below.refl _ _).alloc (Nat.le_refl _) _⟩
  by_cases a8 : (32 : Int) < c.comps.length
  · have HF := Lib.hid (show confRight c = false by
      have : confRange c = false := by
        rw [Bool.eq_false_iff]
        simp only [confRange, withinB, ne_eq, Bool.and_eq_true, decide_eq_true_eq]
        omega
      unfold confRight; rw [this, Bool.false_and])
    go_enter Try.func51, Try.ntmps51
    go_wp2_with fail
    go_ret
    exact ⟨by rw [HF.out]; rfl, (Below.refl _ _).alloc (Nat.le_refl _) _⟩
  have HR := Lib.hid (show confRight c = (List.range c.comps.length).all (compOk c.comps) by
    have : confRange c = true := by
      simp only [confRange, withinB, Bool.and_eq_true, decide_eq_true_eq]
      omega
    unfold confRight; rw [this, Bool.true_and])
  obtain ⟨W1, hW1⟩ : ∃ W1, w.alloc (.cells #[.int .i64 c.log, .int .i64 c.pages, .int .i64 c.entities, .int .i64 c.gens, .slice A c.comps.length cap] 77) = W1 := ⟨_, rfl⟩
  have hbel : Below w.heap.size w W1 := by rw [← hW1]; exact (Below.refl _ _).alloc (Nat.le_refl _) _
  have hsz : W1.heap.size = w.heap.size + 1 := by rw [← hW1]; simp
  have e0 : W1.cell? ⟨w.heap.size, 0, none⟩ = some (.int .i64 c.log) := by rw [← hW1]; simp
  have e1 : W1.cell? ⟨w.heap.size, 1, none⟩ = some (.int .i64 c.pages) := by rw [← hW1]; simp
  have e2 : W1.cell? ⟨w.heap.size, 2, none⟩ = some (.int .i64 c.entities) := by rw [← hW1]; simp
  have e3 : W1.cell? ⟨w.heap.size, 3, none⟩ = some (.int .i64 c.gens) := by rw [← hW1]; simp
  have e4 : W1.cell? ⟨w.heap.size, 4, none⟩ = some (.slice A c.comps.length cap) := by rw [← hW1]; simp
  go_enter Try.func51, Try.ntmps51
  go_wp2_with fail
  try rw [hW1]
  clear hW1
  go_wp2_with fail
  go_loopw [3] (fun i wr => ∃ k : Nat, i = .int .i64 k ∧ k ≤ c.comps.length ∧ Hid ((List.range k).all (compOk c.comps) = true) ∧ Below (w.heap.size + 1) W1 wr)
    (fun i _ => c.comps.length - (intOf i).toNat)
  case atStart => exact ⟨0, rfl, by omega, rfl, Below.refl _ _⟩
  case round =>
    obtain ⟨k, rfl, hk, hall, hb1⟩ := hrel
    have E0 := (hb1.cell (p := ⟨w.heap.size, 0, none⟩) (Nat.lt_succ_self _)).trans e0
    have E1 := (hb1.cell (p := ⟨w.heap.size, 1, none⟩) (Nat.lt_succ_self _)).trans e1
    have E2 := (hb1.cell (p := ⟨w.heap.size, 2, none⟩) (Nat.lt_succ_self _)).trans e2
    have E3 := (hb1.cell (p := ⟨w.heap.size, 3, none⟩) (Nat.lt_succ_self _)).trans e3
    have E4 := (hb1.cell (p := ⟨w.heap.size, 4, none⟩) (Nat.lt_succ_self _)).trans e4
    have hb0 : Below w.heap.size w wr := hbel.trans (hb1.mono (by omega))
    have HB1 := Lib.hid hb1
    clear hb1
    by_cases hlt : (k : Int) < c.comps.length
    · have hk' : k < c.comps.length := by omega
      have hAw : rComp.At (fun b => b < w.heap.size) wr A c.comps := Rep.At.keep (w := w) (fun b _ hb => ⟨hb.lt, hb0.block b hb.lt⟩) HX.out
      obtain ⟨b, off, rfl, hb, cx0, cx1, g0, g1⟩ := rComp_at hAw (List.getElem?_eq_getElem hk')
      generalize hxx : c.comps[k] = x at *
      have HXX := Lib.hid hxx
      have HV := Lib.hid (show ∀ W, Below wr.heap.size wr W → rConf.val (fun _ => True) W (.agg #[.int .i64 c.log, .int .i64 c.pages, .int .i64 c.entities, .int .i64 c.gens, .slice (some ⟨b, off, none⟩) c.comps.length cap]) c from
        fun W hW => rConf_agg f0 f1 f2 f3 ⟨hc1, by unfold maxLen; omega, hAw.keep (w := wr) (w' := W) fun b _ hb => ⟨trivial, hW.block b hb.lt⟩⟩)
      have hl : w.heap.size < wr.heap.size := by have := HB1.out.size; omega
      have hbl := hb.lt
      clear hxx hAw
      go_wp2_with fail
      go_region_held3 (fun w' => w'.cell? ⟨w.heap.size, 0, none⟩ = some (.int .i64 c.log) ∧ w'.cell? ⟨w.heap.size, 1, none⟩ = some (.int .i64 c.pages) ∧ w'.cell? ⟨w.heap.size, 2, none⟩ = some (.int .i64 c.entities) ∧ w'.cell? ⟨w.heap.size, 3, none⟩ = some (.int .i64 c.gens) ∧ w'.cell? ⟨w.heap.size, 4, none⟩ = some (.slice (some ⟨b, off, none⟩) c.comps.length cap) ∧ w'.cell? ⟨b, off + k * 2, none⟩ = some (.string ⟨x.name.toArray⟩) ∧ Below wr.heap.size wr w')
        (first
          | exact ⟨E0, E1, E2, E3, E4, cx0, (Below.refl _ _).drew⟩
          | exact ⟨(hbf.cell (p := ⟨w.heap.size, 0, none⟩) hl).trans E0, (hbf.cell (p := ⟨w.heap.size, 1, none⟩) hl).trans E1, (hbf.cell (p := ⟨w.heap.size, 2, none⟩) hl).trans E2, (hbf.cell (p := ⟨w.heap.size, 3, none⟩) hl).trans E3, (hbf.cell (p := ⟨w.heap.size, 4, none⟩) hl).trans E4, (hbf.cell (p := ⟨b, off + k * 2, none⟩) hbl).trans cx0, (Below.refl wr.heap.size wr).drew.trans hbf⟩)
        (first | (go_at_call 149; refine (find_calls (HV.out _ ((Below.refl _ _).drew))).mono ?_; rintro e w' ⟨hbf, i, bb, rfl, hfr⟩))
      rename_i hHeld
      have hW : Below wr.heap.size wr w' := (Below.refl wr.heap.size wr).drew.trans hbf
      have F4 := (hW.cell (p := ⟨w.heap.size, 4, none⟩) hl).trans E4
      have G0 := (hW.cell (p := ⟨b, off + k * 2, none⟩) hbl).trans cx0
      have G1 := (hW.cell (p := ⟨b, off + k * 2 + 1, none⟩) hbl).trans cx1
      have HBW := Lib.hid (HB1.out.trans (hW.mono (by omega)))
      clear hbf hHeld hW E0 E1 E2 E3 E4 cx0 cx1
      rcases hfr with ⟨rfl, hpre, hi, hname⟩ | ⟨_, hno⟩
      · have hik : i ≤ k := by
          rcases Nat.lt_or_ge k i with h | h
          · have hm : x ∈ c.comps.take i := by rw [← HXX.out]; exact List.mem_take_iff_getElem.2 ⟨k, by omega, rfl⟩
            have := List.all_eq_true.1 hpre x hm
            simp at this
          · exact h
        rcases Nat.lt_or_ge i k with hlt2 | hge2
        · have HF := Lib.hid (show confRight c = false by rw [HR.out]; exact range_not_all hk' (compOk_dup hlt2 hk' HXX.out hi rfl hname))
          have hne : ((i : Int) != (k : Int)) = true := by simp; omega
          clear hpre hname hi
          go_wp2_with fail
          go_ret
          exact ⟨by rw [HF.out]; rfl, hbel.trans (HBW.out.mono (by omega))⟩
        · obtain rfl : i = k := by omega
          have hcomp : compOk c.comps i = (nameB x.name && withinB x.size 0 64) := by
            unfold compOk
            rw [List.getElem?_eq_getElem hk', HXX.out]
            simp only [hpre, Bool.true_and]
          have hne : ((i : Int) != (i : Int)) = false := by simp
          clear hpre hname hi hge2
          cases hn : nameB x.name with
          | false =>
            have HN := Lib.hid hn
            have HF := Lib.hid (show confRight c = false by rw [HR.out]; exact range_not_all hk' (by rw [hcomp, hn]; rfl))
            clear hn hcomp
            go_wp2_with (go_at_call 150; refine (rname_calls _ _ g0).mono ?_; rintro e w2 ⟨rfl, nd, rfl⟩; rw [HN.out])
            go_ret
            exact ⟨by rw [HF.out]; rfl, below_drewN (hbel.trans (HBW.out.mono (by omega))) _⟩
          | true =>
            have HN := Lib.hid hn
            by_cases s0 : x.size < 0
            · have HF := Lib.hid (show confRight c = false by rw [HR.out]; exact range_not_all hk' (by rw [hcomp, hn]; simp [withinB]; omega))
              clear hn hcomp
              go_wp2_with (go_at_call 150; refine (rname_calls _ _ g0).mono ?_; rintro e w2 ⟨rfl, nd, rfl⟩; rw [HN.out])
              go_ret
              exact ⟨by rw [HF.out]; rfl, below_drewN (hbel.trans (HBW.out.mono (by omega))) _⟩
            by_cases s1 : 64 < x.size
            · have HF := Lib.hid (show confRight c = false by rw [HR.out]; exact range_not_all hk' (by rw [hcomp, hn]; simp [withinB]; omega))
              clear hn hcomp
              go_wp2_with (go_at_call 150; refine (rname_calls _ _ g0).mono ?_; rintro e w2 ⟨rfl, nd, rfl⟩; rw [HN.out])
              go_ret
              exact ⟨by rw [HF.out]; rfl, below_drewN (hbel.trans (HBW.out.mono (by omega))) _⟩
            have HA := Lib.hid (range_all_succ hall (by rw [hcomp, hn]; simp [withinB]; omega))
            clear hn hcomp
            go_wp2_with (go_at_call 150; refine (rname_calls _ _ g0).mono ?_; rintro e w2 ⟨rfl, nd, rfl⟩; rw [HN.out])
            exact ⟨⟨i + 1, by go_num, by omega, HA, below_drewN HBW.out _⟩, by simp [intOf]; omega⟩
      · exfalso
        have hm : x ∈ c.comps := by rw [← HXX.out]; exact List.getElem_mem hk'
        have := List.all_eq_true.1 hno x hm
        simp at this
    · obtain rfl : k = c.comps.length := by omega
      have HF := Lib.hid (show confRight c = true by rw [HR.out]; exact hall.out)
      clear hall
      go_wp2_with fail
      go_ret
      exact ⟨by rw [HF.out]; rfl, hb0⟩
end Go.Proofs.Ytcfgckpjgihcgaa
/- Walks of a layout as0 bytes. -/
namespace Go.Proofs.Ytcfgckpjgihcgaa
open Go.RowKit

/-- 'append(s, xs...)' of values without blocks of their own, as0 a step of a region that draws its order. -/
theorem step_spread_leaf {α : Type} {r : Rep α} {e base : Nat} {Q Q' : Nat → Prop} {P : Program} {w : World} {ops : Array Oper} {o : Oper} {a : Act} {K : Act → World → Prop} {R : Exit → Act → World → Prop} {E : Prop} (hleaf : r.Leaf) (hg : o.guard = none) (s x : Operand) (t : TypeId)
    (ho : o.op = .call { callee := .builtin .append, args := #[s, x], argTypes := #[t, t] })
    (z : Value) (size bytes : Nat) (ht : P.underlying t = some (.slice e)) (hi : (P.info? e).map (fun i => (i.zero, i.size, i.bytes)) = some (some z, size, bytes)) (hzs : z.cells.size = size) (hsz : 0 < size)
    (hr : r.size = size) (v : Value) (xs : List α) (hs : a.eval s = v) (h : r.acc e base Q w v xs) (u : Value) (ys : List α) (hx : a.eval x = u) (hy : r.list.val Q' w u ys)
    (h63 : xs.length + ys.length ≤ maxLen) (hbytes : (xs.length + ys.length) * bytes ≤ 140737488355328) (hbase : base ≤ w.heap.size)
    (H : ∀ v' w', r.acc e base Q w' v' (xs ++ ys) → w.grownBy w' v.ownBlock → (v'.ownBlock = v.ownBlock ∨ v'.ownBlock = some w.heap.size) → K (a.put o.dst v') w') :
    if Region.wanted o (yielded ops a.tmps) = true then Oper.wp P o a w K R else E := by
  have hw : Region.wanted o (yielded ops a.tmps) = true := by simp [Region.wanted, hg]
  rw [if_pos hw]
  obtain ⟨A, c, rfl, h1, h2, es, h3, h4⟩ := Rep.val_list hy
  obtain ⟨v', w', q1, q2, q3, q4⟩ := Rep.acc_more (P := P) (ty := o.type) (c := c) ht hi hzs hsz hr h rfl (Rep.row_leaf hleaf h3)
    (fun hn => by obtain ⟨b, off, q1, _, _, q2⟩ := h4 hn; exact ⟨b, off, q1, q2⟩) h63 hbytes hbase
  unfold Oper.wp execOp
  simp only [ho, resolve, invoke, builtin, Sem.run_bind, Sem.run_pure, Result.andThen_ok, List.map_toArray, List.map_cons, List.map_nil, hs, hx, q1]
  exact H v' w' q2 q3 q4

def compBytes (x : DComp) : List UInt8 := textBytes x.name ++ num 1 x.size
def headOf (c : DConf) : List Int := [c.log, c.pages, c.entities, c.gens]
def headBytes (c : DConf) : List UInt8 := ((headOf c).map (num 4)).flatten ++ num 1 c.comps.length
def confBytes (c : DConf) : List UInt8 := headBytes c ++ (c.comps.map compBytes).flatten

theorem textBytes_length (s : List UInt8) : (textBytes s).length ≤ 65543 := by
  have := num_length 2 (s.take 65535).length
  simp only [textBytes, List.length_append, List.length_take] at *
  omega
theorem compBytes_length (x : DComp) : (compBytes x).length ≤ 65551 := by
  have h1 := textBytes_length x.name
  have h2 := num_length 1 x.size
  simp only [compBytes, List.length_append]; omega
theorem flatten_le {α : Type} (f : α → List UInt8) (n : Nat) (h : ∀ x, (f x).length ≤ n) : ∀ l : List α, ((l.map f).flatten).length ≤ n * l.length
  | [] => by simp
  | x :: l => by
    have := flatten_le f n h l
    have := h x
    simp only [List.map_cons, List.flatten_cons, List.length_append, List.length_cons, Nat.mul_succ]; omega
theorem take_flatten_succ {α : Type} (f : α → List UInt8) {l : List α} {k : Nat} (hk : k < l.length) : ((l.take (k + 1)).map f).flatten = ((l.take k).map f).flatten ++ f l[k] := by
  rw [List.take_succ_eq_append_getElem hk, List.map_append, List.flatten_append]; simp

theorem wf4 : (Lit.int .i64 4).wf = true := rfl
theorem wf1 : (Lit.int .i64 1).wf = true := rfl

end Go.Proofs.Ytcfgckpjgihcgaa
/- Numbers as0 bytes, read back: the plain law. No program is named here. -/
namespace Go.Proofs.Ytcfgckpjgihcgaa
open Go.RowKit

/-- The number that bytes are, the lowest first. -/
def leNat : List UInt8 → Nat
  | [] => 0
  | c :: l => c.toNat + 256 * leNat l
theorem leNat_lt : ∀ l : List UInt8, leNat l < 256 ^ l.length
  | [] => by simp [leNat]
  | c :: l => by
    have h := leNat_lt l
    have hc := c.toNat_lt
    have e : 256 ^ (c :: l).length = 256 * 256 ^ l.length := by rw [List.length_cons, Nat.pow_succ, Nat.mul_comm]
    simp only [leNat, e]
    omega
theorem leNat_append : ∀ l m : List UInt8, leNat (l ++ m) = leNat l + 256 ^ l.length * leNat m
  | [], m => by simp [leNat]
  | c :: l, m => by
    simp only [List.cons_append, leNat, leNat_append l m, List.length_cons, Nat.pow_succ]
    rw [Nat.mul_add, ← Nat.mul_assoc, Nat.mul_comm 256 (256 ^ l.length)]
    omega

/-- As a signed number of 64 bits. -/
def i64of (n : Nat) : Int := IntKind.i64.wrap (n : Int)
theorem i64of_small {n : Nat} (h : n < 9223372036854775808) : i64of n = n := by
  unfold i64of
  exact IntWalk.i64_in _ ⟨by omega, by omega⟩
theorem i64of_wf (n : Nat) : (Lit.int .i64 (i64of n)).wf = true := by
  unfold i64of
  simp [Lit.wf, IntKind.min, IntKind.max, IntKind.signed, IntKind.bits, IntKind.wrap]
  split <;> omega
theorem i64of_emod (n : Nat) (h : n < 18446744073709551616) : i64of n % 18446744073709551616 = n := by
  unfold i64of
  simp [IntKind.wrap, IntKind.signed, IntKind.bits]
  split <;> omega

/-- A number out of bytes, from a place on. -/
def getNum (b : List UInt8) (at_ width : Int) : Option Int :=
  if 0 ≤ at_ ∧ at_ + wide width ≤ b.length then some (i64of (leNat ((b.drop at_.toNat).take (wide width).toNat))) else none

theorem digit_leNat (n : Int) (m : Nat) (h : n % 18446744073709551616 = m) : ∀ (l : List UInt8) (k : Nat), l.length + k ≤ 8 → m / 256 ^ k % 256 ^ l.length = leNat l → (List.range' k l.length).map (digit n) = l
  | [], _, _, _ => rfl
  | c :: l, k, hk, hl => by
    simp only [List.length_cons, List.range'_succ, List.map_cons] at *
    have hc := c.toNat_lt
    have hp : 256 ^ (l.length + 1) = 256 * 256 ^ l.length := by rw [Nat.pow_succ, Nat.mul_comm]
    simp only [leNat] at hl
    rw [hp, Nat.mod_mul] at hl
    have h0 : m / 256 ^ k % 256 < 256 := Nat.mod_lt _ (by decide)
    have h1 : m / 256 ^ k % 256 = c.toNat := by omega
    have h2 : m / 256 ^ k / 256 % 256 ^ l.length = leNat l := by omega
    rw [Nat.div_div_eq_div_mul, ← Nat.pow_succ] at h2
    congr 1
    · unfold digit
      have hd : n / 2 ^ (8 * k) % 256 = ((m / 256 ^ k % 256 : Nat) : Int) := by
        have := u64_digit n k (by omega)
        rw [← this, h]
        have e : (2 : Int) ^ (8 * k) = ((256 ^ k : Nat) : Int) := by rw [Int.natCast_pow, Int.pow_mul]; rfl
        rw [e]
        rfl
      rw [hd, h1]
      simp
    · exact digit_leNat n m h l (k + 1) (by omega) h2

/-- Bytes, read as0 a number, are just those that this number has. -/
theorem num_leNat (width : Int) (l : List UInt8) (h : l.length = (wide width).toNat) : num width (i64of (leNat l)) = l := by
  have h8 : l.length ≤ 8 := by have := wide_le width; omega
  have hlt := leNat_lt l
  have hm : leNat l < 18446744073709551616 := Nat.lt_of_lt_of_le hlt (Nat.le_trans (Nat.pow_le_pow_right (by decide) h8) (by decide))
  unfold num
  rw [← h, List.range_eq_range']
  exact digit_leNat _ (leNat l) (i64of_emod _ hm) l 0 (by omega) (by simp; exact Nat.mod_eq_of_lt hlt)
end Go.Proofs.Ytcfgckpjgihcgaa
/- Walks of the functions that read numbers out of bytes. -/
namespace Go.Proofs.Ytcfgckpjgihcgaa
open Go.RowKit

theorem ofInt_i64of (n : Nat) : BitVec.ofInt 64 (i64of n) = BitVec.ofNat 64 n := by
  apply BitVec.eq_of_toNat_eq
  unfold i64of
  rw [IntKind.wrap_i64]
  simp only [BitVec.toNat_ofInt, BitVec.toNat_ofNat]
  omega
theorem wrap64_i64of (n : Nat) : wrap64 (n : Int) = i64of n := (IntWalk.i64_left _).symm
/-- A byte laid beside what there is. -/
theorem or_byte (M : Nat) (k : Nat) (hM : M < 256 ^ k) (hk : k < 8) (x : UInt8) : bits BinOp.or IntKind.i64 (i64of M) (wrap64 (wrap64 (x.toNat : Int) * 2 ^ (8 * k))) = i64of (M + 256 ^ k * x.toNat) := by
  have hx := x.toNat_lt
  have e1 : wrap64 (x.toNat : Int) = x.toNat := IntWalk.wrap64_in _ ⟨by omega, by omega⟩
  have e2 : (x.toNat : Int) * 2 ^ (8 * k) = ((x.toNat * 2 ^ (8 * k) : Nat) : Int) := by simp
  have hp : 256 ^ k = 2 ^ (8 * k) := by rw [Nat.pow_mul]
  have hpos : 0 < 2 ^ (8 * k) := Nat.pow_pos (by decide)
  have h64 : 2 ^ (8 * k) * 256 ≤ 2 ^ 64 := by
    rw [show (256 : Nat) = 2 ^ 8 from rfl, ← Nat.pow_add]
    exact Nat.pow_le_pow_right (by decide) (by omega)
  have hmul : x.toNat * 2 ^ (8 * k) + 2 ^ (8 * k) ≤ 2 ^ (8 * k) * 256 := by
    have : x.toNat + 1 ≤ 256 := by omega
    calc x.toNat * 2 ^ (8 * k) + 2 ^ (8 * k) = (x.toNat + 1) * 2 ^ (8 * k) := by rw [Nat.add_mul, Nat.one_mul]
      _ ≤ 256 * 2 ^ (8 * k) := Nat.mul_le_mul_right _ this
      _ = _ := Nat.mul_comm _ _
  rw [hp] at hM ⊢
  rw [e1, e2]
  have e3 := wrap64_i64of (x.toNat * 2 ^ (8 * k))
  rw [e3]
  unfold bits
  simp only [IntKind.bits, ofInt_i64of]
  have e4 : (BitVec.ofNat 64 M ||| BitVec.ofNat 64 (x.toNat * 2 ^ (8 * k))).toNat = M + 2 ^ (8 * k) * x.toNat := by
    rw [BitVec.toNat_or, BitVec.toNat_ofNat, BitVec.toNat_ofNat, Nat.mod_eq_of_lt (by omega), Nat.mod_eq_of_lt (by omega), Nat.or_comm, ← Nat.shiftLeft_eq, ← Nat.shiftLeft_add_eq_or_of_lt hM, Nat.shiftLeft_eq, Nat.add_comm, Nat.mul_comm]
  exact congrArg (fun n : Nat => IntKind.i64.wrap (n : Int)) e4

theorem leNat_take_succ {s : List UInt8} {k : Nat} (h : k < s.length) : leNat (s.take (k + 1)) = leNat (s.take k) + 256 ^ k * s[k].toNat := by
  rw [List.take_succ_eq_append_getElem h, leNat_append]
  simp [leNat, Nat.min_eq_left (Nat.le_of_lt h)]
theorem leNat_drop {s : List UInt8} {k : Nat} (h : k < s.length) : leNat (s.drop k) = s[k].toNat + 256 * leNat (s.drop (k + 1)) := by
  rw [← List.getElem_cons_drop h]; rfl
theorem getNum_some {b : List UInt8} {p k0 : Nat} {width : Int} (hW : (k0 : Int) = wide width) (h : p + k0 ≤ b.length) : getNum b p width = some (i64of (leNat ((b.drop p).take k0))) := by
  rw [getNum, ← hW, if_pos ⟨by omega, by omega⟩]; simp
theorem getNum_none {b : List UInt8} {at_ width : Int} (h : ¬ (0 ≤ at_ ∧ at_ + wide width ≤ b.length)) : getNum b at_ width = none := by
  rw [getNum, if_neg h]
theorem getNum_wf (b : List UInt8) (at_ width : Int) : (Lit.int .i64 ((getNum b at_ width).getD 0)).wf = true := by
  unfold getNum
  split
  · exact i64of_wf _
  · rfl

set_option maxRecDepth 10000 in
set_option maxHeartbeats 1000000 in
/-- le.Get -/
theorem get_calls {Q : Nat → Prop} {w : World} {v : Value} {b : List UInt8} {at_ width : Int} (hx : Rep.byte.list.val Q w v b) (ha : (Lit.int .i64 at_).wf = true) :
    Calls Try.prog 256 #[v, .int .i64 at_, .int .i64 width] w fun e w' => e = .returned (.tuple #[.int .i64 ((getNum b at_ width).getD 0), .bool (getNum b at_ width).isSome]) ∧ w' = w := by
  have ha1 : -9223372036854775808 ≤ at_ ∧ at_ ≤ 9223372036854775807 := by simpa [Lit.wf, IntKind.min, IntKind.max, IntKind.signed, IntKind.bits] using ha
  obtain ⟨A, c, rfl, hc1, hc2, hA⟩ := Rep.val_list hx
  unfold maxLen at hc2
  obtain ⟨W, hW⟩ : ∃ W, W = wide width := ⟨_, rfl⟩
  have g1 := wide_ge width
  have g2 := wide_le width
  rw [← hW] at g1 g2
  by_cases hok : 0 ≤ at_ ∧ at_ + W ≤ b.length
  · have HW := Lib.hid hW
    clear hW hx
    obtain ⟨h0, h1⟩ := hok
    obtain ⟨p, rfl⟩ : ∃ p : Nat, at_ = p := ⟨at_.toNat, by omega⟩
    obtain ⟨k0, hk0⟩ : ∃ k0 : Nat, W = k0 := ⟨W.toNat, by omega⟩
    subst hk0
    have HR := Lib.hid (getNum_some HW.out (show p + k0 ≤ b.length by omega))
    clear ha
    have n1 : ¬ (b.length : Int) < p := by omega
    have n2 : ¬ ((b.length : Int) - p < k0) := by omega
    have HC := Lib.hid (show ∀ k : Nat, k < k0 → ∃ (b0 o0 : Nat) (h : k < ((b.drop p).take k0).length), A = some ⟨b0, o0, none⟩ ∧ w.cell? ⟨b0, o0 + p + k, none⟩ = some (.int .u8 ((((b.drop p).take k0)[k]).toNat : Int)) from fun k hk => by
      obtain ⟨b0, o0, h3, h4⟩ := hA.byte (i := p + k) (x := b[p + k]'(by omega)) (List.getElem?_eq_getElem (by omega))
      exact ⟨b0, o0, by simp; omega, h3, by rw [Nat.add_assoc, h4]; simp⟩)
    have HL := Lib.hid (show ((b.drop p).take k0).length = k0 by simp; omega)
    generalize (b.drop p).take k0 = S at *
    go_enter Try.func256, Try.ntmps256
    go_wp2_with (go_at_call 249; refine (wide_calls _ _).mono ?_; rintro e w' ⟨rfl, rfl⟩; rw [← HW.out])
    go_loop [6, 38] (fun s i => ∃ k : Nat, k ≤ k0 ∧ i = .int .i64 k ∧ s = .int .i64 (i64of (leNat (S.take k)))) (fun _ i => k0 - (intOf i).toNat)
    case atStart => exact ⟨0, by omega, rfl, by simp [leNat, i64of, IntKind.wrap, IntKind.signed, IntKind.bits]⟩
    case round =>
      obtain ⟨k, hk, rfl, rfl⟩ := hrel
      by_cases hlt : (k : Int) < k0
      · obtain ⟨b0, o0, hks, rfl, hcell⟩ := HC.out k (by omega)
        have T := Lib.hid (show ∀ x : UInt8, x = S[k] → bits BinOp.or IntKind.i64 (i64of (leNat (S.take k))) (wrap64 (wrap64 (x.toNat : Int) * 2 ^ (8 * k))) = i64of (leNat (S.take (k + 1))) from fun x hx => by
          subst hx
          rw [leNat_take_succ hks]
          refine or_byte _ k ?_ (by omega) _
          have := leNat_lt (S.take k)
          rwa [List.length_take, Nat.min_eq_left (by omega)] at this)
        generalize hxx : S[k] = x at *
        have TT := Lib.hid (T.out x rfl)
        generalize i64of (leNat (S.take k)) = m at *
        clear hxx T
        go_wp2_with fail
        go_round
        case rel => exact ⟨k + 1, by omega, by go_num, by rw [TT.out]⟩
        case measure => simp [intOf]; omega
      · obtain rfl : k = k0 := by omega
        have R := Lib.hid (show i64of (leNat (S.take k)) = i64of (leNat S) by rw [List.take_of_length_le (by rw [HL.out]; exact Nat.le_refl _)])
        generalize i64of (leNat (S.take k)) = m at *
        go_wp2_with fail
        go_ret2
        exact ⟨by rw [HR.out, ← R.out]; rfl, rfl⟩
  · have HR := Lib.hid (getNum_none (b := b) (at_ := at_) (width := width) (by rw [← hW]; exact hok))
    have HW := Lib.hid hW
    clear hW hx ha hA
    by_cases c1 : at_ < 0
    · clear hok
      go_enter Try.func256, Try.ntmps256
      go_wp2_with (go_at_call 249; refine (wide_calls _ _).mono ?_; rintro e w' ⟨rfl, rfl⟩; rw [← HW.out])
      go_ret2
      exact ⟨by rw [HR.out]; rfl, rfl⟩
    · obtain ⟨p, rfl⟩ : ∃ p : Nat, at_ = p := ⟨at_.toNat, by omega⟩
      by_cases c2 : (b.length : Int) < p
      · clear hok
        go_enter Try.func256, Try.ntmps256
        go_wp2_with (go_at_call 249; refine (wide_calls _ _).mono ?_; rintro e w' ⟨rfl, rfl⟩; rw [← HW.out])
        go_ret2
        exact ⟨by rw [HR.out]; rfl, rfl⟩
      · have c3 : (b.length : Int) - p < W := by omega
        clear hok
        go_enter Try.func256, Try.ntmps256
        go_wp2_with (go_at_call 249; refine (wide_calls _ _).mono ?_; rintro e w' ⟨rfl, rfl⟩; rw [← HW.out])
        go_ret2
        exact ⟨by rw [HR.out]; rfl, rfl⟩

end Go.Proofs.Ytcfgckpjgihcgaa
/- Walk of the reference's function that reads a number out of bytes. -/
namespace Go.Proofs.Ytcfgckpjgihcgaa
open Go.RowKit

theorem fin_some {g : Option Int} {z : Int} (h : g = some z) : Ending.returned (.tuple #[.int .i64 z, .bool true]) = Ending.returned (.tuple #[.int .i64 (g.getD 0), .bool g.isSome]) := by subst h; rfl

set_option maxRecDepth 10000 in
set_option maxHeartbeats 1000000 in
/-- ref01.Get -/
theorem rget_calls {Q : Nat → Prop} {w : World} {v : Value} {b : List UInt8} {at_ width : Int} (hx : Rep.byte.list.val Q w v b) (ha : (Lit.int .i64 at_).wf = true) :
    Calls Try.prog 196 #[v, .int .i64 at_, .int .i64 width] w fun e w' => e = .returned (.tuple #[.int .i64 ((getNum b at_ width).getD 0), .bool (getNum b at_ width).isSome]) ∧ w' = w := by
  have ha1 : -9223372036854775808 ≤ at_ ∧ at_ ≤ 9223372036854775807 := by simpa [Lit.wf, IntKind.min, IntKind.max, IntKind.signed, IntKind.bits] using ha
  obtain ⟨A, c, rfl, hc1, hc2, hA⟩ := Rep.val_list hx
  unfold maxLen at hc2
  obtain ⟨W, hW⟩ : ∃ W, W = wide width := ⟨_, rfl⟩
  have g1 := wide_ge width
  have g2 := wide_le width
  rw [← hW] at g1 g2
  by_cases hok : 0 ≤ at_ ∧ at_ + W ≤ b.length
  · have HW := Lib.hid hW
    clear hW hx
    obtain ⟨h0, h1⟩ := hok
    obtain ⟨p, rfl⟩ : ∃ p : Nat, at_ = p := ⟨at_.toNat, by omega⟩
    obtain ⟨k0, hk0⟩ : ∃ k0 : Nat, W = k0 := ⟨W.toNat, by omega⟩
    subst hk0
    have HR := Lib.hid (getNum_some HW.out (show p + k0 ≤ b.length by omega))
    clear ha
    have n1 : ¬ (b.length : Int) - k0 < p := by omega
    have HC := Lib.hid (show ∀ k : Nat, k < k0 → ∃ (b0 o0 : Nat) (h : k < ((b.drop p).take k0).length), A = some ⟨b0, o0, none⟩ ∧ w.cell? ⟨b0, o0 + (p + k), none⟩ = some (.int .u8 ((((b.drop p).take k0)[k]).toNat : Int)) from fun k hk => by
      obtain ⟨b0, o0, h3, h4⟩ := hA.byte (i := p + k) (x := b[p + k]'(by omega)) (List.getElem?_eq_getElem (by omega))
      exact ⟨b0, o0, by simp; omega, h3, by rw [h4]; simp⟩)
    have HL := Lib.hid (show ((b.drop p).take k0).length = k0 by simp; omega)
    generalize (b.drop p).take k0 = S at *
    go_enter Try.func196, Try.ntmps196
    go_wp2_with (go_at_call 237; refine (rwide_calls _ _).mono ?_; rintro e w' ⟨rfl, rfl⟩; rw [← HW.out])
    go_loop [9, 10] (fun s i => ∃ (k : Nat) (m : Nat), k ≤ k0 ∧ i = .int .i64 ((k : Int) - 1) ∧ s = .int .u64 (m : Int) ∧ Hid (m = leNat (S.drop k)) ∧ (m : Int) ≤ 18446744073709551615 ∧ (0 < k → (m : Int) ≤ 72057594037927935)) (fun _ i => (intOf i + 1).toNat)
    case atStart => exact ⟨k0, 0, Nat.le_refl _, rfl, rfl, by rw [List.drop_of_length_le (by rw [HL.out]; exact Nat.le_refl _)]; rfl, by omega, by omega⟩
    case round =>
      obtain ⟨k, m, hk, rfl, rfl, hm, hm1, hm2⟩ := hrel
      by_cases hlt : (1 : Int) ≤ k
      · obtain ⟨j, rfl⟩ : ∃ j, k = j + 1 := ⟨k - 1, by omega⟩
        obtain ⟨b0, o0, hks, rfl, hcell⟩ := HC.out j (by omega)
        have hm3 := hm2 (by omega)
        have hx := (S[j]).toNat_lt
        have TT := Lib.hid (show m * 256 + (S[j]).toNat = leNat (S.drop j) by rw [leNat_drop hks, ← hm.out, Nat.add_comm, Nat.mul_comm])
        have B := Lib.hid (show 0 < j → m * 256 + (S[j]).toNat ≤ 72057594037927935 by
          intro hj
          rw [TT.out]
          have h1 := leNat_lt (S.drop j)
          rw [List.length_drop, HL.out] at h1
          have h2 : 256 ^ (k0 - j) ≤ 256 ^ 7 := Nat.pow_le_pow_right (by decide) (by omega)
          have h3 : 256 ^ 7 = 72057594037927936 := by decide
          omega)
        generalize (S[j]).toNat = x at *
        have e1 : ((j + 1 : Nat) : Int) - 1 = j := by omega
        have x0 : (0 : Int) ≤ (x : Int) := by omega
        have x1 : (x : Int) ≤ 255 := by omega
        rw [e1]
        clear hm2 hlt
        go_wp2_with fail
        go_round
        case rel => exact ⟨j, m * 256 + x, by omega, rfl, by go_num, TT.out, by omega, fun h => by have := B.out h; omega⟩
        case measure => simp [intOf]
      · obtain rfl : k = 0 := by omega
        have hm' : m = leNat S := by have := hm.out; simpa using this
        have R := Lib.hid (show i64of (leNat S) = wrap64 m by rw [← hm']; exact (wrap64_i64of m).symm)
        clear hm' hm hm1 hm2
        go_wp2_with fail
        generalize wrap64 (m : Int) = z at *
        go_ret2
        exact ⟨fin_some (HR.out.trans (congrArg some R.out)), rfl⟩
  · have HR := Lib.hid (getNum_none (b := b) (at_ := at_) (width := width) (by rw [← hW]; exact hok))
    have HW := Lib.hid hW
    clear hW hx ha hA
    by_cases c1 : at_ < 0
    · clear hok
      go_enter Try.func196, Try.ntmps196
      go_wp2_with (go_at_call 237; refine (rwide_calls _ _).mono ?_; rintro e w' ⟨rfl, rfl⟩; rw [← HW.out])
      go_ret2
      exact ⟨by rw [HR.out]; rfl, rfl⟩
    · have c3 : (b.length : Int) - W < at_ := by omega
      clear hok
      go_enter Try.func196, Try.ntmps196
      go_wp2_with (go_at_call 237; refine (rwide_calls _ _).mono ?_; rintro e w' ⟨rfl, rfl⟩; rw [← HW.out])
      go_ret2
      exact ⟨by rw [HR.out]; rfl, rfl⟩
end Go.Proofs.Ytcfgckpjgihcgaa
/- Walks of the reader over bytes. -/

namespace Go.Proofs.Ytcfgckpjgihcgaa
open Go.RowKit

/-- A reader lies in block p: over the bytes b, at a place; whether something was not there. -/
structure RdrAt (w : World) (p : Nat) (A : Option Addr) (c : Nat) (b : List UInt8) (at_ : Nat) (bad : Bool) : Prop where
  blk : w.heap[p]? = some (.cells #[.slice A b.length c, .int .i64 at_, .bool bad] 312 (0, 0))
  sl : Rep.byte.Sl (fun x => x < p) w A c b
  le : at_ ≤ b.length
theorem RdrAt.c0 {w : World} {p : Nat} {A : Option Addr} {c : Nat} {b : List UInt8} {at_ : Nat} {bad : Bool} (h : RdrAt w p A c b at_ bad) : w.cell? ⟨p, 0, none⟩ = some (.slice A b.length c) := by simp [World.cell?, h.blk]
theorem RdrAt.c1 {w : World} {p : Nat} {A : Option Addr} {c : Nat} {b : List UInt8} {at_ : Nat} {bad : Bool} (h : RdrAt w p A c b at_ bad) : w.cell? ⟨p, 1, none⟩ = some (.int .i64 at_) := by simp [World.cell?, h.blk]
theorem RdrAt.c2 {w : World} {p : Nat} {A : Option Addr} {c : Nat} {b : List UInt8} {at_ : Nat} {bad : Bool} (h : RdrAt w p A c b at_ bad) : w.cell? ⟨p, 2, none⟩ = some (.bool bad) := by simp [World.cell?, h.blk]
theorem RdrAt.z {w : World} {p : Nat} {A : Option Addr} {c : Nat} {b : List UInt8} {at_ : Nat} {bad : Bool} (h : RdrAt w p A c b at_ bad) (i : Nat) : w.frozen? ⟨p, i, none⟩ = false := by simp [World.frozen?, h.blk]
theorem RdrAt.keep {w w' : World} {p : Nat} {A : Option Addr} {c : Nat} {b : List UInt8} {at_ : Nat} {bad : Bool} (h : RdrAt w p A c b at_ bad) (hk : ∀ x, IsC w x → w'.heap[x]? = w.heap[x]?) : RdrAt w' p A c b at_ bad :=
  ⟨(hk p ⟨_, _, _, h.blk⟩).trans h.blk, h.sl.keep fun x hx hl => ⟨hx, hk x hl⟩, h.le⟩
theorem RdrAt.drewN {w : World} {p : Nat} {A : Option Addr} {c : Nat} {b : List UInt8} {at_ : Nat} {bad : Bool} (h : RdrAt w p A c b at_ bad) (n : Nat) : RdrAt (w.drewN n) p A c b at_ bad := h.keep (w' := w.drewN n) fun _ _ => rfl
theorem RdrAt.lt {w : World} {p : Nat} {A : Option Addr} {c : Nat} {b : List UInt8} {at_ : Nat} {bad : Bool} (h : RdrAt w p A c b at_ bad) : p < w.heap.size := IsC.lt ⟨_, _, _, h.blk⟩

/-- (*le.Reader).OK -/
theorem ok_calls {w : World} {p : Nat} {A : Option Addr} {c : Nat} {b : List UInt8} {at_ : Nat} {bad : Bool} (h : RdrAt w p A c b at_ bad) :
    Calls Try.prog 192 #[.pointer (some ⟨p, 0, none⟩)] w fun e w' => e = .returned (.bool (!bad)) ∧ w' = w := by
  have c2 := h.c2
  clear h
  go_enter Try.func192, Try.ntmps192
  go_wp2_with fail
  go_ret
  exact ⟨rfl, rfl⟩

/-- (*le.Reader).Left -/
theorem left_calls {w : World} {p : Nat} {A : Option Addr} {c : Nat} {b : List UInt8} {at_ : Nat} {bad : Bool} (h : RdrAt w p A c b at_ bad) (hb : b.length ≤ 1000000000) :
    Calls Try.prog 193 #[.pointer (some ⟨p, 0, none⟩)] w fun e w' => e = .returned (.int .i64 ((b.length : Int) - at_)) ∧ ∃ n, w' = w.drewN n := by
  have c0 := h.c0
  have c1 := h.c1
  have hle := h.le
  clear h
  go_enter Try.func193, Try.ntmps193
  go_wp2_with fail
  go_quiet (fail)
  go_wp2_with fail
  go_ret
  exact ⟨rfl, _, rfl⟩

/-- A reader of its own over the bytes. -/
def ReadRes (w : World) (b : List UInt8) (e : Ending) (w' : World) : Prop :=
  ∃ p A c, e = .returned (.pointer (some ⟨p, 0, none⟩)) ∧ RdrAt w' p A c b 0 false ∧ w.heap.size ≤ p ∧ Below w.heap.size w w' ∧ Rep.byte.Sl (fun x => w.heap.size ≤ x ∧ x ≠ p) w' A c b

/-- le.Read -/
theorem read_calls {Q : Nat → Prop} {w : World} {v : Value} {b : List UInt8} (hx : Rep.byte.list.val Q w v b) (hl : b.length ≤ 1000000000) :
    Calls Try.prog 190 #[v] w (ReadRes w b) := by
  obtain ⟨A, c, rfl, _, _, _⟩ := Rep.val_list hx
  have HX := Lib.hid hx
  clear hx
  go_enter Try.func190, Try.ntmps190
  go_wp2_with (go_at_call 173; refine (sliceClone HX.out (by omega)).mono ?_; rintro e w1 ⟨u, rfl, hu, hb⟩; have HU := Lib.hid hu; obtain ⟨A2, c2, rfl, _, _⟩ := Rep.acc_form hu; clear hu)
  go_ret
  have hs := Rep.val_sl (Rep.acc_fresh HU.out)
  obtain ⟨A3, c3, he, hs⟩ := hs
  cases he
  have hb' : Below w1.heap.size w1 (w1.alloc (.cells #[.slice A2 b.length c2, .int .i64 0, .bool false] 312)) := (Below.refl _ _).alloc (Nat.le_refl _) _
  refine ⟨w1.heap.size, A2, c2, rfl, ⟨heap_alloc_new w1 _, hs.keep fun x hx hl => ⟨?_, hb'.block x hl.lt⟩, Nat.zero_le _⟩, hb.size, hb.trans (hb'.mono hb.size), hs.keep fun x hx hl => ⟨⟨hx, ?_⟩, hb'.block x hl.lt⟩⟩
  · have := hl.lt; omega
  · have := hl.lt; omega

/-- What the next number is, where the reader is then, and whether something was not there. -/
def rdNum (b : List UInt8) (at_ : Nat) (bad : Bool) (width : Int) : Int × Nat × Bool :=
  if bad then (0, at_, true) else match getNum b at_ width with
    | none => (0, at_, true)
    | some n => (n, at_ + (wide width).toNat, false)
theorem getNum_le {b : List UInt8} {at_ : Nat} {width n : Int} (h : getNum b at_ width = some n) : (at_ : Int) + wide width ≤ b.length := by
  unfold getNum at h
  split at h
  · rename_i hh; exact hh.2
  · cases h
def NumRes (w : World) (p : Nat) (A : Option Addr) (c : Nat) (b : List UInt8) (r : Int × Nat × Bool) (e : Ending) (w' : World) : Prop :=
  e = .returned (.int .i64 r.1) ∧ RdrAt w' p A c b r.2.1 r.2.2 ∧ w.grownBy w' (some p)

theorem heap_setRow {w : World} {b i e : Nat} {cs : Array Value} {v : Value} {f : Nat × Nat} (h : w.heap[b]? = some (.cells cs e f)) : (w.setCell ⟨b, i, none⟩ v).heap[b]? = some (.cells (cs.setIfInBounds i v) e f) := by
  simp [World.setCell, Array.getElem?_modify, h]
theorem grownBy_drewN (w : World) (n : Nat) (row : Option Nat) : w.grownBy (w.drewN n) row := ⟨rfl, rfl, rfl, Nat.le_refl _, fun _ _ _ => rfl⟩

theorem grownBy_setCell (w : World) (a : Addr) (v : Value) : w.grownBy (w.setCell a v) (some a.block) :=
  ⟨rfl, rfl, rfl, by simp, fun b _ hne => Below.heap_setCell _ _ _ _ (fun e => hne (by rw [e]))⟩
theorem setBad {w : World} {p : Nat} {A : Option Addr} {c : Nat} {b : List UInt8} {at_ : Nat} {bad : Bool} (h : RdrAt w p A c b at_ bad) : RdrAt (w.setCell ⟨p, 2, none⟩ (.bool true)) p A c b at_ true :=
  ⟨by rw [heap_setRow h.blk]; rfl, h.sl.keep fun x hx _ => ⟨hx, Below.heap_setCell _ _ _ _ (Nat.ne_of_lt hx)⟩, h.le⟩
theorem setAt {w : World} {p : Nat} {A : Option Addr} {c : Nat} {b : List UInt8} {at_ at2 : Nat} {bad : Bool} (h : RdrAt w p A c b at_ bad) (hl : at2 ≤ b.length) : RdrAt (w.setCell ⟨p, 1, none⟩ (.int .i64 at2)) p A c b at2 bad :=
  ⟨by rw [heap_setRow h.blk]; rfl, h.sl.keep fun x hx _ => ⟨hx, Below.heap_setCell _ _ _ _ (Nat.ne_of_lt hx)⟩, hl⟩

set_option maxRecDepth 100000 in
set_option maxHeartbeats 1000000 in
/-- (*le.Reader).Num -/
theorem rdnum_calls {w : World} {p : Nat} {A : Option Addr} {c : Nat} {b : List UInt8} {at_ : Nat} {bad : Bool} {width : Int} (h : RdrAt w p A c b at_ bad) (hb : b.length ≤ 1000000000) :
    Calls Try.prog 191 #[.pointer (some ⟨p, 0, none⟩), .int .i64 width] w (NumRes w p A c b (rdNum b at_ bad width)) := by
  have c0 := h.c0
  have c1 := h.c1
  have c2 := h.c2
  have z1 := h.z 1
  have z2 := h.z 2
  have hle := h.le
  have HWF := Lib.hid (show (Lit.int .i64 (at_ : Int)).wf = true from wf_i64 (by omega) (by omega))
  have H := Lib.hid h
  clear h
  cases bad with
  | true =>
    have R := Lib.hid (show rdNum b at_ true width = (0, at_, true) from rfl)
    go_enter Try.func191, Try.ntmps191
    go_wp2_with (go_at_call 192; refine (ok_calls H.out).mono ?_; rintro e w' ⟨rfl, rfl⟩)
    go_ret
    rw [R.out]
    exact ⟨rfl, H.out, World.grownBy.refl _ _⟩
  | false =>
    cases hg : getNum b at_ width with
    | none =>
      have R := Lib.hid (show rdNum b at_ false width = (0, at_, true) by simp [rdNum, hg])
      have G := Lib.hid hg
      clear hg
      go_enter Try.func191, Try.ntmps191
      go_wp2_with (go_at_call 192; refine (ok_calls H.out).mono ?_; rintro e w' ⟨rfl, rfl⟩)
      go_quiet ((go_at_call 256; exact Calls.quiet_of_same (get_calls (H.out.drewN _).sl.val HWF.out)))
      rw [G.out]
      go_wp2_with fail
      go_ret
      rw [R.out]
      have hg := grownBy_drewN w' nq (some p)
      generalize hW : w'.drewN nq = W at *
      have h1 : RdrAt W p A c b at_ false := by rw [← hW]; exact H.out.drewN nq
      exact ⟨rfl, setBad h1, hg.trans (grownBy_setCell _ _ _)⟩
    | some n =>
      have R := Lib.hid (show rdNum b at_ false width = (n, at_ + (wide width).toNat, false) by simp [rdNum, hg])
      have G := Lib.hid hg
      clear hg
      go_enter Try.func191, Try.ntmps191
      go_wp2_with (go_at_call 192; refine (ok_calls H.out).mono ?_; rintro e w' ⟨rfl, rfl⟩)
      go_quiet ((go_at_call 256; exact Calls.quiet_of_same (get_calls (H.out.drewN _).sl.val HWF.out)))
      rw [G.out]
      simp only [Option.getD_some, Option.isSome_some]
      go_wp2_with fail
      have h1 : RdrAt (w'.drewN nq) p A c b at_ false := H.out.drewN nq
      have hg := grownBy_drewN w' nq (some p)
      generalize w'.drewN nq = W1 at *
      have d1 := h1.c1
      have y1 := h1.z 1
      have HG := Lib.hid hg
      have H1 := Lib.hid h1
      have g1 := wide_ge width
      have g2 := wide_le width
      obtain ⟨k, hk⟩ : ∃ k : Nat, wide width = k := ⟨(wide width).toNat, by omega⟩
      rw [hk] at g1 g2
      have hle2 := getNum_le G.out
      have hs : IntKind.i64.wrap ((at_ : Int) + (k : Int)) = ((at_ + k : Nat) : Int) := by rw [IntWalk.i64_in _ ⟨by omega, by omega⟩]; rfl
      have HL := Lib.hid (show at_ + k ≤ b.length by omega)
      have HK := Lib.hid hk
      clear hk hle2 c0 c1 c2 z1 z2 hg h1
      go_region_with ((go_at_call 249; refine (wide_calls _ _).mono ?_; rintro e w' ⟨rfl, rfl⟩; rw [HK.out]))
      all_goals
        go_wp2_with fail
        go_ret
        rw [R.out, HK.out]
        exact ⟨rfl, (setAt H1.out HL.out).drewN 1, (HG.out.trans (grownBy_setCell _ _ _)).trans (grownBy_drewN _ 1 _)⟩
end Go.Proofs.Ytcfgckpjgihcgaa
/- Walks of the functions that put a directory as0 bytes. -/
namespace Go.Proofs.Ytcfgckpjgihcgaa
open Go.RowKit

def entHead (x : DEntry) : List UInt8 := num 1 x.key.kind ++ num 8 (wrap64 x.key.sig) ++ num 1 x.key.comp ++ num 4 x.long ++ num 2 x.pages.length
def entBytes (x : DEntry) : List UInt8 := entHead x ++ (x.pages.map (num 2)).flatten
def dirBytes (l : List DEntry) : List UInt8 := num 2 l.length ++ (l.map entBytes).flatten

theorem flatten_prefix {α : Type} (f : α → List UInt8) (l : List α) (k : Nat) : ((l.take k).map f).flatten.length ≤ (l.map f).flatten.length := by
  have h : (l.map f).flatten = ((l.take k).map f).flatten ++ ((l.drop k).map f).flatten := by rw [← List.flatten_append, ← List.map_append, List.take_append_drop]
  rw [h, List.length_append]; omega
theorem wrap64_wf (n : Int) : (Lit.int .i64 (wrap64 n)).wf = true := by
  simp [Lit.wf, IntKind.min, IntKind.max, IntKind.signed, IntKind.bits, wrap64]; omega
theorem dirBytes_prefix {l : List DEntry} {k : Nat} (hk : k < l.length) : (num 2 l.length ++ ((l.take k).map entBytes).flatten).length + (entBytes l[k]).length ≤ (dirBytes l).length := by
  have h1 := flatten_prefix entBytes l (k + 1)
  rw [take_flatten_succ entBytes hk] at h1
  simp only [dirBytes, List.length_append] at *
  omega
theorem entBytes_prefix (x : DEntry) (k : Nat) : (entHead x).length + ((x.pages.take k).map (num 2)).flatten.length ≤ (entBytes x).length := by
  have := flatten_prefix (num 2) x.pages k
  simp only [entBytes, List.length_append]; omega

set_option maxRecDepth 100000 in
set_option maxHeartbeats 1000000 in
/-- dir.Put -/
theorem dput_calls {Q : Nat → Prop} {w : World} {v : Value} {l : List DEntry} (hx : rEntry.list.val Q w v l) (hb : (dirBytes l).length ≤ 100000000) (hn : l.length ≤ 100000000) :
    Calls Try.prog 94 #[v] w (Res Rep.byte.list (fun b => w.heap.size ≤ b) w (dirBytes l)) := by
  obtain ⟨A, c, rfl, hc1, hc2, hA⟩ := Rep.val_list hx
  unfold maxLen at hc2
  have HX := Lib.hid hA
  have HBL := Lib.hid hb
  have HZ := Lib.hid (show ∀ w : World, Rep.byte.list.val (fun _ => True) w (.slice none 0 0) ([] : List UInt8) from fun w => Rep.val_nil (by simp [maxLen]))
  have HN := wf_i64 (n := (l.length : Int)) (by omega) (by omega)
  clear hx hA hb
  go_enter Try.func94, Try.ntmps94
  go_wp2_with (go_at_call 183; refine (put_calls (width := 2) (HZ.out _) (by simp) rfl HN).mono ?_; rintro e w1 ⟨u, rfl, hu, hb1⟩)
  have hu0 : Rep.byte.list.val (fun b => w.heap.size ≤ b) w1 u (num 2 l.length) := by simpa using Rep.acc_fresh hu
  have B1 := Lib.hid hb1
  clear hu hb1
  go_loopw [3, 13] (fun s i wr => ∃ k : Nat, i = .int .i64 k ∧ k ≤ l.length ∧ Rep.byte.list.val (fun b => w.heap.size ≤ b) wr s (num 2 l.length ++ ((l.take k).map entBytes).flatten) ∧ Below w.heap.size w wr)
    (fun _ i _ => l.length - (intOf i).toNat)
  case atStart => exact ⟨0, rfl, by omega, by simpa using hu0, B1.out⟩
  case round =>
    obtain ⟨k, rfl, hk, hv, hb1⟩ := hrel
    have HB1 := Lib.hid hb1
    by_cases hlt : (k : Int) < l.length
    · have hk' : k < l.length := by omega
      have hAw : rEntry.At (fun b => b < w.heap.size) wr A l := Rep.At.keep (w := w) (fun b _ hb => ⟨hb.lt, hb1.block b hb.lt⟩) HX.out
      obtain ⟨b, off, Ap, cp, rfl, hbc, cx0, cx1, cx2, cx3, cx4, g0, g1, g2, g3, hs⟩ := rEntry_at hAw (List.getElem?_eq_getElem hk')
      have T := Lib.hid (show num 2 l.length ++ ((l.take (k + 1)).map entBytes).flatten = (num 2 l.length ++ ((l.take k).map entBytes).flatten) ++ entBytes l[k] by
        rw [take_flatten_succ entBytes hk']; simp only [List.append_assoc])
      have L := Lib.hid (show (num 2 l.length ++ ((l.take k).map entBytes).flatten).length + (entBytes l[k]).length ≤ 100000000 from Nat.le_trans (dirBytes_prefix hk') HBL.out)
      generalize l[k] = x at *
      generalize num 2 l.length ++ ((l.take k).map entBytes).flatten = q at hv T L
      have HS := Lib.hid hs
      have hsl := hs.1
      have hsm := hs.2.1
      unfold maxLen at hsm
      have gl := wf_i64 (n := (x.pages.length : Int)) (by omega) (by omega)
      have gw := wrap64_wf x.key.sig
      have LE := Lib.hid (entBytes_prefix x)
      have HV := Lib.hid hv
      obtain ⟨A2, c2, rfl, _, _, _⟩ := Rep.val_list hv
      clear hv hb1 hAw hs
      go_wp2_with fail
      obtain ⟨W3, hW3⟩ : ∃ W3, wr.alloc (.cells #[.int .i64 x.key.kind, .int .u64 x.key.sig, .int .i64 x.key.comp, .int .i64 x.long, .slice Ap x.pages.length cp] 142) = W3 := ⟨_, rfl⟩
      have d0 : W3.cell? ⟨wr.heap.size, 0, none⟩ = some (.int .i64 x.key.kind) := by rw [← hW3]; simp
      have d1 : W3.cell? ⟨wr.heap.size, 1, none⟩ = some (.int .u64 x.key.sig) := by rw [← hW3]; simp
      have d2 : W3.cell? ⟨wr.heap.size, 2, none⟩ = some (.int .i64 x.key.comp) := by rw [← hW3]; simp
      have d3 : W3.cell? ⟨wr.heap.size, 3, none⟩ = some (.int .i64 x.long) := by rw [← hW3]; simp
      have d4 : W3.cell? ⟨wr.heap.size, 4, none⟩ = some (.slice Ap x.pages.length cp) := by rw [← hW3]; simp
      have hb3 : Below wr.heap.size wr W3 := by rw [← hW3]; exact (Below.refl _ _).alloc (Nat.le_refl _) _
      have hs3 : W3.heap.size = wr.heap.size + 1 := by rw [← hW3]; simp
      rw [hW3]
      have KS := Lib.hid (show ∀ w', Below W3.heap.size W3 w' → w'.cell? ⟨wr.heap.size, 0, none⟩ = some (.int .i64 x.key.kind) ∧ w'.cell? ⟨wr.heap.size, 1, none⟩ = some (.int .u64 x.key.sig) ∧ w'.cell? ⟨wr.heap.size, 2, none⟩ = some (.int .i64 x.key.comp) ∧ w'.cell? ⟨wr.heap.size, 3, none⟩ = some (.int .i64 x.long) ∧ w'.cell? ⟨wr.heap.size, 4, none⟩ = some (.slice Ap x.pages.length cp) from
        fun w' h => ⟨(h.cell (p := ⟨wr.heap.size, 0, none⟩) (show wr.heap.size < W3.heap.size by omega)).trans d0, (h.cell (p := ⟨wr.heap.size, 1, none⟩) (show wr.heap.size < W3.heap.size by omega)).trans d1, (h.cell (p := ⟨wr.heap.size, 2, none⟩) (show wr.heap.size < W3.heap.size by omega)).trans d2, (h.cell (p := ⟨wr.heap.size, 3, none⟩) (show wr.heap.size < W3.heap.size by omega)).trans d3, (h.cell (p := ⟨wr.heap.size, 4, none⟩) (show wr.heap.size < W3.heap.size by omega)).trans d4⟩)
      have HV3 := Lib.hid (show Rep.byte.list.val (fun b => w.heap.size ≤ b) W3 (.slice A2 q.length c2) q from Rep.val_below (B := wr.heap.size) HV.out hb3 (fun _ _ hb => hb.lt))
      have B3 := Lib.hid (HB1.out.trans (hb3.mono HB1.out.size))
      have HS3 := Lib.hid (show (Rep.int .i64).Sl (fun b => b < w.heap.size) W3 Ap cp x.pages from HS.out.below hb3 (fun _ _ hb => hb.lt))
      have LQ := Lib.hid (show q.length + (entHead x).length ≤ 100000000 by have := L.out; have := LE.out 0; omega)
      have LH := Lib.hid (show q.length ≤ 1000000000 by have := L.out; omega)
      clear hW3 hb3 hs3 cx0 cx1 cx2 cx3 cx4 HV
      obtain ⟨q1, hq1⟩ : ∃ z, z = q ++ num 1 x.key.kind := ⟨_, rfl⟩
      have hl1 : q1.length = q.length + (num 1 x.key.kind).length := by rw [hq1, List.length_append]
      obtain ⟨q2, hq2⟩ : ∃ z, z = q1 ++ num 8 (wrap64 x.key.sig) := ⟨_, rfl⟩
      have hl2 : q2.length = q1.length + (num 8 (wrap64 x.key.sig)).length := by rw [hq2, List.length_append]
      obtain ⟨q3, hq3⟩ : ∃ z, z = q2 ++ num 1 x.key.comp := ⟨_, rfl⟩
      have hl3 : q3.length = q2.length + (num 1 x.key.comp).length := by rw [hq3, List.length_append]
      obtain ⟨q4, hq4⟩ : ∃ z, z = q3 ++ num 4 x.long := ⟨_, rfl⟩
      have hl4 : q4.length = q3.length + (num 4 x.long).length := by rw [hq4, List.length_append]
      obtain ⟨q5, hq5⟩ : ∃ z, z = q4 ++ num 2 x.pages.length := ⟨_, rfl⟩
      have hl5 : q5.length = q4.length + (num 2 x.pages.length).length := by rw [hq5, List.length_append]
      have HLS := Lib.hid (show q1.length ≤ 1000000000 ∧ q2.length ≤ 1000000000 ∧ q3.length ≤ 1000000000 ∧ q4.length ≤ 1000000000 ∧ q5.length = q.length + (entHead x).length by have := LQ.out; simp only [entHead, List.length_append] at *; omega)
      have HQ5 := Lib.hid (show q5 = q ++ entHead x by rw [hq5, hq4, hq3, hq2, hq1]; simp only [entHead, List.append_assoc])
      have E1 := Lib.hid hq1
      have E2 := Lib.hid hq2
      have E3 := Lib.hid hq3
      have E4 := Lib.hid hq4
      have E5 := Lib.hid hq5
      clear hl1 hl2 hl3 hl4 hl5 hq1 hq2 hq3 hq4 hq5
      go_wp2_with fail
      refine (put_calls (width := 1) (n := x.key.kind) HV3.out LH.out rfl g0).mono ?_
      rintro e v1 ⟨u1, rfl, hu1, hb1⟩
      rw [← E1.out] at hu1
      have D1 := Lib.hid (hb1)
      clear d0 d1 d2 d3 d4
      obtain ⟨d0, d1, d2, d3, d4⟩ := KS.out _ D1.out
      clear hb1
      obtain ⟨A_1, c_1, rfl, _, _⟩ := Rep.acc_form hu1
      go_wp2_with fail
      refine (put_calls (width := 8) (n := (wrap64 x.key.sig)) (Rep.acc_val hu1) HLS.out.1 rfl gw).mono ?_
      rintro e v2 ⟨u2, rfl, hu2, hb2⟩
      rw [← E2.out] at hu2
      have D2 := Lib.hid (D1.out.trans (hb2.mono D1.out.size))
      clear d0 d1 d2 d3 d4
      obtain ⟨d0, d1, d2, d3, d4⟩ := KS.out _ D2.out
      clear hb2
      clear hu1
      obtain ⟨A_2, c_2, rfl, _, _⟩ := Rep.acc_form hu2
      go_wp2_with fail
      refine (put_calls (width := 1) (n := x.key.comp) (Rep.acc_val hu2) HLS.out.2.1 rfl g2).mono ?_
      rintro e v3 ⟨u3, rfl, hu3, hb3⟩
      rw [← E3.out] at hu3
      have D3 := Lib.hid (D2.out.trans (hb3.mono D2.out.size))
      clear d0 d1 d2 d3 d4
      obtain ⟨d0, d1, d2, d3, d4⟩ := KS.out _ D3.out
      clear hb3
      clear hu2
      obtain ⟨A_3, c_3, rfl, _, _⟩ := Rep.acc_form hu3
      go_wp2_with fail
      refine (put_calls (width := 4) (n := x.long) (Rep.acc_val hu3) HLS.out.2.2.1 rfl g3).mono ?_
      rintro e v4 ⟨u4, rfl, hu4, hb4⟩
      rw [← E4.out] at hu4
      have D4 := Lib.hid (D3.out.trans (hb4.mono D3.out.size))
      clear d0 d1 d2 d3 d4
      obtain ⟨d0, d1, d2, d3, d4⟩ := KS.out _ D4.out
      clear hb4
      clear hu3
      obtain ⟨A_4, c_4, rfl, _, _⟩ := Rep.acc_form hu4
      go_wp2_with fail
      refine (put_calls (width := 2) (n := x.pages.length) (Rep.acc_val hu4) HLS.out.2.2.2.1 rfl gl).mono ?_
      rintro e v5 ⟨u5, rfl, hu5, hb5⟩
      rw [← E5.out] at hu5
      have D5 := Lib.hid (D4.out.trans (hb5.mono D4.out.size))
      clear d0 d1 d2 d3 d4
      obtain ⟨d0, d1, d2, d3, d4⟩ := KS.out _ D5.out
      clear hb5
      clear hu4
      obtain ⟨A_5, c_5, rfl, _, _⟩ := Rep.acc_form hu5
      have HU := Lib.hid (show Rep.byte.list.val (fun b => w.heap.size ≤ b) v5 (.slice A_5 q5.length c_5) q5 from by
        exact Rep.val_mono (fun b hb _ => Nat.le_trans B3.out.size (Nat.le_trans D4.out.size hb)) (Rep.acc_fresh hu5))
      go_wp2_with fail
      have B5 := Lib.hid (B3.out.trans (D5.out.mono B3.out.size))
      have HS5 := Lib.hid (HS3.out.below D5.out (fun _ _ hb => hb.lt))
      have HL5 := Lib.hid (show ∀ j, j ≤ x.pages.length → (q5 ++ ((x.pages.take j).map (num 2)).flatten).length ≤ 1000000000 by intro j _; have h1 := LE.out j; have h2 := HLS.out.2.2.2.2; have h3 := L.out; rw [List.length_append]; omega)
      have HT := Lib.hid (show q5 ++ ((x.pages.take x.pages.length).map (num 2)).flatten = q ++ entBytes x by rw [HQ5.out, List.take_length, entBytes, List.append_assoc])
      clear d0 d1 d2 d3 d4 hu5
      rename World => W5
      go_loopw [3, 45] (fun s i wr => ∃ j : Nat, i = .int .i64 j ∧ j ≤ x.pages.length ∧ Rep.byte.list.val (fun b => w.heap.size ≤ b) wr s (q5 ++ ((x.pages.take j).map (num 2)).flatten) ∧ Below W5.heap.size W5 wr)
        (fun _ i _ => x.pages.length - (intOf i).toNat)
      case atStart => exact ⟨0, rfl, by omega, by simpa using HU.out, Below.refl _ _⟩
      case round =>
        obtain ⟨j, rfl, hj, hv, hb1⟩ := hrel
        have HB6 := Lib.hid hb1
        by_cases hlt2 : (j : Int) < x.pages.length
        · have hj' : j < x.pages.length := by omega
          obtain ⟨bp, op, rfl, cp0, wp0⟩ := Rep.At.int (HS5.out.below hb1 (fun _ _ hb => hb.lt)).2.2 (List.getElem?_eq_getElem hj')
          have T2 := Lib.hid (show q5 ++ ((x.pages.take (j + 1)).map (num 2)).flatten = (q5 ++ ((x.pages.take j).map (num 2)).flatten) ++ num 2 x.pages[j] by rw [take_flatten_succ (num 2) hj', List.append_assoc])
          have L6 := Lib.hid (HL5.out j (by omega))
          generalize x.pages[j] = p at *
          generalize q5 ++ ((x.pages.take j).map (num 2)).flatten = r at hv T2 L6
          have HV6 := Lib.hid hv
          obtain ⟨A6, c6, rfl, _, _, _⟩ := Rep.val_list hv
          clear hv hb1
          go_wp2_with fail
          refine (put_calls (width := 2) (n := p) HV6.out L6.out rfl wp0).mono ?_
          rintro e w6 ⟨u6, rfl, hu6, hb6⟩
          rw [← T2.out] at hu6
          go_wp2_with fail
          exact ⟨⟨j + 1, by go_num, by omega, Rep.val_mono (fun b hb _ => Nat.le_trans B5.out.size (Nat.le_trans HB6.out.size hb)) (Rep.acc_fresh hu6), HB6.out.trans (hb6.mono HB6.out.size)⟩, by simp [intOf]; omega⟩
        · obtain rfl : j = x.pages.length := by omega
          rw [HT.out, ← T.out] at hv
          have HV6 := Lib.hid hv
          clear hv hb1
          go_wp2_with fail
          exact ⟨⟨k + 1, by go_num, by omega, HV6.out, B5.out.trans (HB6.out.mono B5.out.size)⟩, by simp [intOf]; omega⟩
    · obtain rfl : k = l.length := by omega
      have T := Lib.hid (show dirBytes l = num 2 l.length ++ ((l.take l.length).map entBytes).flatten by rw [List.take_length]; rfl)
      generalize num 2 l.length ++ ((l.take l.length).map entBytes).flatten = q at hv T
      have HV := Lib.hid hv
      clear hv hb1
      go_wp2_with fail
      go_ret
      exact ⟨_, rfl, by rw [T.out]; exact HV.out, HB1.out⟩

/-- dir.Size -/
theorem dsize_calls {Q : Nat → Prop} {w : World} {v : Value} {l : List DEntry} (hx : rEntry.list.val Q w v l) (hb : (dirBytes l).length ≤ 100000000) (hn : l.length ≤ 100000000) :
    Calls Try.prog 96 #[v] w fun e w' => e = .returned (.int .i64 (dirBytes l).length) ∧ Below w.heap.size w w' := by
  have HX := Lib.hid hx
  have HB := Lib.hid hb
  obtain ⟨A, c, rfl, hc1, hc2, hA⟩ := Rep.val_list hx
  generalize hd : dirBytes l = d at hb
  have HD := Lib.hid hd
  clear hx hA hd
  go_enter Try.func96, Try.ntmps96
  go_wp2_with fail
  refine (dput_calls HX.out HB.out hn).mono ?_
  rintro e w1 ⟨u, rfl, hu, hb1⟩
  rw [HD.out] at hu
  obtain ⟨A6, c6, rfl, _, _, _⟩ := Rep.val_list hu
  clear hu
  go_wp2_with fail
  go_ret
  exact ⟨rfl, hb1⟩
end Go.Proofs.Ytcfgckpjgihcgaa
/- Directories out of bytes: the plain law. -/
namespace Go.Proofs.Ytcfgckpjgihcgaa
open Go.RowKit

/-- The number at a place, of so many bytes. -/
def natAt (b : List UInt8) (at_ w : Nat) : Nat := leNat ((b.drop at_).take w)
theorem natAt_lt (b : List UInt8) (at_ w : Nat) : natAt b at_ w < 256 ^ w := by
  refine Nat.lt_of_lt_of_le (leNat_lt _) (Nat.pow_le_pow_right (by decide) ?_)
  rw [List.length_take]; exact Nat.min_le_left _ _
theorem wide_small {w : Nat} (h1 : 1 ≤ w) (h8 : w ≤ 8) : wide (w : Int) = w := by
  unfold wide; rw [if_neg (by omega), if_neg (by omega)]
theorem getNum_nat (b : List UInt8) (at_ : Nat) {w : Nat} (h1 : 1 ≤ w) (h8 : w ≤ 8) : getNum b at_ (w : Int) = if at_ + w ≤ b.length then some (i64of (natAt b at_ w)) else none := by
  unfold getNum
  rw [wide_small h1 h8]
  by_cases h : at_ + w ≤ b.length
  · rw [if_pos h, if_pos ⟨by omega, by omega⟩]; rfl
  · rw [if_neg h, if_neg (by omega)]
theorem i64of_natAt (b : List UInt8) (at_ w : Nat) (h : w ≤ 7) : i64of (natAt b at_ w) = natAt b at_ w := by
  apply i64of_small
  refine Nat.lt_of_lt_of_le (natAt_lt b at_ w) (Nat.le_trans (Nat.pow_le_pow_right (by decide) h) (by decide))
theorem natAt_one {b : List UInt8} {at_ : Nat} (h : at_ < b.length) : natAt b at_ 1 = b[at_].toNat := by
  unfold natAt
  rw [← List.getElem_cons_drop h]
  show b[at_].toNat + 256 * leNat [] = _
  simp only [leNat]; omega

def pagesAt (b : List UInt8) (at_ n : Nat) : List Int := (List.range n).map fun k => (natAt b (at_ + 2 * k) 2 : Int)
theorem pagesAt_succ (b : List UInt8) (at_ n : Nat) : pagesAt b at_ (n + 1) = pagesAt b at_ n ++ [(natAt b (at_ + 2 * n) 2 : Int)] := by simp [pagesAt, List.range_succ]
theorem pagesAt_length (b : List UInt8) (at_ n : Nat) : (pagesAt b at_ n).length = n := by simp [pagesAt]

def keyAt (b : List UInt8) (at_ : Nat) : DKey := ⟨natAt b at_ 1, natAt b (at_ + 1) 8, natAt b (at_ + 9) 1⟩
def countAt (b : List UInt8) (at_ : Nat) : Nat := natAt b (at_ + 14) 2
def entAt (b : List UInt8) (at_ : Nat) : DEntry := ⟨keyAt b at_, natAt b (at_ + 10) 4, pagesAt b (at_ + 16) (countAt b at_)⟩
/-- The entry at a place, and the place behind it. -/
def parseEnt (b : List UInt8) (at_ : Nat) : Option (DEntry × Nat) :=
  if at_ + 16 ≤ b.length ∧ at_ + 16 + 2 * countAt b at_ ≤ b.length then some (entAt b at_, at_ + 16 + 2 * countAt b at_) else none
/-- So many entries, from the third byte on. -/
def parseDir (b : List UInt8) : Nat → Option (List DEntry × Nat)
  | 0 => some ([], 2)
  | n + 1 => match parseDir b n with
    | none => none
    | some (l, at_) => match parseEnt b at_ with
      | none => none
      | some (x, e) => some (l ++ [x], e)
theorem parseDir_none {b : List UInt8} {n : Nat} (h : parseDir b n = none) : ∀ m, n ≤ m → parseDir b m = none := by
  intro m hm
  induction m with
  | zero => have : n = 0 := by omega
            subst this; exact h
  | succ m ih =>
    rcases Nat.lt_or_ge m n with h1 | h1
    · have : n = m + 1 := by omega
      subst this; exact h
    · rw [parseDir, ih h1]
theorem parseDir_length {b : List UInt8} : ∀ {n : Nat} {l : List DEntry} {e : Nat}, parseDir b n = some (l, e) → l.length = n
  | 0, l, e, h => by simp only [parseDir, Option.some.injEq, Prod.mk.injEq] at h; rw [← h.1]; rfl
  | n + 1, l, e, h => by
    unfold parseDir at h
    split at h
    · cases h
    · rename_i l0 a0 h0
      split at h
      · cases h
      · simp only [Option.some.injEq, Prod.mk.injEq] at h
        rw [← h.1, List.length_append, parseDir_length h0]; rfl
theorem parseDir_at {b : List UInt8} (h2 : 2 ≤ b.length) : ∀ {n : Nat} {l : List DEntry} {e : Nat}, parseDir b n = some (l, e) → 2 + 16 * n ≤ e ∧ e ≤ b.length
  | 0, l, e, h => by simp only [parseDir, Option.some.injEq, Prod.mk.injEq] at h; omega
  | n + 1, l, e, h => by
    unfold parseDir at h
    split at h
    · cases h
    · rename_i l0 a0 h0
      have := parseDir_at h2 h0
      split at h
      · cases h
      · rename_i x e1 h1
        simp only [Option.some.injEq, Prod.mk.injEq] at h
        unfold parseEnt at h1
        split at h1
        · simp only [Option.some.injEq, Prod.mk.injEq] at h1; omega
        · cases h1

/-- What bytes are as0 a directory: an error, or entries. -/
def dirGet (b : List UInt8) : List DEntry × Int :=
  if b.length < 2 then ([], 12) else match parseDir b (natAt b 0 2) with
    | none => ([], 12)
    | some (l, e) => if e = b.length then (l, 0) else ([], 11)

theorem take_drop_take (b : List UInt8) (a m n : Nat) : (b.drop a).take (m + n) = (b.drop a).take m ++ (b.drop (a + m)).take n := by
  rw [List.take_add, List.drop_drop]
theorem num_natAt {b : List UInt8} {at_ : Nat} {w : Nat} (h1 : 1 ≤ w) (h8 : w ≤ 7) (h : at_ + w ≤ b.length) : num (w : Int) (natAt b at_ w : Int) = (b.drop at_).take w := by
  rw [← i64of_natAt b at_ w h8, natAt]
  exact num_leNat _ _ (by rw [wide_small h1 (by omega), List.length_take, List.length_drop]; omega)
theorem num_natAt8 {b : List UInt8} {at_ : Nat} (h : at_ + 8 ≤ b.length) : num 8 (wrap64 (natAt b at_ 8 : Int)) = (b.drop at_).take 8 := by
  have : wrap64 (natAt b at_ 8 : Int) = i64of (natAt b at_ 8) := wrap64_i64of _
  rw [this, natAt]
  exact num_leNat 8 _ (by rw [List.length_take, List.length_drop]; have : (wide 8).toNat = 8 := by decide
                          omega)
theorem pages_bytes {b : List UInt8} {at_ : Nat} : ∀ {n : Nat}, at_ + 2 * n ≤ b.length → ((pagesAt b at_ n).map (num 2)).flatten = (b.drop at_).take (2 * n)
  | 0, _ => by simp [pagesAt]
  | n + 1, h => by
    rw [pagesAt_succ, List.map_append, List.flatten_append, pages_bytes (n := n) (by omega), Nat.mul_add, take_drop_take]
    simp only [List.map_cons, List.map_nil, List.flatten_cons, List.flatten_nil, List.append_nil]
    rw [show (num 2 (natAt b (at_ + 2 * n) 2 : Int)) = (b.drop (at_ + 2 * n)).take 2 from num_natAt (w := 2) (by decide) (by decide) (by omega)]
theorem entAt_bytes {b : List UInt8} {at_ : Nat} (h : at_ + 16 + 2 * countAt b at_ ≤ b.length) : entBytes (entAt b at_) = (b.drop at_).take (16 + 2 * countAt b at_) := by
  have e1 : num 1 (natAt b at_ 1 : Int) = (b.drop at_).take 1 := num_natAt (w := 1) (by decide) (by decide) (by omega)
  have e2 : num 8 (wrap64 (natAt b (at_ + 1) 8 : Int)) = (b.drop (at_ + 1)).take 8 := num_natAt8 (by omega)
  have e3 : num 1 (natAt b (at_ + 9) 1 : Int) = (b.drop (at_ + 9)).take 1 := num_natAt (w := 1) (by decide) (by decide) (by omega)
  have e4 : num 4 (natAt b (at_ + 10) 4 : Int) = (b.drop (at_ + 10)).take 4 := num_natAt (w := 4) (by decide) (by decide) (by omega)
  have e5 : num 2 (natAt b (at_ + 14) 2 : Int) = (b.drop (at_ + 14)).take 2 := num_natAt (w := 2) (by decide) (by decide) (by omega)
  have e6 := pages_bytes (b := b) (at_ := at_ + 16) (n := countAt b at_) h
  have hl : ((entAt b at_).pages.length : Int) = (natAt b (at_ + 14) 2 : Int) := by simp only [entAt, pagesAt_length]; rfl
  unfold entBytes entHead
  rw [hl]
  simp only [entAt, keyAt]
  rw [e1, e2, e3, e4, e5, e6]
  rw [show 16 + 2 * countAt b at_ = 1 + (8 + (1 + (4 + (2 + 2 * countAt b at_)))) by omega]
  rw [take_drop_take b at_ 1, take_drop_take b (at_ + 1) 8, take_drop_take b (at_ + 1 + 8) 1, take_drop_take b (at_ + 1 + 8 + 1) 4, take_drop_take b (at_ + 1 + 8 + 1 + 4) 2]
  simp only [List.append_assoc]
theorem parseDir_bytes {b : List UInt8} (h2 : 2 ≤ b.length) : ∀ {n : Nat} {l : List DEntry} {e : Nat}, parseDir b n = some (l, e) → (l.map entBytes).flatten = (b.drop 2).take (e - 2)
  | 0, l, e, h => by
    simp only [parseDir, Option.some.injEq, Prod.mk.injEq] at h
    obtain ⟨rfl, rfl⟩ := h
    simp
  | n + 1, l, e, h => by
    unfold parseDir at h
    split at h
    · cases h
    · rename_i l0 a0 h0
      have ih := parseDir_bytes h2 h0
      have ha := parseDir_at h2 h0
      split at h
      · cases h
      · rename_i x e1 h1
        simp only [Option.some.injEq, Prod.mk.injEq] at h
        obtain ⟨rfl, rfl⟩ := h
        unfold parseEnt at h1
        split at h1
        · rename_i hc
          simp only [Option.some.injEq, Prod.mk.injEq] at h1
          obtain ⟨rfl, rfl⟩ := h1
          rw [List.map_append, List.flatten_append, ih]
          simp only [List.map_cons, List.map_nil, List.flatten_cons, List.flatten_nil, List.append_nil]
          rw [entAt_bytes hc.2, show a0 + 16 + 2 * countAt b a0 - 2 = (a0 - 2) + (16 + 2 * countAt b a0) by omega, take_drop_take b 2 (a0 - 2), show 2 + (a0 - 2) = a0 by omega]
        · cases h1
/-- What is got is just what is put. -/
theorem dirGet_put {b : List UInt8} (h : (dirGet b).2 = 0) : dirBytes (dirGet b).1 = b := by
  unfold dirGet at *
  split at h
  · exact absurd h (by decide)
  · rename_i hl
    rw [if_neg hl]
    split at h
    · exact absurd h (by decide)
    · rename_i l e hp
      split at h
      · rename_i he
        simp only [if_pos he]
        have h1 := parseDir_length hp
        have h2 := parseDir_bytes (by omega) hp
        have h3 : num 2 (natAt b 0 2 : Int) = (b.drop 0).take 2 := num_natAt (w := 2) (by decide) (by decide) (by omega)
        unfold dirBytes
        rw [h1, h3, h2, List.drop_zero, he]
        have h4 : (b.drop 2).take (b.length - 2) = b.drop 2 := List.take_of_length_le (by rw [List.length_drop]; exact Nat.le_refl _)
        rw [h4, List.take_append_drop]
      · exact absurd h (by decide)
/-- The head of an entry, number by number. -/
theorem header {b : List UInt8} {at_ : Nat} {r1 r2 r3 r4 r5 : Int × Nat × Bool} (e1 : r1 = rdNum b at_ false 1) (e2 : r2 = rdNum b r1.2.1 r1.2.2 8) (e3 : r3 = rdNum b r2.2.1 r2.2.2 1) (e4 : r4 = rdNum b r3.2.1 r3.2.2 4) (e5 : r5 = rdNum b r4.2.1 r4.2.2 2) :
    (at_ + 16 ≤ b.length ∧ r1.1 = natAt b at_ 1 ∧ r2.1 = i64of (natAt b (at_ + 1) 8) ∧ r3.1 = natAt b (at_ + 9) 1 ∧ r4.1 = natAt b (at_ + 10) 4 ∧ r5 = ((countAt b at_ : Int), at_ + 16, false)) ∨ (¬ at_ + 16 ≤ b.length ∧ r5.1 = 0 ∧ r5.2.2 = true) := by
  have g : ∀ (a : Nat) (w : Nat), 1 ≤ w → w ≤ 8 → rdNum b a false (w : Int) = if a + w ≤ b.length then (i64of (natAt b a w), a + w, false) else (0, a, true) := by
    intro a w h1 h8
    unfold rdNum
    rw [getNum_nat b a h1 h8, wide_small h1 h8]
    by_cases h : a + w ≤ b.length
    · rw [if_pos h, if_pos h]; rfl
    · rw [if_neg h, if_neg h]; rfl
  have t : ∀ (a : Nat) (w : Int), rdNum b a true w = (0, a, true) := fun a w => rfl
  have g1 : rdNum b at_ false 1 = _ := g at_ 1 (by decide) (by decide)
  have g2 : rdNum b (at_ + 1) false 8 = _ := g (at_ + 1) 8 (by decide) (by decide)
  have g3 : rdNum b (at_ + 9) false 1 = _ := g (at_ + 9) 1 (by decide) (by decide)
  have g4 : rdNum b (at_ + 10) false 4 = _ := g (at_ + 10) 4 (by decide) (by decide)
  have g5 : rdNum b (at_ + 14) false 2 = _ := g (at_ + 14) 2 (by decide) (by decide)
  rw [i64of_natAt b at_ 1 (by decide)] at g1
  rw [i64of_natAt b (at_ + 9) 1 (by decide)] at g3
  rw [i64of_natAt b (at_ + 10) 4 (by decide)] at g4
  rw [i64of_natAt b (at_ + 14) 2 (by decide)] at g5
  rw [g1] at e1
  by_cases c1 : at_ + 1 ≤ b.length
  case neg =>
    rw [if_neg c1] at e1; subst e1; simp only [t] at e2; subst e2; simp only [t] at e3; subst e3; simp only [t] at e4; subst e4; simp only [t] at e5; subst e5
    exact .inr ⟨by omega, rfl, rfl⟩
  rw [if_pos c1] at e1
  subst e1
  simp only [g2] at e2
  by_cases c2 : at_ + 1 + 8 ≤ b.length
  case neg =>
    rw [if_neg c2] at e2; subst e2; simp only [t] at e3; subst e3; simp only [t] at e4; subst e4; simp only [t] at e5; subst e5
    exact .inr ⟨by omega, rfl, rfl⟩
  rw [if_pos c2] at e2
  subst e2
  simp only [Nat.add_assoc, Nat.reduceAdd, g3] at e3
  by_cases c3 : at_ + 9 + 1 ≤ b.length
  case neg =>
    rw [if_neg c3] at e3; subst e3; simp only [t] at e4; subst e4; simp only [t] at e5; subst e5
    exact .inr ⟨by omega, rfl, rfl⟩
  rw [if_pos c3] at e3
  subst e3
  simp only [Nat.add_assoc, Nat.reduceAdd, g4] at e4
  by_cases c4 : at_ + 10 + 4 ≤ b.length
  case neg =>
    rw [if_neg c4] at e4; subst e4; simp only [t] at e5; subst e5
    exact .inr ⟨by omega, rfl, rfl⟩
  rw [if_pos c4] at e4
  subst e4
  simp only [Nat.add_assoc, Nat.reduceAdd, g5] at e5
  by_cases c5 : at_ + 14 + 2 ≤ b.length
  case neg =>
    rw [if_neg c5] at e5; subst e5
    exact .inr ⟨by omega, rfl, rfl⟩
  rw [if_pos c5] at e5
  exact .inl ⟨by omega, rfl, rfl, rfl, rfl, e5⟩
end Go.Proofs.Ytcfgckpjgihcgaa
/- The check sum in numbers: as0 the program adds bits from the low end, and as0 the document divides from the high one. No program is named here. -/
namespace Go.Proofs.Ytcfgckpjgihcgaa

def crcBit (s : Nat) : Nat := (s / 2) ^^^ (if s % 2 = 1 then 3988292384 else 0)
def crcBits : Nat → Nat → Nat
  | 0, s => s
  | k + 1, s => crcBit (crcBits k s)
def crcByte (s : Nat) (c : UInt8) : Nat := crcBits 8 (s ^^^ c.toNat)
def crcAdd (s : Nat) (l : List UInt8) : Nat := l.foldl crcByte s
def crcOf (l : List UInt8) : Nat := 4294967295 - crcAdd 4294967295 l

theorem crcBit_lt {s : Nat} (h : s < 4294967296) : crcBit s < 4294967296 := by
  have : s / 2 < 2 ^ 32 := by omega
  unfold crcBit
  split
  · exact Nat.xor_lt_two_pow this (by decide)
  · exact Nat.xor_lt_two_pow this (by decide)
theorem crcBits_lt {s : Nat} (h : s < 4294967296) : ∀ k, crcBits k s < 4294967296
  | 0 => h
  | k + 1 => crcBit_lt (crcBits_lt h k)
theorem byte_lt (c : UInt8) : c.toNat < 256 := c.toNat_lt
theorem crcByte_lt {s : Nat} (h : s < 4294967296) (c : UInt8) : crcByte s c < 4294967296 :=
  crcBits_lt (Nat.xor_lt_two_pow (n := 32) h (by have := byte_lt c; omega)) 8
theorem crcAdd_lt : ∀ {l : List UInt8} {s : Nat}, s < 4294967296 → crcAdd s l < 4294967296
  | [], _, h => h
  | c :: l, _, h => crcAdd_lt (l := l) (crcByte_lt h c)
theorem crcAdd_snoc (s : Nat) (l : List UInt8) (c : UInt8) : crcAdd s (l ++ [c]) = crcByte (crcAdd s l) c := by unfold crcAdd; rw [List.foldl_append]; rfl
theorem crcAdd_append (s : Nat) (l m : List UInt8) : crcAdd s (l ++ m) = crcAdd (crcAdd s l) m := by unfold crcAdd; rw [List.foldl_append]
theorem crcOf_lt (l : List UInt8) : crcOf l < 4294967296 := by unfold crcOf; omega

/-- Turned round: k bits of n, put behind those of o. -/
def turnBits : Nat → Nat → Nat → Nat × Nat
  | 0, n, o => (n, o)
  | k + 1, n, o => let p := turnBits k n o; (p.1 / 2, p.2 * 2 + p.1 % 2)
def turned (n : Nat) : Nat := (turnBits 32 n 0).2

theorem turnBits_fst (n o : Nat) : ∀ k, (turnBits k n o).1 = n / 2 ^ k
  | 0 => by simp [turnBits]
  | k + 1 => by
    show (turnBits k n o).1 / 2 = _
    rw [turnBits_fst n o k, Nat.div_div_eq_div_mul, Nat.pow_succ]
theorem turnBits_lt (n : Nat) : ∀ k, (turnBits k n 0).2 < 2 ^ k
  | 0 => by simp [turnBits]
  | k + 1 => by
    show (turnBits k n 0).2 * 2 + (turnBits k n 0).1 % 2 < _
    have := turnBits_lt n k
    rw [Nat.pow_succ]; omega
theorem turnBits_bit (n : Nat) : ∀ k i, (turnBits k n 0).2.testBit i = (decide (i < k) && n.testBit (k - 1 - i))
  | 0, i => by simp [turnBits]
  | k + 1, 0 => by
    show ((turnBits k n 0).2 * 2 + (turnBits k n 0).1 % 2).testBit 0 = _
    rw [turnBits_fst, Nat.testBit_zero]
    rw [show k + 1 - 1 - 0 = k by omega, Nat.testBit_eq_decide_div_mod_eq]
    simp
  | k + 1, i + 1 => by
    show ((turnBits k n 0).2 * 2 + (turnBits k n 0).1 % 2).testBit (i + 1) = _
    rw [Nat.testBit_succ, show ((turnBits k n 0).2 * 2 + (turnBits k n 0).1 % 2) / 2 = (turnBits k n 0).2 by omega, turnBits_bit n k i]
    rw [show k + 1 - 1 - (i + 1) = k - 1 - i by omega]
    simp
theorem turned_bit (n i : Nat) : (turned n).testBit i = (decide (i < 32) && n.testBit (31 - i)) := turnBits_bit n 32 i
theorem turned_lt (n : Nat) : turned n < 4294967296 := turnBits_lt n 32
theorem turned_xor (a b : Nat) : turned (a ^^^ b) = turned a ^^^ turned b := by
  apply Nat.eq_of_testBit_eq
  intro i
  rw [Nat.testBit_xor, turned_bit, turned_bit, turned_bit, Nat.testBit_xor]
  cases decide (i < 32) <;> simp
theorem turned_zero : turned 0 = 0 := by
  apply Nat.eq_of_testBit_eq
  intro i
  rw [turned_bit]; simp
theorem turned_poly : turned 79764919 = 3988292384 := by decide
theorem turned_ones : turned 4294967295 = 4294967295 := by decide
/-- One bit higher, and what leaves at the top is lost. -/
theorem turned_double (a : Nat) : turned (a * 2 % 4294967296) = turned a / 2 := by
  apply Nat.eq_of_testBit_eq
  intro i
  rw [Nat.testBit_div_two, turned_bit, turned_bit, show (4294967296 : Nat) = 2 ^ 32 by rfl, Nat.testBit_mod_two_pow]
  by_cases h : i + 1 < 32
  · have : 31 - i = (31 - (i + 1)) + 1 := by omega
    rw [this, Nat.testBit_succ, show a * 2 / 2 = a by omega]
    have h1 : i < 32 := by omega
    have h2 : 31 - (i + 1) + 1 < 32 := by omega
    simp [h, h1]
    intro _; omega
  · by_cases h1 : i < 32
    · have : i = 31 := by omega
      subst this
      simp
    · simp [h, h1]
theorem turned_low (a : Nat) (h : a < 4294967296) : turned a % 2 = a / 2147483648 := by
  have := turned_bit a 0
  rw [Nat.testBit_zero] at this
  have h2 : a.testBit 31 = decide (a / 2147483648 = 1) := by
    rw [Nat.testBit_eq_decide_div_mod_eq]
    congr 1; apply propext; omega
  simp [h2] at this
  omega

/-- The document's step: a rest, and what is left of a byte. -/
def restBit (r : Nat) (c : Nat) : Nat := (r * 2 % 4294967296) ^^^ (if r / 2147483648 ≠ c % 2 then 79764919 else 0)
def restBits : Nat → Nat → Nat → Nat
  | 0, r, _ => r
  | k + 1, r, c => restBit (restBits k r c) (c / 2 ^ k)
def restByte (r : Nat) (c : UInt8) : Nat := restBits 8 r c.toNat
def restAdd (r : Nat) (l : List UInt8) : Nat := l.foldl restByte r

theorem restBit_lt (r c : Nat) : restBit r c < 4294967296 := by
  have : r * 2 % 4294967296 < 2 ^ 32 := Nat.mod_lt _ (by decide)
  unfold restBit
  split
  · exact Nat.xor_lt_two_pow this (by decide)
  · exact Nat.xor_lt_two_pow this (by decide)
theorem restBits_lt {r : Nat} (h : r < 4294967296) (c : Nat) : ∀ k, restBits k r c < 4294967296
  | 0 => h
  | _ + 1 => restBit_lt _ _
theorem restByte_lt {r : Nat} (h : r < 4294967296) (c : UInt8) : restByte r c < 4294967296 := restBits_lt h _ 8
theorem restAdd_lt : ∀ {l : List UInt8} {r : Nat}, r < 4294967296 → restAdd r l < 4294967296
  | [], _, h => h
  | c :: l, _, h => restAdd_lt (l := l) (restByte_lt h c)
theorem restAdd_snoc (s : Nat) (l : List UInt8) (c : UInt8) : restAdd s (l ++ [c]) = restByte (restAdd s l) c := by unfold restAdd; rw [List.foldl_append]; rfl

theorem xor_div2 (a b : Nat) : (a ^^^ b) / 2 = a / 2 ^^^ b / 2 := by
  apply Nat.eq_of_testBit_eq
  intro i
  simp [Nat.testBit_div_two, Nat.testBit_xor]
theorem xor_mod2 (a b : Nat) : ((a ^^^ b) % 2 = 1) ↔ ¬ (a % 2 = b % 2) := by
  have h := Nat.testBit_xor a b 0
  simp only [Nat.testBit_zero] at h
  rcases Nat.mod_two_eq_zero_or_one a with ha | ha <;> rcases Nat.mod_two_eq_zero_or_one b with hb | hb <;> simp [ha, hb] at h ⊢ <;> omega

theorem bits_step {r c : Nat} (h : r < 4294967296) : crcBit (turned r ^^^ c) = turned (restBit r c) ^^^ (c / 2) := by
  unfold crcBit restBit
  rw [xor_div2, turned_xor, turned_double]
  have hm := xor_mod2 (turned r) c
  rw [turned_low r h] at hm
  by_cases hc : r / 2147483648 = c % 2
  · rw [if_neg (by rw [hm]; omega), if_neg (by omega), turned_zero]; simp
  · rw [if_pos (by rw [hm]; exact hc), if_pos (by omega), turned_poly]
    rw [Nat.xor_assoc, Nat.xor_assoc, Nat.xor_comm (c / 2)]
theorem bits_all {r : Nat} (h : r < 4294967296) (c : Nat) : ∀ k, crcBits k (turned r ^^^ c) = turned (restBits k r c) ^^^ (c / 2 ^ k)
  | 0 => by simp [crcBits, restBits]
  | k + 1 => by
    show crcBit (crcBits k _) = turned (restBit (restBits k r c) _) ^^^ _
    rw [bits_all h c k, bits_step (restBits_lt h c k), Nat.div_div_eq_div_mul, ← Nat.pow_succ]
theorem byte_all {r : Nat} (h : r < 4294967296) (c : UInt8) : crcByte (turned r) c = turned (restByte r c) := by
  unfold crcByte restByte
  rw [bits_all h, show c.toNat / 2 ^ 8 = 0 by have := byte_lt c; omega, Nat.xor_zero]
theorem add_all : ∀ {l : List UInt8} {r : Nat}, r < 4294967296 → crcAdd (turned r) l = turned (restAdd r l)
  | [], _, _ => rfl
  | c :: l, r, h => by
    show crcAdd (crcByte (turned r) c) l = turned (restAdd (restByte r c) l)
    rw [byte_all h c]
    exact add_all (restByte_lt h c)
theorem crc_same (l : List UInt8) : 4294967295 - turned (restAdd 4294967295 l) = crcOf l := by
  unfold crcOf
  rw [← add_all (by decide), turned_ones]
theorem crc_not {s : Nat} (h : s < 4294967296) : 4294967295 ^^^ s = 4294967295 - s := by
  apply Nat.eq_of_testBit_eq
  intro i
  have h2 := Nat.testBit_two_pow_sub_succ (n := 32) (x := s) h i
  have h3 := Nat.testBit_two_pow_sub_one 32 i
  rw [show 2 ^ 32 - (s + 1) = 4294967295 - s by omega] at h2
  rw [show 2 ^ 32 - 1 = 4294967295 by omega] at h3
  rw [Nat.testBit_xor, h2, h3]
  by_cases hi : i < 32
  · simp [hi]
  · have : s.testBit i = false := Nat.testBit_lt_two_pow (Nat.lt_of_lt_of_le h (Nat.pow_le_pow_right (n := 2) (by omega) (show 32 ≤ i by omega)))
    simp [hi, this]
end Go.Proofs.Ytcfgckpjgihcgaa
/- Sealed sectors as0 bytes: the plain law. No program is named here. -/
namespace Go.Proofs.Ytcfgckpjgihcgaa
open Go.RowKit

theorem digit_nat (n k : Nat) : (digit (n : Int) k).toNat = n / 256 ^ k % 256 := by
  have e : ((n : Int) / 2 ^ (8 * k) % 256) = ((n / 256 ^ k % 256 : Nat) : Int) := by
    have e2 : (2 : Int) ^ (8 * k) = ((256 ^ k : Nat) : Int) := by rw [Int.natCast_pow, Int.pow_mul]; rfl
    rw [e2]; rfl
  unfold digit
  rw [e]
  have h : n / 256 ^ k % 256 < 256 := Nat.mod_lt _ (by decide)
  rw [Int.toNat_natCast, UInt8.toNat_ofNat']
  exact Nat.mod_eq_of_lt h
theorem leNat_digits (n : Nat) : ∀ len k, leNat ((List.range' k len).map (digit (n : Int))) = n / 256 ^ k % 256 ^ len
  | 0, k => by simp [leNat, Nat.mod_one]
  | len + 1, k => by
    rw [List.range'_succ, List.map_cons]
    show (digit (n : Int) k).toNat + 256 * leNat _ = _
    rw [leNat_digits n len (k + 1), digit_nat, Nat.pow_succ 256 len, Nat.mul_comm (256 ^ len) 256, Nat.mod_mul, Nat.pow_succ 256 k, ← Nat.div_div_eq_div_mul]
theorem leNat_num {n w : Nat} (h1 : 1 ≤ w) (h8 : w ≤ 8) (h : n < 256 ^ w) : leNat (num (w : Int) (n : Int)) = n := by
  unfold num
  rw [wide_small h1 h8, List.range_eq_range']
  show leNat ((List.range' 0 w).map _) = n
  rw [leNat_digits]
  simp
  exact Nat.mod_eq_of_lt h
theorem num_len {w : Nat} (h1 : 1 ≤ w) (h8 : w ≤ 8) (n : Int) : (num (w : Int) n).length = w := by
  unfold num
  rw [wide_small h1 h8]; simp
theorem num_len1 (n : Int) : (num 1 n).length = 1 := num_len (w := 1) (by decide) (by decide) n
theorem num_len2 (n : Int) : (num 2 n).length = 2 := num_len (w := 2) (by decide) (by decide) n
theorem num_len4 (n : Int) : (num 4 n).length = 4 := num_len (w := 4) (by decide) (by decide) n
theorem num_len8 (n : Int) : (num 8 n).length = 8 := num_len (w := 8) (by decide) (by decide) n
/-- A number, read where it was put. -/
theorem natAt_num {A C : List UInt8} {a n w : Nat} (ha : A.length = a) (h1 : 1 ≤ w) (h8 : w ≤ 8) (h : n < 256 ^ w) : natAt (A ++ (num (w : Int) (n : Int) ++ C)) a w = n := by
  unfold natAt
  rw [← ha, List.drop_left, List.take_append_of_le_length (by rw [num_len h1 h8]; exact Nat.le_refl _), List.take_of_length_le (by rw [num_len h1 h8]; exact Nat.le_refl _)]
  exact leNat_num h1 h8 h

/-- The nearest number from 0 to the highest. -/
def near (n high : Int) : Int := if n < 0 then 0 else if high < n then high else n
theorem near_ge {n high : Int} (h : 0 ≤ high) : 0 ≤ near n high := by unfold near; split <;> (try split) <;> omega
theorem near_le {n high : Int} (h : 0 ≤ high) : near n high ≤ high := by unfold near; split <;> (try split) <;> omega
theorem near_in {n high : Int} (h0 : 0 ≤ n) (h1 : n ≤ high) : near n high = n := by unfold near; rw [if_neg (by omega), if_neg (by omega)]

def maxEpoch : Int := 281474976710656
/-- Just so many bytes. -/
def cutTo (l : List UInt8) (n : Nat) : List UInt8 := l.take n ++ List.replicate (n - l.length) 0
theorem cutTo_length (l : List UInt8) (n : Nat) : (cutTo l n).length = n := by
  unfold cutTo; rw [List.length_append, List.length_take, List.length_replicate]; omega

def sealFront (x : DSeal) : List UInt8 := num 8 (near x.epoch maxEpoch) ++ num 8 (near x.no maxEpoch)
def sealRest (x : DSeal) : List UInt8 :=
  num 1 (near x.kind 255) ++ ([0] ++ (num 2 ((x.body.take 472).length : Int) ++ (cutTo (x.body.take 472) 472 ++ (num 8 (near x.no maxEpoch) ++ num 8 (near x.epoch maxEpoch)))))
def sealBytes (x : DSeal) : List UInt8 := sealFront x ++ (num 4 (crcOf (sealFront x ++ sealRest x) : Int) ++ sealRest x)
theorem sealFront_length (x : DSeal) : (sealFront x).length = 16 := by simp [sealFront, num_len8]
theorem sealRest_length (x : DSeal) : (sealRest x).length = 492 := by simp [sealRest, num_len8, num_len1, num_len2, cutTo_length]
theorem sealBytes_length (x : DSeal) : (sealBytes x).length = 512 := by simp [sealBytes, num_len4, sealFront_length, sealRest_length]

theorem splice_skip {α : Type} {A T X : List α} {k off : Nat} (h : A.length = k) : splice (A ++ T) (k + off) X = A ++ splice T off X := by
  unfold splice
  subst h
  rw [List.take_length_add_append, Nat.add_assoc, List.drop_length_add_append, List.append_assoc]
theorem splice_here {α : Type} {B T X : List α} (h : B.length = X.length) : splice (B ++ T) 0 X = X ++ T := by
  unfold splice
  rw [Nat.zero_add, ← h, List.drop_left]; rfl
theorem splice_part {α : Type} {B C T X : List α} (h : B.length = X.length) : splice ((B ++ C) ++ T) 0 X = (X ++ C) ++ T := by
  rw [List.append_assoc, splice_here h, List.append_assoc]
theorem splice_map {α β : Type} (f : α → β) (L X : List α) (off : Nat) : (splice L off X).map f = splice (L.map f) off (X.map f) := by
  unfold splice; simp

def zeros (n : Nat) : List UInt8 := List.replicate n 0
theorem zeros_length (n : Nat) : (zeros n).length = n := List.length_replicate
theorem zeros_add (a b : Nat) : zeros (a + b) = zeros a ++ zeros b := List.replicate_append_replicate.symm

/-- The steps of the program: each number laid at its place, over zeros; then the body, the stamps once more. -/
def laid1 (x : DSeal) : List UInt8 := splice (zeros 512) 0 (num 8 (near x.epoch maxEpoch))
def laid2 (x : DSeal) : List UInt8 := splice (laid1 x) 8 (num 8 (near x.no maxEpoch))
def laid3 (x : DSeal) : List UInt8 := splice (laid2 x) 20 (num 1 (near x.kind 255))
def laid4 (x : DSeal) : List UInt8 := splice (laid3 x) 22 (num 2 ((x.body.take 472).length : Int))
def laid5 (x : DSeal) : List UInt8 := splice (laid4 x) 24 (x.body.take 472)
def laid6 (x : DSeal) : List UInt8 := splice (laid5 x) 496 (num 8 (near x.no maxEpoch))
def laid7 (x : DSeal) : List UInt8 := splice (laid6 x) 504 (num 8 (near x.epoch maxEpoch))
def laid8 (x : DSeal) : List UInt8 := splice (laid7 x) 16 (num 4 (crcOf ((laid7 x).take 16 ++ (laid7 x).drop 20) : Int))

theorem laid7_is (x : DSeal) : laid7 x = sealFront x ++ (zeros 4 ++ sealRest x) := by
  have z : zeros 512 = zeros 8 ++ (zeros 8 ++ (zeros 4 ++ (zeros 1 ++ (zeros 1 ++ (zeros 2 ++ (zeros 472 ++ (zeros 8 ++ zeros 8))))))) := by
    simp only [← zeros_add]
  have hb : (x.body.take 472).length ≤ 472 := by rw [List.length_take]; omega
  have z2 : zeros 472 = zeros (x.body.take 472).length ++ zeros (472 - (x.body.take 472).length) := by rw [← zeros_add]; congr 1; omega
  have e1 : laid1 x = num 8 (near x.epoch maxEpoch) ++ (zeros 8 ++ (zeros 4 ++ (zeros 1 ++ (zeros 1 ++ (zeros 2 ++ (zeros 472 ++ (zeros 8 ++ zeros 8))))))) := by
    rw [laid1, z, splice_here (by rw [zeros_length, num_len8])]
  have e2 : laid2 x = num 8 (near x.epoch maxEpoch) ++ (num 8 (near x.no maxEpoch) ++ (zeros 4 ++ (zeros 1 ++ (zeros 1 ++ (zeros 2 ++ (zeros 472 ++ (zeros 8 ++ zeros 8))))))) := by
    rw [laid2, e1, show 8 = 8 + 0 from rfl, splice_skip (num_len8 _), splice_here (by rw [zeros_length, num_len8])]
  have e3 : laid3 x = num 8 (near x.epoch maxEpoch) ++ (num 8 (near x.no maxEpoch) ++ (zeros 4 ++ (num 1 (near x.kind 255) ++ (zeros 1 ++ (zeros 2 ++ (zeros 472 ++ (zeros 8 ++ zeros 8))))))) := by
    rw [laid3, e2, show 20 = 8 + (8 + (4 + 0)) from rfl, splice_skip (num_len8 _), splice_skip (num_len8 _), splice_skip (zeros_length _), splice_here (by rw [zeros_length, num_len1])]
  have e4 : laid4 x = num 8 (near x.epoch maxEpoch) ++ (num 8 (near x.no maxEpoch) ++ (zeros 4 ++ (num 1 (near x.kind 255) ++ (zeros 1 ++ (num 2 ((x.body.take 472).length : Int) ++ (zeros 472 ++ (zeros 8 ++ zeros 8))))))) := by
    rw [laid4, e3, show 22 = 8 + (8 + (4 + (1 + (1 + 0)))) from rfl, splice_skip (num_len8 _), splice_skip (num_len8 _), splice_skip (zeros_length _), splice_skip (num_len1 _), splice_skip (zeros_length _), splice_here (by rw [zeros_length, num_len2])]
  have e5 : laid5 x = num 8 (near x.epoch maxEpoch) ++ (num 8 (near x.no maxEpoch) ++ (zeros 4 ++ (num 1 (near x.kind 255) ++ (zeros 1 ++ (num 2 ((x.body.take 472).length : Int) ++ (cutTo (x.body.take 472) 472 ++ (zeros 8 ++ zeros 8))))))) := by
    rw [laid5, e4, show 24 = 8 + (8 + (4 + (1 + (1 + (2 + 0))))) from rfl, splice_skip (num_len8 _), splice_skip (num_len8 _), splice_skip (zeros_length _), splice_skip (num_len1 _), splice_skip (zeros_length _), splice_skip (num_len2 _), z2, splice_part (zeros_length _)]
    rw [cutTo, List.take_take, Nat.min_self]
    rfl
  have hc : (cutTo (x.body.take 472) 472).length = 472 := cutTo_length _ _
  have e6 : laid6 x = num 8 (near x.epoch maxEpoch) ++ (num 8 (near x.no maxEpoch) ++ (zeros 4 ++ (num 1 (near x.kind 255) ++ (zeros 1 ++ (num 2 ((x.body.take 472).length : Int) ++ (cutTo (x.body.take 472) 472 ++ (num 8 (near x.no maxEpoch) ++ zeros 8))))))) := by
    rw [laid6, e5, show 496 = 8 + (8 + (4 + (1 + (1 + (2 + (472 + 0)))))) from rfl, splice_skip (num_len8 _), splice_skip (num_len8 _), splice_skip (zeros_length _), splice_skip (num_len1 _), splice_skip (zeros_length _), splice_skip (num_len2 _), splice_skip hc, splice_here (by rw [zeros_length, num_len8])]
  have e7 : laid7 x = num 8 (near x.epoch maxEpoch) ++ (num 8 (near x.no maxEpoch) ++ (zeros 4 ++ (num 1 (near x.kind 255) ++ (zeros 1 ++ (num 2 ((x.body.take 472).length : Int) ++ (cutTo (x.body.take 472) 472 ++ (num 8 (near x.no maxEpoch) ++ num 8 (near x.epoch maxEpoch)))))))) := by
    rw [laid7, e6, show 504 = 8 + (8 + (4 + (1 + (1 + (2 + (472 + (8 + 0))))))) from rfl, splice_skip (num_len8 _), splice_skip (num_len8 _), splice_skip (zeros_length _), splice_skip (num_len1 _), splice_skip (zeros_length _), splice_skip (num_len2 _), splice_skip hc, splice_skip (num_len8 _)]
    congr 8
  rw [e7, sealFront, sealRest, List.append_assoc]
  rfl
theorem laid7_length (x : DSeal) : (laid7 x).length = 512 := by rw [laid7_is]; simp [sealFront_length, sealRest_length, zeros_length]
theorem laid7_sum (x : DSeal) : (laid7 x).take 16 ++ (laid7 x).drop 20 = sealFront x ++ sealRest x := by
  rw [laid7_is]
  have h1 : (sealFront x ++ (zeros 4 ++ sealRest x)).take 16 = sealFront x := by
    rw [List.take_append_of_le_length (by rw [sealFront_length]; exact Nat.le_refl _), List.take_of_length_le (by rw [sealFront_length]; exact Nat.le_refl _)]
  have h2 : (sealFront x ++ (zeros 4 ++ sealRest x)).drop 20 = sealRest x := by
    rw [← List.append_assoc]
    have : (sealFront x ++ zeros 4).length = 20 := by rw [List.length_append, sealFront_length, zeros_length]
    rw [← this, List.drop_left]
  rw [h1, h2]
theorem laid8_is (x : DSeal) : laid8 x = sealBytes x := by
  rw [laid8, laid7_sum, laid7_is, show 16 = 16 + 0 from rfl, splice_skip (sealFront_length x), splice_here (by rw [zeros_length, num_len4])]
  rfl

/-- What a sector of any bytes would be. -/
def sealRead (b : List UInt8) : DSeal := ⟨i64of (natAt b 0 8), i64of (natAt b 8 8), natAt b 20 1, (b.drop 24).take (natAt b 22 2)⟩
/-- What a sector is. -/
def sealGet (b : List UInt8) : Option DSeal := if b.length = 512 ∧ natAt b 22 2 ≤ 472 ∧ sealBytes (sealRead b) = b then some (sealRead b) else none
/-- The same, as0 the program reads it. -/
def sealRead' (b : List UInt8) : DSeal := ⟨i64of (natAt b 0 8), i64of (natAt b 8 8), natAt b 20 1, (b.drop 24).take (min (natAt b 22 2) 472)⟩
theorem sealBytes_long (x : DSeal) : natAt (sealBytes x) 22 2 = (x.body.take 472).length := by
  have hb : (x.body.take 472).length ≤ 472 := by rw [List.length_take]; omega
  have e : sealBytes x = (sealFront x ++ num 4 (crcOf (sealFront x ++ sealRest x) : Int) ++ num 1 (near x.kind 255) ++ [0]) ++ (num 2 ((x.body.take 472).length : Int) ++ (cutTo (x.body.take 472) 472 ++ (num 8 (near x.no maxEpoch) ++ num 8 (near x.epoch maxEpoch)))) := by
    simp [sealBytes, sealRest]
  rw [e]
  exact natAt_num (w := 2) (by simp [sealFront_length, num_len4, num_len1]) (by decide) (by decide) (by omega)
theorem sealGet_alt {b : List UInt8} (hl : b.length = 512) : sealGet b = if sealBytes (sealRead' b) = b then some (sealRead' b) else none := by
  unfold sealGet
  by_cases h : natAt b 22 2 ≤ 472
  · have e : sealRead' b = sealRead b := by unfold sealRead' sealRead; rw [Nat.min_eq_left h]
    rw [e]
    by_cases h2 : sealBytes (sealRead b) = b
    · rw [if_pos ⟨hl, h, h2⟩, if_pos h2]
    · rw [if_neg (fun c => h2 c.2.2), if_neg h2]
  · rw [if_neg (fun c => h c.2.1), if_neg]
    intro c
    have h3 := sealBytes_long (sealRead' b)
    rw [c] at h3
    have : ((sealRead' b).body.take 472).length ≤ 472 := by rw [List.length_take]; omega
    omega

/-- What was put is got again. -/
def sealNorm (x : DSeal) : DSeal := ⟨near x.epoch maxEpoch, near x.no maxEpoch, near x.kind 255, x.body.take 472⟩
theorem near_near (n : Int) {high : Int} (h : 0 ≤ high) : near (near n high) high = near n high := near_in (near_ge h) (near_le h)
theorem sealBytes_norm (x : DSeal) : sealBytes (sealNorm x) = sealBytes x := by
  have e1 : near (near x.epoch maxEpoch) maxEpoch = near x.epoch maxEpoch := near_near _ (by decide)
  have e2 : near (near x.no maxEpoch) maxEpoch = near x.no maxEpoch := near_near _ (by decide)
  have e3 : near (near x.kind 255) 255 = near x.kind 255 := near_near _ (by decide)
  have e4 : (x.body.take 472).take 472 = x.body.take 472 := by rw [List.take_take, Nat.min_self]
  have f : sealFront (sealNorm x) = sealFront x := by simp only [sealFront, sealNorm, e1, e2]
  have r : sealRest (sealNorm x) = sealRest x := by simp only [sealRest, sealNorm, e1, e2, e3, e4]
  unfold sealBytes; rw [f, r]
theorem sealRead_put (x : DSeal) : sealRead (sealBytes x) = sealNorm x := by
  have g : ∀ n high : Int, 0 ≤ high → ((near n high).toNat : Int) = near n high := fun n high h => Int.toNat_of_nonneg (near_ge h)
  have k1 : (near x.epoch maxEpoch).toNat ≤ 281474976710656 := by have := near_le (n := x.epoch) (high := maxEpoch) (by decide); unfold maxEpoch at *; omega
  have k2 : (near x.no maxEpoch).toNat ≤ 281474976710656 := by have := near_le (n := x.no) (high := maxEpoch) (by decide); unfold maxEpoch at *; omega
  have k3 : (near x.kind 255).toNat ≤ 255 := by have := near_le (n := x.kind) (high := 255) (by decide); omega
  have hb : (x.body.take 472).length ≤ 472 := by rw [List.length_take]; omega
  obtain ⟨C, hC⟩ : ∃ C, C = num 4 (crcOf (sealFront x ++ sealRest x) : Int) := ⟨_, rfl⟩
  have hCl : C.length = 4 := by rw [hC, num_len4]
  have n1 : natAt (sealBytes x) 0 8 = (near x.epoch maxEpoch).toNat := by
    have e : sealBytes x = [] ++ (num 8 (((near x.epoch maxEpoch).toNat : Nat) : Int) ++ (num 8 (near x.no maxEpoch) ++ (C ++ sealRest x))) := by
      rw [g _ _ (by decide), hC]; simp [sealBytes, sealFront]
    rw [e]
    exact natAt_num (w := 8) rfl (by decide) (by decide) (by omega)
  have n2 : natAt (sealBytes x) 8 8 = (near x.no maxEpoch).toNat := by
    have e : sealBytes x = num 8 (near x.epoch maxEpoch) ++ (num 8 (((near x.no maxEpoch).toNat : Nat) : Int) ++ (C ++ sealRest x)) := by
      rw [g _ _ (by decide), hC]; simp [sealBytes, sealFront]
    rw [e]
    exact natAt_num (w := 8) (num_len8 _) (by decide) (by decide) (by omega)
  have n3 : natAt (sealBytes x) 20 1 = (near x.kind 255).toNat := by
    have e : sealBytes x = (sealFront x ++ C) ++ (num 1 (((near x.kind 255).toNat : Nat) : Int) ++ ([0] ++ (num 2 ((x.body.take 472).length : Int) ++ (cutTo (x.body.take 472) 472 ++ (num 8 (near x.no maxEpoch) ++ num 8 (near x.epoch maxEpoch)))))) := by
      rw [g _ _ (by decide), hC]; simp [sealBytes, sealRest]
    rw [e]
    exact natAt_num (w := 1) (by simp [sealFront_length, hCl]) (by decide) (by decide) (by omega)
  have n4 := sealBytes_long x
  have n5 : ((sealBytes x).drop 24).take (x.body.take 472).length = x.body.take 472 := by
    have e : sealBytes x = (sealFront x ++ C ++ num 1 (near x.kind 255) ++ [0] ++ num 2 ((x.body.take 472).length : Int)) ++ (cutTo (x.body.take 472) 472 ++ (num 8 (near x.no maxEpoch) ++ num 8 (near x.epoch maxEpoch))) := by
      rw [hC]; simp [sealBytes, sealRest]
    have l : (sealFront x ++ C ++ num 1 (near x.kind 255) ++ [0] ++ num 2 ((x.body.take 472).length : Int)).length = 24 := by simp [sealFront_length, hCl, num_len1, num_len2]
    rw [e, ← l, List.drop_left, cutTo, List.take_take, Nat.min_self, List.append_assoc, List.take_left]
  unfold sealRead sealNorm
  rw [n1, n2, n3, n4, n5, i64of_small (by omega), i64of_small (by omega), g _ _ (by decide), g _ _ (by decide), g _ _ (by decide)]
theorem sealGet_put (x : DSeal) : sealGet (sealBytes x) = some (sealNorm x) := by
  have hb : (x.body.take 472).length ≤ 472 := by rw [List.length_take]; omega
  unfold sealGet
  rw [sealRead_put, if_pos ⟨sealBytes_length x, by rw [sealBytes_long]; exact hb, sealBytes_norm x⟩]
end Go.Proofs.Ytcfgckpjgihcgaa
/- Walk of the reference's layout as0 bytes. -/
namespace Go.Proofs.Ytcfgckpjgihcgaa
open Go.RowKit

theorem rnum_at {w : World} {width n : Int} {B : Nat} (hB : B ≤ w.heap.size) (hw : (Lit.int .i64 width).wf = true) (hn : (Lit.int .i64 n).wf = true) :
    Calls Try.prog 156 #[.int .i64 width, .int .i64 n] w fun e w' => ∃ u, e = .returned u ∧ Rep.byte.acc 5 B (fun _ => False) w' u (num width n) ∧ Below w.heap.size w w' :=
  (rnum_calls hw hn).mono fun _ _ ⟨u, h1, h2, h3⟩ => ⟨u, h1, Rep.acc_base hB h2, h3⟩
end Go.Proofs.Ytcfgckpjgihcgaa
/- Walks of the functions on pages: how many, in pieces. -/
namespace Go.Proofs.Ytcfgckpjgihcgaa
open Go.RowKit

def pageCount (n : Int) : Int := if n < 1 then 0 else (n - 1) / 472 + 1

/-- page.Count -/
theorem count_calls (n : Int) (w : World) (h1 : -9223372036854775808 ≤ n) (h2 : n ≤ 9223372036854775807) :
    Calls Try.prog 22 #[.int .i64 n] w fun e w' => e = .returned (.int .i64 (pageCount n)) ∧ w' = w := by
  by_cases h : n < 1
  · have hf : pageCount n = 0 := by rw [pageCount, if_pos h]
    have HF := Lib.hid hf
    clear hf
    go_enter Try.func22, Try.ntmps22
    go_wp2_with fail
    go_ret
    exact ⟨by rw [HF.out]; rfl, rfl⟩
  · have hf : pageCount n = (n - 1) / 472 + 1 := by rw [pageCount, if_neg h]
    have HF := Lib.hid hf
    clear hf
    go_enter Try.func22, Try.ntmps22
    go_wp2_with fail
    go_ret
    exact ⟨by rw [HF.out]; rfl, rfl⟩

/-- ref20.Count -/
theorem rcount_calls (n : Int) (w : World) (h1 : -9223372036854775808 ≤ n) (h2 : n ≤ 9223372036854775807) :
    Calls Try.prog 23 #[.int .i64 n] w fun e w' => e = .returned (.int .i64 (pageCount n)) ∧ w' = w := by
  by_cases h : n < 1
  · have hf : pageCount n = 0 := by rw [pageCount, if_pos h]
    have HF := Lib.hid hf
    clear hf
    go_enter Try.func23, Try.ntmps23
    go_wp2_with fail
    go_ret
    exact ⟨by rw [HF.out]; rfl, rfl⟩
  · have hf : pageCount n = (n - 1) / 472 + 1 := by rw [pageCount, if_neg h]
    have HF := Lib.hid hf
    clear hf
    by_cases hk : n / 472 * 472 < n
    · have hg : n / 472 + 1 = (n - 1) / 472 + 1 := by omega
      have HG := Lib.hid hg
      clear hg
      go_enter Try.func23, Try.ntmps23
      go_wp2_with fail
      go_ret
      exact ⟨by rw [HF.out, ← HG.out]; rfl, rfl⟩
    · have hg : n / 472 = (n - 1) / 472 + 1 := by omega
      have HG := Lib.hid hg
      clear hg
      go_enter Try.func23, Try.ntmps23
      go_wp2_with fail
      go_ret
      exact ⟨by rw [HF.out, ← HG.out]; rfl, rfl⟩

/-- The pieces. -/
def piece (l : List UInt8) (i : Nat) : List UInt8 := (l.drop (472 * i)).take 472
def pieces (l : List UInt8) (n : Nat) : List (List UInt8) := (List.range n).map (piece l)
def cut (l : List UInt8) : List (List UInt8) := pieces l ((l.length + 471) / 472)

theorem pieces_succ (l : List UInt8) (n : Nat) : pieces l (n + 1) = pieces l n ++ [piece l n] := by simp [pieces, List.range_succ]

set_option maxRecDepth 4000 in
set_option maxHeartbeats 1000000 in
/-- ref20.Cut -/
theorem rcut_calls {Q0 : Nat → Prop} {w : World} {v : Value} {l : List UInt8} (hx : Rep.byte.list.val Q0 w v l) (hl : l.length ≤ 1000000) :
    Calls Try.prog 20 #[v] w (Res Rep.byte.list.list (fun b => (Q0 b ∧ b < w.heap.size) ∨ w.heap.size ≤ b) w (cut l)) := by
  obtain ⟨Q, hQ⟩ : ∃ Q : Nat → Prop, Q = fun b => Q0 b ∧ b < w.heap.size := ⟨_, rfl⟩
  have hQl : ∀ b, Q b → b < w.heap.size := by rw [hQ]; exact fun b h => h.2
  replace hx : Rep.byte.list.val Q w v l := Rep.val_keep (fun b hb hl => ⟨by rw [hQ]; exact ⟨hb, hl.lt⟩, rfl⟩) hx
  obtain ⟨A, c, rfl, hc1, hc2, hA⟩ := Rep.val_list hx
  clear hx
  unfold maxLen at hc2
  have HQ := Lib.hid hQ
  clear hQ
  have hbnd : ∀ k, 472 * k ≤ l.length + 472 → (pieces l k).length + 1 ≤ maxLen ∧ ((pieces l k).length + 1) * 24 ≤ 140737488355328 := fun k hk => by simp [pieces, maxLen]; omega
  have HB := Lib.hid hbnd
  clear hbnd
  go_enter Try.func20, Try.ntmps20
  go_wp2_with fail
  go_loopw [0, 3] (fun b s wr => ∃ (k m : Nat) (A' : Option Addr) (c' : Nat), b = .slice A' m c' ∧ Hid (m + 472 * k = l.length) ∧ m ≤ c' ∧ c' ≤ 9223372036854775807 ∧ Rep.byte.At Q wr A' (l.drop (472 * k)) ∧
    Rep.byte.list.acc 22 w.heap.size Q wr s (pieces l k) ∧ Below w.heap.size w wr) (fun b _ _ => (match b with | .slice _ n _ => n | _ => 0))
  case atStart => exact ⟨0, l.length, A, c, rfl, by simp [Hid], by omega, by omega, by simpa using hA, Rep.acc_nil, Below.refl _ _⟩
  case round =>
    obtain ⟨k, m, A', c', rfl, hk, hc', hm', hA', hacc, hbel⟩ := hrel
    have hown := Rep.acc_own hacc
    have hba : w.heap.size ≤ wr.heap.size := hbel.size
    have hne : ∀ b, Q b → u3.ownBlock ≠ some b := fun b hb he => by have := (hown b he).1; have := hQl b hb; omega
    have HN := Lib.hid hne
    have HO := Lib.hid hown
    clear hne hown
    by_cases hlt : 472 < m
    · have hlt' : (472 : Int) < (m : Int) := by omega
      obtain ⟨b, off, rfl⟩ := hA'.addr (by rw [List.length_drop]; have := hk.out; omega)
      have hy : Rep.byte.list.val (fun b' => Q b' ∧ u3.ownBlock ≠ some b') wr (.slice (some ⟨b, off, none⟩) 472 c') (piece l k) :=
        Rep.list_val (by simp [piece]; have := hk.out; omega) (by omega) (by unfold maxLen; omega) ((hA'.take 472).keep fun b hb _ => ⟨⟨hb, HN.out b hb⟩, rfl⟩)
      obtain ⟨h63, hby⟩ := HB.out k (by have := hk.out; omega)
      go_wp2_with (refine wpList_snoc (e := 22) (base := w.heap.size) (Q := Q) (r := Rep.byte.list) rfl rfl _ _ 24 _ rfl rfl rfl (.slice none 0 0) 1 24 Try.underlying24 info22 rfl (by decide) rfl _ (pieces l k) hacc (piece l k) _ (by exact rfl) hy (by exact rfl) (by exact rfl) h63 hby hba ?_; intro s' w' hacc' hgr hat)
      refine ⟨⟨k + 1, m - 472, _, c' - 472, rfl, ?_, by omega, by omega, ?_, by rw [pieces_succ]; exact hacc', hbel.grown hgr hba fun k hk => (HO.out k hk).1⟩, by show m - 472 < m; omega⟩
      · have := hk.out; unfold Hid; omega
      · have := (hA'.drop (n := 472) (by rw [List.length_drop]; have := hk.out; omega)).grown hgr HN.out
        rw [List.drop_drop] at this
        exact this
    · have hge : ¬ (472 : Int) < (m : Int) := by omega
      have hlen := hk.out
      rcases Nat.eq_zero_or_pos m with h0 | h0
      · subst h0
        have hcut : cut l = pieces l k := by rw [cut]; congr 1; omega
        have HC := Lib.hid hcut
        clear hcut hlen
        go_wp2_with fail
        go_ret
        refine ⟨_, rfl, ?_, hbel⟩
        rw [HC.out]
        refine Rep.val_mono (fun b hb _ => ?_) (Rep.acc_val hacc)
        rcases hb with hb | hb
        · have := HQ.out ▸ hb; exact .inl this
        · exact .inr (HO.out b hb).1
      · have h0' : (0 : Int) < (m : Int) := by omega
        have hcut : cut l = pieces l k ++ [piece l k] := by rw [cut, ← pieces_succ]; congr 1; omega
        have hpc : piece l k = l.drop (472 * k) := by rw [piece, List.take_of_length_le (by rw [List.length_drop]; omega)]
        have hy : Rep.byte.list.val (fun b' => Q b' ∧ u3.ownBlock ≠ some b') wr (.slice A' m c') (piece l k) := by
          rw [hpc]
          exact Rep.list_val (by rw [List.length_drop]; omega) (by omega) (by unfold maxLen; omega) (hA'.keep fun b hb _ => ⟨⟨hb, HN.out b hb⟩, rfl⟩)
        obtain ⟨h63, hby⟩ := HB.out k (by omega)
        have HC := Lib.hid hcut
        clear hcut hlen hpc
        go_wp2_with (refine wpList_snoc (e := 22) (base := w.heap.size) (Q := Q) (r := Rep.byte.list) rfl rfl _ _ 24 _ rfl rfl rfl (.slice none 0 0) 1 24 Try.underlying24 info22 rfl (by decide) rfl _ (pieces l k) hacc (piece l k) _ (by exact rfl) hy (by exact rfl) (by exact rfl) h63 hby hba ?_; intro s' w' hacc' hgr hat)
        go_ret
        refine ⟨_, rfl, ?_, hbel.grown hgr hba fun k hk => (HO.out k hk).1⟩
        rw [HC.out]
        refine Rep.val_mono (fun b hb _ => ?_) (Rep.acc_val hacc')
        rcases hb with hb | hb
        · have := HQ.out ▸ hb; exact .inl this
        · exact .inr (Rep.acc_own hacc' b hb).1
end Go.Proofs.Ytcfgckpjgihcgaa
/- Walks of the counts of pages. -/
namespace Go.Proofs.Ytcfgckpjgihcgaa
open Go.RowKit

def setsAt (c : DConf) (k : Nat) : Int := min (2 ^ k) c.entities
def sumSizes : List DComp → Int
  | [] => 0
  | x :: l => x.size + sumSizes l
theorem sumSizes_append : ∀ l m : List DComp, sumSizes (l ++ m) = sumSizes l + sumSizes m
  | [], m => by simp [sumSizes]
  | x :: l, m => by simp only [List.cons_append, sumSizes, sumSizes_append l m]; omega
theorem sumSizes_succ {l : List DComp} {k : Nat} (hk : k < l.length) : sumSizes (l.take (k + 1)) = sumSizes (l.take k) + l[k].size := by
  rw [List.take_succ_eq_append_getElem hk, sumSizes_append]; simp [sumSizes]
def streamsOf (c : DConf) : Int := 2 + setsAt c c.comps.length * (c.comps.length + 1)
def dataOf (c : DConf) : Int := (confBytes c).length + 8 + c.entities * (16 + sumSizes c.comps)
def pagesOf (c : DConf) : Int := streamsOf c + dataOf c / 472
def dirOf (c : DConf) : Int := pageCount (2 + 16 * streamsOf c + 2 * pagesOf c)
def mostOf (c : DConf) : Int := if confRight c then pagesOf c + dirOf c else 0
def ampleOf (c : DConf) : Bool := confRight c && decide (3 * (pagesOf c + dirOf c) ≤ c.pages) && decide (dirOf c ≤ 222)

theorem right_facts {c : DConf} (h : confRight c = true) : (2 ≤ c.log ∧ c.log ≤ 1024 ∧ 4 ≤ c.pages ∧ c.pages ≤ 1024 ∧ 1 ≤ c.entities ∧ c.entities ≤ 1024 ∧ 1 ≤ c.gens ∧ c.gens ≤ 1073741824 ∧ c.comps.length ≤ 32) ∧
    ∀ (k : Nat) (hk : k < c.comps.length), 0 ≤ c.comps[k].size ∧ c.comps[k].size ≤ 64 ∧ c.comps[k].name.length ≤ 16 := by
  simp only [confRight, Bool.and_eq_true] at h
  obtain ⟨h1, h2⟩ := h
  refine ⟨?_, fun k hk => ?_⟩
  · simp only [confRange, withinB, Bool.and_eq_true, decide_eq_true_eq] at h1; omega
  · have h3 := List.all_eq_true.1 h2 k (List.mem_range.2 hk)
    unfold compOk at h3
    rw [List.getElem?_eq_getElem hk] at h3
    simp only [Bool.and_eq_true] at h3
    obtain ⟨⟨_, h4⟩, h5⟩ := h3
    simp only [withinB, decide_eq_true_eq] at h5
    simp only [nameB, Bool.and_eq_true, decide_eq_true_eq] at h4
    exact ⟨h5.1, h5.2, h4.1.2⟩

theorem sumSizes_bound {c : DConf} (h : confRight c = true) : ∀ k, k ≤ c.comps.length → 0 ≤ sumSizes (c.comps.take k) ∧ sumSizes (c.comps.take k) ≤ 64 * k
  | 0, _ => by simp [sumSizes]
  | k + 1, hk => by
    have h1 := sumSizes_bound h k (by omega)
    have h2 := (right_facts h).2 k (by omega)
    rw [sumSizes_succ (by omega)]; omega

theorem setsAt_bound {c : DConf} (h : confRight c = true) (k : Nat) : 1 ≤ setsAt c k ∧ setsAt c k ≤ 1024 ∧ setsAt c k ≤ c.entities := by
  have h1 := (right_facts h).1
  have h2 : (1 : Int) ≤ 2 ^ k := by exact_mod_cast Nat.one_le_two_pow
  unfold setsAt; omega
theorem setsAt_zero {c : DConf} (h : confRight c = true) : setsAt c 0 = 1 := by
  have h1 := (right_facts h).1
  unfold setsAt
  simp only [Int.pow_zero]; omega
theorem setsAt_succ {c : DConf} (h : confRight c = true) (k : Nat) : setsAt c (k + 1) = min (2 * setsAt c k) c.entities := by
  have h1 := (right_facts h).1
  have h2 : (1 : Int) ≤ 2 ^ k := by exact_mod_cast Nat.one_le_two_pow
  unfold setsAt
  rw [Int.pow_succ]; omega

theorem mul_bounds {a b A B : Int} (h1 : 0 ≤ a) (h2 : a ≤ A) (h3 : 0 ≤ b) (h4 : b ≤ B) : 0 ≤ a * b ∧ a * b ≤ A * B :=
  ⟨Int.mul_nonneg h1 h3, Int.mul_le_mul h2 h4 h3 (by omega)⟩

theorem confBytes_length {c : DConf} (h : c.comps.length ≤ 32) : (confBytes c).length ≤ 2100000 := by
  have h1 := flatten_le compBytes 65551 compBytes_length c.comps
  have h2 := flatten_le (num 4) 8 (num_length 4) (headOf c)
  have h3 := num_length 1 c.comps.length
  have h4 : (headOf c).length = 4 := rfl
  simp only [confBytes, headBytes, List.length_append] at *; omega

theorem count_bounds {c : DConf} (h : confRight c = true) : 2 ≤ streamsOf c ∧ streamsOf c ≤ 33794 ∧ 0 ≤ dataOf c ∧ dataOf c ≤ 4300000 ∧ 0 ≤ pagesOf c ∧ pagesOf c ≤ 50000 ∧ 0 ≤ dirOf c ∧ dirOf c ≤ 10000 := by
  have h1 := right_facts h
  have h2 := setsAt_bound h c.comps.length
  have h3 := mul_bounds (a := setsAt c c.comps.length) (b := (c.comps.length : Int) + 1) (A := 1024) (B := 33) (by omega) (by omega) (by omega) (by omega)
  have h4 := sumSizes_bound h c.comps.length (Nat.le_refl _)
  rw [List.take_length] at h4
  have h5 := mul_bounds (a := c.entities) (b := 16 + sumSizes c.comps) (A := 1024) (B := 2064) (by omega) (by omega) (by omega) (by omega)
  have h6 := confBytes_length (c := c) (by omega)
  have hs : 2 ≤ streamsOf c ∧ streamsOf c ≤ 33794 := by unfold streamsOf; omega
  have hd : 0 ≤ dataOf c ∧ dataOf c ≤ 4300000 := by unfold dataOf; omega
  have hp : 0 ≤ pagesOf c ∧ pagesOf c ≤ 50000 := by unfold pagesOf; omega
  refine ⟨hs.1, hs.2, hd.1, hd.2, hp.1, hp.2, ?_⟩
  unfold dirOf pageCount
  split <;> omega
end Go.Proofs.Ytcfgckpjgihcgaa
/- Walk of policy.count. -/
namespace Go.Proofs.Ytcfgckpjgihcgaa
open Go.RowKit

theorem heap_setCell_row {w : World} {b i e : Nat} {cs : Array Value} {v : Value} {f : Nat × Nat} (h : w.heap[b]? = some (.cells cs e f)) : (w.setCell ⟨b, i, none⟩ v).heap[b]? = some (.cells (cs.setIfInBounds i v) e f) := by
  simp [World.setCell, Array.getElem?_modify, h]

end Go.Proofs.Ytcfgckpjgihcgaa
/- Walk of the reference's counts. -/
namespace Go.Proofs.Ytcfgckpjgihcgaa
open Go.RowKit

theorem pow_le {k n : Nat} (h : k ≤ n) : (2 : Int) ^ k ≤ 2 ^ n := by exact_mod_cast Nat.pow_le_pow_right (by decide) h
theorem setsAt_full {c : DConf} {k n : Nat} (hk : k ≤ n) (h : c.entities ≤ 2 ^ k) : setsAt c n = c.entities := by
  have := pow_le hk
  unfold setsAt; omega
theorem setsAt_pow {c : DConf} {n : Nat} (h : 2 ^ n ≤ c.entities) : setsAt c n = 2 ^ n := by unfold setsAt; omega
theorem data_sum (e s l : Int) : l + 8 + 16 * e + e * s = l + 8 + e * (16 + s) := by rw [Int.mul_add]; omega
theorem mul_step (e s x b : Int) : b + e * s + e * x = b + e * (s + x) := by rw [Int.mul_add]; omega

end Go.Proofs.Ytcfgckpjgihcgaa
/- Walks of Most, Ample and Due, both. -/
namespace Go.Proofs.Ytcfgckpjgihcgaa
open Go.RowKit

/-- A layout in a box, and what reads it. -/
structure InBox (W : World) (B : Nat) (c : DConf) (A : Option Addr) (cap : Nat) : Prop where
  c0 : W.cell? ⟨B, 0, none⟩ = some (.int .i64 c.log)
  c1 : W.cell? ⟨B, 1, none⟩ = some (.int .i64 c.pages)
  c2 : W.cell? ⟨B, 2, none⟩ = some (.int .i64 c.entities)
  c3 : W.cell? ⟨B, 3, none⟩ = some (.int .i64 c.gens)
  c4 : W.cell? ⟨B, 4, none⟩ = some (.slice A c.comps.length cap)
  val : rConf.val (fun b => b < B) W (.agg #[.int .i64 c.log, .int .i64 c.pages, .int .i64 c.entities, .int .i64 c.gens, .slice A c.comps.length cap]) c
theorem InBox.later {W W' : World} {B : Nat} {c : DConf} {A : Option Addr} {cap : Nat} (h : InBox W B c A cap) (hb : Below (B + 1) W W') : InBox W' B c A cap :=
  ⟨(hb.cell (p := ⟨B, 0, none⟩) (Nat.lt_succ_self _)).trans h.c0, (hb.cell (p := ⟨B, 1, none⟩) (Nat.lt_succ_self _)).trans h.c1, (hb.cell (p := ⟨B, 2, none⟩) (Nat.lt_succ_self _)).trans h.c2,
   (hb.cell (p := ⟨B, 3, none⟩) (Nat.lt_succ_self _)).trans h.c3, (hb.cell (p := ⟨B, 4, none⟩) (Nat.lt_succ_self _)).trans h.c4, Rep.val_keep (fun b hq _ => ⟨hq, hb.block b (by omega)⟩) h.val⟩
theorem InBox.made {Q : Nat → Prop} {w : World} {c : DConf} {A : Option Addr} {cap : Nat} (h : rConf.val Q w (.agg #[.int .i64 c.log, .int .i64 c.pages, .int .i64 c.entities, .int .i64 c.gens, .slice A c.comps.length cap]) c) (t : TypeId) :
    InBox (w.alloc (.cells #[.int .i64 c.log, .int .i64 c.pages, .int .i64 c.entities, .int .i64 c.gens, .slice A c.comps.length cap] t)) w.heap.size c A cap :=
  ⟨by simp, by simp, by simp, by simp, by simp, Rep.val_keep (w := w) (fun _ _ hl => ⟨hl.lt, Below.heap_alloc _ _ _ hl.lt⟩) h⟩

end Go.Proofs.Ytcfgckpjgihcgaa
/- An element of an array by value. -/
namespace Go.Proofs.Ytcfgckpjgihcgaa
open Go.RowKit

set_option maxRecDepth 100000 in
/-- policy.Due, ref28.Due -/
def dueOf (p : DPolicy) (room frames : Int) : Bool := decide (room < p.room) || (decide (0 < p.frames) && decide (p.frames ≤ frames))

end Go.Proofs.Ytcfgckpjgihcgaa
/- Walks of the checks of commands and of frames, both. -/
namespace Go.Proofs.Ytcfgckpjgihcgaa
open Go.RowKit

def knownB (k : Int) : Bool := decide (0 ≤ k) && decide (k ≤ 3)
def checkCmd (x : DCmd) : Int := if knownB x.kind then (if 64 < x.data.length then 13 else 0) else 1
def firstBad : List DCmd → Int
  | [] => 0
  | x :: xs => if checkCmd x = 0 then firstBad xs else checkCmd x
def checkFrame (l : List DCmd) : Int := if 64 < l.length then 13 else firstBad l

theorem firstBad_none : ∀ {l : List DCmd}, (∀ x ∈ l, checkCmd x = 0) → firstBad l = 0
  | [], _ => rfl
  | x :: xs, h => by
    unfold firstBad
    rw [if_pos (h x (by simp))]
    exact firstBad_none fun y hy => h y (by simp [hy])
theorem firstBad_at : ∀ {l : List DCmd} {k : Nat} (hk : k < l.length), (∀ x ∈ l.take k, checkCmd x = 0) → checkCmd l[k] ≠ 0 → firstBad l = checkCmd l[k]
  | [], k, hk, _, _ => by simp at hk
  | x :: xs, 0, hk, _, h => by
    unfold firstBad
    rw [if_neg (show ¬ checkCmd x = 0 from h)]; rfl
  | x :: xs, k + 1, hk, h, h2 => by
    unfold firstBad
    rw [if_pos (h x (by simp))]
    exact firstBad_at (by simp at hk; omega) (fun y hy => h y (by simp [hy])) h2
theorem firstBad_zero : ∀ {l : List DCmd}, firstBad l = 0 → ∀ x ∈ l, checkCmd x = 0
  | [], _, x, hx => by simp at hx
  | y :: ys, h, x, hx => by
    unfold firstBad at h
    split at h
    · rename_i h0
      rcases List.mem_cons.1 hx with rfl | hx
      · exact h0
      · exact firstBad_zero h x hx
    · rename_i h0; exact absurd h h0

set_option maxRecDepth 100000 in
/-- cmd.known -/
theorem known_calls (k : Int) (w : World) :
    Calls Try.prog 333 #[.int .i64 k] w fun e w' => e = .returned (.bool (knownB k)) ∧ w' = w := by
  obtain ⟨r, hr⟩ : ∃ r, r = knownB k := ⟨_, rfl⟩
  rw [← hr]
  unfold knownB at hr
  rcases dec_split (0 ≤ k) with t1 | ⟨t1, d1⟩ <;> rcases dec_split (k ≤ 3) with t2 | ⟨t2, d2⟩
  all_goals
    simp [*] at hr
    subst hr
    go_enter Try.func333, Try.ntmps333
    go_wp2_with fail
    go_ret
    exact ⟨by first | rfl | (simp only [*]; rfl), rfl⟩

/-- A command in a box. -/
structure CmdBox (W : World) (B : Nat) (x : DCmd) (A : Option Addr) (c : Nat) : Prop where
  c0 : W.cell? ⟨B, 0, none⟩ = some (.int .i64 x.kind)
  c1 : W.cell? ⟨B, 1, none⟩ = some (.bool x.loc)
  c2 : W.cell? ⟨B, 2, none⟩ = some (.int .i64 x.id.index)
  c3 : W.cell? ⟨B, 3, none⟩ = some (.int .i64 x.id.gen)
  c4 : W.cell? ⟨B, 4, none⟩ = some (.int .i64 x.comp)
  c5 : W.cell? ⟨B, 5, none⟩ = some (.slice A x.data.length c)
  val : rCmd.val (fun b => b < B) W (.agg #[.int .i64 x.kind, .bool x.loc, .int .i64 x.id.index, .int .i64 x.id.gen, .int .i64 x.comp, .slice A x.data.length c]) x
theorem CmdBox.later {W W' : World} {B : Nat} {x : DCmd} {A : Option Addr} {c : Nat} (h : CmdBox W B x A c) (hb : Below (B + 1) W W') : CmdBox W' B x A c :=
  ⟨(hb.cell (p := ⟨B, 0, none⟩) (Nat.lt_succ_self _)).trans h.c0, (hb.cell (p := ⟨B, 1, none⟩) (Nat.lt_succ_self _)).trans h.c1, (hb.cell (p := ⟨B, 2, none⟩) (Nat.lt_succ_self _)).trans h.c2,
   (hb.cell (p := ⟨B, 3, none⟩) (Nat.lt_succ_self _)).trans h.c3, (hb.cell (p := ⟨B, 4, none⟩) (Nat.lt_succ_self _)).trans h.c4, (hb.cell (p := ⟨B, 5, none⟩) (Nat.lt_succ_self _)).trans h.c5, Rep.val_keep (fun b hq _ => ⟨hq, hb.block b (by omega)⟩) h.val⟩
theorem CmdBox.made {Q : Nat → Prop} {w : World} {x : DCmd} {A : Option Addr} {c : Nat} (h : rCmd.val Q w (.agg #[.int .i64 x.kind, .bool x.loc, .int .i64 x.id.index, .int .i64 x.id.gen, .int .i64 x.comp, .slice A x.data.length c]) x) (t : TypeId) :
    CmdBox (w.alloc (.cells #[.int .i64 x.kind, .bool x.loc, .int .i64 x.id.index, .int .i64 x.id.gen, .int .i64 x.comp, .slice A x.data.length c] t)) w.heap.size x A c :=
  ⟨by simp, by simp, by simp, by simp, by simp, by simp, Rep.val_keep (w := w) (fun _ _ hl => ⟨hl.lt, Below.heap_alloc _ _ _ hl.lt⟩) h⟩

set_option maxRecDepth 100000 in
set_option maxHeartbeats 1000000 in
/-- ref13.Check -/
theorem rcmdCheck_calls {Q : Nat → Prop} {w : World} {v : Value} {x : DCmd} (hx : rCmd.val Q w v x) :
    Calls Try.prog 155 #[v] w fun e w' => e = .returned (.int .i64 (checkCmd x)) ∧ Below w.heap.size w w' := by
  obtain ⟨A, c, rfl, _, _, _, _, hs⟩ := rCmd_val hx
  have hm := CmdBox.made hx 220
  have hs1 := hs.1
  have hs2 := hs.2.1
  unfold maxLen at hs2
  have hbel : Below w.heap.size w (w.alloc (.cells #[.int .i64 x.kind, .bool x.loc, .int .i64 x.id.index, .int .i64 x.id.gen, .int .i64 x.comp, .slice A x.data.length c] 220)) := (Below.refl _ _).alloc (Nat.le_refl _) _
  obtain ⟨W1, hW1⟩ : ∃ W1, w.alloc (.cells #[.int .i64 x.kind, .bool x.loc, .int .i64 x.id.index, .int .i64 x.id.gen, .int .i64 x.comp, .slice A x.data.length c] 220) = W1 := ⟨_, rfl⟩
  rw [hW1] at hm hbel
  obtain ⟨c0, c1, c2, c3, c4, c5, _⟩ := hm
  have HB := Lib.hid hbel
  clear hbel hx hs
  obtain ⟨r, hr⟩ : ∃ r, r = checkCmd x := ⟨_, rfl⟩
  rw [← hr]
  unfold checkCmd knownB at hr
  rcases dec_split (x.kind < 0) with t1 | ⟨t1, d1⟩ <;> rcases dec_split (3 < x.kind) with t2 | ⟨t2, d2⟩ <;> rcases dec_split ((64 : Int) < x.data.length) with t3 | ⟨t3, d3⟩
  all_goals
    try omega
  all_goals
    simp at hr
    (first | rw [if_pos (by omega), if_pos (by omega)] at hr | rw [if_pos (by omega), if_neg (by omega)] at hr | rw [if_neg (by omega)] at hr)
    subst hr
    go_enter Try.func155, Try.ntmps155
    go_wp2_with fail
    try rw [hW1]
    clear hW1
    go_wp2_with fail
    go_ret
    exact ⟨by first | rfl | (simp only [*]; rfl), HB.out⟩
end Go.Proofs.Ytcfgckpjgihcgaa
/- Walks of the checks of frames, both; what is too much; what a number of bytes needs; what is due. -/
namespace Go.Proofs.Ytcfgckpjgihcgaa
open Go.RowKit

theorem checkFrame_long {l : List DCmd} (h : (64 : Int) < l.length) : checkFrame l = 13 := by unfold checkFrame; rw [if_pos (by omega)]
theorem checkFrame_bad {l : List DCmd} (h : ¬ (64 : Int) < l.length) {k : Nat} (hk : k < l.length) (h1 : ∀ x ∈ l.take k, checkCmd x = 0) (h2 : checkCmd l[k] ≠ 0) : checkFrame l = checkCmd l[k] := by
  unfold checkFrame; rw [if_neg (by omega)]; exact firstBad_at hk h1 h2
theorem checkFrame_good {l : List DCmd} (h : ¬ (64 : Int) < l.length) {k : Nat} (hk : ¬ k < l.length) (h1 : ∀ x ∈ l.take k, checkCmd x = 0) : checkFrame l = 0 := by
  unfold checkFrame; rw [if_neg (by omega)]
  rw [List.take_of_length_le (by omega)] at h1
  exact firstBad_none h1
theorem checks_more {l : List DCmd} {k : Nat} (hk : k < l.length) (h1 : ∀ x ∈ l.take k, checkCmd x = 0) (h2 : checkCmd l[k] = 0) : ∀ x ∈ l.take (k + 1), checkCmd x = 0 := by
  intro x hx
  rw [List.take_add_one, List.getElem?_eq_getElem hk] at hx
  rcases List.mem_append.1 hx with hx | hx
  · exact h1 x hx
  · simp at hx; rw [hx]; exact h2
theorem checkCmd_wf (x : DCmd) : (Lit.int .i64 (checkCmd x)).wf = true := by
  unfold checkCmd; split <;> (try split) <;> rfl

set_option maxRecDepth 100000 in
set_option maxHeartbeats 1000000 in
/-- ref14.Check -/
theorem rframeCheck_calls {Q : Nat → Prop} {w : World} {v : Value} {l : List DCmd} (hx : rCmd.list.val Q w v l) :
    Calls Try.prog 56 #[v] w fun e w' => e = .returned (.int .i64 (checkFrame l)) ∧ Below w.heap.size w w' := by
  obtain ⟨A, c, rfl, hc1, hc2, hA⟩ := Rep.val_list hx
  unfold maxLen at hc2
  by_cases hlong : (64 : Int) < l.length
  · have HF := Lib.hid (checkFrame_long hlong)
    clear hx hA
    go_enter Try.func56, Try.ntmps56
    go_wp2_with fail
    go_ret
    exact ⟨by rw [HF.out]; rfl, Below.refl _ _⟩
  · have HA := Lib.hid hA
    clear hx hA
    go_enter Try.func56, Try.ntmps56
    go_wp2_with fail
    go_loopw [3] (fun i wr => ∃ k : Nat, i = .int .i64 k ∧ k ≤ l.length ∧ Hid (∀ x ∈ l.take k, checkCmd x = 0) ∧ Below w.heap.size w wr)
      (fun i _ => l.length - (intOf i).toNat)
    case atStart => exact ⟨0, rfl, by omega, (by intro x hx; simp at hx), Below.refl _ _⟩
    case round =>
      obtain ⟨k, rfl, hk, hall, hb1⟩ := hrel
      by_cases hlt : (k : Int) < l.length
      · have hk' : k < l.length := by omega
        obtain ⟨b, off, A6, c6, rfl, _, d0, d1, d2, d3, d4, d5, f0, f1, f2, f3, sp⟩ := rCmd_at (HA.out.below hb1 fun _ _ h => h.lt) (List.getElem?_eq_getElem hk')
        have HBad := Lib.hid (checkFrame_bad (show ¬ (64 : Int) < l.length by omega) hk' hall)
        have HMore := Lib.hid (checks_more hk' hall)
        have HA1 := Lib.hid (HA.out.below hb1 fun _ _ h => h.lt)
        generalize hxx : l[k] = x at *
        have HX := Lib.hid ((List.getElem?_eq_getElem hk').trans (congrArg some hxx))
        have HV := Lib.hid (rCmd_agg f0 f1 f2 f3 sp)
        have HB1 := Lib.hid hb1
        clear sp f0 f1 f2 f3 hb1 hall hxx
        by_cases h0 : checkCmd x = 0
        · have H0 := Lib.hid h0
          clear h0
          go_wp2_with fail
          refine (rcmdCheck_calls HV.out).mono ?_
          rintro e w1 ⟨rfl, hb2⟩
          rw [H0.out]
          have HB3 := Lib.hid (HB1.out.trans (hb2.mono HB1.out.size))
          clear hb2
          go_wp2_with fail
          exact ⟨⟨k + 1, by go_num, by omega, HMore.out H0.out, HB3.out⟩, by simp [intOf]; omega⟩
        · have H0 := Lib.hid h0
          have HF := Lib.hid (HBad.out h0)
          have g0 : (checkCmd x == 0) = false := by simp [h0]
          clear h0
          go_wp2_with fail
          refine (rcmdCheck_calls HV.out).mono ?_
          rintro e w1 ⟨rfl, hb2⟩
          have HB3 := Lib.hid (HB1.out.trans (hb2.mono HB1.out.size))
          obtain ⟨b', off', A7, c7, he, _, z0, z1, z2, z3, z4, z5, f0, f1, f2, f3, sp⟩ := rCmd_at (HA1.out.below hb2 fun _ _ h => h.lt) HX.out
          cases he
          have HV2 := Lib.hid (rCmd_agg f0 f1 f2 f3 sp)
          clear hb2 d0 d1 d2 d3 d4 d5 sp f0 f1 f2 f3
          go_wp2_with fail
          refine (rcmdCheck_calls HV2.out).mono ?_
          rintro e w2 ⟨rfl, hb4⟩
          have HB4 := Lib.hid (HB3.out.trans (hb4.mono HB3.out.size))
          go_wp2_with fail
          go_ret
          exact ⟨by rw [HF.out]; rfl, HB4.out⟩
      · have HF := Lib.hid (checkFrame_good (show ¬ (64 : Int) < l.length by omega) (show ¬ k < l.length by omega) hall)
        go_wp2_with fail
        go_ret
        exact ⟨by rw [HF.out]; rfl, hb1⟩

def MuchCmds (w : World) (l : List DCmd) (e : Ending) (w' : World) : Prop := ∃ r : Bool, e = .returned (.bool r) ∧ (r = false → l.length ≤ 70) ∧ w' = w
set_option maxRecDepth 100000 in
/-- ref13.Much -/
theorem muchCmds_calls {Q : Nat → Prop} {w : World} {v : Value} {l : List DCmd} (hx : rCmd.list.val Q w v l) :
    Calls Try.prog 55 #[v] w (MuchCmds w l) := by
  obtain ⟨A, c, rfl, hc1, hc2, hA⟩ := Rep.val_list hx
  unfold maxLen at hc2
  have HA := Lib.hid hA
  clear hx hA
  go_enter Try.func55, Try.ntmps55
  go_wp2_with fail
  go_loop [3] (fun i => ∃ k : Nat, i = .int .i64 k ∧ k ≤ l.length ∧ k ≤ 100) (fun i => l.length - (intOf i).toNat)
  case atStart => exact ⟨0, rfl, by omega, by omega⟩
  case round =>
    obtain ⟨k, rfl, hk, hk5⟩ := hrel
    by_cases hlt : (k : Int) < l.length
    · by_cases h50 : (k : Int) < 100
      · have hk' : k < l.length := by omega
        obtain ⟨b, off, A6, c6, rfl, _, d0, d1, d2, d3, d4, d5, _, _, _, _, sp⟩ := rCmd_at HA.out (List.getElem?_eq_getElem hk')
        have hp1 := sp.1
        have hp2 := sp.2.1
        unfold maxLen at hp2
        generalize l[k] = x at *
        clear sp
        by_cases h2 : (200 : Int) < x.data.length
        · go_wp2_with fail
          go_ret
          exact ⟨true, rfl, (fun h => (by cases h)), rfl⟩
        · go_wp2_with fail
          go_round
          case rel => exact ⟨k + 1, by go_num, by omega, by omega⟩
          case measure => simp [intOf]; omega
      · have h20 : (70 : Int) < l.length := by omega
        go_wp2_with fail
        go_ret
        exact ⟨true, rfl, (fun h => (by cases h)), rfl⟩
    · by_cases h20 : (70 : Int) < l.length
      · go_wp2_with fail
        go_ret
        exact ⟨true, rfl, (fun h => (by cases h)), rfl⟩
      · go_wp2_with fail
        go_ret
        exact ⟨false, rfl, fun _ => by omega, rfl⟩

def needOf (n : Int) : Int := if n ≤ 460 then 1 else (n - 1) / 460 + 1
theorem need_large {n : Int} (h : 460 < n) (hb : n ≤ 9223372036854775807) : 2 ≤ needOf n ∧ needOf n ≤ n ∧ needOf n = (n - 1) / 460 + 1 := by
  unfold needOf; rw [if_neg (by omega)]; omega
set_option maxRecDepth 100000 in
/-- geom.Need -/
theorem need_calls {n : Int} (h0 : n ≤ 9223372036854775807) (w : World) :
    Calls Try.prog 239 #[.int .i64 n] w fun e w' => e = .returned (.int .i64 (needOf n)) ∧ w' = w := by
  by_cases h : n ≤ 460
  · have HF := Lib.hid (show needOf n = 1 by unfold needOf; rw [if_pos h])
    go_enter Try.func239, Try.ntmps239
    go_wp2_with fail
    go_ret
    exact ⟨by rw [HF.out]; rfl, rfl⟩
  · have HF := Lib.hid (need_large (by omega) h0).2.2
    go_enter Try.func239, Try.ntmps239
    go_wp2_with fail
    go_ret
    exact ⟨by rw [HF.out]; rfl, rfl⟩
end Go.Proofs.Ytcfgckpjgihcgaa
/- Walks of a command as0 bytes: cmd. -/
namespace Go.Proofs.Ytcfgckpjgihcgaa
open Go.RowKit

def targetBytes (x : DCmd) : List UInt8 := if x.loc then num 1 1 ++ num 8 x.id.index else num 1 0 ++ num 8 x.id.index ++ num 8 x.id.gen
def dataBytes (x : DCmd) : List UInt8 := num 2 x.data.length ++ x.data
def cmdBytes (x : DCmd) : List UInt8 :=
  if knownB x.kind then num 1 x.kind ++ (if x.kind = 0 then [] else targetBytes x) ++ (if x.kind = 2 ∨ x.kind = 3 then num 8 x.comp else []) ++ (if x.kind = 2 then dataBytes x else [])
  else num 1 255
theorem targetBytes_length (x : DCmd) : (targetBytes x).length ≤ 24 := by
  have h1 := num_length 1 1
  have h2 := num_length 1 0
  have h3 := num_length 8 x.id.index
  have h4 := num_length 8 x.id.gen
  unfold targetBytes
  split <;> simp only [List.length_append] <;> omega

end Go.Proofs.Ytcfgckpjgihcgaa
