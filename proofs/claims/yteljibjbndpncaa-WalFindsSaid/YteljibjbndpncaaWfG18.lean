/- Texts on which the proofs stand: Each, EntSame, Live25, FrameMath. No condition is laid on any input. -/
import Derived.Test.YteljibjbndpncaaWfCmdGet
import Derived.Test.YteljibjbndpncaaWfDirGet
import Derived.Test.YteljibjbndpncaaWfG10
import Derived.Test.YteljibjbndpncaaWfG11
import Derived.Test.YteljibjbndpncaaWfG13
import Derived.Test.YteljibjbndpncaaWfG17
import Derived.Test.YteljibjbndpncaaWfG2
import Derived.Shelf.Abstract
import Derived.Shelf.RegionOpen
import Derived.OwnWalkIn
import Derived.TacticsInMore
import Derived.LoopNIn
import Derived.LoopIn
import Derived.Laws.StructEq
/- frame.each: an iterator over the commands in bytes, walked inside a fence. -/
namespace Go.Proofs.Yteljibjbndpncaa
open Go.RowKit Go.Shelf
attribute [local go_sem] Oper.semAt_some

/-- The commands got, and the place behind them, after k steps without an error. -/
def gotSt (b : List UInt8) (k0 : Int) : Nat → Option (List DCmd × Int)
  | 0 => some ([], k0)
  | k + 1 => match gotSt b k0 k with
    | none => none
    | some (l, p) => if (cmdGet b p).2.2 = 0 then some (l ++ [(cmdGet b p).1], (cmdGet b p).2.1) else none
/-- What is handed on: a command, where its data lie, the place behind it, the error. -/
structure Gt where
  x : DCmd
  A : Option Addr
  c : Nat
  nx : Int
  e : Int
def Gt.val (g : Gt) : Value := .agg #[.int .i64 g.x.kind, .bool g.x.loc, .int .i64 g.x.id.index, .int .i64 g.x.id.gen, .int .i64 g.x.comp, .slice g.A g.x.data.length g.c, .int .i64 g.nx, .int .i64 g.e]
/-- What the body is told. -/
def GotV (b : List UInt8) (k0 : Int) (n : Nat) (W0 : World) (pre : List Gt) (g : Gt) (W : World) : Prop :=
  ∃ l p, gotSt b k0 pre.length = some (l, p) ∧ pre.length < n ∧ cmdGet b p = (g.x, g.nx, g.e) ∧
    ((Lit.int .i64 g.x.kind).wf = true ∧ (Lit.int .i64 g.x.id.index).wf = true ∧ (Lit.int .i64 g.x.id.gen).wf = true ∧ (Lit.int .i64 g.x.comp).wf = true) ∧ Rep.byte.Sl (fun b => W0.heap.size ≤ b) W g.A g.c g.x.data
theorem gotV_own (b : List UInt8) (k0 : Int) (n B : Nat) : OwnFrom B (fun (p : World × List Gt × Gt) W => GotV b k0 n p.1 p.2.1 p.2.2 W) := by
  rintro s X Y row ⟨l, p, h1, h2, h3, h5, h6⟩ hg hrow
  refine ⟨l, p, h1, h2, h3, h5, Rep.Sl.keep (fun b hb hl => ⟨hb, hg.block b hl.lt (fun e => ?_)⟩) h6⟩
  obtain ⟨_, o, ho, hc⟩ := hrow b e.symm
  obtain ⟨c', e', f, hl⟩ := hl
  rw [hl] at ho; cases ho; cases hc
def KeepB (D : Nat → Prop) (W W' : World) : Prop := W.heap.size ≤ W'.heap.size ∧ ∀ k, D k → IsC W k → W'.heap[k]? = W.heap[k]?
theorem KeepB.trans {D : Nat → Prop} {X Y Z : World} (h : KeepB D X Y) (k : KeepB D Y Z) : KeepB D X Z := ⟨Nat.le_trans h.1 k.1, fun b hd hb => (k.2 b hd (hb.same (h.2 b hd hb))).trans (h.2 b hd hb)⟩

/-- frame.each -/
theorem each_calls (A : Option Addr) (len c : Nat) (k n : Int) (w : World) : Calls Try.prog 123 #[.slice A len c, .int .i64 k, .int .i64 n] w fun e w' =>
    e = .returned (.func (.func 139) #[] #[.pointer (some ⟨w.heap.size + 2, 0, none⟩), .pointer (some ⟨w.heap.size, 0, none⟩), .pointer (some ⟨w.heap.size + 1, 0, none⟩)]) ∧ w' = ((w.alloc (.cells #[.slice A len c] 33)).alloc (.cells #[.int .i64 k] 3)).alloc (.cells #[.int .i64 n] 3) := by
  go_enter Try.func123, Try.ntmps123
  go_wp2_with fail
  go_ret
  exact ⟨rfl, rfl⟩

set_option maxRecDepth 100000 in
set_option maxHeartbeats 2000000 in
/-- frame.each's iterator -/
theorem each_seq {m B n : Nat} {w : World} {b : List UInt8} {A : Option Addr} {c : Nat} {k0 : Int} {Q : Nat → Prop} {D : Nat → Prop} (hm : 1 ≤ m) (hB : B + 2 < w.heap.size) (h0 : Boxed w B 33 (.slice A b.length c)) (h1 : Boxed w (B + 1) 3 (.int .i64 k0)) (h2 : Boxed w (B + 2) 3 (.int .i64 n))
    (hat : Rep.byte.list.val Q w (.slice A b.length c) b) (hb : b.length ≤ 1000000000) (hn : n ≤ 1000000) (hQ : ∀ x, Q x → x < B) (hD : ∀ k, k = B ∨ k = B + 1 ∨ k = B + 2 ∨ Q k → D k) :
    SeqW Fence.wide m Try.prog 139 #[.pointer (some ⟨B + 2, 0, none⟩), .pointer (some ⟨B, 0, none⟩), .pointer (some ⟨B + 1, 0, none⟩)] (fun g : Gt => #[g.val]) (GotV b k0 n) (KeepB D) (fun x => x = B + 1)
      (fun ys => ys.length = n ∨ gotSt b k0 ys.length = none) w := by
  intro lp J Jx W hW hJ _ hC hY hJ0
  have g0 : Boxed W B 33 (.slice A b.length c) := (hW.block _ (by omega)).trans h0
  have g1 : Boxed W (B + 1) 3 (.int .i64 k0) := (hW.block _ (by omega)).trans h1
  have g2 : Boxed W (B + 2) 3 (.int .i64 n) := (hW.block _ (by omega)).trans h2
  have HAT := Lib.hid (Rep.val_below hat hW (fun x _ hl => hl.lt))
  have HY := Lib.hid hY
  have HJ := Lib.hid hJ
  have HC := Lib.hid hC
  have HJ0 := Lib.hid hJ0
  have HM := Lib.hid hm
  have HBL := Lib.hid hb
  have HQ := Lib.hid hQ
  have HD := Lib.hid hD
  have G0 := Lib.hid g0
  have G1 := Lib.hid g1
  have G2 := Lib.hid g2
  have c2 := g2.cell
  have hni : (n : Int) ≤ 1000000 := by omega
  obtain ⟨B0, hB0⟩ : ∃ B0, B0 = W.heap.size := ⟨_, rfl⟩
  clear hm hB h0 h1 h2 hat hb hn hQ hD hW hJ hC hY hJ0 g0 g1 g2
  refine callsIn_of_wp Try.func139 rfl trivial ?_ rfl
  simp only [Try.ntmps139, List.size_toArray, List.length_cons, List.length_nil, Nat.reduceAdd, Nat.reduceSub, Array.replicate_succ, Array.replicate_zero, List.push_toArray, List.append_toArray, List.nil_append, List.cons_append]
  gi_wp2
  gi_loopw [9] (fun v wr => ∃ k : Nat, v = .int .i64 k ∧ k ≤ n ∧ Hid (∃ ys : List Gt, ys.length = k ∧ J ys wr) ∧ Hid (∃ l p, gotSt b k0 k = some (l, p) ∧ Boxed wr B 33 (.slice A b.length c) ∧ Boxed wr (B + 1) 3 (.int .i64 p) ∧ Boxed wr (B + 2) 3 (.int .i64 n)) ∧ Hid (Rep.byte.list.val Q wr (.slice A b.length c) b) ∧ Hid (B0 ≤ wr.heap.size)) (fun i _ => n - (intOf i).toNat)
  case atStart => exact ⟨0, rfl, Nat.zero_le _, Lib.hid ⟨[], rfl, HJ0.out⟩, Lib.hid ⟨[], k0, rfl, G0.out, G1.out, G2.out⟩, HAT, Lib.hid (Nat.le_of_eq hB0)⟩
  case round =>
    obtain ⟨k, rfl, hk, HYS, HST, HV, HZ⟩ := hrel
    by_cases hlt : (k : Int) < n
    · obtain ⟨l, p, hst, b0, b1, b2⟩ := HST.out
      have HS := Lib.hid hst
      have HB0 := Lib.hid b0
      have HB1 := Lib.hid b1
      have HB2 := Lib.hid b2
      have e0 := b0.cell
      have e1 := b1.cell
      clear hst b0 b1 b2 HST
      gi_wp2
      refine ⟨trivial, fun _ => HM.out, callsIn_wide.2 ?_⟩
      refine (cget_calls HV.out HBL.out).mono ?_
      rintro e w3 ⟨u3, rfl, hu3, hb3⟩
      obtain ⟨r, hr⟩ : ∃ r, cmdGet b p = r := ⟨_, rfl⟩
      rw [hr] at hu3 ⊢
      obtain ⟨x, nx, er⟩ := r
      dsimp only at hu3 ⊢
      obtain ⟨A5, c5, rfl, f0, f1, f2, f3, f4⟩ := rCmd_val hu3
      have HG := Lib.hid hr
      have HB3 := Lib.hid hb3
      have HF := Lib.hid (And.intro (And.intro f0 (And.intro f1 (And.intro f2 f3))) f4)
      clear hu3 hb3 hr f0 f1 f2 f3 f4
      obtain ⟨ys, hys, hj⟩ := HYS.out
      have hbw : Below wr.heap.size wr (w3.alloc (.cells #[.int .i64 x.kind, .bool x.loc, .int .i64 x.id.index, .int .i64 x.id.gen, .int .i64 x.comp, .slice A5 x.data.length c5] 116)) := HB3.out.alloc HB3.out.size _
      obtain ⟨fn, tmps, assign, body, hy, hR⟩ := HY.out ys ⟨x, A5, c5, nx, er⟩ wr _ hj (HJ.out ys wr _ none hj (grownBy_below hbw none) (fun r e => by cases e)) (Grew.of_below hbw)
        ⟨l, p, by rw [hys]; exact HS.out, by rw [hys]; omega, HG.out, HF.out.1, Rep.Sl.keep (fun y hy hl => ⟨hy, Below.heap_alloc _ _ _ hl.lt⟩) HF.out.2⟩
      dsimp only [Gt.val] at hy
      have HYL := Lib.hid hys
      have HBW := Lib.hid hbw
      have HVW := Lib.hid (Rep.val_below HV.out hbw (fun _ _ hl => hl.lt))
      have HI0 := Lib.hid ((hbw.block _ HB0.out.lt).trans HB0.out)
      have HI1 := Lib.hid ((hbw.block _ HB1.out.lt).trans HB1.out)
      have HI2 := Lib.hid ((hbw.block _ HB2.out.lt).trans HB2.out)
      have HZW := Lib.hid hbw.size
      clear hys hj hbw e0 e1 HYS
      gi_wp2
      refine ⟨fun _ => HM.out, hR.mono ?_⟩
      clear hR hy
      rintro e W5 (⟨rfl, hJ5, hk5⟩ | ⟨rfl, hJx5⟩)
      · have HJ5 := Lib.hid hJ5
        have b0 : Boxed W5 B 33 (.slice A b.length c) := (hk5.2 _ (HD.out _ (.inl rfl)) ⟨_, _, _, HI0.out⟩).trans HI0.out
        have b1 : Boxed W5 (B + 1) 3 (.int .i64 p) := (hk5.2 _ (HD.out _ (.inr (.inl rfl))) ⟨_, _, _, HI1.out⟩).trans HI1.out
        have b2 : Boxed W5 (B + 2) 3 (.int .i64 n) := (hk5.2 _ (HD.out _ (.inr (.inr (.inl rfl)))) ⟨_, _, _, HI2.out⟩).trans HI2.out
        have HV5 := Lib.hid (Rep.val_keep (Q' := Q) (fun y hy hl => ⟨hy, hk5.2 y (HD.out _ (.inr (.inr (.inr hy)))) hl⟩) HVW.out)
        have HZ5 := Lib.hid (Nat.le_trans HZ.out (Nat.le_trans HZW.out hk5.1))
        have HB0' := Lib.hid b0
        have HB1' := Lib.hid b1
        have HB2' := Lib.hid b2
        clear hJ5 hk5 b0 b2
        by_cases he : er = 0
        · subst he
          have kc := b1.cell
          have kf := b1.frozen
          have HST2 := Lib.hid (show gotSt b k0 (k + 1) = some (l ++ [x], nx) by simp only [gotSt, HS.out, HG.out]; rfl)
          have HJ6 := Lib.hid (HC.out _ _ _ 0 (.int .i64 nx) rfl ⟨_, _, _, HB1'.out⟩ HJ5.out)
          clear b1
          gi_wp2
          go_roundw
          case rel =>
            refine ⟨k + 1, by go_num, by omega, Lib.hid ⟨_, by rw [List.length_append, HYL.out]; rfl, HJ6.out⟩, Lib.hid ⟨l ++ [x], nx, HST2.out, ?_, HB1'.out.set _, ?_⟩, Lib.hid (Rep.val_keep (Q' := Q) (fun y hy _ => ⟨hy, Below.heap_setCell _ _ _ _ (show y ≠ B + 1 by have := HQ.out y hy; omega)⟩) HV5.out), Lib.hid (by simpa [World.setCell] using HZ5.out)⟩
            · exact (Below.heap_setCell _ _ _ _ (show B ≠ B + 1 by omega)).trans HB0'.out
            · exact (Below.heap_setCell _ _ _ _ (show B + 2 ≠ B + 1 by omega)).trans HB2'.out
          case measure => simp [intOf]; omega
        · have he' : (er == 0) = false := beq_eq_false_iff_ne.2 he
          have HN := Lib.hid (show gotSt b k0 (k + 1) = none by simp only [gotSt, HS.out, HG.out]; rw [if_neg he])
          clear he b1
          gi_wp2
          refine bodyPost_ret (results_none rfl _ _ _) rfl ?_
          exact ⟨⟨_, rfl⟩, .inl ⟨_, .inr (by rw [List.length_append, HYL.out]; exact HN.out), HJ5.out⟩⟩
      · gi_wp2
        refine bodyPost_ret (results_none rfl _ _ _) rfl ?_
        exact ⟨⟨_, rfl⟩, .inr ⟨_, hJx5⟩⟩
    · obtain rfl : k = n := by omega
      gi_wp2
      go_end0
      obtain ⟨ys, h1, h2⟩ := HYS.out
      exact ⟨⟨_, rfl⟩, .inl ⟨ys, .inl h1, h2⟩⟩
end Go.Proofs.Yteljibjbndpncaa
/- Walks of the comparison of entries. -/
namespace Go.Proofs.Yteljibjbndpncaa
open Go.RowKit

def keyV (x : DKey) : Value := .agg #[.int .i64 x.kind, .int .u64 x.sig, .int .i64 x.comp]
theorem run_eql_key (x y : DKey) (w : World) : (binOp .eql 32 (keyV x) (keyV y)).run Try.prog w = .ok (.bool (decide (x = y))) w := by
  have u3 := Try.underlying3
  have u44 := Try.underlying44
  have a3 := Try.isAgg3
  have a44 := Try.isAgg44
  have z3 := Try.sizeOf3
  have z44 := Try.sizeOf44
  have hS : Try.prog.underlying 32 = some (.struct (Try.prog.fieldsOf 32)) := by kernel_rfl
  have hp : Try.prog.stoodInHeld 32 = false := by kernel_rfl
  simp only [keyV]
  rw [run_eql_struct, show (10000 : Nat) = 9999 + 1 from rfl, run_equalIn_agg w 9999 32 _ _ hS hp]
  simp only [Program.fieldsOf, Try.underlying32]
  go_simp
  by_cases h1 : x.kind = y.kind <;> by_cases h2 : x.sig = y.sig <;> by_cases h3 : x.comp = y.comp <;> simp [h1, h2, h3, DKey.ext_iff]
theorem run_neq_key (x y : DKey) (w : World) : (binOp .neq 32 (keyV x) (keyV y)).run Try.prog w = .ok (.bool (decide (x ≠ y))) w := by
  have h := run_eql_key x y w
  simp only [keyV] at h ⊢
  rw [run_eql_struct] at h
  rw [run_neq_struct]
  cases hh : (Op.equalIn 10000 32 (.agg #[.int .i64 x.kind, .int .u64 x.sig, .int .i64 x.comp]) (.agg #[.int .i64 y.kind, .int .u64 y.sig, .int .i64 y.comp])).run Try.prog w with
  | ok b w' =>
    rw [hh] at h
    simp only [Result.andThen_ok, Result.ok.injEq, Value.bool.injEq] at h ⊢
    obtain ⟨rfl, rfl⟩ := h
    exact ⟨by simp, rfl⟩
  | halt s w' => rw [hh] at h; simp at h

theorem keyGuard : Try.prog.eqGuardType Try.prog.depth 32 = false := by kernel_rfl

end Go.Proofs.Yteljibjbndpncaa
/- The example of the statements on directories, walked; and more than is asked of flows. -/
namespace Go.Proofs.Yteljibjbndpncaa
open Go.RowKit

/-- A slice literal of values that have cells of their own. -/
theorem lit_list {α : Type} {r : Rep α} {e : Nat} {w : World} {cs : List Value} {xs : List α} {n : Nat} (hn : n = xs.length) (hm : n ≤ maxLen) {Q : Nat → Prop} (hb : Q w.heap.size) (hr : r.row Q (w.alloc (.cells cs.toArray e)) cs xs) :
    r.list.val Q (w.alloc (.cells cs.toArray e)) (.slice (some ⟨w.heap.size, 0, none⟩) n n) xs :=
  Rep.list_val hn (Nat.le_refl _) hm ⟨cs, hr, fun _ => ⟨w.heap.size, 0, rfl, hb, ⟨_, _, _, heap_alloc_new w _⟩, fun j u hj => by
    rw [cell_of_row _ _ _ _ _ _ (heap_alloc_new w _), Nat.zero_add, ← hj]; simp⟩⟩
theorem lit_bytes {w : World} (l : List UInt8) {n : Nat} (hn : n = l.length) (hm : n ≤ maxLen) : Rep.byte.list.val (fun b => w.heap.size ≤ b) (w.alloc (.cells (l.map fun x => .int .u8 (x.toNat : Int)).toArray 5)) (.slice (some ⟨w.heap.size, 0, none⟩) n n) l :=
  lit_list hn hm (Nat.le_refl _) (Rep.byte_row l)

def ent0 : List DEntry := [⟨⟨1, 0, 0⟩, 3, [2]⟩]
theorem ent0_bytes : dirGet (dirBytes ent0) = (ent0, 0) ∧ (dirBytes ent0).length = 20 := by decide +kernel
theorem put0 : dirBytes [] = [0, 0] := by decide +kernel

/-- More than is asked of flows. -/
def muchFlows (l : List DFlow) : Bool := decide (20 < l.length) || (l.take 50).any fun f => decide (3000 < f.data.length) || decide (50 < f.pages.length)
theorem any_take_succ {α : Type} {p : α → Bool} {s : List α} {k : Nat} (hk : k < s.length) (h : (s.take k).any p = false) (hc : p s[k] = false) : (s.take (k + 1)).any p = false := by
  rw [List.take_succ_eq_append_getElem hk, List.any_append, h]; simp [hc]
theorem any_of {α : Type} {p : α → Bool} {s : List α} {k n : Nat} (hk : k < s.length) (hn : k < n) (hc : p s[k] = true) : (s.take n).any p = true :=
  List.any_eq_true.2 ⟨s[k], List.mem_take_iff_getElem.2 ⟨k, by omega, rfl⟩, hc⟩

set_option maxRecDepth 100000 in
/-- ref24.Much -/
theorem muchFlows_calls {Q : Nat → Prop} {w : World} {v : Value} {l : List DFlow} (hx : rFlow.list.val Q w v l) :
    Calls Try.prog 7 #[v] w fun e w' => e = .returned (.bool (muchFlows l)) ∧ w' = w := by
  obtain ⟨A, c, rfl, hc1, hc2, hA⟩ := Rep.val_list hx
  unfold maxLen at hc2
  have HA := Lib.hid hA
  clear hx hA
  go_enter Try.func7, Try.ntmps7
  go_wp2_with fail
  go_loop [3] (fun i => ∃ k : Nat, i = .int .i64 k ∧ k ≤ l.length ∧ k ≤ 50 ∧ Hid ((l.take k).any (fun f => decide (3000 < f.data.length) || decide (50 < f.pages.length)) = false)) (fun i => l.length - (intOf i).toNat)
  case atStart => exact ⟨0, rfl, by omega, by omega, by simp [Hid]⟩
  case round =>
    obtain ⟨k, rfl, hk, hk5, hany⟩ := hrel
    by_cases hlt : (k : Int) < l.length
    · by_cases h50 : (k : Int) < 50
      · have hk' : k < l.length := by omega
        obtain ⟨b, off, Ad, cd, Ap, cp, rfl, hbc, cx0, cx1, cx2, cx3, cx4, g0, g1, g2, hsd, hs⟩ := rFlow_at HA.out (List.getElem?_eq_getElem hk')
        have hd := hsd.1
        have hd2 := hsd.2.1
        have hs1 := hs.1
        have hs2 := hs.2.1
        unfold maxLen at hd2 hs2
        have NX := Lib.hid (fun h => any_take_succ hk' hany h)
        have YS := Lib.hid (fun h => any_of (n := 50) (p := fun f : DFlow => decide (3000 < f.data.length) || decide (50 < f.pages.length)) hk' (by omega) h)
        generalize l[k] = x at *
        clear g0 g1 g2 hsd hs
        by_cases h1 : (3000 : Int) < x.data.length
        · have F := Lib.hid (show muchFlows l = true by unfold muchFlows; rw [YS.out (by simp; omega)]; simp)
          go_wp2_with fail
          go_ret
          exact ⟨by rw [F.out]; rfl, rfl⟩
        · by_cases h2 : (50 : Int) < x.pages.length
          · have F := Lib.hid (show muchFlows l = true by unfold muchFlows; rw [YS.out (by simp; omega)]; simp)
            go_wp2_with fail
            go_ret
            exact ⟨by rw [F.out]; rfl, rfl⟩
          · have N2 := Lib.hid (NX.out (by simp; omega))
            go_wp2_with fail
            go_round
            case rel => exact ⟨k + 1, by go_num, by omega, by omega, N2⟩
            case measure => simp [intOf]; omega
      · have hk50 : k = 50 := by omega
        have F := Lib.hid (show muchFlows l = true by unfold muchFlows; simp; omega)
        have h20 : (20 : Int) < l.length := by omega
        go_wp2_with fail
        go_ret
        exact ⟨by rw [F.out]; rfl, rfl⟩
    · have F := Lib.hid (show muchFlows l = decide ((20 : Int) < l.length) by
        unfold muchFlows
        have hkl : k = l.length := by omega
        have h50 : (l.take 50) = l.take k := by rw [hkl, List.take_length, List.take_of_length_le (by omega)]
        rw [h50, hany.out, Bool.or_false]
        rw [decide_eq_decide]; omega)
      by_cases h20 : (20 : Int) < l.length
      · have D : decide ((20 : Int) < l.length) = true := by simp [h20]
        rw [D] at F
        clear D
        go_wp2_with fail
        go_ret
        exact ⟨by rw [F.out]; rfl, rfl⟩
      · have D : decide ((20 : Int) < l.length) = false := by simp [h20]
        rw [D] at F
        clear D
        go_wp2_with fail
        go_ret
        exact ⟨by rw [F.out]; rfl, rfl⟩
end Go.Proofs.Yteljibjbndpncaa
/- What a frame's bytes are: the plain words. -/
namespace Go.Proofs.Yteljibjbndpncaa
open Go.RowKit

/-- The first error. -/
def gotErr (b : List UInt8) (k0 : Int) : Nat → Int
  | 0 => 0
  | k + 1 => match gotSt b k0 k with
    | some (_, p) => (cmdGet b p).2.2
    | none => gotErr b k0 k
theorem got_fail {b : List UInt8} {k0 : Int} {k : Nat} {l : List DCmd} {p : Int} (h : gotSt b k0 k = some (l, p)) (he : (cmdGet b p).2.2 ≠ 0) : ∀ n, k < n → gotSt b k0 n = none ∧ gotErr b k0 n = (cmdGet b p).2.2
  | 0, hn => absurd hn (Nat.not_lt_zero _)
  | n + 1, hn => by
    rcases Nat.lt_or_ge k n with hk | hk
    · obtain ⟨h1, h2⟩ := got_fail h he n hk
      exact ⟨by simp only [gotSt, h1], by simp only [gotErr, h1]; exact h2⟩
    · obtain rfl : k = n := by omega
      exact ⟨by simp only [gotSt, h]; rw [if_neg he], by simp only [gotErr, h]⟩
/-- What a frame is: the commands, the error. -/
def frameGet (b : List UInt8) : List DCmd × Int :=
  if b.length < 5 then ([], 12)
  else if (getNum b ((b.length - 4 : Nat) : Int) 4).getD 0 ≠ (crcOf (b.take (b.length - 4)) : Int) then ([], 11)
  else if 64 < (b.headD 0).toNat then ([], 13)
  else match gotSt (b.take (b.length - 4)) 1 (b.headD 0).toNat with
    | some (l, p) => if p = ((b.length - 4 : Nat) : Int) then (l, 0) else ([], 11)
    | none => ([], gotErr (b.take (b.length - 4)) 1 (b.headD 0).toNat)
theorem got_len {b : List UInt8} {k0 : Int} : ∀ {k : Nat} {l : List DCmd} {p : Int}, gotSt b k0 k = some (l, p) → l.length = k
  | 0, l, p, h => by cases h; rfl
  | k + 1, l, p, h => by
    simp only [gotSt] at h
    split at h
    · cases h
    · rename_i l' p' h'
      split at h
      · cases h
        rw [List.length_append, got_len h']; rfl
      · cases h
end Go.Proofs.Yteljibjbndpncaa
