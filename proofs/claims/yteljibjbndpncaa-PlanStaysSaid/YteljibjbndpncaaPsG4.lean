/- Texts on which the proofs stand: Region, Chunk. No condition is laid on any input. -/
import Derived.Test.YteljibjbndpncaaPsCore
import Derived.Test.YteljibjbndpncaaPsG3
import Derived.RangeFuncNested
import Derived.RangeFuncBound
import Derived.RangeFuncCalls
import Derived.RangeFuncLeaves
import Derived.RangeFuncBox
import Derived.Orders
import Derived.OrdersIn
import Derived.Shelf.Abstract
import Derived.Shelf.RegionOpen
import Derived.OwnWalkIn
import Derived.TacticsInMore
import Derived.LoopNIn
import Derived.LoopIn
/- A region that draws its order, in a round of a range over a function: what is shown of it as0 of any region serves there. No program is named here. -/
namespace Go.Proofs.Yteljibjbndpncaa
open Go.RowKit

section
variable {n l : Nat} {P : Program} {ops : Array Oper} {Q : Exit → Act → World → Prop} {md : Region.Mode}

theorem rowsIn_wide {row : String} {args : Array Value} {w : World} {R : Value → World → Prop} (h : Rows P row args w R) : RowsIn (Fence.wide.inRound l) n P row args w R :=
  fun c cs _ => by
    obtain ⟨v, w', r, s⟩ := h c cs
    exact ⟨v, w', r, by rw [fenced_inRound]; exact stepsIn_wide.2 s⟩

theorem oper_round {o : Oper} {a : Act} {w : World} {K : Act → World → Prop} (hd : ∀ c, o.op ≠ .defer c) (h : o.wp P a w K Q) : o.wpIn (Fence.wide.inRound l) n P a w K Q := by
  unfold Oper.wp at h
  unfold Oper.wpIn
  refine ⟨fun _ _ => trivial, ?_⟩
  rw [Oper.semAt_eq _ _ _ hd]
  generalize (execOp a.eval o).run P w = r at *
  cases r with
  | ok x w' =>
    cases x <;> simp only [Oper.upon, Oper.uponIn] at h ⊢
    case value => exact h
    case skip => exact h
    case defer => exact h
    case enter f args => exact ⟨fun hh => by simp [Fence.inRound, Fence.wide] at hh, CallsIn.inRound l (callsIn_wide.2 h)⟩
    case row row args => exact ⟨fun hh => by simp [Fence.inRound, Fence.wide] at hh, rowsIn_wide h⟩
  | halt x w' => cases x <;> simp only [Oper.upon, Oper.uponIn] at h ⊢ <;> exact h

theorem wpOp_round {i : Nat} {a : Act} {w : World} {K : Act → World → Prop} (hd : ∀ (i : Nat) (o : Oper), ops[i]? = some o → ∀ c, o.op ≠ .defer c) (hout : ¬ LetsOut Q) (h : wpOp P ops Q i K a w) : wpOpIn (Fence.wide.inRound l) n P ops Q i K a w := by
  unfold wpOp at h
  unfold wpOpIn
  cases ho : ops[i]? with
  | none => simpa [ho] using h
  | some o =>
    simp only [ho] at h ⊢
    split
    · rename_i hw
      rw [if_pos hw] at h
      rcases h with h | ⟨_, h⟩
      · exact oper_round (hd i o ho) h
      · exact absurd h hout
    · rename_i hw
      rw [if_neg hw] at h
      exact ⟨fun _ _ => trivial, h⟩

theorem wpAny_round (hd : ∀ (i : Nat) (o : Oper), ops[i]? = some o → ∀ c, o.op ≠ .defer c) (hout : ¬ LetsOut Q) : ∀ (fuel : Nat) (listed : Array Bool) (a : Act) (w : World), wpAny P md ops Q fuel listed a w → wpAnyIn (Fence.wide.inRound l) n P md ops Q fuel listed a w
  | 0, _, _, _, h => h
  | fuel + 1, _, _, _, h => ⟨h.1, fun i hi => wpOpIn_mono (fun _ _ h => wpAny_round hd hout fuel _ _ _ h) (wpOp_round hd hout (h.2 i hi))⟩

/-- A region that draws its order, in a round. -/
theorem region_round {id : Nat} {a : Act} {w : World} (hm : P.follows .mixedOrders = true) (hd : ∀ (i : Nat) (o : Oper), ops[i]? = some o → ∀ c, o.op ≠ .defer c) (hout : ¬ LetsOut Q)
    (h : wpAny P .any ops Q ops.size (Array.replicate ops.size false) a w.drew) : (Code.region id ops true).wpIn (Fence.wide.inRound l) n P Q a w :=
  wpIn_region_any hm (wpAny_round hd hout _ _ _ _ h)

/-- One step: the operations that may come next, one by one. -/
theorem any_step {fuel : Nat} {listed : Array Bool} {a : Act} {w : World} (rs : List Nat) (hr : Region.ready md ops listed = rs) (hne : rs ≠ [])
    (h : ∀ i ∈ rs, wpOp P ops Q i (wpAny P md ops Q fuel (listed.setIfInBounds i true)) a w) : wpAny P md ops Q (fuel + 1) listed a w := wpAny_ready hr hne h

theorem op_value {i : Nat} {o : Oper} {a : Act} {w w' : World} {v : Value} {K : Act → World → Prop} (ho : ops[i]? = some o) (hg : o.guard = none) (hrun : (execOp a.eval o).run P w = .ok (.value v) w') (h : K (a.put o.dst v) w') : wpOp P ops Q i K a w := by
  unfold wpOp
  simp only [ho, Region.wanted, hg, if_true]
  refine .inl ?_
  unfold Oper.wp
  rw [hrun]
  exact h

theorem op_call {i f : Nat} {args : Array Value} {o : Oper} {a : Act} {w w' : World} {K : Act → World → Prop} {R : Ending → World → Prop} (ho : ops[i]? = some o) (hg : o.guard = none) (hrun : (execOp a.eval o).run P w = .ok (.enter f args) w') (hc : Calls P f args w' R)
    (hR : ∀ e w'', R e w'' → ∃ v, e = .returned v ∧ K (a.put o.dst v) w'') : wpOp P ops Q i K a w := by
  unfold wpOp
  simp only [ho, Region.wanted, hg, if_true]
  refine .inl ?_
  unfold Oper.wp
  rw [hrun]
  refine hc.mono fun e w'' hr => ?_
  obtain ⟨v, rfl, hk⟩ := hR e w'' hr
  exact hk

theorem op_skip {i : Nat} {o : Oper} {a : Act} {w w' : World} {K : Act → World → Prop} (ho : ops[i]? = some o) (hg : o.guard = none) (hrun : (execOp a.eval o).run P w = .ok .skip w') (h : K (a.put o.dst undef) w') : wpOp P ops Q i K a w := by
  unfold wpOp
  simp only [ho, Region.wanted, hg, if_true]
  refine .inl ?_
  unfold Oper.wp
  rw [hrun]
  exact h
end

def noDefer (ops : Array Oper) : Bool := ops.toList.all fun o => match o.op with | .defer _ => false | _ => true
theorem noDefer_spec {ops : Array Oper} (h : noDefer ops = true) : ∀ (i : Nat) (o : Oper), ops[i]? = some o → ∀ c, o.op ≠ .defer c := by
  intro i o ho c hc
  have hm : o ∈ ops.toList := by
    rw [← Array.getElem?_toList] at ho
    exact List.mem_of_getElem? ho
  have := List.all_eq_true.1 h o hm
  rw [hc] at this
  cases this

/-- 'append' as0 one operation. -/
theorem exec_append {P : Program} {o : Oper} {a : Act} {w w' : World} {s x : Operand} {t : TypeId} {v u v' : Value} (ho : o.op = .call { callee := .builtin .append, args := #[s, x], argTypes := #[t, t] })
    (hs : a.eval s = v) (hx : a.eval x = u) (h : (Builtin.append_ #[t, t] o.type #[v, u]).run P w = .ok v' w') : (execOp a.eval o).run P w = .ok (.value v') w' := by
  unfold execOp
  simp only [ho, resolve, invoke, builtin, Sem.run_bind, Sem.run_pure, Result.andThen_ok, List.map_toArray, List.map_cons, List.map_nil, hs, hx, h]

/-- '[]T{x}' as0 one operation. -/
theorem exec_buildSlice {P : Program} {o : Oper} {a : Act} {w : World} {x : Operand} {t e : TypeId} {vy : Value} (ho : o.op = .buildSlice t 1 #[(0, x)])
    (z : Value) (size : Nat) (ht : P.underlying t = some (.slice e)) (hi : (P.info? e).map (fun i => (i.zero, i.size)) = some (some z, size)) (hx : a.eval x = vy) (hc : vy.cells.size = size) (hsz : 0 < size ∧ size ≤ 1000) :
    (execOp a.eval o).run P w = .ok (.value (.slice (some ⟨w.heap.size, 0, none⟩) 1 1)) (w.alloc (.cells vy.cells e)) := by
  have hb := run_buildSlice_one (P := P) w t e z size ht hi vy hc hsz.1 hsz.2
  simp only [execOp, ho, List.map_toArray, List.map_cons, List.map_nil, hx]
  simp only [Sem.run_bind, hb, Result.andThen_ok, Sem.run_pure]


theorem KeepsOthers.of_below {W W' : World} (h : Below W.heap.size W W') : KeepsOthers W W' := ⟨h.size, fun k _ hk _ => (h.block k (Array.getElem?_eq_some_iff.1 hk).1).trans hk⟩

/-- 'out = append(out, y)', out in a box: what is so behind the append, and behind the store. -/
theorem box_collect {α : Type} {r : Rep α} {e t T ty : TypeId} {base B : Nat} {Q : Nat → Prop} {P : Program} {W Wm : World} {v : Value} {xs : List α} {z : Value} {size bytes : Nat}
    (ht : P.underlying T = some (.slice e)) (hi : (P.info? e).map (fun i => (i.zero, i.size, i.bytes)) = some (some z, size, bytes)) (hzs : z.cells.size = size) (hsz : 0 < size) (hr : r.size = size)
    (hv : Boxed W B t v) (hBb : B < base) (hbase : base ≤ W.heap.size) (hQ : ∀ b, Q b → b ≠ B) (hacc : r.acc e base Q W v xs) (hWm : Below W.heap.size W Wm)
    {y : α} {vy : Value} (hy : r.val (fun b => Q b ∧ v.ownBlock ≠ some b) Wm vy y) {g : Nat} (hg : Wm.heap[g]? = some (.cells vy.cells e (0, 0)))
    (h63 : xs.length + 1 ≤ maxLen) (hbytes : (xs.length + 1) * bytes ≤ 140737488355328) :
    ∃ v' w1, (Builtin.append_ #[T, T] ty #[v, .slice (some ⟨g, 0, none⟩) 1 1]).run P Wm = .ok v' w1 ∧ Boxed w1 B t v ∧ Boxed (w1.setCell ⟨B, 0, none⟩ v') B t v' ∧ r.acc e base Q (w1.setCell ⟨B, 0, none⟩ v') v' (xs ++ [y]) ∧
      KeepsOthers W (w1.setCell ⟨B, 0, none⟩ v') ∧ Below B W (w1.setCell ⟨B, 0, none⟩ v') ∧ (∀ k, k < base → k ≠ B → (w1.setCell ⟨B, 0, none⟩ v').heap[k]? = W.heap[k]?) ∧ v'.oneCell' = true := by
  have hacc' : r.acc e base Q Wm v xs := Rep.acc_keep (fun b _ hb => hWm.block b hb.lt) (fun _ hb _ => hb) hacc
  obtain ⟨cs, hvy, hrd⟩ := hy
  have hcells : vy.cells.toList = cs := by rw [hvy]; exact r.back hrd
  obtain ⟨v', w1, q1, q2, q3, q4⟩ := Rep.acc_more (P := P) (ty := ty) (ys := [y]) (A := some ⟨g, 0, none⟩) (m := 1) (c := 1) (es := cs) ht hi hzs hsz hr hacc' rfl (Rep.row_one_elem hrd)
    (fun _ => ⟨g, 0, rfl, fun j u hj => by rw [cell_of_row _ _ _ _ _ _ hg, Nat.zero_add, ← hj, ← hcells]; simp⟩) (by simpa using h63) (by simpa using hbytes) (Nat.le_trans hbase hWm.size)
  have hown := Rep.acc_own hacc'
  have hvm : Boxed Wm B t v := (hWm.block B (by omega)).trans hv
  have hv1 : Boxed w1 B t v := hvm.kept q3 (fun hh => by have := (hown B hh.symm).1; omega)
  have hown1 := Rep.acc_own q2
  have hs : ∀ k, k ≠ B → (w1.setCell ⟨B, 0, none⟩ v').heap[k]? = w1.heap[k]? := fun k hk => Below.heap_setCell _ _ _ _ hk
  obtain ⟨A', c', hform, _, _⟩ := Rep.acc_form q2
  refine ⟨v', w1, q1, hv1, hv1.set v', Rep.acc_keep (fun b hb _ => hs b ?_) (fun _ hb _ => hb) q2, ?_, ?_, ?_, by rw [hform]; rfl⟩
  · rcases hb with hb | hb
    · exact hQ b hb
    · have := (hown1 b hb).1; omega
  · refine ((KeepsOthers.of_below hWm).trans (KeepsOthers.of_grownBy q3 ?_)).trans (KeepsOthers.setCell _ _ _)
    intro j o hj ho
    obtain ⟨cells, h1, _⟩ := hacc'
    rcases h1.2 with ⟨rfl, _⟩ | ⟨g', cap, cur, rfl, _, hg', _⟩
    · simp [Value.ownBlock] at hj
    · simp only [Value.ownBlock, Option.some.injEq] at hj
      subst hj
      rw [hg'] at ho; cases ho; rfl
  · have hb1 : Below B W w1 := (hWm.mono (by omega)).grown q3 (Nat.le_trans (by omega) hWm.size) (fun k hk => by have := (hown k hk).1; omega)
    exact hb1.setCell (p := ⟨B, 0, none⟩) (Nat.le_refl _) _
  · intro k hk hne
    rw [hs k hne, q3.block k (Nat.lt_of_lt_of_le (by omega) hWm.size) (fun hh => by have := (hown k hh.symm).1; omega), hWm.block k (by omega)]


/-- A box that holds a slice, read. -/
theorem exec_load_box {P : Program} {o : Oper} {a : Act} {w : World} {x : Operand} {T t e : TypeId} {B : Nat} {v : Value} (ho : o.op = .load T x) (hx : a.eval x = .pointer (some ⟨B, 0, none⟩)) (ht : P.underlying T = some (.slice e)) (hv : Boxed w B t v) :
    (execOp a.eval o).run P w = .ok (.value v) w := by
  have hc := hv.cell
  have h : (loadVar T ⟨B, 0, none⟩).run P w = .ok v w := by unfold loadVar isAgg; simp [run_underlying ht, hc]
  simp only [execOp, ho, hx, Instr.loadAt, Instr.sureAddr, Sem.run_bind, Sem.run_pure, Result.andThen_ok, h]

/-- A box, written. -/
theorem exec_store_box {P : Program} {o : Oper} {a : Act} {w : World} {x y : Operand} {T t : TypeId} {B : Nat} {v v' : Value} (ho : o.op = .store T x y) (hx : a.eval x = .pointer (some ⟨B, 0, none⟩)) (hy : a.eval y = v') (hi : (P.info? T).map (·.size) = some 1) (hv : Boxed w B t v) (h2 : ∃ A n c, v' = .slice A n c) :
    (execOp a.eval o).run P w = .ok .skip (w.setCell ⟨B, 0, none⟩ v') := by
  have hc := hv.cell
  have hf := hv.frozen
  obtain ⟨A, n, c, rfl⟩ := h2
  have h : (storeVar T ⟨B, 0, none⟩ (.slice A n c)).run P w = .ok () (w.setCell ⟨B, 0, none⟩ (.slice A n c)) := by
    obtain ⟨i, h1, h2⟩ := Option.map_eq_some_iff.1 hi
    unfold storeVar sizeOf typeInfo
    simp only [run_program, Sem.run_bind, Result.andThen_ok, h1, Sem.run_pure, h2, Value.cells, storeCells]
    rw [Addr.add_zero', if_neg (by simp)]
    simp only [Sem.run_bind, run_store_slice, stored, hc, hf, Bool.false_eq_true, if_false, Result.andThen_ok, Sem.run_pure]
  simp only [execOp, ho, hx, hy, Instr.storeAt, Instr.sureAddr, Sem.run_bind, Sem.run_pure, Result.andThen_ok, h]


theorem step_run {P : Program} {ops : Array Oper} {o : Oper} {a : Act} {w w' : World} {v : Value} {K : Act → World → Prop} {Q : Exit → Act → World → Prop} {E : Prop} (hg : o.guard = none) (hrun : (execOp a.eval o).run P w = .ok (.value v) w') (h : K (a.put o.dst v) w') :
    if Region.wanted o (yielded ops a.tmps) = true then Oper.wp P o a w K Q else E := by
  have hw : Region.wanted o (yielded ops a.tmps) = true := by simp [Region.wanted, hg]
  rw [if_pos hw]
  unfold Oper.wp
  rw [hrun]
  exact h
theorem step_run_skip {P : Program} {ops : Array Oper} {o : Oper} {a : Act} {w w' : World} {K : Act → World → Prop} {Q : Exit → Act → World → Prop} {E : Prop} (hg : o.guard = none) (hrun : (execOp a.eval o).run P w = .ok .skip w') (h : K (a.put o.dst undef) w') :
    if Region.wanted o (yielded ops a.tmps) = true then Oper.wp P o a w K Q else E := by
  have hw : Region.wanted o (yielded ops a.tmps) = true := by simp [Region.wanted, hg]
  rw [if_pos hw]
  unfold Oper.wp
  rw [hrun]
  exact h

end Go.Proofs.Yteljibjbndpncaa
/- page.Cut: a range over the library's slices.Chunk. -/
namespace Go.Proofs.Yteljibjbndpncaa
open Go.RowKit Go.Shelf
attribute [local go_sem] Oper.semAt_some

/-- slices.Chunk: the slice and the number are boxed. -/
theorem chunk_in (n : Nat) (A : Option Addr) (len cap : Nat) (w : World) :
    CallsIn Fence.wide n Try.prog 110 #[.slice A len cap, .int .i64 472] w fun e w' => e = .returned (.func (.func 129) #[] #[.pointer (some ⟨w.heap.size, 0, none⟩), .pointer (some ⟨w.heap.size + 1, 0, none⟩)]) ∧ w' = (w.alloc (.cells #[.slice A len cap] 33)).alloc (.cells #[.int .i64 472] 3) := by
  refine callsIn_wide.2 ?_
  go_enter Try.func110, Try.ntmps110
  go_wp2_with fail
  go_ret
  exact ⟨rfl, rfl⟩

def chunkVal (b off len k : Nat) : Value := .slice (some ⟨b, off + 472 * k, none⟩) (min 472 (len - 472 * k)) (min 472 (len - 472 * k))

def firsts (N k : Nat) (h : k ≤ N) : List (Fin N) := (List.range k).attach.map fun i => ⟨i.1, by have := List.mem_range.1 i.2; omega⟩
theorem firsts_val (N k : Nat) (h : k ≤ N) : (firsts N k h).map Fin.val = List.range k := by simp [firsts]
theorem firsts_length (N k : Nat) (h : k ≤ N) : (firsts N k h).length = k := by simp [firsts]

/-- Two blocks lie as0 they lay. -/
def Both (b c : Nat) (W W' : World) : Prop := W'.heap[b]? = W.heap[b]? ∧ W'.heap[c]? = W.heap[c]?
theorem both_t {b c : Nat} {X Y Z : World} (h : Both b c X Y) (k : Both b c Y Z) : Both b c X Z := ⟨k.1.trans h.1, k.2.trans h.2⟩
theorem both_b {b c : Nat} {w : World} (hb : b < w.heap.size) (hc : c < w.heap.size) (W : World) (l : Nat) (o o' : Obj) (hl : w.heap.size ≤ l) (_ : W.heap[l]? = some o) (_ : o.isCells = false) (_ : o.isWalk = false) : Both b c W (W.putObj l o') :=
  ⟨World.putObj_heap_other (by omega), World.putObj_heap_other (by omega)⟩

set_option maxRecDepth 100000 in
set_option maxHeartbeats 2000000 in
/-- slices.Chunk's closure at a slice that has elements. -/
theorem chunk1_in (n l Bs Bn b off len cap N : Nat) (hn : 1 ≤ n) (hN : N = (len + 471) / 472) (hlen : len ≤ 100000000000000) (hcap : len ≤ cap) (J Jx : List (Fin N) → World → Prop) (hJd : ∀ s W m, J s W → J s (W.drewN m))
    (hY : ∀ pre x W, J pre W → pre.length < N → YieldAt Fence.wide (n - 1) Try.prog l #[chunkVal b off len x.1] W fun e W' =>
      (e = .returned (.bool true) ∧ J (pre ++ [x]) W' ∧ Both Bs Bn W W') ∨ (e = .returned (.bool false) ∧ Jx (pre ++ [x]) W'))
    (W : World) (hBs : W.cell? ⟨Bs, 0, none⟩ = some (.slice (some ⟨b, off, none⟩) len cap)) (hBn : W.cell? ⟨Bn, 0, none⟩ = some (.int .i64 472)) (h0 : J [] W) :
    CallsIn Fence.wide n Try.prog 129 #[.func (.yield l) #[] #[], .pointer (some ⟨Bs, 0, none⟩), .pointer (some ⟨Bn, 0, none⟩)] W fun e W' => (∃ v, e = .returned v) ∧
      ((∃ ys, ys.map Fin.val = List.range N ∧ J ys W') ∨ (∃ pre, True ∧ Jx pre W')) := by
  refine callsIn_of_wp Try.func129 rfl trivial ?_ rfl
  simp only [Try.ntmps129, List.size_toArray, List.length_cons, List.length_nil, Nat.reduceAdd, Nat.reduceSub, Array.replicate_succ, Array.replicate_zero, List.push_toArray, List.append_toArray, List.nil_append, List.cons_append]
  gi_wp2
  gi_loopw [4] (fun v wr => ∃ k i : Nat, k ≤ N ∧ Hid (i = 472 * k) ∧ v = .int .i64 i ∧ (∃ ys : List (Fin N), ys.map Fin.val = List.range k ∧ J ys wr) ∧ Both Bs Bn W wr)
    (fun i _ => len + 472 - (intOf i).toNat)
  case atStart => exact ⟨0, 0, Nat.zero_le _, rfl, rfl, ⟨[], rfl, h0⟩, rfl, rfl⟩
  case round =>
    obtain ⟨k, i, hk, hi, rfl, ⟨ys, hys, hJs⟩, hnx⟩ := hrel
    have hc1 : wr.cell? ⟨Bs, 0, none⟩ = some (.slice (some ⟨b, off, none⟩) len cap) := (World.cell?_of_block hnx.1).trans hBs
    have hc2 : wr.cell? ⟨Bn, 0, none⟩ = some (.int .i64 472) := (World.cell?_of_block hnx.2).trans hBn
    have HYS := Lib.hid hys
    clear hys
    by_cases hlt : i < len
    · have hkN : k < N := by have := hi.out; omega
      have hylen : ys.length < N := by have := congrArg List.length HYS.out; simp at this; omega
      have hcv : ∀ m, m = min 472 (len - i) → chunkVal b off len k = .slice (some ⟨b, off + i, none⟩) m m := by intro m hm; rw [chunkVal, ← hi.out, hm]
      have i1 : (i : Int) < (len : Int) := by omega
      have HN := Lib.hid hN
      clear hN
      have hmix : Try.prog.follows .mixedOrders = true := by kernel_rfl
      rcases Nat.lt_or_ge (len - i) 472 with hm | hm
      · have hm1 := hcv (len - i) (by omega)
        have HM := Lib.hid hm1
        clear hm1 hcv
        have i2 : ((len - i : Nat) : Int) < 472 := by omega
        have i3 : ((i : Int) + ((len - i : Nat) : Int)) = (len : Int) := by omega
        gi_wp2
        gi_big_quiet_th_o (fail)
        obtain ⟨fn, tmps, assign, body, hy, hR⟩ := hY ys ⟨k, hkN⟩ (wr.drewN nq) (hJd _ _ _ hJs) hylen
        dsimp only at hy
        rw [HM.out] at hy
        gi_wp2
        refine hR.mono ?_
        rintro e W3 (⟨rfl, hJ3, hk3⟩ | ⟨rfl, hJx3⟩)
        · have hc3 : W3.cell? ⟨Bn, 0, none⟩ = some (.int .i64 472) := (World.cell?_of_block (w := wr) hk3.2).trans hc2
          have hb3 : Both Bs Bn W W3 := both_t hnx ⟨hk3.1, hk3.2⟩
          gi_wp2
          go_roundw
          case rel => exact ⟨k + 1, i + 472, by omega, by have := hi.out; unfold Hid; omega, by go_num, ⟨ys ++ [⟨k, hkN⟩], by rw [List.map_append, HYS.out, List.range_succ]; rfl, hJ3⟩, hb3⟩
          case measure => simp [intOf]; omega
        · gi_wp2
          refine bodyPost_ret (results_none rfl _ _ _) rfl ?_
          exact ⟨⟨_, rfl⟩, .inr ⟨_, trivial, hJx3⟩⟩
      · have hm1 := hcv 472 (by omega)
        have HM := Lib.hid hm1
        clear hm1 hcv
        have i2 : ¬ ((len - i : Nat) : Int) < 472 := by omega
        have i3 : (i : Int) + 472 ≤ (len : Int) := by omega
        gi_wp2
        gi_big_quiet_th_o (fail)
        obtain ⟨fn, tmps, assign, body, hy, hR⟩ := hY ys ⟨k, hkN⟩ (wr.drewN nq) (hJd _ _ _ hJs) hylen
        dsimp only at hy
        rw [HM.out] at hy
        gi_wp2
        refine hR.mono ?_
        rintro e W3 (⟨rfl, hJ3, hk3⟩ | ⟨rfl, hJx3⟩)
        · have hc3 : W3.cell? ⟨Bn, 0, none⟩ = some (.int .i64 472) := (World.cell?_of_block (w := wr) hk3.2).trans hc2
          have hb3 : Both Bs Bn W W3 := both_t hnx ⟨hk3.1, hk3.2⟩
          gi_wp2
          go_roundw
          case rel => exact ⟨k + 1, i + 472, by omega, by have := hi.out; unfold Hid; omega, by go_num, ⟨ys ++ [⟨k, hkN⟩], by rw [List.map_append, HYS.out, List.range_succ]; rfl, hJ3⟩, hb3⟩
          case measure => simp [intOf]; omega
        · gi_wp2
          refine bodyPost_ret (results_none rfl _ _ _) rfl ?_
          exact ⟨⟨_, rfl⟩, .inr ⟨_, trivial, hJx3⟩⟩
    · have hke : k = N := by have := hi.out; omega
      have HK := Lib.hid hke
      clear hke
      have i1 : ¬ (i : Int) < (len : Int) := by omega
      gi_wp2
      go_end0
      exact ⟨⟨_, rfl⟩, .inl ⟨ys, by rw [HYS.out, HK.out]; exact congrArg List.range hN, hJs⟩⟩

set_option maxRecDepth 100000 in
set_option maxHeartbeats 1000000 in
/-- .. at a slice without elements. -/
theorem chunk0_in (n l Bs Bn cap : Nat) (A : Option Addr) (J : List (Fin 0) → World → Prop) (W : World) (hBs : W.cell? ⟨Bs, 0, none⟩ = some (.slice A 0 cap)) (h0 : J [] W) :
    CallsIn Fence.wide n Try.prog 129 #[.func (.yield l) #[] #[], .pointer (some ⟨Bs, 0, none⟩), .pointer (some ⟨Bn, 0, none⟩)] W fun e W' => (∃ v, e = .returned v) ∧ J [] W' := by
  refine callsIn_of_wp Try.func129 rfl trivial ?_ rfl
  simp only [Try.ntmps129, List.size_toArray, List.length_cons, List.length_nil, Nat.reduceAdd, Nat.reduceSub, Array.replicate_succ, Array.replicate_zero, List.push_toArray, List.append_toArray, List.nil_append, List.cons_append]
  gi_wp2
  gi_loopw [4] (fun i wr => i = .int .i64 0 ∧ J [] wr ∧ wr = W) (fun _ _ => 0)
  case atStart => exact ⟨rfl, h0, rfl⟩
  case round =>
    obtain ⟨rfl, hJs, rfl⟩ := hrel
    gi_wp2
    go_end0
    exact ⟨⟨_, rfl⟩, hJs⟩

theorem abides_drewN {β : Type} {B : Nat} {J : β → World → Prop} (h : AbidesFrom B J) : ∀ s W m, J s W → J s (W.drewN m) :=
  fun s W m hs => h s W (W.drewN m) none hs ⟨rfl, rfl, rfl, Nat.le_refl _, fun _ _ _ => rfl⟩ (fun r e => by cases e)

/-- slices.Chunk's value keeps the contract of an iterator. -/
theorem chunk_stops (n Bs Bn : Nat) (A : Option Addr) (b off len cap N : Nat) (hn : 1 ≤ n) (hN : N = (len + 471) / 472) (hlen : len ≤ 100000000000000) (hcap : len ≤ cap) (hA : 0 < len → A = some ⟨b, off, none⟩) (w : World)
    (hB1 : Bs < w.heap.size) (hB2 : Bn < w.heap.size) (hBs : w.cell? ⟨Bs, 0, none⟩ = some (.slice A len cap)) (hBn : w.cell? ⟨Bn, 0, none⟩ = some (.int .i64 472)) :
    SeqStopsK Fence.wide n Try.prog 129 #[.pointer (some ⟨Bs, 0, none⟩), .pointer (some ⟨Bn, 0, none⟩)] (fun k : Fin N => #[chunkVal b off len k.1]) (Both Bs Bn) (fun ys => ys.map Fin.val = List.range N) (fun _ => True) N w :=
  fun l J Jx W hW hJ _ hY h0 => by
    have hc1 := (hW.cell (p := ⟨Bs, 0, none⟩) hB1).trans hBs
    have hc2 := (hW.cell (p := ⟨Bn, 0, none⟩) hB2).trans hBn
    rcases Nat.eq_zero_or_pos len with h | h
    · subst h
      obtain rfl : N = 0 := by omega
      exact (chunk0_in n l Bs Bn cap A J W hc1 h0).mono fun e W' ⟨he, hj⟩ => ⟨he, .inl ⟨[], rfl, hj⟩⟩
    · obtain rfl := hA h
      exact chunk1_in n l Bs Bn b off len cap N hn hN hlen hcap J Jx (abides_drewN hJ) hY W hc1 hc2 h0
end Go.Proofs.Yteljibjbndpncaa
