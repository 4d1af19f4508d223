/- Texts on which the proofs stand: Region. No condition is laid on any input. -/
import Derived.Test.YtghbfbohnoebiaaGreatSnG2
import Derived.RangeFuncNested
import Derived.RangeFuncBound
import Derived.RangeFuncCalls
import Derived.RangeFuncLeaves
import Derived.RangeFuncBox
import Derived.Orders
import Derived.OrdersIn
namespace Go.Proofs.YtghbfbohnoebiaaGreat
open Go.RowKit

section
variable {n l : Nat} {P : Program} {ops : Array Oper} {Q : Exit → Act → World → Prop} {md : Region.Mode}

theorem rowsIn_wide {row : String} {args : Array Value} {w : World} {R : Value → World → Prop} (h : Rows P row args w R) : RowsIn (Fence.wide.inRound l) n P row args w R :=
  fun c cs _ => by
    obtain ⟨v, w', r, s⟩ := h c cs
    exact ⟨v, w', r, by rw [fenced_inRound]; exact stepsIn_wide.2 s⟩

theorem oper_round {o : Oper} {a : Act} {w : World} {K : Act → World → Prop} (hd : ∀ c, o.op ≠ .defer c) (h : o.wp P a w K Q) : o.wpIn (Fence.wide.inRound l) n P a w K Q := by
  unfold Oper.wp at h
  unfold Oper.wpIn
  refine ⟨fun _ _ => trivial, ?_⟩
  rw [Oper.semAt_eq _ _ _ hd]
  generalize (execOp a.eval o).run P w = r at *
  cases r with
  | ok x w' =>
    cases x <;> simp only [Oper.upon, Oper.uponIn] at h ⊢
    case value => exact h
    case skip => exact h
    case defer => exact h
    case enter f args => exact ⟨fun hh => by simp [Fence.inRound, Fence.wide] at hh, CallsIn.inRound l (callsIn_wide.2 h)⟩
    case row row args => exact ⟨fun hh => by simp [Fence.inRound, Fence.wide] at hh, rowsIn_wide h⟩
  | halt x w' => cases x <;> simp only [Oper.upon, Oper.uponIn] at h ⊢ <;> exact h

theorem wpOp_round {i : Nat} {a : Act} {w : World} {K : Act → World → Prop} (hd : ∀ (i : Nat) (o : Oper), ops[i]? = some o → ∀ c, o.op ≠ .defer c) (hout : ¬ LetsOut Q) (h : wpOp P ops Q i K a w) : wpOpIn (Fence.wide.inRound l) n P ops Q i K a w := by
  unfold wpOp at h
  unfold wpOpIn
  cases ho : ops[i]? with
  | none => simpa [ho] using h
  | some o =>
    simp only [ho] at h ⊢
    split
    · rename_i hw
      rw [if_pos hw] at h
      rcases h with h | ⟨_, h⟩
      · exact oper_round (hd i o ho) h
      · exact absurd h hout
    · rename_i hw
      rw [if_neg hw] at h
      exact ⟨fun _ _ => trivial, h⟩

theorem wpAny_round (hd : ∀ (i : Nat) (o : Oper), ops[i]? = some o → ∀ c, o.op ≠ .defer c) (hout : ¬ LetsOut Q) : ∀ (fuel : Nat) (listed : Array Bool) (a : Act) (w : World), wpAny P md ops Q fuel listed a w → wpAnyIn (Fence.wide.inRound l) n P md ops Q fuel listed a w
  | 0, _, _, _, h => h
  | fuel + 1, _, _, _, h => ⟨h.1, fun i hi => wpOpIn_mono (fun _ _ h => wpAny_round hd hout fuel _ _ _ h) (wpOp_round hd hout (h.2 i hi))⟩

/-- A region that draws its order, in a round. -/
theorem region_round {id : Nat} {a : Act} {w : World} (hm : P.follows .mixedOrders = true) (hd : ∀ (i : Nat) (o : Oper), ops[i]? = some o → ∀ c, o.op ≠ .defer c) (hout : ¬ LetsOut Q)
    (h : wpAny P .any ops Q ops.size (Array.replicate ops.size false) a w.drew) : (Code.region id ops true).wpIn (Fence.wide.inRound l) n P Q a w :=
  wpIn_region_any hm (wpAny_round hd hout _ _ _ _ h)

/-- One step: the operations that may come next, one by one. -/
theorem any_step {fuel : Nat} {listed : Array Bool} {a : Act} {w : World} (rs : List Nat) (hr : Region.ready md ops listed = rs) (hne : rs ≠ [])
    (h : ∀ i ∈ rs, wpOp P ops Q i (wpAny P md ops Q fuel (listed.setIfInBounds i true)) a w) : wpAny P md ops Q (fuel + 1) listed a w := wpAny_ready hr hne h

end

def noDefer (ops : Array Oper) : Bool := ops.toList.all fun o => match o.op with | .defer _ => false | _ => true
theorem noDefer_spec {ops : Array Oper} (h : noDefer ops = true) : ∀ (i : Nat) (o : Oper), ops[i]? = some o → ∀ c, o.op ≠ .defer c := by
  intro i o ho c hc
  have hm : o ∈ ops.toList := by
    rw [← Array.getElem?_toList] at ho
    exact List.mem_of_getElem? ho
  have := List.all_eq_true.1 h o hm
  rw [hc] at this
  cases this

/-- 'append' as0 one operation. -/
theorem exec_append {P : Program} {o : Oper} {a : Act} {w w' : World} {s x : Operand} {t : TypeId} {v u v' : Value} (ho : o.op = .call { callee := .builtin .append, args := #[s, x], argTypes := #[t, t] })
    (hs : a.eval s = v) (hx : a.eval x = u) (h : (Builtin.append_ #[t, t] o.type #[v, u]).run P w = .ok v' w') : (execOp a.eval o).run P w = .ok (.value v') w' := by
  unfold execOp
  simp only [ho, resolve, invoke, builtin, Sem.run_bind, Sem.run_pure, Result.andThen_ok, List.map_toArray, List.map_cons, List.map_nil, hs, hx, h]

/-- '[]T{x}' as0 one operation. -/
theorem exec_buildSlice {P : Program} {o : Oper} {a : Act} {w : World} {x : Operand} {t e : TypeId} {vy : Value} (ho : o.op = .buildSlice t 1 #[(0, x)])
    (z : Value) (size : Nat) (ht : P.underlying t = some (.slice e)) (hi : (P.info? e).map (fun i => (i.zero, i.size)) = some (some z, size)) (hx : a.eval x = vy) (hc : vy.cells.size = size) (hsz : 0 < size ∧ size ≤ 1000) :
    (execOp a.eval o).run P w = .ok (.value (.slice (some ⟨w.heap.size, 0, none⟩) 1 1)) (w.alloc (.cells vy.cells e)) := by
  have hb := run_buildSlice_one (P := P) w t e z size ht hi vy hc hsz.1 hsz.2
  simp only [execOp, ho, List.map_toArray, List.map_cons, List.map_nil, hx]
  simp only [Sem.run_bind, hb, Result.andThen_ok, Sem.run_pure]


theorem KeepsOthers.of_below {W W' : World} (h : Below W.heap.size W W') : KeepsOthers W W' := ⟨h.size, fun k _ hk _ => (h.block k (Array.getElem?_eq_some_iff.1 hk).1).trans hk⟩

/-- 'out = append(out, y)', out in a box: what is so behind the append, and behind the store. -/
theorem box_collect {α : Type} {r : Rep α} {e t T ty : TypeId} {base B : Nat} {Q : Nat → Prop} {P : Program} {W Wm : World} {v : Value} {xs : List α} {z : Value} {size bytes : Nat}
    (ht : P.underlying T = some (.slice e)) (hi : (P.info? e).map (fun i => (i.zero, i.size, i.bytes)) = some (some z, size, bytes)) (hzs : z.cells.size = size) (hsz : 0 < size) (hr : r.size = size)
    (hv : Boxed W B t v) (hBb : B < base) (hbase : base ≤ W.heap.size) (hQ : ∀ b, Q b → b ≠ B) (hacc : r.acc e base Q W v xs) (hWm : Below W.heap.size W Wm)
    {y : α} {vy : Value} (hy : r.val (fun b => Q b ∧ v.ownBlock ≠ some b) Wm vy y) {g : Nat} (hg : Wm.heap[g]? = some (.cells vy.cells e (0, 0)))
    (h63 : xs.length + 1 ≤ maxLen) (hbytes : (xs.length + 1) * bytes ≤ 140737488355328) :
    ∃ v' w1, (Builtin.append_ #[T, T] ty #[v, .slice (some ⟨g, 0, none⟩) 1 1]).run P Wm = .ok v' w1 ∧ Boxed w1 B t v ∧ Boxed (w1.setCell ⟨B, 0, none⟩ v') B t v' ∧ r.acc e base Q (w1.setCell ⟨B, 0, none⟩ v') v' (xs ++ [y]) ∧
      KeepsOthers W (w1.setCell ⟨B, 0, none⟩ v') ∧ Below B W (w1.setCell ⟨B, 0, none⟩ v') ∧ (∀ k, k < base → k ≠ B → (w1.setCell ⟨B, 0, none⟩ v').heap[k]? = W.heap[k]?) ∧ v'.oneCell' = true := by
  have hacc' : r.acc e base Q Wm v xs := Rep.acc_keep (fun b _ hb => hWm.block b hb.lt) (fun _ hb _ => hb) hacc
  obtain ⟨cs, hvy, hrd⟩ := hy
  have hcells : vy.cells.toList = cs := by rw [hvy]; exact r.back hrd
  obtain ⟨v', w1, q1, q2, q3, q4⟩ := Rep.acc_more (P := P) (ty := ty) (ys := [y]) (A := some ⟨g, 0, none⟩) (m := 1) (c := 1) (es := cs) ht hi hzs hsz hr hacc' rfl (Rep.row_one_elem hrd)
    (fun _ => ⟨g, 0, rfl, fun j u hj => by rw [cell_of_row _ _ _ _ _ _ hg, Nat.zero_add, ← hj, ← hcells]; simp⟩) (by simpa using h63) (by simpa using hbytes) (Nat.le_trans hbase hWm.size)
  have hown := Rep.acc_own hacc'
  have hvm : Boxed Wm B t v := (hWm.block B (by omega)).trans hv
  have hv1 : Boxed w1 B t v := hvm.kept q3 (fun hh => by have := (hown B hh.symm).1; omega)
  have hown1 := Rep.acc_own q2
  have hs : ∀ k, k ≠ B → (w1.setCell ⟨B, 0, none⟩ v').heap[k]? = w1.heap[k]? := fun k hk => Below.heap_setCell _ _ _ _ hk
  obtain ⟨A', c', hform, _, _⟩ := Rep.acc_form q2
  refine ⟨v', w1, q1, hv1, hv1.set v', Rep.acc_keep (fun b hb _ => hs b ?_) (fun _ hb _ => hb) q2, ?_, ?_, ?_, by rw [hform]; rfl⟩
  · rcases hb with hb | hb
    · exact hQ b hb
    · have := (hown1 b hb).1; omega
  · refine ((KeepsOthers.of_below hWm).trans (KeepsOthers.of_grownBy q3 ?_)).trans (KeepsOthers.setCell _ _ _)
    intro j o hj ho
    obtain ⟨cells, h1, _⟩ := hacc'
    rcases h1.2 with ⟨rfl, _⟩ | ⟨g', cap, cur, rfl, _, hg', _⟩
    · simp [Value.ownBlock] at hj
    · simp only [Value.ownBlock, Option.some.injEq] at hj
      subst hj
      rw [hg'] at ho; cases ho; rfl
  · have hb1 : Below B W w1 := (hWm.mono (by omega)).grown q3 (Nat.le_trans (by omega) hWm.size) (fun k hk => by have := (hown k hk).1; omega)
    exact hb1.setCell (p := ⟨B, 0, none⟩) (Nat.le_refl _) _
  · intro k hk hne
    rw [hs k hne, q3.block k (Nat.lt_of_lt_of_le (by omega) hWm.size) (fun hh => by have := (hown k hh.symm).1; omega), hWm.block k (by omega)]


/-- A box, written. -/
theorem exec_store_box {P : Program} {o : Oper} {a : Act} {w : World} {x y : Operand} {T t : TypeId} {B : Nat} {v v' : Value} (ho : o.op = .store T x y) (hx : a.eval x = .pointer (some ⟨B, 0, none⟩)) (hy : a.eval y = v') (hi : (P.info? T).map (·.size) = some 1) (hv : Boxed w B t v) (h2 : ∃ A n c, v' = .slice A n c) :
    (execOp a.eval o).run P w = .ok .skip (w.setCell ⟨B, 0, none⟩ v') := by
  have hc := hv.cell
  have hf := hv.frozen
  obtain ⟨A, n, c, rfl⟩ := h2
  have h : (storeVar T ⟨B, 0, none⟩ (.slice A n c)).run P w = .ok () (w.setCell ⟨B, 0, none⟩ (.slice A n c)) := by
    obtain ⟨i, h1, h2⟩ := Option.map_eq_some_iff.1 hi
    unfold storeVar sizeOf typeInfo
    simp only [run_program, Sem.run_bind, Result.andThen_ok, h1, Sem.run_pure, h2, Value.cells, storeCells]
    rw [Addr.add_zero', if_neg (by simp)]
    simp only [Sem.run_bind, run_store_slice, stored, hc, hf, Bool.false_eq_true, if_false, Result.andThen_ok, Sem.run_pure]
  simp only [execOp, ho, hx, hy, Instr.storeAt, Instr.sureAddr, Sem.run_bind, Sem.run_pure, Result.andThen_ok, h]


theorem step_run {P : Program} {ops : Array Oper} {o : Oper} {a : Act} {w w' : World} {v : Value} {K : Act → World → Prop} {Q : Exit → Act → World → Prop} {E : Prop} (hg : o.guard = none) (hrun : (execOp a.eval o).run P w = .ok (.value v) w') (h : K (a.put o.dst v) w') :
    if Region.wanted o (yielded ops a.tmps) = true then Oper.wp P o a w K Q else E := by
  have hw : Region.wanted o (yielded ops a.tmps) = true := by simp [Region.wanted, hg]
  rw [if_pos hw]
  unfold Oper.wp
  rw [hrun]
  exact h
theorem step_run_skip {P : Program} {ops : Array Oper} {o : Oper} {a : Act} {w w' : World} {K : Act → World → Prop} {Q : Exit → Act → World → Prop} {E : Prop} (hg : o.guard = none) (hrun : (execOp a.eval o).run P w = .ok .skip w') (h : K (a.put o.dst undef) w') :
    if Region.wanted o (yielded ops a.tmps) = true then Oper.wp P o a w K Q else E := by
  have hw : Region.wanted o (yielded ops a.tmps) = true := by simp [Region.wanted, hg]
  rw [if_pos hw]
  unfold Oper.wp
  rw [hrun]
  exact h

end Go.Proofs.YtghbfbohnoebiaaGreat
