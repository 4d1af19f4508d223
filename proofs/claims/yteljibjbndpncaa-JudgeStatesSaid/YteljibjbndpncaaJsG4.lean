/- Texts on which the proofs stand: HeldTail, Short, Boxes, JTypes. No condition is laid on any input. -/
import Derived.Test.YteljibjbndpncaaJsG3
namespace Go.Proofs.Yteljibjbndpncaa
open Go.RowKit

/-- What waits for number i, by one or more steps (and i itself). -/
def behind (md : Region.Mode) (ops : Array Oper) (i : Nat) : List Nat :=
  (List.range ops.size).foldl (fun acc j => if (ops[j]?).any (fun o => o.after.any fun e => Region.binds md e && acc.contains e.on) then j :: acc else acc) [i]
def tailed (md : Region.Mode) (ops : Array Oper) (listed : Array Bool) (T : List Nat) (i : Nat) : Bool :=
  ((behind md ops i).all fun d => !listed.getD d false) && T.all fun j => j == i || listed.getD j false || (behind md ops i).contains j

section
variable {P : Program} {ops : Array Oper} {Q : Exit → Act → World → Prop} {md : Region.Mode} {S : World → Prop} {T : List Nat}

theorem behind_spec (md : Region.Mode) (ops : Array Oper) (i : Nat) : ∀ d ∈ behind md ops i, d = i ∨ ∃ o, ops[d]? = some o ∧ ∃ e ∈ o.after, Region.binds md e = true ∧ e.on ∈ behind md ops i := by
  have key : ∀ (l : List Nat) (acc : List Nat), (∀ d ∈ acc, d = i ∨ ∃ o, ops[d]? = some o ∧ ∃ e ∈ o.after, Region.binds md e = true ∧ e.on ∈ acc) →
      ∀ d ∈ l.foldl (fun acc j => if (ops[j]?).any (fun o => o.after.any fun e => Region.binds md e && acc.contains e.on) then j :: acc else acc) acc,
        d = i ∨ ∃ o, ops[d]? = some o ∧ ∃ e ∈ o.after, Region.binds md e = true ∧ e.on ∈ l.foldl (fun acc j => if (ops[j]?).any (fun o => o.after.any fun e => Region.binds md e && acc.contains e.on) then j :: acc else acc) acc := by
    intro l
    induction l with
    | nil => intro acc h; exact h
    | cons j l ih =>
      intro acc h
      simp only [List.foldl_cons]
      refine ih _ ?_
      split
      · rename_i hc
        intro d hd
        rcases List.mem_cons.1 hd with rfl | hd
        · right
          cases ho : ops[d]? with
          | none => rw [ho] at hc; cases hc
          | some o =>
            rw [ho] at hc
            simp only [Option.any_some, Array.any_eq_true'] at hc
            obtain ⟨e, he, hb⟩ := hc
            simp only [Bool.and_eq_true, List.contains_iff_mem] at hb
            exact ⟨o, rfl, e, he, hb.1, by simp [hb.2]⟩
        · rcases h d hd with rfl | ⟨o, ho, e, he, hb, hm⟩
          · exact .inl rfl
          · exact .inr ⟨o, ho, e, he, hb, by simp [hm]⟩
      · exact h
  exact key _ _ (by simp)

/-- While all that waits for i is not listed, none of it comes up. -/
theorem not_ready {listed : Array Bool} {i j : Nat} (hb : ∀ d ∈ behind md ops i, listed.getD d false = false) (hj : j ∈ Region.ready md ops listed) (hji : j ≠ i) : j ∉ behind md ops i := fun hm => by
  obtain ⟨_, o, ho, hall⟩ := mem_ready.1 hj
  rcases behind_spec md ops i j hm with h | ⟨o', ho', e, he, hbd, hme⟩
  · exact hji h
  · rw [ho] at ho'
    cases ho'
    have h1 := hall e he hbd
    rw [hb _ hme] at h1
    cases h1

def wpAnyT (P : Program) (md : Region.Mode) (ops : Array Oper) (Q : Exit → Act → World → Prop) (S : World → Prop) (T : List Nat) : Nat → Array Bool → Act → World → Prop
  | 0, listed, a, w => Region.ready md ops listed = [] ∧ Q .normal a w
  | fuel + 1, listed, a, w =>
    (Region.ready md ops listed = [] → Q .normal a w) ∧
    ∀ i ∈ Region.ready md ops listed, wpOp P ops Q i (fun a' w' => (i ∉ T → S w') ∧ wpAnyT P md ops Q S T fuel (listed.setIfInBounds i true) a' w') a w

theorem wpAny_of_tail : ∀ (fuel : Nat) (listed : Array Bool) (a : Act) (w : World), wpAnyT P md ops Q S T fuel listed a w → wpAny P md ops Q fuel listed a w
  | 0, _, _, _, h => h
  | fuel + 1, _, _, _, h => ⟨h.1, fun i hi => wpOp_mono (fun a' w' h' => wpAny_of_tail fuel _ a' w' h'.2) (h.2 i hi)⟩

theorem wpAnyT_first {i : Nat} {oi : Oper} {v : Value} (hi : ops[i]? = some oi) (hsel : ∀ (j : Nat) (o : Oper) cs b, ops[j]? = some o → o.op ≠ .select cs b)
    (hQ : ∀ c a w, Q (.panic c) (a.put oi.dst v) w → Q (.panic c) a w) :
    ∀ (fuel : Nat) (listed : Array Bool) (a : Act) (w : World),
      (∀ j oj, ops[j]? = some oj → j ≠ i → listed.getD j true = false → (∀ e ∈ oj.after, Region.binds md e = true → e.on ≠ i) → oi.apart ops oj = true) →
      (∀ d ∈ behind md ops i, listed.getD d false = false) → (∀ j ∈ T, j = i ∨ listed.getD j false = true ∨ j ∈ behind md ops i) →
      i ∈ Region.ready md ops listed → YieldsIf P ops S oi v a → S w →
      wpAnyT P md ops Q S T fuel (listed.setIfInBounds i true) (a.put oi.dst v) w → wpAnyT P md ops Q S T (fuel + 1) listed a w := by
  intro fuel
  induction fuel with
  | zero =>
    intro listed a w _ _ _ hr hy hS H
    refine ⟨fun h => (by rw [h] at hr; cases hr), fun j hj => ?_⟩
    by_cases hji : j = i
    · subst hji; exact hy.wpOp hi hS ⟨fun _ => hS, H⟩
    · have := ready_mono hj hji
      rw [H.1] at this
      cases this
  | succ fuel ih =>
    intro listed a w hfree hbh hT hr hy hS H
    refine ⟨fun h => (by rw [h] at hr; cases hr), fun j hj => ?_⟩
    by_cases hji : j = i
    · subst hji; exact hy.wpOp hi hS ⟨fun _ => hS, H⟩
    · have hjb := not_ready hbh hj hji
      have h1 := H.2 j (ready_mono hj hji)
      obtain ⟨hjun, oj, hoj, hall⟩ := mem_ready.1 hj
      have hjT : j ∉ T := fun hm => by
        rcases hT j hm with h | h | h
        · exact hji h
        · rcases Nat.lt_or_ge j listed.size with h' | h'
          · simp [h'] at h hjun; rw [hjun] at h; cases h
          · simp [Array.getElem?_eq_none h'] at h
        · exact hjb h
      have hnot : ∀ e ∈ oj.after, Region.binds md e = true → e.on ≠ i := fun e he hb heq => by
        have h1 := hall e he hb
        have h0 := (mem_ready.1 hr).1
        rw [heq] at h1
        rcases Nat.lt_or_ge i listed.size with h' | h'
        · simp [h'] at h0 h1; rw [h0] at h1; cases h1
        · simp [Array.getElem?_eq_none h'] at h1
      have h2 := wpOp_putIf hoj (hfree j oj hoj hji hjun hnot) (fun cs b => hsel i oi cs b hi) (fun cs b => hsel j oj cs b hoj) hQ hy h1
      have hfree' : ∀ k ok, ops[k]? = some ok → k ≠ i → (listed.setIfInBounds j true).getD k true = false →
          (∀ e ∈ ok.after, Region.binds md e = true → e.on ≠ i) → oi.apart ops ok = true := fun k ok hk hki hun hno => by
        refine hfree k ok hk hki ?_ hno
        by_cases hjk : j = k
        · subst hjk; exact hjun
        · rw [getD_set_ne true hjk] at hun; exact hun
      have hbh' : ∀ d ∈ behind md ops i, (listed.setIfInBounds j true).getD d false = false := fun d hd => by
        rw [getD_set_ne (i := j) (j := d) false (fun e => hjb (by rw [e]; exact hd))]; exact hbh d hd
      refine wpOp_mono (fun a' w' h3 => ⟨h3.2.1, ih (listed.setIfInBounds j true) a' w' hfree' hbh' (fun k hk => (hT k hk).imp id (Or.imp getD_set_true id)) (ready_mono hr (Ne.symm hji)) h3.1 (h3.2.1 hjT) ?_⟩) h2
      rw [Array.setIfInBounds_comm _ _ hji]
      exact h3.2.2

theorem wpAnyT_take {i : Nat} {oi : Oper} {v : Value} {fuel : Nat} {listed : Array Bool} {a : Act} {w : World} (hi : ops[i]? = some oi)
    (hs : Region.noSelect ops = true) (hf : Region.free md ops listed i = true) (hr : (Region.ready md ops listed).contains i = true) (ht : tailed md ops listed T i = true)
    (hQ : ∀ c a w, Q (.panic c) (a.put oi.dst v) w → Q (.panic c) a w) (hy : YieldsIf P ops S oi v a) (hS : S w)
    (h : wpAnyT P md ops Q S T fuel (listed.setIfInBounds i true) (a.put oi.dst v) w) : wpAnyT P md ops Q S T (fuel + 1) listed a w := by
  simp only [tailed, Bool.and_eq_true, List.all_eq_true, Bool.or_eq_true, Bool.not_eq_true', beq_iff_eq, List.contains_iff_mem] at ht
  exact wpAnyT_first hi (Region.noSelect_spec hs) hQ fuel listed a w (Region.free_spec hi hf) ht.1 (fun j hj => by rcases ht.2 j hj with (h | h) | h <;> simp [h]) (by simpa using hr) hy hS h

theorem wpAnyT_first0 {i : Nat} {oi : Oper} {v : Value} (hi : ops[i]? = some oi) (hsel : ∀ (j : Nat) (o : Oper) cs b, ops[j]? = some o → o.op ≠ .select cs b)
    (hQ : ∀ c a w, Q (.panic c) (a.put oi.dst v) w → Q (.panic c) a w) (hT : i ∈ T) :
    ∀ (fuel : Nat) (listed : Array Bool) (a : Act) (w : World),
      (∀ j oj, ops[j]? = some oj → j ≠ i → listed.getD j true = false → (∀ e ∈ oj.after, Region.binds md e = true → e.on ≠ i) → oi.apart ops oj = true) →
      i ∈ Region.ready md ops listed → YieldsIf P ops (fun _ => True) oi v a →
      wpAnyT P md ops Q S T fuel (listed.setIfInBounds i true) (a.put oi.dst v) w → wpAnyT P md ops Q S T (fuel + 1) listed a w := by
  intro fuel
  induction fuel with
  | zero =>
    intro listed a w _ hr hy H
    refine ⟨fun h => (by rw [h] at hr; cases hr), fun j hj => ?_⟩
    by_cases hji : j = i
    · subst hji; exact hy.wpOp hi trivial ⟨fun h => absurd hT h, H⟩
    · have := ready_mono hj hji
      rw [H.1] at this
      cases this
  | succ fuel ih =>
    intro listed a w hfree hr hy H
    refine ⟨fun h => (by rw [h] at hr; cases hr), fun j hj => ?_⟩
    by_cases hji : j = i
    · subst hji; exact hy.wpOp hi trivial ⟨fun h => absurd hT h, H⟩
    · have h1 := H.2 j (ready_mono hj hji)
      obtain ⟨hjun, oj, hoj, hall⟩ := mem_ready.1 hj
      have hnot : ∀ e ∈ oj.after, Region.binds md e = true → e.on ≠ i := fun e he hb heq => by
        have h1 := hall e he hb
        have h0 := (mem_ready.1 hr).1
        rw [heq] at h1
        rcases Nat.lt_or_ge i listed.size with h' | h'
        · simp [h'] at h0 h1; rw [h0] at h1; cases h1
        · simp [Array.getElem?_eq_none h'] at h1
      have h2 := wpOp_putIf hoj (hfree j oj hoj hji hjun hnot) (fun cs b => hsel i oi cs b hi) (fun cs b => hsel j oj cs b hoj) hQ hy h1
      have hfree' : ∀ k ok, ops[k]? = some ok → k ≠ i → (listed.setIfInBounds j true).getD k true = false →
          (∀ e ∈ ok.after, Region.binds md e = true → e.on ≠ i) → oi.apart ops ok = true := fun k ok hk hki hun hno => by
        refine hfree k ok hk hki ?_ hno
        by_cases hjk : j = k
        · subst hjk; exact hjun
        · rw [getD_set_ne true hjk] at hun; exact hun
      refine wpOp_mono (fun a' w' h3 => ⟨h3.2.1, ih (listed.setIfInBounds j true) a' w' hfree' (ready_mono hr (Ne.symm hji)) h3.1 ?_⟩) h2
      rw [Array.setIfInBounds_comm _ _ hji]
      exact h3.2.2
/-- A move that is wanted at the end alone: it yields in whatever world. -/
theorem wpAnyT_take0 {i : Nat} {oi : Oper} {v : Value} {fuel : Nat} {listed : Array Bool} {a : Act} {w : World} (hi : ops[i]? = some oi)
    (hs : Region.noSelect ops = true) (hf : Region.free md ops listed i = true) (hr : (Region.ready md ops listed).contains i = true) (ht : T.contains i = true)
    (hQ : ∀ c a w, Q (.panic c) (a.put oi.dst v) w → Q (.panic c) a w) (hy : YieldsIf P ops (fun _ => True) oi v a)
    (h : wpAnyT P md ops Q S T fuel (listed.setIfInBounds i true) (a.put oi.dst v) w) : wpAnyT P md ops Q S T (fuel + 1) listed a w :=
  wpAnyT_first0 hi (Region.noSelect_spec hs) hQ (List.contains_iff_mem.1 ht) fuel listed a w (Region.free_spec hi hf) (by simpa using hr) hy h

theorem wpAnyT_one {i : Nat} {o : Oper} {fuel : Nat} {listed : Array Bool} {a : Act} {w : World} (ho : ops[i]? = some o) (hr : Region.ready md ops listed = [i]) (hT : T.contains i = false)
    (h : ∀ K' : Act → World → Prop, (∀ a w, S w ∧ wpAnyT P md ops Q S T fuel (listed.setIfInBounds i true) a w → K' a w) → if Region.wanted o (yielded ops a.tmps) = true then Oper.wp P o a w K' Q else K' (a.put o.dst undef) w) : wpAnyT P md ops Q S T (fuel + 1) listed a w :=
  ⟨fun h0 => (by rw [hr] at h0; cases h0), fun j hj => by
    rw [hr] at hj
    obtain rfl : j = i := by simpa using hj
    exact wpOp_step ho fun K' hK => h K' fun a w hs => hK a w ⟨fun _ => hs.1, hs.2⟩⟩
theorem wpAnyT_last {i : Nat} {o : Oper} {fuel : Nat} {listed : Array Bool} {a : Act} {w : World} (ho : ops[i]? = some o) (hr : Region.ready md ops listed = [i]) (hT : T.contains i = true)
    (h : ∀ K' : Act → World → Prop, (∀ a w, wpAnyT P md ops Q S T fuel (listed.setIfInBounds i true) a w → K' a w) → if Region.wanted o (yielded ops a.tmps) = true then Oper.wp P o a w K' Q else K' (a.put o.dst undef) w) : wpAnyT P md ops Q S T (fuel + 1) listed a w :=
  ⟨fun h0 => (by rw [hr] at h0; cases h0), fun j hj => by
    rw [hr] at hj
    obtain rfl : j = i := by simpa using hj
    exact wpOp_step ho fun K' hK => h K' fun a w hs => hK a w ⟨fun hn => absurd (List.contains_iff_mem.1 hT) hn, hs⟩⟩
theorem wpAnyT_done {listed : Array Bool} {a : Act} {w : World} (hr : Region.ready md ops listed = []) (h : Q .normal a w) :
    ∀ fuel, wpAnyT P md ops Q S T fuel listed a w
  | 0 => ⟨hr, h⟩
  | _ + 1 => ⟨fun _ => h, by rw [hr]; simp⟩

theorem wp_region_tail {id : Nat} {a : Act} {w : World} (hm : P.follows .mixedOrders = true) (hS : S w.drew)
    (h : S w.drew → wpAnyT P .any ops Q S T ops.size (Array.replicate ops.size false) a w.drew) : (Code.region id ops true).wp P Q a w :=
  wp_region_any hm (wpAny_of_tail _ _ _ _ (h hS))
end

/-- 'append(s, x)' in a region that draws its order, behind the making of the slice [x]. -/
theorem step_snoc2 {α : Type} {r : Rep α} {e base : Nat} {Q : Nat → Prop} {P : Program} {w : World} {ops : Array Oper} {o : Oper} {a : Act} {K : Act → World → Prop} {R : Exit → Act → World → Prop} {E : Prop} (hg : o.guard = none) (s x : Operand) (t : TypeId)
    (ho : o.op = .call { callee := .builtin .append, args := #[s, x], argTypes := #[t, t] })
    (z : Value) (size bytes : Nat) (ht : P.underlying t = some (.slice e)) (hi : (P.info? e).map (fun i => (i.zero, i.size, i.bytes)) = some (some z, size, bytes)) (hzs : z.cells.size = size) (hsz : 0 < size)
    (hr : r.size = size) (v : Value) (xs : List α) (hs : a.eval s = v) (h : r.acc e base Q w v xs) (y : α) (vy : Value) (hy : r.val (fun b => Q b ∧ v.ownBlock ≠ some b) w vy y) (hx : a.eval x = .slice (some ⟨w.heap.size, 0, none⟩) 1 1)
    (h63 : xs.length + 1 ≤ maxLen) (hbytes : (xs.length + 1) * bytes ≤ 140737488355328) (hbase : base ≤ w.heap.size)
    (H : ∀ v' w', r.acc e base Q w' v' (xs ++ [y]) → w.grownBy w' v.ownBlock → (v'.ownBlock = v.ownBlock ∨ v'.ownBlock = some (w.heap.size + 1)) → K (a.put o.dst v') w') :
    if Region.wanted o (yielded ops a.tmps) = true then Oper.wp P o a (w.alloc (.cells vy.cells e)) K R else E := by
  have hw : Region.wanted o (yielded ops a.tmps) = true := by simp [Region.wanted, hg]
  rw [if_pos hw]
  obtain ⟨cs, hv, hrd⟩ := hy
  have hcells : vy.cells.toList = cs := by rw [hv]; exact r.back hrd
  have hkeep : ∀ b, b < w.heap.size → (w.alloc (.cells vy.cells e)).heap[b]? = w.heap[b]? := fun b hb => Below.heap_alloc _ _ _ hb
  have hacc' : r.acc e base Q (w.alloc (.cells vy.cells e)) v xs := Rep.acc_keep (fun b _ hl => hkeep b hl.lt) (fun _ hb _ => hb) h
  have hbn : (w.alloc (.cells vy.cells e)).heap[w.heap.size]? = some (.cells vy.cells e) := heap_alloc_new w _
  obtain ⟨v', w', q1, q2, q3, q4⟩ := Rep.acc_more (P := P) (w := w.alloc (.cells vy.cells e)) (ty := o.type) (ys := [y]) (A := some ⟨w.heap.size, 0, none⟩) (m := 1) (c := 1) (es := cs)
    ht hi hzs hsz hr hacc' rfl
    (Rep.row_one_elem (r.keep (fun b hb hl => ⟨hb, hkeep b hl.lt⟩) hrd)) (fun _ => ⟨w.heap.size, 0, rfl, fun j u hj => by
      rw [cell_of_row _ _ _ _ _ _ hbn, Nat.zero_add, ← hj, ← hcells]; simp⟩)
    (by simpa using h63) (by simpa using hbytes) (by simp; omega)
  unfold Oper.wp
  rw [exec_append ho hs hx q1]
  exact H _ _ q2 ((World.grownBy_alloc w _ _).trans q3) (by simpa using q4)

end Go.Proofs.Yteljibjbndpncaa
namespace Go.Proofs.Yteljibjbndpncaa
open Go.RowKit

theorem tkT {P : Program} {md : Region.Mode} {ops : Array Oper} {Q : Exit → Act → World → Prop} {S : World → Prop} {T : List Nat} {i : Nat} {oi : Oper} {v : Value} {fuel : Nat} {listed : Array Bool} {a : Act} {w : World} (hi : ops[i]? = some oi) (hy : YieldsIf P ops S oi v a) (hS : S w)
    (h : wpAnyT P md ops Q S T fuel (listed.setIfInBounds i true) (a.put oi.dst v) w)
    (hs : Region.noSelect ops = true := by kernel_rfl) (hf : Region.free md ops listed i = true := by kernel_rfl) (hr : (Region.ready md ops listed).contains i = true := by kernel_rfl) (ht : tailed md ops listed T i = true := by kernel_rfl)
    (hQ : ∀ c a w, Q (.panic c) (a.put oi.dst v) w → Q (.panic c) a w := by exact fun _ _ _ h => h) : wpAnyT P md ops Q S T (fuel + 1) listed a w := wpAnyT_take hi hs hf hr ht hQ hy hS h
theorem tkTV {P : Program} {md : Region.Mode} {ops : Array Oper} {Q : Exit → Act → World → Prop} {S : World → Prop} {T : List Nat} {i : Nat} {oi : Oper} {v : Value} {fuel : Nat} {listed : Array Bool} {a : Act} {w : World} (hi : ops[i]? = some oi) (hS : S w)
    (h : wpAnyT P md ops Q S T fuel (listed.setIfInBounds i true) (a.put oi.dst v) w) (hy : YieldsIf P ops S oi v a := by exact Or.inl ⟨by rfl, fun w' _ => by go_simp <;> omega⟩)
    (hs : Region.noSelect ops = true := by kernel_rfl) (hf : Region.free md ops listed i = true := by kernel_rfl) (hr : (Region.ready md ops listed).contains i = true := by kernel_rfl) (ht : tailed md ops listed T i = true := by kernel_rfl)
    (hQ : ∀ c a w, Q (.panic c) (a.put oi.dst v) w → Q (.panic c) a w := by exact fun _ _ _ h => h) : wpAnyT P md ops Q S T (fuel + 1) listed a w := wpAnyT_take hi hs hf hr ht hQ hy hS h
theorem tk0 {P : Program} {md : Region.Mode} {ops : Array Oper} {Q : Exit → Act → World → Prop} {S : World → Prop} {T : List Nat} {i : Nat} {oi : Oper} {v : Value} {fuel : Nat} {listed : Array Bool} {a : Act} {w : World} (hi : ops[i]? = some oi) (hy : YieldsIf P ops (fun _ => True) oi v a)
    (h : wpAnyT P md ops Q S T fuel (listed.setIfInBounds i true) (a.put oi.dst v) w)
    (hs : Region.noSelect ops = true := by kernel_rfl) (hf : Region.free md ops listed i = true := by kernel_rfl) (hr : (Region.ready md ops listed).contains i = true := by kernel_rfl) (ht : T.contains i = true := by kernel_rfl)
    (hQ : ∀ c a w, Q (.panic c) (a.put oi.dst v) w → Q (.panic c) a w := by exact fun _ _ _ h => h) : wpAnyT P md ops Q S T (fuel + 1) listed a w := wpAnyT_take0 hi hs hf hr ht hQ hy h
theorem tkH {P : Program} {md : Region.Mode} {ops : Array Oper} {Q : Exit → Act → World → Prop} {S : World → Prop} {i : Nat} {oi : Oper} {v : Value} {fuel : Nat} {listed : Array Bool} {a : Act} {w : World} (hi : ops[i]? = some oi) (hy : YieldsIf P ops S oi v a) (hS : S w)
    (h : wpAnyH P md ops Q S fuel (listed.setIfInBounds i true) (a.put oi.dst v) w)
    (hs : Region.noSelect ops = true := by kernel_rfl) (hf : Region.free md ops listed i = true := by kernel_rfl) (hr : (Region.ready md ops listed).contains i = true := by kernel_rfl)
    (hQ : ∀ c a w, Q (.panic c) (a.put oi.dst v) w → Q (.panic c) a w := by exact fun _ _ _ h => h) : wpAnyH P md ops Q S (fuel + 1) listed a w := wpAnyH_take hi hs hf hr hQ hy hS h
theorem tkHV {P : Program} {md : Region.Mode} {ops : Array Oper} {Q : Exit → Act → World → Prop} {S : World → Prop} {i : Nat} {oi : Oper} {v : Value} {fuel : Nat} {listed : Array Bool} {a : Act} {w : World} (hi : ops[i]? = some oi) (hS : S w)
    (h : wpAnyH P md ops Q S fuel (listed.setIfInBounds i true) (a.put oi.dst v) w) (hy : YieldsIf P ops S oi v a := by exact Or.inl ⟨by rfl, fun w' _ => by go_simp <;> omega⟩)
    (hs : Region.noSelect ops = true := by kernel_rfl) (hf : Region.free md ops listed i = true := by kernel_rfl) (hr : (Region.ready md ops listed).contains i = true := by kernel_rfl)
    (hQ : ∀ c a w, Q (.panic c) (a.put oi.dst v) w → Q (.panic c) a w := by exact fun _ _ _ h => h) : wpAnyH P md ops Q S (fuel + 1) listed a w := wpAnyH_take hi hs hf hr hQ hy hS h
theorem row_nm {W X : World} {b : Nat} {y : Obj} (h : W = X) (r : X.heap[b]? = some y) : W.heap[b]? = some y := h ▸ r
theorem rw1 {w : World} {b e : Nat} {cs : Array Value} (h : w.heap[b]? = some (.cells cs e (0, 0))) : w.cell? ⟨b, 0, none⟩ = cs[0]? ∧ w.frozen? ⟨b, 0, none⟩ = false := ⟨cell_row h 0, frozen_row h 0⟩
theorem rw2 {w : World} {b e : Nat} {cs : Array Value} (h : w.heap[b]? = some (.cells cs e (0, 0))) : w.cell? ⟨b, 0, none⟩ = cs[0]? ∧ w.frozen? ⟨b, 0, none⟩ = false ∧ w.cell? ⟨b, 1, none⟩ = cs[1]? ∧ w.frozen? ⟨b, 1, none⟩ = false := ⟨cell_row h 0, frozen_row h 0, cell_row h 1, frozen_row h 1⟩
theorem rw3 {w : World} {b e : Nat} {cs : Array Value} (h : w.heap[b]? = some (.cells cs e (0, 0))) : w.cell? ⟨b, 0, none⟩ = cs[0]? ∧ w.frozen? ⟨b, 0, none⟩ = false ∧ w.cell? ⟨b, 1, none⟩ = cs[1]? ∧ w.frozen? ⟨b, 1, none⟩ = false ∧ w.cell? ⟨b, 2, none⟩ = cs[2]? ∧ w.frozen? ⟨b, 2, none⟩ = false := ⟨cell_row h 0, frozen_row h 0, cell_row h 1, frozen_row h 1, cell_row h 2, frozen_row h 2⟩
theorem rw4 {w : World} {b e : Nat} {cs : Array Value} (h : w.heap[b]? = some (.cells cs e (0, 0))) : w.cell? ⟨b, 0, none⟩ = cs[0]? ∧ w.frozen? ⟨b, 0, none⟩ = false ∧ w.cell? ⟨b, 1, none⟩ = cs[1]? ∧ w.frozen? ⟨b, 1, none⟩ = false ∧ w.cell? ⟨b, 2, none⟩ = cs[2]? ∧ w.frozen? ⟨b, 2, none⟩ = false ∧ w.cell? ⟨b, 3, none⟩ = cs[3]? ∧ w.frozen? ⟨b, 3, none⟩ = false := ⟨cell_row h 0, frozen_row h 0, cell_row h 1, frozen_row h 1, cell_row h 2, frozen_row h 2, cell_row h 3, frozen_row h 3⟩
theorem rw5 {w : World} {b e : Nat} {cs : Array Value} (h : w.heap[b]? = some (.cells cs e (0, 0))) : w.cell? ⟨b, 0, none⟩ = cs[0]? ∧ w.frozen? ⟨b, 0, none⟩ = false ∧ w.cell? ⟨b, 1, none⟩ = cs[1]? ∧ w.frozen? ⟨b, 1, none⟩ = false ∧ w.cell? ⟨b, 2, none⟩ = cs[2]? ∧ w.frozen? ⟨b, 2, none⟩ = false ∧ w.cell? ⟨b, 3, none⟩ = cs[3]? ∧ w.frozen? ⟨b, 3, none⟩ = false ∧ w.cell? ⟨b, 4, none⟩ = cs[4]? ∧ w.frozen? ⟨b, 4, none⟩ = false := ⟨cell_row h 0, frozen_row h 0, cell_row h 1, frozen_row h 1, cell_row h 2, frozen_row h 2, cell_row h 3, frozen_row h 3, cell_row h 4, frozen_row h 4⟩
theorem rw6 {w : World} {b e : Nat} {cs : Array Value} (h : w.heap[b]? = some (.cells cs e (0, 0))) : w.cell? ⟨b, 0, none⟩ = cs[0]? ∧ w.frozen? ⟨b, 0, none⟩ = false ∧ w.cell? ⟨b, 1, none⟩ = cs[1]? ∧ w.frozen? ⟨b, 1, none⟩ = false ∧ w.cell? ⟨b, 2, none⟩ = cs[2]? ∧ w.frozen? ⟨b, 2, none⟩ = false ∧ w.cell? ⟨b, 3, none⟩ = cs[3]? ∧ w.frozen? ⟨b, 3, none⟩ = false ∧ w.cell? ⟨b, 4, none⟩ = cs[4]? ∧ w.frozen? ⟨b, 4, none⟩ = false ∧ w.cell? ⟨b, 5, none⟩ = cs[5]? ∧ w.frozen? ⟨b, 5, none⟩ = false := ⟨cell_row h 0, frozen_row h 0, cell_row h 1, frozen_row h 1, cell_row h 2, frozen_row h 2, cell_row h 3, frozen_row h 3, cell_row h 4, frozen_row h 4, cell_row h 5, frozen_row h 5⟩
theorem rw8 {w : World} {b e : Nat} {cs : Array Value} (h : w.heap[b]? = some (.cells cs e (0, 0))) : w.cell? ⟨b, 0, none⟩ = cs[0]? ∧ w.frozen? ⟨b, 0, none⟩ = false ∧ w.cell? ⟨b, 1, none⟩ = cs[1]? ∧ w.frozen? ⟨b, 1, none⟩ = false ∧ w.cell? ⟨b, 2, none⟩ = cs[2]? ∧ w.frozen? ⟨b, 2, none⟩ = false ∧ w.cell? ⟨b, 3, none⟩ = cs[3]? ∧ w.frozen? ⟨b, 3, none⟩ = false ∧ w.cell? ⟨b, 4, none⟩ = cs[4]? ∧ w.frozen? ⟨b, 4, none⟩ = false ∧ w.cell? ⟨b, 5, none⟩ = cs[5]? ∧ w.frozen? ⟨b, 5, none⟩ = false ∧ w.cell? ⟨b, 6, none⟩ = cs[6]? ∧ w.frozen? ⟨b, 6, none⟩ = false ∧ w.cell? ⟨b, 7, none⟩ = cs[7]? ∧ w.frozen? ⟨b, 7, none⟩ = false := ⟨cell_row h 0, frozen_row h 0, cell_row h 1, frozen_row h 1, cell_row h 2, frozen_row h 2, cell_row h 3, frozen_row h 3, cell_row h 4, frozen_row h 4, cell_row h 5, frozen_row h 5, cell_row h 6, frozen_row h 6, cell_row h 7, frozen_row h 7⟩
theorem cl2 {w : World} {b e : Nat} {cs : Array Value} {f : Nat × Nat} (h : w.heap[b]? = some (.cells cs e f)) : w.cell? ⟨b, 0, none⟩ = cs[0]? ∧ w.cell? ⟨b, 1, none⟩ = cs[1]? := ⟨cell_row h 0, cell_row h 1⟩
theorem cl3 {w : World} {b e : Nat} {cs : Array Value} {f : Nat × Nat} (h : w.heap[b]? = some (.cells cs e f)) : w.cell? ⟨b, 0, none⟩ = cs[0]? ∧ w.cell? ⟨b, 1, none⟩ = cs[1]? ∧ w.cell? ⟨b, 2, none⟩ = cs[2]? := ⟨cell_row h 0, cell_row h 1, cell_row h 2⟩
theorem cl4 {w : World} {b e : Nat} {cs : Array Value} {f : Nat × Nat} (h : w.heap[b]? = some (.cells cs e f)) : w.cell? ⟨b, 0, none⟩ = cs[0]? ∧ w.cell? ⟨b, 1, none⟩ = cs[1]? ∧ w.cell? ⟨b, 2, none⟩ = cs[2]? ∧ w.cell? ⟨b, 3, none⟩ = cs[3]? := ⟨cell_row h 0, cell_row h 1, cell_row h 2, cell_row h 3⟩
theorem cl5 {w : World} {b e : Nat} {cs : Array Value} {f : Nat × Nat} (h : w.heap[b]? = some (.cells cs e f)) : w.cell? ⟨b, 0, none⟩ = cs[0]? ∧ w.cell? ⟨b, 1, none⟩ = cs[1]? ∧ w.cell? ⟨b, 2, none⟩ = cs[2]? ∧ w.cell? ⟨b, 3, none⟩ = cs[3]? ∧ w.cell? ⟨b, 4, none⟩ = cs[4]? := ⟨cell_row h 0, cell_row h 1, cell_row h 2, cell_row h 3, cell_row h 4⟩
theorem cl7 {w : World} {b e : Nat} {cs : Array Value} {f : Nat × Nat} (h : w.heap[b]? = some (.cells cs e f)) : w.cell? ⟨b, 0, none⟩ = cs[0]? ∧ w.cell? ⟨b, 1, none⟩ = cs[1]? ∧ w.cell? ⟨b, 2, none⟩ = cs[2]? ∧ w.cell? ⟨b, 3, none⟩ = cs[3]? ∧ w.cell? ⟨b, 4, none⟩ = cs[4]? ∧ w.cell? ⟨b, 5, none⟩ = cs[5]? ∧ w.cell? ⟨b, 6, none⟩ = cs[6]? := ⟨cell_row h 0, cell_row h 1, cell_row h 2, cell_row h 3, cell_row h 4, cell_row h 5, cell_row h 6⟩
theorem cl8 {w : World} {b e : Nat} {cs : Array Value} {f : Nat × Nat} (h : w.heap[b]? = some (.cells cs e f)) : w.cell? ⟨b, 0, none⟩ = cs[0]? ∧ w.cell? ⟨b, 1, none⟩ = cs[1]? ∧ w.cell? ⟨b, 2, none⟩ = cs[2]? ∧ w.cell? ⟨b, 3, none⟩ = cs[3]? ∧ w.cell? ⟨b, 4, none⟩ = cs[4]? ∧ w.cell? ⟨b, 5, none⟩ = cs[5]? ∧ w.cell? ⟨b, 6, none⟩ = cs[6]? ∧ w.cell? ⟨b, 7, none⟩ = cs[7]? := ⟨cell_row h 0, cell_row h 1, cell_row h 2, cell_row h 3, cell_row h 4, cell_row h 5, cell_row h 6, cell_row h 7⟩
end Go.Proofs.Yteljibjbndpncaa
namespace Go.Proofs.Yteljibjbndpncaa
open Go.RowKit

/-- The boxes of a call. -/
def Box (w : World) (n : Nat) (b : Nat) : Prop := w.heap.size ≤ b ∧ b < w.heap.size + n
/-- What the call reads besides. -/
def In (Q : Nat → Prop) (w : World) (n : Nat) (b : Nat) : Prop := (Q b ∧ b < w.heap.size) ∨ w.heap.size + n ≤ b
theorem In.no {Q : Nat → Prop} {w : World} {n b : Nat} (h : In Q w n b) : ¬ Box w n b := by
  unfold In at h; unfold Box; omega
theorem alloc_at {w : World} {o : Obj} {b : Nat} (h : b = w.heap.size) : (w.alloc o).heap[b]? = some o := by rw [h]; exact heap_alloc_new _ _
theorem alloc_old {w : World} {o x : Obj} {b : Nat} (h : w.heap[b]? = some x) : (w.alloc o).heap[b]? = some x :=
  (heap_alloc_old _ _ (Array.getElem?_eq_some_iff.1 h).1).trans h
theorem row_call {W W' : World} {b : Nat} {x : Obj} (h : Below W.heap.size W W') (r : W.heap[b]? = some x) : W'.heap[b]? = some x :=
  (h.block b (Array.getElem?_eq_some_iff.1 r).1).trans r
theorem row_other {W : World} {b c i : Nat} {v : Value} {x : Obj} (r : W.heap[b]? = some x) (h : b ≠ c) : (W.setCell ⟨c, i, none⟩ v).heap[b]? = some x := (Below.heap_setCell _ _ _ _ h).trans r
theorem row_only {F : Nat → Prop} {W W' : World} {b : Nat} {x : Obj} (h : Only F W W') (r : W.heap[b]? = some x) (hn : ¬ F b) : W'.heap[b]? = some x :=
  (h.block b (Array.getElem?_eq_some_iff.1 r).1 hn).trans r
theorem Only.alloc {F : Nat → Prop} {W W' : World} (h : Only F W W') (o : Obj) : Only F W (W'.alloc o) := h.trans (Only.of_below (below_alloc' _ o))
where
  below_alloc' (w : World) (o : Obj) : Below w.heap.size w (w.alloc o) := (Below.refl _ _).alloc (Nat.le_refl _) _
theorem Only.put {F : Nat → Prop} {W W' : World} {b i : Nat} {v : Value} (h : Only F W W') (hb : F b) : Only F W (W'.setCell ⟨b, i, none⟩ v) := h.trans (Only.set hb)
theorem Only.drw {F : Nat → Prop} {W W' : World} (h : Only F W W') : Only F W W'.drew := ⟨h.os, h.tape, h.output, h.size, h.block⟩
theorem Only.late {F : Nat → Prop} {W W' : World} {b i : Nat} {v : Value} (h : Only F W W') (hb : W.heap.size ≤ b) : Only F W (W'.setCell ⟨b, i, none⟩ v) :=
  ⟨h.os, h.tape, h.output, by simpa using h.size, fun c hc hf => (Below.heap_setCell _ _ _ _ (fun e => by have e2 : c = b := e; omega)).trans (h.block c hc hf)⟩
theorem Only.fin {w W0 W : World} {n : Nat} (hb : Below w.heap.size w W0) (h : Only (Box w n) W0 W) : Below w.heap.size w W :=
  hb.trans (h.below hb.size fun _ hf => hf.1)
section
variable {α : Type} {r : Rep α} {Q : Nat → Prop} {w W W' : World} {n : Nat}
theorem val_in {v : Value} {x : α} (h : r.val Q w v x) (hb : Below w.heap.size w W) : r.val (In Q w n) W v x :=
  Rep.val_keep (fun b hq hl => ⟨.inl ⟨hq, hl.lt⟩, hb.block b hl.lt⟩) h
theorem val_only {v : Value} {x : α} (h : r.val (In Q w n) W v x) (ho : Only (Box w n) W W') : r.val (In Q w n) W' v x :=
  Rep.val_keep (fun b hq hl => ⟨hq, ho.block b hl.lt hq.no⟩) h
theorem val_new {v : Value} {x : α} (h : r.val (fun b => In Q w n b ∨ W.heap.size ≤ b) W' v x) (hs : w.heap.size + n ≤ W.heap.size) : r.val (In Q w n) W' v x :=
  Rep.val_mono (fun _ hq _ => hq.elim id fun h => .inr (Nat.le_trans hs h)) h
theorem val_out {v : Value} {x : α} (h : r.val (In Q w n) W v x) : r.val (fun b => Q b ∨ w.heap.size ≤ b) W v x :=
  Rep.val_mono (fun b hq _ => hq.elim (fun h => .inl h.1) fun h => .inr (by omega)) h
theorem at_in {A : Option Addr} {xs : List α} (h : r.At Q w A xs) (hb : Below w.heap.size w W) : r.At (In Q w n) W A xs :=
  Rep.At.keep (fun b hq hl => ⟨.inl ⟨hq, hl.lt⟩, hb.block b hl.lt⟩) h
theorem at_only {A : Option Addr} {xs : List α} (h : r.At (In Q w n) W A xs) (ho : Only (Box w n) W W') : r.At (In Q w n) W' A xs :=
  Rep.At.keep (fun b hq hl => ⟨hq, ho.block b hl.lt hq.no⟩) h
end
theorem cell_bound {W : World} {b o : Nat} {v : Value} (h : W.cell? ⟨b, o, none⟩ = some v) : b < W.heap.size := by
  unfold World.cell? at h
  by_cases hb : b < W.heap.size
  · exact hb
  · rw [Array.getElem?_eq_none (show W.heap.size ≤ b by omega)] at h
    simp at h
theorem cell_call {W W' : World} {b o : Nat} {v : Value} (h : Below W.heap.size W W') (r : W.cell? ⟨b, o, none⟩ = some v) : W'.cell? ⟨b, o, none⟩ = some v :=
  (World.cell?_of_block (h.block b (cell_bound r))).trans r
theorem cell_only {F : Nat → Prop} {W W' : World} {b o : Nat} {v : Value} (h : Only F W W') (hn : ¬ F b) (r : W.cell? ⟨b, o, none⟩ = some v) : W'.cell? ⟨b, o, none⟩ = some v :=
  (World.cell?_of_block (h.block b (cell_bound r) hn)).trans r
theorem int_at {Q : Nat → Prop} {W : World} {A : Option Addr} {xs : List Int} (h : (Rep.int .i64).At Q W A xs) {i : Nat} {x : Int} (hx : xs[i]? = some x) :
    ∃ b off, A = some ⟨b, off, none⟩ ∧ Q b ∧ W.cell? ⟨b, off + i, none⟩ = some (.int .i64 x) ∧ (Lit.int .i64 x).wf = true := by
  obtain ⟨b, off, es, h1, h2, _, h3, h4⟩ := h.get hx
  obtain ⟨he, hw⟩ := h3
  subst he
  exact ⟨b, off, h1, h2, by simpa [Rep.int] using h4 0 _ rfl, hw⟩
theorem stopApp {P : Program} {ops : Array Oper} {rest : List Oper} {o : Oper} {a : Act} {w : World} {R : Exit → Act → World → Prop} {x s : Operand} {t : TypeId} (_ : o.op = .call { callee := .builtin .append, args := #[s, x], argTypes := #[t, t] }) (h : Hid (wpList P ops R (o :: rest) a w)) : wpList P ops R (o :: rest) a w := h.out
theorem stopOne {P : Program} {ops : Array Oper} {rest : List Oper} {o : Oper} {a : Act} {w : World} {R : Exit → Act → World → Prop} {x : Operand} {t : TypeId} (_ : o.op = .buildSlice t 1 #[(0, x)]) (h : Hid (wpList P ops R (o :: rest) a w)) : wpList P ops R (o :: rest) a w := h.out
theorem sl_take {α : Type} {r : Rep α} {Q : Nat → Prop} {w : World} {A : Option Addr} {c : Nat} {xs : List α} (h : r.Sl Q w A c xs) (n : Nat) : r.Sl Q w A c (xs.take n) :=
  ⟨Nat.le_trans (by rw [List.length_take]; omega) h.1, h.2.1, h.2.2.take n⟩
theorem below_put {B k : Nat} {w W : World} (h : Below B w W) (hk : B ≤ k) {i : Nat} {v : Value} : Below B w (W.setCell ⟨k, i, none⟩ v) :=
  ⟨h.os, h.tape, h.output, by simpa using h.size, fun c hc => (Below.heap_setCell _ _ _ _ (fun e => by have e2 : c = k := e; omega)).trans (h.block c hc)⟩
theorem Only.wid {F G : Nat → Prop} {X Y : World} (h : Only F X Y) (hf : ∀ b, F b → G b) : Only G X Y := ⟨h.os, h.tape, h.output, h.size, fun b hl hg => h.block b hl fun e => hg (hf b e)⟩
theorem sl_of {α : Type} {r : Rep α} {Q : Nat → Prop} {w : World} {A : Option Addr} {n c : Nat} {xs : List α} (h : r.list.val Q w (.slice A n c) xs) : r.Sl Q w A c xs := by
  obtain ⟨A2, c2, he, h1, h2, h3⟩ := Rep.val_list h
  cases he
  exact ⟨h1, h2, h3⟩
theorem sl_out {α : Type} {r : Rep α} {Q : Nat → Prop} {w W : World} {A : Option Addr} {c : Nat} {xs : List α} (h : r.Sl Q w A c xs) (hb : Below w.heap.size w W) : r.Sl (fun b => Q b ∨ w.heap.size ≤ b) W A c xs :=
  h.keep fun b hq hl => ⟨.inl hq, hb.block b hl.lt⟩
/-- An element of a slice of the call's own: its cells. -/
theorem acc_get {α : Type} {r : Rep α} {e base : Nat} {Q : Nat → Prop} {w : World} {v : Value} {xs : List α} (h : r.acc e base Q w v xs) {i : Nat} {x : α} (hx : xs[i]? = some x) :
    ∃ g cap es, v = .slice (some ⟨g, 0, none⟩) xs.length cap ∧ base ≤ g ∧ g < w.heap.size ∧ xs.length ≤ cap ∧ cap ≤ maxLen ∧ r.rd (fun b => Q b ∧ v.ownBlock ≠ some b) w es x ∧
      (∀ j u, es[j]? = some u → w.cell? ⟨g, i * r.size + j, none⟩ = some u) ∧ ∀ j, w.frozen? ⟨g, j, none⟩ = false := by
  obtain ⟨cells, h1, h2⟩ := h
  have hi := (List.getElem?_eq_some_iff.1 hx).1
  rcases h1.2 with ⟨_, h0⟩ | ⟨g, cap, cur, rfl, hb, hg, h3, h4, h5, h6⟩
  · omega
  · obtain ⟨es, hrd, hcell⟩ := Rep.row_get h2 hx
    refine ⟨g, cap, es, rfl, hb, (Array.getElem?_eq_some_iff.1 hg).1, h3, h4, hrd, fun j u hj => ?_, fun j => by simp [World.frozen?, hg]⟩
    have h7 := hcell j u hj
    have := h1.cells (g := g) rfl _ u h7
    rwa [Addr.add_lit, Nat.zero_add] at this
/-- A cell of an element of a slice of the call's own is written. -/
theorem acc_cell {α : Type} {r : Rep α} {e base : Nat} {Q : Nat → Prop} {w : World} {v : Value} {xs : List α} (h : r.acc e base Q w v xs) {i o g : Nat} {x x' : α} {u : Value} (hv : v.ownBlock = some g) (hx : xs[i]? = some x) (ho : o < r.size)
    (hrd : ∀ es, r.rd (fun b => Q b ∧ v.ownBlock ≠ some b) w es x → r.rd (fun b => Q b ∧ v.ownBlock ≠ some b) w (es.set o u) x') :
    r.acc e base Q (w.setCell ⟨g, i * r.size + o, none⟩ u) v (xs.set i x') := by
  obtain ⟨cells, h1, h2⟩ := h
  have hi := (List.getElem?_eq_some_iff.1 hx).1
  have hsp : xs = xs.take i ++ (x :: xs.drop (i + 1)) := by
    have := (List.getElem?_eq_some_iff.1 hx).2
    rw [← this, List.getElem_cons_drop, List.take_append_drop]
  have hset : xs.set i x' = xs.take i ++ (x' :: xs.drop (i + 1)) := by
    rw [List.set_eq_take_append_cons_drop, if_pos hi]
  rcases h1.2 with ⟨_, h0⟩ | ⟨g2, cap, cur, rfl, hb, hg, h3, h4, h5, h6⟩
  · omega
  · obtain rfl : g2 = g := Option.some.inj hv
    rw [hsp] at h2
    obtain ⟨l1, bs, rfl, ha, es, rest, rfl, he, hr⟩ := Rep.row_split h2
    have hla : l1.length = i * r.size := by rw [Rep.row_len ha, List.length_take, Nat.min_eq_left (Nat.le_of_lt hi)]
    have hle : es.length = r.size := r.len he
    have hcs : (l1 ++ (es ++ rest)).set (i * r.size + o) u = l1 ++ (es.set o u ++ rest) := by
      rw [← hla, List.set_append_right _ _ (by omega), Nat.add_sub_cancel_left, List.set_append_left _ _ (by omega)]
    have hk : ∀ b, (Q b ∧ (Value.slice (some ⟨g2, 0, none⟩) xs.length cap).ownBlock ≠ some b) → IsC w b → (Q b ∧ (Value.slice (some ⟨g2, 0, none⟩) xs.length cap).ownBlock ≠ some b) ∧ (w.setCell ⟨g2, i * r.size + o, none⟩ u).heap[b]? = w.heap[b]? :=
      fun b hq _ => ⟨hq, Below.heap_setCell _ _ _ _ (fun e2 => hq.2 (by have e3 : b = g2 := e2; rw [e3]; rfl))⟩
    refine ⟨l1 ++ (es.set o u ++ rest), ⟨?_, .inr ⟨g2, cap, cur.setIfInBounds (i * r.size + o) u, by rw [List.length_set], hb, heap_setRow hg, by rw [List.length_set]; exact h3, h4, by simp [h5], ?_⟩⟩, ?_⟩
    · rw [List.length_set, ← hcs, List.length_set]; exact h1.1
    · rw [List.length_set, Array.toList_setIfInBounds, List.take_set, h6, hcs]
    · rw [hset]
      exact Rep.row_append (Rep.row_keep hk ha) ⟨_, _, rfl, r.keep hk (hrd es he), Rep.row_keep hk hr⟩
theorem exec_empty {P : Program} {o : Oper} {a : Act} {w : World} {t e : TypeId} {z : Value} {size : Nat} (ho : o.op = .buildSlice t 0 #[]) (ht : P.underlying t = some (.slice e)) (hi : (P.info? e).map (fun i => (i.zero, i.size)) = some (some z, size)) :
    (execOp a.eval o).run P w = .ok (.value (.slice (some ⟨w.heap.size, 0, none⟩) 0 0)) (w.alloc (.cells #[] e)) := by
  obtain ⟨i, hi, hh⟩ := Option.map_eq_some_iff.1 hi
  simp only [Prod.mk.injEq] at hh
  obtain ⟨hz, hs'⟩ := hh
  simp only [execOp, ho, List.map_toArray, List.map_nil]
  unfold Instr.buildSlice
  simp [run_underlying ht, sizeOf, typeInfo, hi, newRow, Instr.fill]
  rw [show Array.range 0 = #[] from by simp [Array.range], Array.map_empty]
theorem one_int {w : World} {b e : Nat} {f : Nat × Nat} {n : Int} (h : w.heap[b]? = some (.cells #[.int .i64 n] e f)) (hw : (Lit.int .i64 n).wf = true) : (Rep.int .i64).list.val (fun _ => True) w (.slice (some ⟨b, 0, none⟩) 1 1) [n] :=
  Rep.list_val rfl (Nat.le_refl _) (by simp [maxLen]) ⟨[.int .i64 n], ⟨_, [], rfl, ⟨rfl, hw⟩, rfl⟩, fun _ => ⟨b, 0, rfl, trivial, ⟨_, _, _, h⟩, fun j u hj => by
    have : w.cell? ⟨b, 0 + j, none⟩ = (#[Value.int .i64 n])[0 + j]? := by simp [World.cell?, h]
    rw [this, Nat.zero_add, ← hj]; simp⟩⟩
theorem wpAnyT_all {P : Program} {ops : Array Oper} {Q : Exit → Act → World → Prop} {md : Region.Mode} {S : World → Prop} {T rs : List Nat} {fuel : Nat} {listed : Array Bool} {a : Act} {w : World} (hr : Region.ready md ops listed = rs) (hne : rs ≠ [])
    (h : ∀ i ∈ rs, wpOp P ops Q i (fun a' w' => (i ∉ T → S w') ∧ wpAnyT P md ops Q S T fuel (listed.setIfInBounds i true) a' w') a w) : wpAnyT P md ops Q S T (fuel + 1) listed a w :=
  ⟨fun h0 => absurd (hr.symm.trans h0) hne, fun j hj => h j (hr ▸ hj)⟩
theorem nm_anyT {P : Program} {md : Region.Mode} {ops : Array Oper} {Q : Exit → Act → World → Prop} {S : World → Prop} {T : List Nat} {fuel : Nat} {listed : Array Bool} {a : Act} {w : World} (h : ∀ W, W = w → wpAnyT P md ops Q S T fuel listed a W) : wpAnyT P md ops Q S T fuel listed a w := h w rfl
theorem nm_calls {P : Program} {f : FuncId} {args : Array Value} {w : World} {R : Ending → World → Prop} (h : ∀ W, W = w → Calls P f args W R) : Calls P f args w R := h w rfl
theorem nm_region {P : Program} {id : Nat} {ops : Array Oper} {Q : Exit → Act → World → Prop} {a : Act} {w : World} (h : ∀ W, W = w → (Code.region id ops true).wp P Q a W) : (Code.region id ops true).wp P Q a w := h w rfl
theorem nm_list {P : Program} {ops : Array Oper} {Q : Exit → Act → World → Prop} {l : List Oper} {a : Act} {w : World} (h : ∀ W, W = w → wpList P ops Q l a W) : wpList P ops Q l a w := h w rfl
theorem nm_any {P : Program} {md : Region.Mode} {ops : Array Oper} {Q : Exit → Act → World → Prop} {S : World → Prop} {fuel : Nat} {listed : Array Bool} {a : Act} {w : World} (h : ∀ W, W = w → wpAnyH P md ops Q S fuel listed a W) : wpAnyH P md ops Q S fuel listed a w := h w rfl
theorem nm_post {P : Program} {fn : Func} {R : Ending → World → Prop} {x : Exit} {a : Act} {w : World} (h : ∀ W, W = w → bodyPost P fn R x a W) : bodyPost P fn R x a w := h w rfl
end Go.Proofs.Yteljibjbndpncaa
namespace Go.Proofs.Yteljibjbndpncaa
open Go.RowKit

@[ext] structure DResult where
  err : Int
  id : DID
  deriving DecidableEq

def rResult : Rep DResult := ((Rep.int .i64).pair rID).iso fun x => (x.err, x.id)
theorem rResult_size : rResult.size = 3 := rfl
theorem rResult_open {Q : Nat → Prop} {w : World} {cs : List Value} {x : DResult} (h : rResult.rd Q w cs x) : cs = [.int .i64 x.err, .int .i64 x.id.index, .int .i64 x.id.gen] ∧ (Lit.int .i64 x.err).wf = true ∧ (Lit.int .i64 x.id.index).wf = true ∧ (Lit.int .i64 x.id.gen).wf = true := by
  obtain ⟨a0, b0, rfl, h0, g0⟩ := h
  obtain ⟨e0, w0⟩ := h0
  subst e0
  obtain ⟨e1, w1_0, w1_1⟩ := rID_open g0
  subst e1
  exact ⟨rfl, w0, w1_0, w1_1⟩
theorem rResult_mk {Q : Nat → Prop} {w : World} {x : DResult}  (f0 : (Lit.int .i64 x.err).wf = true) (f1 : (Lit.int .i64 x.id.index).wf = true) (f2 : (Lit.int .i64 x.id.gen).wf = true) : rResult.rd Q w [.int .i64 x.err, .int .i64 x.id.index, .int .i64 x.id.gen] x := by
  exact ⟨_, _, rfl, ⟨rfl, f0⟩, rID_mk f1 f2⟩
theorem rResult_at {Q : Nat → Prop} {w : World} {A : Option Addr} {xs : List DResult} (h : rResult.At Q w A xs) {i : Nat} {x : DResult} (hx : xs[i]? = some x) :
    ∃ (b off : Nat), A = some ⟨b, off, none⟩ ∧ IsC w b ∧ w.cell? ⟨b, off + i * 3, none⟩ = some (.int .i64 x.err) ∧ w.cell? ⟨b, off + i * 3 + 1, none⟩ = some (.int .i64 x.id.index) ∧ w.cell? ⟨b, off + i * 3 + 2, none⟩ = some (.int .i64 x.id.gen) ∧ (Lit.int .i64 x.err).wf = true ∧ (Lit.int .i64 x.id.index).wf = true ∧ (Lit.int .i64 x.id.gen).wf = true := by
  obtain ⟨b, off, es, h1, _, h2, h3, h4⟩ := h.get hx
  obtain ⟨e, f0, f1, f2⟩ := rResult_open h3
  subst e
  rw [rResult_size] at h4
  exact ⟨b, off, h1, h2, h4 0 _ rfl, h4 1 _ rfl, h4 2 _ rfl, f0, f1, f2⟩
theorem rResult_agg {Q : Nat → Prop} {w : World} {x : DResult}  (f0 : (Lit.int .i64 x.err).wf = true) (f1 : (Lit.int .i64 x.id.index).wf = true) (f2 : (Lit.int .i64 x.id.gen).wf = true) : rResult.val Q w (.agg #[.int .i64 x.err, .int .i64 x.id.index, .int .i64 x.id.gen]) x := ⟨_, rfl, rResult_mk f0 f1 f2⟩

@[ext] structure DIds where
  entities : Int
  limit : Int
  gens : List Int
  free : List Int
  deriving DecidableEq

def rIds : Rep DIds := ((Rep.int .i64).pair ((Rep.int .i64).pair ((Rep.int .i64).list.pair (Rep.int .i64).list))).iso fun x => (x.entities, x.limit, x.gens, x.free)
theorem rIds_open {Q : Nat → Prop} {w : World} {cs : List Value} {x : DIds} (h : rIds.rd Q w cs x) : ∃ (A_gens : Option Addr) (c_gens : Nat) (A_free : Option Addr) (c_free : Nat), cs = [.int .i64 x.entities, .int .i64 x.limit, .slice A_gens x.gens.length c_gens, .slice A_free x.free.length c_free] ∧ (Lit.int .i64 x.entities).wf = true ∧ (Lit.int .i64 x.limit).wf = true ∧ (Rep.int .i64).Sl Q w A_gens c_gens x.gens ∧ (Rep.int .i64).Sl Q w A_free c_free x.free := by
  obtain ⟨a0, b0, rfl, h0, g0⟩ := h
  obtain ⟨e0, w0⟩ := h0
  subst e0
  obtain ⟨a1, b1, rfl, h1, g1⟩ := g0
  obtain ⟨e1, w1⟩ := h1
  subst e1
  obtain ⟨a2, b2, rfl, h2, g2⟩ := g1
  obtain ⟨A2, c2, e2, w2⟩ := Rep.rd_sl h2
  subst e2
  obtain ⟨A3, c3, e3, w3⟩ := Rep.rd_sl g2
  subst e3
  exact ⟨A2, c2, A3, c3, rfl, w0, w1, w2, w3⟩
theorem rIds_mk {Q : Nat → Prop} {w : World} {x : DIds} {A_gens : Option Addr} {c_gens : Nat} {A_free : Option Addr} {c_free : Nat} (f0 : (Lit.int .i64 x.entities).wf = true) (f1 : (Lit.int .i64 x.limit).wf = true) (f2 : (Rep.int .i64).Sl Q w A_gens c_gens x.gens) (f3 : (Rep.int .i64).Sl Q w A_free c_free x.free) : rIds.rd Q w [.int .i64 x.entities, .int .i64 x.limit, .slice A_gens x.gens.length c_gens, .slice A_free x.free.length c_free] x := by
  exact ⟨_, _, rfl, ⟨rfl, f0⟩, ⟨_, _, rfl, ⟨rfl, f1⟩, ⟨_, _, rfl, Rep.sl_rd f2, Rep.sl_rd f3⟩⟩⟩
theorem rIds_val {Q : Nat → Prop} {w : World} {v : Value} {x : DIds} (h : rIds.val Q w v x) : ∃ (A_gens : Option Addr) (c_gens : Nat) (A_free : Option Addr) (c_free : Nat), v = .agg #[.int .i64 x.entities, .int .i64 x.limit, .slice A_gens x.gens.length c_gens, .slice A_free x.free.length c_free] ∧ (Lit.int .i64 x.entities).wf = true ∧ (Lit.int .i64 x.limit).wf = true ∧ (Rep.int .i64).Sl Q w A_gens c_gens x.gens ∧ (Rep.int .i64).Sl Q w A_free c_free x.free := by
  obtain ⟨cs, rfl, h⟩ := h
  obtain ⟨A_gens, c_gens, A_free, c_free, e, f0, f1, f2, f3⟩ := rIds_open h
  subst e
  exact ⟨A_gens, c_gens, A_free, c_free, rfl, f0, f1, f2, f3⟩
theorem rIds_agg {Q : Nat → Prop} {w : World} {x : DIds} {A_gens : Option Addr} {c_gens : Nat} {A_free : Option Addr} {c_free : Nat} (f0 : (Lit.int .i64 x.entities).wf = true) (f1 : (Lit.int .i64 x.limit).wf = true) (f2 : (Rep.int .i64).Sl Q w A_gens c_gens x.gens) (f3 : (Rep.int .i64).Sl Q w A_free c_free x.free) : rIds.val Q w (.agg #[.int .i64 x.entities, .int .i64 x.limit, .slice A_gens x.gens.length c_gens, .slice A_free x.free.length c_free]) x := ⟨_, rfl, rIds_mk f0 f1 f2 f3⟩

end Go.Proofs.Yteljibjbndpncaa
