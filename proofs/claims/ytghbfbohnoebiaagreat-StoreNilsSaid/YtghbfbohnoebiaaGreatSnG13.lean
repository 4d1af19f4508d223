/- Texts on which the proofs stand: Round, HeldTail. No condition is laid on any input. -/
import Derived.Test.YtghbfbohnoebiaaGreatSnG10
import Derived.Deep.RegionHeld3
namespace Go.Proofs.YtghbfbohnoebiaaGreat
open Go.RowKit

section
variable {n l : Nat} {P : Program} {ops : Array Oper} {Q : Exit → Act → World → Prop} {S : World → Prop}

/-- A region that draws its order, in a round, by a state that is held. -/
theorem region_round_held {id : Nat} {a : Act} {w : World} (hm : P.follows .mixedOrders = true) (hd : noDefer ops = true) (hout : ¬ LetsOut Q) (hS : S w.drew)
    (h : S w.drew → wpAnyH P .any ops Q S ops.size (Array.replicate ops.size false) a w.drew) : (Code.region id ops true).wpIn (Fence.wide.inRound l) n P Q a w :=
  region_round hm (noDefer_spec hd) hout (wpAny_of_held _ _ _ _ (h hS))

theorem list_round (hd : ∀ (i : Nat) (o : Oper), ops[i]? = some o → ∀ c, o.op ≠ .defer c) (hout : ¬ LetsOut Q) : ∀ (rest : List Oper) (_ : ∀ o ∈ rest, o ∈ ops.toList) (a : Act) (w : World), wpList P ops Q rest a w → wpListIn (Fence.wide.inRound l) n P ops Q rest a w
  | [], _, _, _, h => h
  | o :: rest, hr, a, w, h => by
    have hdo : ∀ c, o.op ≠ .defer c := by
      obtain ⟨i, hi, he⟩ := List.getElem_of_mem (hr o (by simp))
      exact hd i o (by rw [← Array.getElem?_toList, List.getElem?_eq_getElem hi, he])
    have ih := list_round hd hout rest (fun o ho => hr o (by simp [ho]))
    unfold wpList at h
    unfold wpListIn
    split
    · rename_i hw
      rw [if_pos hw] at h
      rcases h with h | ⟨_, h⟩
      · exact oper_round hdo (Oper.wp_mono (fun a w h => ih a w h) h)
      · exact absurd h hout
    · rename_i hw
      rw [if_neg hw] at h
      exact ⟨fun _ _ => trivial, ih _ _ h⟩

/-- A region in the order of the text, in a round. -/
theorem region_round_list {id : Nat} {a : Act} {w : World} (hd : noDefer ops = true) (hout : ¬ LetsOut Q) (h : wpList P ops Q ops.toList a w) : (Code.region id ops false).wpIn (Fence.wide.inRound l) n P Q a w :=
  wpIn_region_list (list_round (noDefer_spec hd) hout _ (fun _ h => h) _ _ h)
theorem region_round_lit {id : Nat} {ops : List Oper} {a : Act} {w : World} (hd : noDefer ops.toArray = true) (hout : ¬ LetsOut Q) (h : wpList P ops.toArray Q ops a w) : (Code.region id ops.toArray false).wpIn (Fence.wide.inRound l) n P Q a w :=
  region_round_list hd hout (by simpa using h)
end
end Go.Proofs.YtghbfbohnoebiaaGreat
namespace Go.Proofs.YtghbfbohnoebiaaGreat
open Go.RowKit

/-- What waits for number i, by one or more steps (and i itself). -/
def behind (md : Region.Mode) (ops : Array Oper) (i : Nat) : List Nat :=
  (List.range ops.size).foldl (fun acc j => if (ops[j]?).any (fun o => o.after.any fun e => Region.binds md e && acc.contains e.on) then j :: acc else acc) [i]
def tailed (md : Region.Mode) (ops : Array Oper) (listed : Array Bool) (T : List Nat) (i : Nat) : Bool :=
  ((behind md ops i).all fun d => !listed.getD d false) && T.all fun j => j == i || listed.getD j false || (behind md ops i).contains j

section
variable {P : Program} {ops : Array Oper} {Q : Exit → Act → World → Prop} {md : Region.Mode} {S : World → Prop} {T : List Nat}

theorem behind_spec (md : Region.Mode) (ops : Array Oper) (i : Nat) : ∀ d ∈ behind md ops i, d = i ∨ ∃ o, ops[d]? = some o ∧ ∃ e ∈ o.after, Region.binds md e = true ∧ e.on ∈ behind md ops i := by
  have key : ∀ (l : List Nat) (acc : List Nat), (∀ d ∈ acc, d = i ∨ ∃ o, ops[d]? = some o ∧ ∃ e ∈ o.after, Region.binds md e = true ∧ e.on ∈ acc) →
      ∀ d ∈ l.foldl (fun acc j => if (ops[j]?).any (fun o => o.after.any fun e => Region.binds md e && acc.contains e.on) then j :: acc else acc) acc,
        d = i ∨ ∃ o, ops[d]? = some o ∧ ∃ e ∈ o.after, Region.binds md e = true ∧ e.on ∈ l.foldl (fun acc j => if (ops[j]?).any (fun o => o.after.any fun e => Region.binds md e && acc.contains e.on) then j :: acc else acc) acc := by
    intro l
    induction l with
    | nil => intro acc h; exact h
    | cons j l ih =>
      intro acc h
      simp only [List.foldl_cons]
      refine ih _ ?_
      split
      · rename_i hc
        intro d hd
        rcases List.mem_cons.1 hd with rfl | hd
        · right
          cases ho : ops[d]? with
          | none => rw [ho] at hc; cases hc
          | some o =>
            rw [ho] at hc
            simp only [Option.any_some, Array.any_eq_true'] at hc
            obtain ⟨e, he, hb⟩ := hc
            simp only [Bool.and_eq_true, List.contains_iff_mem] at hb
            exact ⟨o, rfl, e, he, hb.1, by simp [hb.2]⟩
        · rcases h d hd with rfl | ⟨o, ho, e, he, hb, hm⟩
          · exact .inl rfl
          · exact .inr ⟨o, ho, e, he, hb, by simp [hm]⟩
      · exact h
  exact key _ _ (by simp)

/-- While all that waits for i is not listed, none of it comes up. -/
theorem not_ready {listed : Array Bool} {i j : Nat} (hb : ∀ d ∈ behind md ops i, listed.getD d false = false) (hj : j ∈ Region.ready md ops listed) (hji : j ≠ i) : j ∉ behind md ops i := fun hm => by
  obtain ⟨_, o, ho, hall⟩ := mem_ready.1 hj
  rcases behind_spec md ops i j hm with h | ⟨o', ho', e, he, hbd, hme⟩
  · exact hji h
  · rw [ho] at ho'
    cases ho'
    have h1 := hall e he hbd
    rw [hb _ hme] at h1
    cases h1

def wpAnyT (P : Program) (md : Region.Mode) (ops : Array Oper) (Q : Exit → Act → World → Prop) (S : World → Prop) (T : List Nat) : Nat → Array Bool → Act → World → Prop
  | 0, listed, a, w => Region.ready md ops listed = [] ∧ Q .normal a w
  | fuel + 1, listed, a, w =>
    (Region.ready md ops listed = [] → Q .normal a w) ∧
    ∀ i ∈ Region.ready md ops listed, wpOp P ops Q i (fun a' w' => (i ∉ T → S w') ∧ wpAnyT P md ops Q S T fuel (listed.setIfInBounds i true) a' w') a w

theorem wpAny_of_tail : ∀ (fuel : Nat) (listed : Array Bool) (a : Act) (w : World), wpAnyT P md ops Q S T fuel listed a w → wpAny P md ops Q fuel listed a w
  | 0, _, _, _, h => h
  | fuel + 1, _, _, _, h => ⟨h.1, fun i hi => wpOp_mono (fun a' w' h' => wpAny_of_tail fuel _ a' w' h'.2) (h.2 i hi)⟩

theorem wpAnyT_first {i : Nat} {oi : Oper} {v : Value} (hi : ops[i]? = some oi) (hsel : ∀ (j : Nat) (o : Oper) cs b, ops[j]? = some o → o.op ≠ .select cs b)
    (hQ : ∀ c a w, Q (.panic c) (a.put oi.dst v) w → Q (.panic c) a w) :
    ∀ (fuel : Nat) (listed : Array Bool) (a : Act) (w : World),
      (∀ j oj, ops[j]? = some oj → j ≠ i → listed.getD j true = false → (∀ e ∈ oj.after, Region.binds md e = true → e.on ≠ i) → oi.apart ops oj = true) →
      (∀ d ∈ behind md ops i, listed.getD d false = false) → (∀ j ∈ T, j = i ∨ listed.getD j false = true ∨ j ∈ behind md ops i) →
      i ∈ Region.ready md ops listed → YieldsIf P ops S oi v a → S w →
      wpAnyT P md ops Q S T fuel (listed.setIfInBounds i true) (a.put oi.dst v) w → wpAnyT P md ops Q S T (fuel + 1) listed a w := by
  intro fuel
  induction fuel with
  | zero =>
    intro listed a w _ _ _ hr hy hS H
    refine ⟨fun h => (by rw [h] at hr; cases hr), fun j hj => ?_⟩
    by_cases hji : j = i
    · subst hji; exact hy.wpOp hi hS ⟨fun _ => hS, H⟩
    · have := ready_mono hj hji
      rw [H.1] at this
      cases this
  | succ fuel ih =>
    intro listed a w hfree hbh hT hr hy hS H
    refine ⟨fun h => (by rw [h] at hr; cases hr), fun j hj => ?_⟩
    by_cases hji : j = i
    · subst hji; exact hy.wpOp hi hS ⟨fun _ => hS, H⟩
    · have hjb := not_ready hbh hj hji
      have h1 := H.2 j (ready_mono hj hji)
      obtain ⟨hjun, oj, hoj, hall⟩ := mem_ready.1 hj
      have hjT : j ∉ T := fun hm => by
        rcases hT j hm with h | h | h
        · exact hji h
        · rcases Nat.lt_or_ge j listed.size with h' | h'
          · simp [h'] at h hjun; rw [hjun] at h; cases h
          · simp [Array.getElem?_eq_none h'] at h
        · exact hjb h
      have hnot : ∀ e ∈ oj.after, Region.binds md e = true → e.on ≠ i := fun e he hb heq => by
        have h1 := hall e he hb
        have h0 := (mem_ready.1 hr).1
        rw [heq] at h1
        rcases Nat.lt_or_ge i listed.size with h' | h'
        · simp [h'] at h0 h1; rw [h0] at h1; cases h1
        · simp [Array.getElem?_eq_none h'] at h1
      have h2 := wpOp_putIf hoj (hfree j oj hoj hji hjun hnot) (fun cs b => hsel i oi cs b hi) (fun cs b => hsel j oj cs b hoj) hQ hy h1
      have hfree' : ∀ k ok, ops[k]? = some ok → k ≠ i → (listed.setIfInBounds j true).getD k true = false →
          (∀ e ∈ ok.after, Region.binds md e = true → e.on ≠ i) → oi.apart ops ok = true := fun k ok hk hki hun hno => by
        refine hfree k ok hk hki ?_ hno
        by_cases hjk : j = k
        · subst hjk; exact hjun
        · rw [getD_set_ne true hjk] at hun; exact hun
      have hbh' : ∀ d ∈ behind md ops i, (listed.setIfInBounds j true).getD d false = false := fun d hd => by
        rw [getD_set_ne (i := j) (j := d) false (fun e => hjb (by rw [e]; exact hd))]; exact hbh d hd
      refine wpOp_mono (fun a' w' h3 => ⟨h3.2.1, ih (listed.setIfInBounds j true) a' w' hfree' hbh' (fun k hk => (hT k hk).imp id (Or.imp getD_set_true id)) (ready_mono hr (Ne.symm hji)) h3.1 (h3.2.1 hjT) ?_⟩) h2
      rw [Array.setIfInBounds_comm _ _ hji]
      exact h3.2.2

theorem wpAnyT_take {i : Nat} {oi : Oper} {v : Value} {fuel : Nat} {listed : Array Bool} {a : Act} {w : World} (hi : ops[i]? = some oi)
    (hs : Region.noSelect ops = true) (hf : Region.free md ops listed i = true) (hr : (Region.ready md ops listed).contains i = true) (ht : tailed md ops listed T i = true)
    (hQ : ∀ c a w, Q (.panic c) (a.put oi.dst v) w → Q (.panic c) a w) (hy : YieldsIf P ops S oi v a) (hS : S w)
    (h : wpAnyT P md ops Q S T fuel (listed.setIfInBounds i true) (a.put oi.dst v) w) : wpAnyT P md ops Q S T (fuel + 1) listed a w := by
  simp only [tailed, Bool.and_eq_true, List.all_eq_true, Bool.or_eq_true, Bool.not_eq_true', beq_iff_eq, List.contains_iff_mem] at ht
  exact wpAnyT_first hi (Region.noSelect_spec hs) hQ fuel listed a w (Region.free_spec hi hf) ht.1 (fun j hj => by rcases ht.2 j hj with (h | h) | h <;> simp [h]) (by simpa using hr) hy hS h

theorem wpAnyT_first0 {i : Nat} {oi : Oper} {v : Value} (hi : ops[i]? = some oi) (hsel : ∀ (j : Nat) (o : Oper) cs b, ops[j]? = some o → o.op ≠ .select cs b)
    (hQ : ∀ c a w, Q (.panic c) (a.put oi.dst v) w → Q (.panic c) a w) (hT : i ∈ T) :
    ∀ (fuel : Nat) (listed : Array Bool) (a : Act) (w : World),
      (∀ j oj, ops[j]? = some oj → j ≠ i → listed.getD j true = false → (∀ e ∈ oj.after, Region.binds md e = true → e.on ≠ i) → oi.apart ops oj = true) →
      i ∈ Region.ready md ops listed → YieldsIf P ops (fun _ => True) oi v a →
      wpAnyT P md ops Q S T fuel (listed.setIfInBounds i true) (a.put oi.dst v) w → wpAnyT P md ops Q S T (fuel + 1) listed a w := by
  intro fuel
  induction fuel with
  | zero =>
    intro listed a w _ hr hy H
    refine ⟨fun h => (by rw [h] at hr; cases hr), fun j hj => ?_⟩
    by_cases hji : j = i
    · subst hji; exact hy.wpOp hi trivial ⟨fun h => absurd hT h, H⟩
    · have := ready_mono hj hji
      rw [H.1] at this
      cases this
  | succ fuel ih =>
    intro listed a w hfree hr hy H
    refine ⟨fun h => (by rw [h] at hr; cases hr), fun j hj => ?_⟩
    by_cases hji : j = i
    · subst hji; exact hy.wpOp hi trivial ⟨fun h => absurd hT h, H⟩
    · have h1 := H.2 j (ready_mono hj hji)
      obtain ⟨hjun, oj, hoj, hall⟩ := mem_ready.1 hj
      have hnot : ∀ e ∈ oj.after, Region.binds md e = true → e.on ≠ i := fun e he hb heq => by
        have h1 := hall e he hb
        have h0 := (mem_ready.1 hr).1
        rw [heq] at h1
        rcases Nat.lt_or_ge i listed.size with h' | h'
        · simp [h'] at h0 h1; rw [h0] at h1; cases h1
        · simp [Array.getElem?_eq_none h'] at h1
      have h2 := wpOp_putIf hoj (hfree j oj hoj hji hjun hnot) (fun cs b => hsel i oi cs b hi) (fun cs b => hsel j oj cs b hoj) hQ hy h1
      have hfree' : ∀ k ok, ops[k]? = some ok → k ≠ i → (listed.setIfInBounds j true).getD k true = false →
          (∀ e ∈ ok.after, Region.binds md e = true → e.on ≠ i) → oi.apart ops ok = true := fun k ok hk hki hun hno => by
        refine hfree k ok hk hki ?_ hno
        by_cases hjk : j = k
        · subst hjk; exact hjun
        · rw [getD_set_ne true hjk] at hun; exact hun
      refine wpOp_mono (fun a' w' h3 => ⟨h3.2.1, ih (listed.setIfInBounds j true) a' w' hfree' (ready_mono hr (Ne.symm hji)) h3.1 ?_⟩) h2
      rw [Array.setIfInBounds_comm _ _ hji]
      exact h3.2.2
/-- A move that is wanted at the end alone: it yields in whatever world. -/
theorem wpAnyT_take0 {i : Nat} {oi : Oper} {v : Value} {fuel : Nat} {listed : Array Bool} {a : Act} {w : World} (hi : ops[i]? = some oi)
    (hs : Region.noSelect ops = true) (hf : Region.free md ops listed i = true) (hr : (Region.ready md ops listed).contains i = true) (ht : T.contains i = true)
    (hQ : ∀ c a w, Q (.panic c) (a.put oi.dst v) w → Q (.panic c) a w) (hy : YieldsIf P ops (fun _ => True) oi v a)
    (h : wpAnyT P md ops Q S T fuel (listed.setIfInBounds i true) (a.put oi.dst v) w) : wpAnyT P md ops Q S T (fuel + 1) listed a w :=
  wpAnyT_first0 hi (Region.noSelect_spec hs) hQ (List.contains_iff_mem.1 ht) fuel listed a w (Region.free_spec hi hf) (by simpa using hr) hy h

theorem wpAnyT_one {i : Nat} {o : Oper} {fuel : Nat} {listed : Array Bool} {a : Act} {w : World} (ho : ops[i]? = some o) (hr : Region.ready md ops listed = [i]) (hT : T.contains i = false)
    (h : ∀ K' : Act → World → Prop, (∀ a w, S w ∧ wpAnyT P md ops Q S T fuel (listed.setIfInBounds i true) a w → K' a w) → if Region.wanted o (yielded ops a.tmps) = true then Oper.wp P o a w K' Q else K' (a.put o.dst undef) w) : wpAnyT P md ops Q S T (fuel + 1) listed a w :=
  ⟨fun h0 => (by rw [hr] at h0; cases h0), fun j hj => by
    rw [hr] at hj
    obtain rfl : j = i := by simpa using hj
    exact wpOp_step ho fun K' hK => h K' fun a w hs => hK a w ⟨fun _ => hs.1, hs.2⟩⟩
theorem wpAnyT_last {i : Nat} {o : Oper} {fuel : Nat} {listed : Array Bool} {a : Act} {w : World} (ho : ops[i]? = some o) (hr : Region.ready md ops listed = [i]) (hT : T.contains i = true)
    (h : ∀ K' : Act → World → Prop, (∀ a w, wpAnyT P md ops Q S T fuel (listed.setIfInBounds i true) a w → K' a w) → if Region.wanted o (yielded ops a.tmps) = true then Oper.wp P o a w K' Q else K' (a.put o.dst undef) w) : wpAnyT P md ops Q S T (fuel + 1) listed a w :=
  ⟨fun h0 => (by rw [hr] at h0; cases h0), fun j hj => by
    rw [hr] at hj
    obtain rfl : j = i := by simpa using hj
    exact wpOp_step ho fun K' hK => h K' fun a w hs => hK a w ⟨fun hn => absurd (List.contains_iff_mem.1 hT) hn, hs⟩⟩
theorem wpAnyT_done {listed : Array Bool} {a : Act} {w : World} (hr : Region.ready md ops listed = []) (h : Q .normal a w) :
    ∀ fuel, wpAnyT P md ops Q S T fuel listed a w
  | 0 => ⟨hr, h⟩
  | _ + 1 => ⟨fun _ => h, by rw [hr]; simp⟩

theorem wp_region_tail {id : Nat} {a : Act} {w : World} (hm : P.follows .mixedOrders = true) (hS : S w.drew)
    (h : S w.drew → wpAnyT P .any ops Q S T ops.size (Array.replicate ops.size false) a w.drew) : (Code.region id ops true).wp P Q a w :=
  wp_region_any hm (wpAny_of_tail _ _ _ _ (h hS))
theorem region_round_tail {n l id : Nat} {a : Act} {w : World} (hm : P.follows .mixedOrders = true) (hd : noDefer ops = true) (hout : ¬ LetsOut Q) (hS : S w.drew)
    (h : S w.drew → wpAnyT P .any ops Q S T ops.size (Array.replicate ops.size false) a w.drew) : (Code.region id ops true).wpIn (Fence.wide.inRound l) n P Q a w :=
  region_round hm (noDefer_spec hd) hout (wpAny_of_tail _ _ _ _ (h hS))
end

/-- 'append(s, x)' in a region that draws its order, behind the making of the slice [x]. -/
theorem step_snoc2 {α : Type} {r : Rep α} {e base : Nat} {Q : Nat → Prop} {P : Program} {w : World} {ops : Array Oper} {o : Oper} {a : Act} {K : Act → World → Prop} {R : Exit → Act → World → Prop} {E : Prop} (hg : o.guard = none) (s x : Operand) (t : TypeId)
    (ho : o.op = .call { callee := .builtin .append, args := #[s, x], argTypes := #[t, t] })
    (z : Value) (size bytes : Nat) (ht : P.underlying t = some (.slice e)) (hi : (P.info? e).map (fun i => (i.zero, i.size, i.bytes)) = some (some z, size, bytes)) (hzs : z.cells.size = size) (hsz : 0 < size)
    (hr : r.size = size) (v : Value) (xs : List α) (hs : a.eval s = v) (h : r.acc e base Q w v xs) (y : α) (vy : Value) (hy : r.val (fun b => Q b ∧ v.ownBlock ≠ some b) w vy y) (hx : a.eval x = .slice (some ⟨w.heap.size, 0, none⟩) 1 1)
    (h63 : xs.length + 1 ≤ maxLen) (hbytes : (xs.length + 1) * bytes ≤ 140737488355328) (hbase : base ≤ w.heap.size)
    (H : ∀ v' w', r.acc e base Q w' v' (xs ++ [y]) → w.grownBy w' v.ownBlock → (v'.ownBlock = v.ownBlock ∨ v'.ownBlock = some (w.heap.size + 1)) → K (a.put o.dst v') w') :
    if Region.wanted o (yielded ops a.tmps) = true then Oper.wp P o a (w.alloc (.cells vy.cells e)) K R else E := by
  have hw : Region.wanted o (yielded ops a.tmps) = true := by simp [Region.wanted, hg]
  rw [if_pos hw]
  obtain ⟨cs, hv, hrd⟩ := hy
  have hcells : vy.cells.toList = cs := by rw [hv]; exact r.back hrd
  have hkeep : ∀ b, b < w.heap.size → (w.alloc (.cells vy.cells e)).heap[b]? = w.heap[b]? := fun b hb => Below.heap_alloc _ _ _ hb
  have hacc' : r.acc e base Q (w.alloc (.cells vy.cells e)) v xs := Rep.acc_keep (fun b _ hl => hkeep b hl.lt) (fun _ hb _ => hb) h
  have hbn : (w.alloc (.cells vy.cells e)).heap[w.heap.size]? = some (.cells vy.cells e) := heap_alloc_new w _
  obtain ⟨v', w', q1, q2, q3, q4⟩ := Rep.acc_more (P := P) (w := w.alloc (.cells vy.cells e)) (ty := o.type) (ys := [y]) (A := some ⟨w.heap.size, 0, none⟩) (m := 1) (c := 1) (es := cs)
    ht hi hzs hsz hr hacc' rfl
    (Rep.row_one_elem (r.keep (fun b hb hl => ⟨hb, hkeep b hl.lt⟩) hrd)) (fun _ => ⟨w.heap.size, 0, rfl, fun j u hj => by
      rw [cell_of_row _ _ _ _ _ _ hbn, Nat.zero_add, ← hj, ← hcells]; simp⟩)
    (by simpa using h63) (by simpa using hbytes) (by simp; omega)
  unfold Oper.wp
  rw [exec_append ho hs hx q1]
  exact H _ _ q2 ((World.grownBy_alloc w _ _).trans q3) (by simpa using q4)

/-- Elements, told by their cells. -/
theorem Rep.At.of_cells {α : Type} {r : Rep α} {Q : Nat → Prop} {w : World} {b : Nat} : ∀ {xs : List α} (off : Nat) (_ : ∀ (j : Nat) (x : α), xs[j]? = some x → ∃ es, r.rd Q w es x ∧ ∀ (m : Nat) (u : Value), es[m]? = some u → w.cell? ⟨b, off + j * r.size + m, none⟩ = some u),
    ∃ es, r.row Q w es xs ∧ ∀ (m : Nat) (u : Value), es[m]? = some u → w.cell? ⟨b, off + m, none⟩ = some u
  | [], _, _ => ⟨[], rfl, fun m u h => by simp at h⟩
  | x :: xs, off, h => by
    obtain ⟨es, h1, h2⟩ := h 0 x rfl
    obtain ⟨rest, h3, h4⟩ := Rep.At.of_cells (xs := xs) (off + r.size) (fun j y hy => by
      obtain ⟨es', g1, g2⟩ := h (j + 1) y (by simpa using hy)
      exact ⟨es', g1, fun m u hm => by rw [← g2 m u hm, show off + r.size + j * r.size + m = off + (j + 1) * r.size + m by rw [Nat.add_mul]; omega]⟩)
    refine ⟨es ++ rest, ⟨es, rest, rfl, h1, h3⟩, fun m u hm => ?_⟩
    have hl := r.len h1
    by_cases hlt : m < es.length
    · rw [List.getElem?_append_left hlt] at hm
      rw [← h2 m u hm]; simp
    · rw [List.getElem?_append_right (by omega)] at hm
      rw [← h4 _ u hm, show off + r.size + (m - es.length) = off + m by omega]
end Go.Proofs.YtghbfbohnoebiaaGreat
