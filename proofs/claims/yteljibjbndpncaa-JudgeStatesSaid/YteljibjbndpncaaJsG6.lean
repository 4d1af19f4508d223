/- Texts on which the proofs stand: MOwn, Deep, OwnSt. No condition is laid on any input. -/
import Derived.Test.YteljibjbndpncaaJsG5
namespace Go.Proofs.Yteljibjbndpncaa
open Go.RowKit

theorem infoI3 : (Try.prog.info? 3).map (fun i => (i.zero, i.size, i.bytes)) = some (some (.int .i64 0), 1, 8) := by kernel_rfl
theorem infoP3 : (Try.prog.info? 135).map (fun i => (i.zero, i.size, i.bytes)) = some (some (.agg #[.int .i64 0, .slice none 0 0]), 2, 32) := by kernel_rfl

/-- slices.Clone of numbers -/
theorem cloneInts_calls {Q : Nat → Prop} {w : World} {v : Value} {l : List Int} (hx : (Rep.int .i64).list.val Q w v l) (hl : l.length ≤ 1000000) :
    Calls Try.prog 192 #[v] w fun e w' => ∃ v', e = .returned v' ∧ (Rep.int .i64).acc 3 w.heap.size (fun _ => False) w' v' l ∧ Below w.heap.size w w' := by
  obtain ⟨A, c, rfl, hc1, hc2, hA⟩ := Rep.val_list hx
  unfold maxLen at hc2
  cases A with
  | none =>
    have hnil : l = [] := by
      rcases Nat.eq_zero_or_pos l.length with h | h
      · exact List.eq_nil_of_length_eq_zero h
      · obtain ⟨b, off, h⟩ := hA.addr h; cases h
    subst hnil
    have he := fun w => Lib.run_eql_slice_nil (P := Try.prog) w 27 3 none 0 c 0 0 Try.underlying27
    go_enter Try.func192, Try.ntmps192
    go_wp2_with fail
    go_ret
    exact ⟨_, rfl, Rep.acc_nil, Below.refl _ _⟩
  | some a =>
    have he := fun w => Lib.run_eql_slice_nil (P := Try.prog) w 27 3 (some a) l.length c 0 0 Try.underlying27
    have HX := Lib.hid (show (Rep.int .i64).list.val (fun b => b < w.heap.size) (w.alloc (.cells #[] 3)) (.slice (some a) l.length c) l from Rep.val_keep (w := w) (fun b _ hl => ⟨hl.lt, Below.heap_alloc _ _ _ hl.lt⟩) hx)
    have HA := Lib.hid (show (Rep.int .i64).acc 3 w.heap.size (fun _ => False) (w.alloc (.cells #[] 3)) (.slice (some ⟨w.heap.size, 0, none⟩) 0 0) [] from Rep.acc_made w #[] 0 (Nat.le_refl _) (by simp [maxLen]) (by simp))
    have HB1 := Lib.hid (show ([] : List Int).length + l.length ≤ maxLen from by simp [maxLen]; omega)
    have HB2 := Lib.hid (show (([] : List Int).length + l.length) * 8 ≤ 140737488355328 from by simp; omega)
    have HB3 := Lib.hid (show w.heap.size ≤ (w.alloc (.cells #[] 3)).heap.size from by simp)
    clear hx hA
    go_enter Try.func192, Try.ntmps192
    go_wp2_with (refine wpList_spread_leaf (e := 3) (base := w.heap.size) (Q := fun _ => False) (Rep.leaf_int .i64) rfl _ _ 27 rfl (.int .i64 0) 1 8 Try.underlying27 infoI3 rfl (by decide) rfl _ [] (by exact rfl) HA.out _ l (by exact rfl) HX.out HB1.out HB2.out HB3.out ?_; intro v' w' hacc' hgr hat)
    go_ret
    exact ⟨_, rfl, by simpa using hacc', Rep.acc_below HA.out ((Below.refl _ w).alloc (Nat.le_refl _) _) hgr HB3.out⟩

set_option maxRecDepth 100000 in
set_option maxHeartbeats 2000000 in
/-- model.own -/
theorem mown_calls {Q : Nat → Prop} {w : World} {v : Value} {l : List DPart} (hx : rPart.list.val Q w v l) (hl : l.length ≤ 1000000) (hd : ∀ p ∈ l, p.data.length ≤ 1000) :
    Calls Try.prog 193 #[v] w fun e w' => ∃ v', e = .returned v' ∧ rPart.acc 135 w.heap.size (fun b => w.heap.size ≤ b) w' v' l ∧ Below w.heap.size w w' := by
  obtain ⟨A, c, rfl, hc1, hc2, hA⟩ := Rep.val_list hx
  unfold maxLen at hc2
  have HA := Lib.hid (show ∀ V, Below w.heap.size w V → rPart.At Q V A l from fun V h => Rep.At.keep (fun b hb hl => ⟨hb, h.block b hl.lt⟩) hA)
  have HD := Lib.hid hd
  have HL := Lib.hid hl
  clear hx hA hd
  go_enter Try.func193, Try.ntmps193
  go_wp2_with fail
  go_loopw [3, 8] (fun u i wr => ∃ k : Nat, i = .int .i64 k ∧ k ≤ l.length ∧ Hid (Below w.heap.size w wr) ∧ Hid (rPart.acc 135 w.heap.size (fun b => w.heap.size ≤ b) wr u (l.take k))) (fun _ i _ => l.length - (intOf i).toNat)
  case atStart => exact ⟨0, rfl, Nat.zero_le _, Lib.hid (Below.refl _ _), Lib.hid Rep.acc_nil⟩
  case round =>
    rename_i u _
    obtain ⟨k, rfl, hk, HBR, HU⟩ := hrel
    by_cases hlt : (k : Int) < l.length
    · obtain ⟨p, hp⟩ : ∃ p, l[k]? = some p := ⟨_, List.getElem?_eq_getElem (by omega)⟩
      obtain ⟨b, off, Ad, cd, rfl, _, e0, e1, hw0, hsl⟩ := rPart_at (HA.out _ HBR.out) hp
      have HP := Lib.hid hp
      have HW0 := Lib.hid hw0
      have HDP := Lib.hid (HD.out p (List.mem_of_getElem? hp))
      have HSL := Lib.hid hsl.val
      obtain ⟨A8, c8, rfl, h81, h82⟩ := Rep.acc_form HU.out
      unfold maxLen at h82
      have hlk : (l.take k).length = k := by rw [List.length_take]; omega
      rw [hlk] at HU h81 ⊢
      clear hlk
      clear hp hw0 hsl
      go_wp2_with fail
      refine nm_region (fun W1 hW1 => ?_)
      have R1 := Lib.hid (show W1.heap[wr.heap.size]? = some (.cells #[.int .i64 p.comp, .slice Ad p.data.length cd] 135 (0, 0)) by rw [hW1]; exact alloc_at rfl)
      have B1 := Lib.hid (show Below wr.heap.size wr W1 by rw [hW1]; exact (Below.refl _ _).alloc (Nat.le_refl _) _)
      have HSZ1 := Lib.hid (show W1.heap.size = wr.heap.size + 1 by rw [hW1]; simp)
      clear hW1 e0 e1
      refine wp_region_tail (S := fun W => Below W1.heap.size W1 W) (T := [8, 9]) (by kernel_rfl) ((Below.refl _ _).drew) (fun s0 => ?_)
      obtain ⟨u0, hu0⟩ : ∃ V, V = W1.drew := ⟨_, rfl⟩
      rw [← hu0] at s0 ⊢
      have t0 : Below W1.heap.size W1 u0 := s0
      clear hu0 s0
      refine tkTV (i := 0) (v := .slice A8 k c8) rfl t0 ?_
      go_simp
      refine tkTV (i := 1) (v := .pointer (some ⟨wr.heap.size, 0, none⟩)) rfl t0 ?_
      go_simp
      refine tkT (i := 2) (v := .int .i64 p.comp) rfl (Or.inl ⟨by rfl, fun w' h => by have e := row_call (h : Below W1.heap.size W1 w') R1.out; have e0 := cell_row e 0; have e1 := cell_row e 1; go_simp⟩) t0 ?_
      go_simp
      refine tkTV (i := 3) (v := .pointer (some ⟨wr.heap.size, 1, none⟩)) rfl t0 ?_
      go_simp
      refine tkT (i := 4) (v := .slice Ad p.data.length cd) rfl (Or.inl ⟨by rfl, fun w' h => by have e := row_call (h : Below W1.heap.size W1 w') R1.out; have e0 := cell_row e 0; have e1 := cell_row e 1; go_simp⟩) t0 ?_
      go_simp
      have HSU := Lib.hid (val_lo HSL.out (show Below wr.heap.size wr u0 from B1.out.trans (t0.mono B1.out.size)))
      have HB2 := Lib.hid (show Below wr.heap.size wr u0 from B1.out.trans (t0.mono B1.out.size))
      refine wpAnyT_one (i := 5) rfl (by kernel_rfl) rfl (fun K hK => ?_)
      go_simp
      refine (bytesClone HSU.out (by have := HDP.out; omega)).mono ?_
      rintro e u1 ⟨vd, rfl, hvd, hb⟩
      have t1 : Below W1.heap.size W1 u1 := t0.trans (hb.mono t0.size)
      have HB3 := Lib.hid (show Below wr.heap.size wr u1 from HB2.out.trans (hb.mono HB2.out.size))
      obtain ⟨Bd, dd, rfl, hld, hmd, hBd⟩ := Rep.val_list hvd
      have HVD := Lib.hid (show rPart.val (fun b => wr.heap.size < b) u1 (.agg #[.int .i64 p.comp, .slice Bd p.data.length dd]) p from rPart_agg HW0.out (by have h0 := sl_of hvd; exact Rep.Sl.keep (fun b hb _ => ⟨by have := t0.size; have := B1.out.size; have : W1.heap.size = wr.heap.size + 1 := HSZ1.out; omega, rfl⟩) h0))
      refine hK _ _ ⟨t1, ?_⟩
      clear hb hvd hK K hBd
      refine tkTV (i := 6) (v := .agg #[.int .i64 p.comp, .slice Bd p.data.length dd]) rfl t1 ?_
      go_simp
      have HAC := Lib.hid (show rPart.acc 135 w.heap.size (fun b => w.heap.size ≤ b) u1 (.slice A8 k c8) (l.take k) from Rep.acc_later HU.out HB3.out)
      have HOW := Lib.hid (show ∀ b, (Value.slice A8 k c8).ownBlock = some b → b < wr.heap.size from fun b e => (Rep.acc_own HU.out b e).2)
      have HBZ := Lib.hid (show w.heap.size ≤ u1.heap.size from Nat.le_trans HBR.out.size HB3.out.size)
      have HLN := Lib.hid (show (l.take k).length + 1 ≤ maxLen ∧ ((l.take k).length + 1) * 32 ≤ 140737488355328 by rw [List.length_take]; have := HL.out; unfold maxLen; omega)
      refine wpAnyT_one (i := 7) rfl (by kernel_rfl) rfl (fun K hK => ?_)
      go_simp
      refine hK _ _ ⟨t1.alloc (Nat.le_trans (Nat.le_refl _) t1.size) _, ?_⟩
      clear hK K
      refine wpAnyT_last (i := 8) rfl (by kernel_rfl) rfl (fun K hK => ?_)
      refine step_snoc2 (w := u1) rfl _ _ 131 rfl (.agg #[.int .i64 0, .slice none 0 0]) 2 32 Try.underlying131 infoP3 rfl (by decide) rfl _ (l.take k) (by exact rfl) HAC.out p (.agg #[.int .i64 p.comp, .slice Bd p.data.length dd]) (Rep.val_mono (fun b hb _ => ⟨Nat.le_of_lt (Nat.lt_of_le_of_lt HBR.out.size hb), fun e => by have := HOW.out b e; omega⟩) HVD.out) (by exact rfl) HLN.out.1 HLN.out.2 HBZ.out (fun v7 w7 hacc7 hgr7 hat7 => ?_)
      have HA7 := Lib.hid (show rPart.acc 135 w.heap.size (fun b => w.heap.size ≤ b) w7 v7 (l.take (k + 1)) by rw [List.take_add_one, HP.out]; exact hacc7)
      have HB7 := Lib.hid (show Below w.heap.size w w7 from Rep.acc_below HAC.out (HBR.out.trans (HB3.out.mono HBR.out.size)) hgr7 HBZ.out)
      go_simp
      refine hK _ _ ?_
      clear hK K hacc7 hgr7 hat7
      refine tk0 (i := 9) (v := v7) rfl (Or.inl ⟨by rfl, fun w' _ => by go_simp⟩) ?_
      go_simp
      refine wpAnyT_done (by kernel_rfl) ?_ _
      go_wp2_with fail
      exact ⟨⟨k + 1, by go_num, by omega, HB7, HA7⟩, by simp [intOf]; omega⟩
    · obtain rfl : k = l.length := by omega
      go_wp2_with fail
      go_ret
      exact ⟨_, rfl, by have := HU.out; rwa [List.take_length] at this, HBR.out⟩
end Go.Proofs.Yteljibjbndpncaa
namespace Go.Proofs.Yteljibjbndpncaa
open Go.RowKit

/-- An entity by its words: its parts are told apart. -/
def rBE : Rep (DID × Value) where
  size := 3
  wrap cs := .agg cs.toArray
  rd _ _ cs x := (∃ A n c, x.2 = .slice A n c) ∧ cs = [.int .i64 x.1.index, .int .i64 x.1.gen, x.2] ∧ (Lit.int .i64 x.1.index).wf = true ∧ (Lit.int .i64 x.1.gen).wf = true
  len h := by rw [h.2.1]; rfl
  one h := by
    obtain ⟨⟨A, n, c, hs⟩, h, _⟩ := h
    rw [h, hs]; simp [Value.oneCell']
  back h := by
    obtain ⟨⟨A, n, c, hs⟩, h, _⟩ := h
    rw [h, hs]; simp [Value.cells]
  keep _ h := h
theorem rBE_agg {Q : Nat → Prop} {w : World} {id : DID} {A : Option Addr} {n c : Nat} (h0 : (Lit.int .i64 id.index).wf = true) (h1 : (Lit.int .i64 id.gen).wf = true) : rBE.val Q w (.agg #[.int .i64 id.index, .int .i64 id.gen, .slice A n c]) (id, .slice A n c) :=
  ⟨_, rfl, ⟨A, n, c, rfl⟩, rfl, h0, h1⟩
/-- Parts of an entity's own. -/
structure PartOwn (W : World) (B : Nat) (cl : Nat → Option Nat) (j : Nat) (vp : Value) (ps : List DPart) : Prop where
  acc : rPart.acc 135 B (fun b => cl b = some j) W vp ps
  own : ∀ b, vp.ownBlock = some b → cl b = some j
structure Deep (W : World) (B : Nat) (cl : Nat → Option Nat) (ve : Value) (raws : List (DID × Value)) (l : List DEnt) : Prop where
  acc : rBE.acc 133 B (fun _ => False) W ve raws
  len : raws.length = l.length
  own : ∀ b, ve.ownBlock = some b → cl b = none
  part : ∀ (j : Nat) e, l[j]? = some e → ∃ vp, raws[j]? = some (e.id, vp) ∧ PartOwn W B cl j vp e.parts

/-- Entities, put together from their words and their parts. -/
theorem ents_row {Q Q' : Nat → Prop} {W : World} : ∀ {raws : List (DID × Value)} {l : List DEnt} {cells : List Value}, raws.length = l.length → (∀ (j : Nat) e, l[j]? = some e → ∃ vp, raws[j]? = some (e.id, vp) ∧ rPart.list.val Q' W vp e.parts) → rBE.row Q W cells raws → rEnt.row Q' W cells l
  | [], [], _, _, _, h => h
  | [], _ :: _, _, hl, _, _ => by simp at hl
  | _ :: _, [], _, hl, _, _ => by simp at hl
  | x :: raws, e :: l, cells, hl, hp, h => by
    obtain ⟨es, rest, rfl, h1, h2⟩ := h
    obtain ⟨vp, hx, hv⟩ := hp 0 e rfl
    obtain rfl : x = (e.id, vp) := by simpa using hx
    obtain ⟨_, hes, w0, w1⟩ := h1
    refine ⟨es, rest, rfl, ?_, ents_row (by simpa using hl) (fun j e2 he2 => by simpa using hp (j + 1) e2 (by simpa using he2)) h2⟩
    obtain ⟨A, c, rfl, q1, q2, q3⟩ := Rep.val_list hv
    rw [hes]
    exact rEnt_mk w0 w1 ⟨q1, q2, q3⟩
theorem ents_acc {B : Nat} {Q : Nat → Prop} {W : World} {ve : Value} {raws : List (DID × Value)} {l : List DEnt} (h : rBE.acc 133 B (fun _ => False) W ve raws) (hl : raws.length = l.length)
    (hp : ∀ (j : Nat) e, l[j]? = some e → ∃ vp, raws[j]? = some (e.id, vp) ∧ rPart.list.val (fun b => Q b ∧ ve.ownBlock ≠ some b) W vp e.parts) : rEnt.acc 133 B Q W ve l := by
  obtain ⟨cells, h1, h2⟩ := h
  exact ⟨cells, by rw [← hl]; exact h1, ents_row hl hp h2⟩
section
variable {W W' : World} {B : Nat} {cl : Nat → Option Nat} {ve : Value} {raws : List (DID × Value)} {l : List DEnt}
theorem PartOwn.keep {cl' : Nat → Option Nat} {j : Nat} {vp : Value} {ps : List DPart} (h : PartOwn W B cl j vp ps) (hc : ∀ b, b < W.heap.size → cl b = some j → cl' b = some j) (hk : ∀ b, b < W.heap.size → cl b = some j → W'.heap[b]? = W.heap[b]?) : PartOwn W' B cl' j vp ps := by
  refine ⟨Rep.acc_keep (fun b hb hl => hk b hl.lt ?_) (fun b hq hl => hc b hl.lt hq) h.acc, fun b hb => hc b (Rep.acc_own h.acc b hb).2 (h.own b hb)⟩
  rcases hb with hb | hb
  · exact hb
  · exact h.own b hb
theorem PartOwn.val {j : Nat} {vp : Value} {ps : List DPart} (h : PartOwn W B cl j vp ps) : rPart.list.val (fun b => cl b = some j) W vp ps :=
  Rep.val_mono (fun b hb _ => hb.elim id (h.own b)) (Rep.acc_val h.acc)
theorem PartOwn.low {j : Nat} {vp : Value} {ps : List DPart} (h : PartOwn W B cl j vp ps) : ∀ b, vp.ownBlock = some b → B ≤ b ∧ b < W.heap.size := Rep.acc_own h.acc
/-- As entities. -/
theorem Deep.ents (h : Deep W B cl ve raws l) : rEnt.acc 133 B (fun b => cl b ≠ none) W ve l :=
  ents_acc h.acc h.len fun j e he => by
    obtain ⟨vp, h1, h2⟩ := h.part j e he
    exact ⟨vp, h1, Rep.val_mono (fun b hb _ => ⟨by rw [hb]; simp, fun e2 => by rw [h.own b e2] at hb; cases hb⟩) h2.val⟩
theorem Deep.keep (h : Deep W B cl ve raws l) (hk : ∀ b, b < W.heap.size → (cl b ≠ none ∨ ve.ownBlock = some b) → W'.heap[b]? = W.heap[b]?) : Deep W' B cl ve raws l :=
  ⟨Rep.acc_keep (fun b hb hl => hk b hl.lt (.inr (hb.elim False.elim id))) (fun _ h _ => h) h.acc, h.len, h.own, fun j e he => by
    obtain ⟨vp, h1, h2⟩ := h.part j e he
    exact ⟨vp, h1, h2.keep (fun _ _ h => h) (fun b hb hc => hk b hb (.inl (by rw [hc]; simp)))⟩⟩
theorem Deep.nil : Deep W B (fun _ => none) (.slice none 0 0) [] [] :=
  ⟨Rep.acc_nil, rfl, fun _ _ => rfl, fun j e he => by simp at he⟩
/-- One more: its parts were made from W on, up to U; then the slice grew. -/
theorem Deep.snoc {U V : World} {e : DEnt} {vp ve' : Value} (h : Deep W B cl ve raws l) (hB : B ≤ W.heap.size) (hU : Below W.heap.size W U) (hp : rPart.acc 135 W.heap.size (fun b => W.heap.size ≤ b) U vp e.parts)
    (ha : rBE.acc 133 B (fun _ => False) V ve' (raws ++ [(e.id, vp)])) (hg : U.grownBy V ve.ownBlock) (ho : ve'.ownBlock = ve.ownBlock ∨ ve'.ownBlock = some (U.heap.size + 1)) :
    Deep V B (fun b => if b < W.heap.size then cl b else if b < U.heap.size then some l.length else none) ve' (raws ++ [(e.id, vp)]) (l ++ [e]) := by
  refine ⟨ha, by simp [h.len], fun b hb => ?_, fun j e2 he => ?_⟩
  · rcases ho with ho | ho
    · rw [ho] at hb
      rw [if_pos (Rep.acc_own h.acc b hb).2]
      exact h.own b hb
    · rw [ho] at hb
      obtain rfl := Option.some.inj hb
      have := hU.size
      rw [if_neg (by omega), if_neg (by omega)]
  · have hkeep : ∀ b, b < W.heap.size → ve.ownBlock ≠ some b → V.heap[b]? = W.heap[b]? := fun b hb hne => (hg.block b (Nat.lt_of_lt_of_le hb hU.size) (fun e => hne e.symm)).trans (hU.block b hb)
    by_cases hj : j < l.length
    · rw [List.getElem?_append_left hj] at he
      obtain ⟨v2, h1, h2⟩ := h.part j e2 he
      refine ⟨v2, by rw [List.getElem?_append_left (by rw [h.len]; exact hj)]; exact h1, h2.keep (fun b hb hc => by rw [if_pos hb]; exact hc) (fun b hb hc => hkeep b hb fun e3 => by rw [h.own b e3] at hc; cases hc)⟩
    · rw [List.getElem?_append_right (by omega)] at he
      obtain ⟨hj0, rfl⟩ : j = l.length ∧ e = e2 := by
        cases hq : j - l.length with
        | zero => rw [hq] at he; exact ⟨by omega, by simpa using he⟩
        | succ n => rw [hq] at he; simp at he
      refine ⟨vp, by rw [List.getElem?_append_right (by rw [h.len]; omega), h.len, hj0]; simp, ?_, ?_⟩
      · rw [hj0]
        refine Rep.acc_base hB (Rep.acc_keep (fun b hb hl => hg.block b hl.lt (fun e3 => ?_)) (fun b hb hl => by have := hl.lt; rw [if_neg (by omega), if_pos (by omega)]) hp)
        have h1 := (Rep.acc_own h.acc b e3.symm).2
        rcases hb with hb | hb
        · omega
        · have := (Rep.acc_own hp b hb).1; omega
      · intro b hb
        have := Rep.acc_own hp b hb
        rw [if_neg (by omega), if_pos (by omega), hj0]
end
end Go.Proofs.Yteljibjbndpncaa
namespace Go.Proofs.Yteljibjbndpncaa
open Go.RowKit

/-- A state that is not too large. -/
structure StSmall (s : DState) : Prop where
  gens : s.gens.length ≤ 1000000
  free : s.free.length ≤ 1000000
  ents : s.ents.length ≤ 1000000
  parts : ∀ e ∈ s.ents, e.parts.length ≤ 1000000 ∧ ∀ p ∈ e.parts, p.data.length ≤ 1000
theorem StOk.tiny {c : DConf} {s : DState} (h : StOk c s) : StSmall s := by
  have hs := h.small
  refine ⟨by omega, by omega, by omega, fun e he => ⟨?_, fun p hp => ?_⟩⟩
  · have := (h.parts e he).len; have := (right_facts h.conf).1; omega
  · have := (h.parts e he).data h.conf hp; omega
/-- A state of the call's own, each entity's parts apart. -/
structure StOwn (B : Nat) (W : World) (s : DState) (vg vf ve : Value) (z : Nat) (cl : Nat → Option Nat) (raws : List (DID × Value)) : Prop where
  low : B ≤ z
  gens : (Rep.int .i64).acc 3 B (fun _ => False) W vg s.gens
  free : (Rep.int .i64).acc 3 B (fun _ => False) W vf s.free
  ents : Deep W z cl ve raws s.ents
  bare : ∀ b, b < z → cl b = none
  gz : ∀ b, vg.ownBlock = some b → b < z
  fz : ∀ b, vf.ownBlock = some b → b < z
  gf : ∀ b, vg.ownBlock = some b → vf.ownBlock ≠ some b
/-- A state of the call's own. -/
structure StMid (B : Nat) (W : World) (s : DState) (vg vf ve : Value) (z : Nat) : Prop where
  low : B ≤ z
  gens : (Rep.int .i64).acc 3 B (fun _ => False) W vg s.gens
  free : (Rep.int .i64).acc 3 B (fun _ => False) W vf s.free
  ents : rEnt.acc 133 z (fun b => z ≤ b) W ve s.ents
  gz : ∀ b, vg.ownBlock = some b → b < z
  fz : ∀ b, vf.ownBlock = some b → b < z
  gf : ∀ b, vg.ownBlock = some b → vf.ownBlock ≠ some b
/-- A state of which the entities alone are written further. -/
structure StLoose (B : Nat) (W : World) (s : DState) (vg vf ve : Value) (z : Nat) : Prop where
  low : B ≤ z
  gens : (Rep.int .i64).list.val (fun b => B ≤ b ∧ ve.ownBlock ≠ some b) W vg s.gens
  free : (Rep.int .i64).list.val (fun b => B ≤ b ∧ ve.ownBlock ≠ some b) W vf s.free
  ents : rEnt.acc 133 z (fun b => z ≤ b) W ve s.ents
section
variable {B z : Nat} {W W' : World} {s : DState} {vg vf ve : Value} {cl : Nat → Option Nat} {raws : List (DID × Value)}
theorem StOwn.keep (h : StOwn B W s vg vf ve z cl raws) (hk : ∀ b, B ≤ b → b < W.heap.size → W'.heap[b]? = W.heap[b]?) : StOwn B W' s vg vf ve z cl raws :=
  ⟨h.low, Rep.acc_keep (fun b hb hl => hk b (Rep.acc_own h.gens b (hb.elim False.elim id)).1 hl.lt) (fun _ h _ => h) h.gens,
   Rep.acc_keep (fun b hb hl => hk b (Rep.acc_own h.free b (hb.elim False.elim id)).1 hl.lt) (fun _ h _ => h) h.free,
   h.ents.keep fun b hb hc => hk b (hc.elim (fun hc => Nat.le_trans h.low (Nat.le_of_not_lt fun hlt => hc (h.bare b hlt))) (fun e => Nat.le_trans h.low (Rep.acc_own h.ents.acc b e).1)) hb, h.bare, h.gz, h.fz, h.gf⟩
theorem StOwn.mid (h : StOwn B W s vg vf ve z cl raws) : StMid B W s vg vf ve z :=
  ⟨h.low, h.gens, h.free, Rep.acc_keep (fun _ _ _ => rfl) (fun b hb _ => Nat.le_of_not_lt (fun hlt => hb (h.bare b hlt))) h.ents.ents, h.gz, h.fz, h.gf⟩
theorem StMid.keep (h : StMid B W s vg vf ve z) (hk : ∀ b, B ≤ b → b < W.heap.size → W'.heap[b]? = W.heap[b]?) : StMid B W' s vg vf ve z :=
  ⟨h.low, Rep.acc_keep (fun b hb hl => hk b (Rep.acc_own h.gens b (hb.elim False.elim id)).1 hl.lt) (fun _ h _ => h) h.gens,
   Rep.acc_keep (fun b hb hl => hk b (Rep.acc_own h.free b (hb.elim False.elim id)).1 hl.lt) (fun _ h _ => h) h.free,
   Rep.acc_keep (fun b hb hl => hk b (Nat.le_trans h.low (hb.elim id (fun e => (Rep.acc_own h.ents b e).1))) hl.lt) (fun _ h _ => h) h.ents, h.gz, h.fz, h.gf⟩
theorem StMid.loose (h : StMid B W s vg vf ve z) : StLoose B W s vg vf ve z :=
  ⟨h.low, Rep.val_mono (fun b hb _ => hb.elim False.elim (fun e => ⟨(Rep.acc_own h.gens b e).1, fun e2 => by have := h.gz b e; have := (Rep.acc_own h.ents b e2).1; omega⟩)) (Rep.acc_val h.gens),
   Rep.val_mono (fun b hb _ => hb.elim False.elim (fun e => ⟨(Rep.acc_own h.free b e).1, fun e2 => by have := h.fz b e; have := (Rep.acc_own h.ents b e2).1; omega⟩)) (Rep.acc_val h.free), h.ents⟩
theorem StLoose.keep (h : StLoose B W s vg vf ve z) (hk : ∀ b, B ≤ b → b < W.heap.size → W'.heap[b]? = W.heap[b]?) : StLoose B W' s vg vf ve z :=
  ⟨h.low, Rep.val_keep (fun b hb hl => ⟨hb, hk b hb.1 hl.lt⟩) h.gens, Rep.val_keep (fun b hb hl => ⟨hb, hk b hb.1 hl.lt⟩) h.free,
   Rep.acc_keep (fun b hb hl => hk b (Nat.le_trans h.low (hb.elim id (fun e => (Rep.acc_own h.ents b e).1))) hl.lt) (fun _ h _ => h) h.ents⟩
theorem StLoose.val {A1 A2 A3 : Option Addr} {n1 n2 n3 c1 c2 c3 : Nat} (h : StLoose B W s (.slice A1 n1 c1) (.slice A2 n2 c2) (.slice A3 n3 c3) z) : rState.val (fun b => B ≤ b) W (.agg #[.slice A1 n1 c1, .slice A2 n2 c2, .slice A3 n3 c3]) s := by
  obtain ⟨_, _, q1, _⟩ := Rep.val_list h.gens
  obtain ⟨_, _, q2, _⟩ := Rep.val_list h.free
  obtain ⟨_, _, q3, _⟩ := Rep.acc_form h.ents
  cases q1; cases q2; cases q3
  exact rState_agg (sl_of (Rep.val_mono (fun _ hb _ => hb.1) h.gens)) (sl_of (Rep.val_mono (fun _ hb _ => hb.1) h.free))
    (sl_of (Rep.val_mono (fun b hb _ => hb.elim (Nat.le_trans h.low) (fun e => Nat.le_trans h.low (Rep.acc_own h.ents b e).1)) (Rep.acc_val h.ents)))
/-- Entities are written. -/
theorem StLoose.write (h : StLoose B W s vg vf ve z) {ve' : Value} {es : List DEnt} (ho : Only (fun b => ve.ownBlock = some b) W W') (ha : rEnt.acc 133 z (fun b => z ≤ b) W' ve' es)
    (hw : ve'.ownBlock = ve.ownBlock ∨ ve'.ownBlock = some W.heap.size) : StLoose B W' ⟨s.gens, s.free, es⟩ vg vf ve' z := by
  have hq : ∀ b, IsC W b → ve.ownBlock ≠ some b → ve'.ownBlock ≠ some b := fun b hl hne e => by
    rcases hw with hw | hw
    · exact hne (hw ▸ e)
    · rw [hw] at e; have := Option.some.inj e; have := hl.lt; omega
  exact ⟨h.low, Rep.val_keep (fun b hb hl => ⟨⟨hb.1, hq b hl hb.2⟩, ho.block b hl.lt hb.2⟩) h.gens, Rep.val_keep (fun b hb hl => ⟨⟨hb.1, hq b hl hb.2⟩, ho.block b hl.lt hb.2⟩) h.free, ha⟩
theorem StMid.write (h : StMid B W s vg vf ve z) {ve' : Value} {es : List DEnt} (ho : Only (fun b => ve.ownBlock = some b) W W') (ha : rEnt.acc 133 z (fun b => z ≤ b) W' ve' es) : StMid B W' ⟨s.gens, s.free, es⟩ vg vf ve' z :=
  ⟨h.low, Rep.acc_keep (fun b hb hl => ho.block b hl.lt (fun e => by have := h.gz b (hb.elim False.elim id); have := (Rep.acc_own h.ents b e).1; omega)) (fun _ h _ => h) h.gens,
   Rep.acc_keep (fun b hb hl => ho.block b hl.lt (fun e => by have := h.fz b (hb.elim False.elim id); have := (Rep.acc_own h.ents b e).1; omega)) (fun _ h _ => h) h.free, ha, h.gz, h.fz, h.gf⟩
/-- The last name that was given back is taken. -/
theorem acc_pop {α : Type} {r : Rep α} {e base : Nat} {Q : Nat → Prop} {A : Option Addr} {n c : Nat} {l : List α} {k : α} (h : r.acc e base Q W (.slice A n c) (l ++ [k])) : r.acc e base Q W (.slice A l.length c) l ∧ (Value.slice A l.length c).ownBlock = (Value.slice A n c).ownBlock := by
  obtain ⟨g, cap, cur, cells, he, _⟩ := acc_row h (by simp)
  cases he
  refine ⟨?_, rfl⟩
  have := acc_prefix (i := l.length) h (by simp) (by simp)
  simpa using this
theorem StMid.pop {A : Option Addr} {n c : Nat} {l : List Int} {k : Int} (h : StMid B W s vg (.slice A n c) ve z) (hs : s.free = l ++ [k]) : StMid B W ⟨s.gens, l, s.ents⟩ vg (.slice A l.length c) ve z := by
  have hf := h.free
  rw [hs] at hf
  obtain ⟨h1, h2⟩ := acc_pop hf
  exact ⟨h.low, h.gens, h1, h.ents, h.gz, fun b hb => h.fz b (h2 ▸ hb), fun b hb => h2 ▸ h.gf b hb⟩
/-- A number more. -/
theorem StMid.pushGen {vg' : Value} {x : Int} {y : Nat} (h : StMid B W s vg vf ve z) (ha : (Rep.int .i64).acc 3 B (fun _ => False) W' vg' (s.gens ++ [x])) (hg : W.grownBy W' vg.ownBlock) (hw : vg'.ownBlock = vg.ownBlock ∨ vg'.ownBlock = some y) (hy : W.heap.size ≤ y) :
    StLoose B W' ⟨s.gens ++ [x], s.free, s.ents⟩ vg' vf ve z := by
  refine ⟨h.low, Rep.val_mono (fun b hb _ => hb.elim False.elim (fun e => ⟨(Rep.acc_own ha b e).1, fun e2 => ?_⟩)) (Rep.acc_val ha),
    Rep.val_keep (fun b hb hl => ⟨hb.elim False.elim (fun e => ⟨(Rep.acc_own h.free b e).1, fun e2 => by have := h.fz b e; have := (Rep.acc_own h.ents b e2).1; omega⟩), hg.block b hl.lt (fun e => h.gf b e.symm (hb.elim False.elim id))⟩) (Rep.acc_val h.free),
    Rep.acc_keep (fun b hb hl => hg.block b hl.lt (fun e => by have := h.gz b e.symm; have : z ≤ b := hb.elim id (fun e => (Rep.acc_own h.ents b e).1); omega)) (fun _ h _ => h) h.ents⟩
  rcases hw with hw | hw
  · have := h.gz b (hw ▸ e); have := (Rep.acc_own h.ents b e2).1; omega
  · rw [hw] at e; have := Option.some.inj e; have := (Rep.acc_own h.ents b e2).2; omega
/-- A name more that was given back. -/
theorem StMid.pushFree {vf' : Value} {x : Int} {y : Nat} (h : StMid B W s vg vf ve z) (ha : (Rep.int .i64).acc 3 B (fun _ => False) W' vf' (s.free ++ [x])) (hg : W.grownBy W' vf.ownBlock) (hw : vf'.ownBlock = vf.ownBlock ∨ vf'.ownBlock = some y) (hy : W.heap.size ≤ y) :
    StLoose B W' ⟨s.gens, s.free ++ [x], s.ents⟩ vg vf' ve z := by
  refine ⟨h.low, Rep.val_keep (fun b hb hl => ⟨hb.elim False.elim (fun e => ⟨(Rep.acc_own h.gens b e).1, fun e2 => by have := h.gz b e; have := (Rep.acc_own h.ents b e2).1; omega⟩), hg.block b hl.lt (fun e => h.gf b (hb.elim False.elim id) e.symm)⟩) (Rep.acc_val h.gens),
    Rep.val_mono (fun b hb _ => hb.elim False.elim (fun e => ⟨(Rep.acc_own ha b e).1, fun e2 => ?_⟩)) (Rep.acc_val ha),
    Rep.acc_keep (fun b hb hl => hg.block b hl.lt (fun e => by have := h.fz b e.symm; have : z ≤ b := hb.elim id (fun e => (Rep.acc_own h.ents b e).1); omega)) (fun _ h _ => h) h.ents⟩
  rcases hw with hw | hw
  · have := h.fz b (hw ▸ e); have := (Rep.acc_own h.ents b e2).1; omega
  · rw [hw] at e; have := Option.some.inj e; have := (Rep.acc_own h.ents b e2).2; omega
/-- A number is written. -/
theorem StMid.setGen {i g : Nat} {x : Int} (h : StMid B W s vg vf ve z) (hg : vg.ownBlock = some g) (hi : i < s.gens.length) (hw : (Lit.int .i64 x).wf = true) : StMid B (W.setCell ⟨g, i, none⟩ (.int .i64 x)) ⟨s.gens.set i x, s.free, s.ents⟩ vg vf ve z := by
  have h1 := acc_cell (o := 0) (u := .int .i64 x) (x' := x) h.gens hg (List.getElem?_eq_getElem hi) (by decide) (fun es he => by
    obtain ⟨he, _⟩ := he
    subst he
    exact ⟨rfl, hw⟩)
  have hgz := h.gz g hg
  refine ⟨h.low, by simpa [Rep.int] using h1, acc_other h.free (fun _ h => h.elim) (h.gf g hg), acc_other h.ents (fun b hb e => by omega) (fun e => by have := (Rep.acc_own h.ents g e).1; omega), h.gz, h.fz, h.gf⟩
/-- An entity's parts are others. -/
theorem Deep.set_val {W1 : World} {l : List DEnt} {i g n c : Nat} {e : DEnt} {A : Option Addr} {ps : List DPart} (h : Deep W z cl ve raws l) (hN : ∀ b, b < z → cl b = none) (he : l[i]? = some e) (hg : ve.ownBlock = some g)
    (hk : ∀ b, b < W.heap.size → cl b ≠ some i → W1.heap[b]? = W.heap[b]?) (hp : rPart.list.val (fun b => cl b = some i ∨ W.heap.size ≤ b) W1 (.slice A n c) ps) :
    rEnt.acc 133 z (fun b => z ≤ b) (W1.setCell ⟨g, i * 3 + 2, none⟩ (.slice A n c)) ve (l.set i ⟨e.id, ps⟩) := by
  have hcg := h.own g hg
  have hgl := Rep.acc_own h.acc g hg
  have a1 : rBE.acc 133 z (fun _ => False) W1 ve raws := Rep.acc_keep (fun b hb hl => hk b hl.lt (by rw [h.own b (hb.elim False.elim id)]; simp)) (fun _ h _ => h) h.acc
  obtain ⟨vp, hx, hpo⟩ := h.part i e he
  have a2 := acc_cell (o := 2) (u := .slice A n c) (x' := (e.id, .slice A n c)) a1 hg hx (by decide) (fun es hes => by
    obtain ⟨_, hes, w0, w1⟩ := hes
    subst hes
    exact ⟨⟨A, n, c, rfl⟩, rfl, w0, w1⟩)
  have hlow : ∀ b j, cl b = some j → z ≤ b := fun b j hb => Nat.le_of_not_lt (fun hlt => by rw [hN b hlt] at hb; cases hb)
  refine ents_acc a2 (by simp [h.len]) (fun j e2 he2 => ?_)
  by_cases hj : i = j
  · subst hj
    have hil := (List.getElem?_eq_some_iff.1 he).1
    rw [List.getElem?_set_self hil] at he2
    obtain rfl := Option.some.inj he2
    refine ⟨_, List.getElem?_set_self (by rw [h.len]; exact hil), Rep.val_keep (fun b hb _ => ?_) hp⟩
    have hbg : b ≠ g := fun e => by
      rcases hb with hb | hb
      · rw [e, hcg] at hb; cases hb
      · omega
    refine ⟨⟨?_, fun e => hbg (by rw [hg] at e; exact (Option.some.inj e).symm)⟩, Below.heap_setCell _ _ _ _ hbg⟩
    rcases hb with hb | hb
    · exact hlow b i hb
    · omega
  · rw [List.getElem?_set_ne hj] at he2
    obtain ⟨v2, h1, h2⟩ := h.part j e2 he2
    refine ⟨v2, by rw [List.getElem?_set_ne hj]; exact h1, Rep.val_keep (fun b hb hl => ?_) h2.val⟩
    have hbg : b ≠ g := fun e => by rw [e, hcg] at hb; cases hb
    exact ⟨⟨hlow b j hb, fun e => hbg (by rw [hg] at e; exact (Option.some.inj e).symm)⟩, (Below.heap_setCell _ _ _ _ hbg).trans (hk b hl.lt (by rw [hb]; intro e; exact hj (Option.some.inj e).symm))⟩
theorem StOwn.set {W1 : World} {i g n c : Nat} {e : DEnt} {A : Option Addr} {ps : List DPart} (h : StOwn B W s vg vf ve z cl raws) (he : s.ents[i]? = some e) (hg : ve.ownBlock = some g)
    (hk : ∀ b, b < W.heap.size → cl b ≠ some i → W1.heap[b]? = W.heap[b]?) (hp : rPart.list.val (fun b => cl b = some i ∨ W.heap.size ≤ b) W1 (.slice A n c) ps) :
    StLoose B (W1.setCell ⟨g, i * 3 + 2, none⟩ (.slice A n c)) ⟨s.gens, s.free, s.ents.set i ⟨e.id, ps⟩⟩ vg vf ve z := by
  have hgl := (Rep.acc_own h.ents.acc g hg).1
  have hl := h.mid.loose
  have hkey : ∀ b, b < W.heap.size → b < z → (W1.setCell ⟨g, i * 3 + 2, none⟩ (.slice A n c)).heap[b]? = W.heap[b]? := fun b hb hz => (Below.heap_setCell _ _ _ _ (fun e2 => by have e3 : b = g := e2; omega)).trans (hk b hb (by rw [h.bare b hz]; simp))
  exact ⟨h.low, Rep.val_keep (fun b hb hl => ⟨hb.elim False.elim (fun e => ⟨(Rep.acc_own h.gens b e).1, fun e2 => by have := h.gz b e; have := (Rep.acc_own h.ents.acc b e2).1; omega⟩), hkey b hl.lt (h.gz b (hb.elim False.elim id))⟩) (Rep.acc_val h.gens),
    Rep.val_keep (fun b hb hl => ⟨hb.elim False.elim (fun e => ⟨(Rep.acc_own h.free b e).1, fun e2 => by have := h.fz b e; have := (Rep.acc_own h.ents.acc b e2).1; omega⟩), hkey b hl.lt (h.fz b (hb.elim False.elim id))⟩) (Rep.acc_val h.free), h.ents.set_val h.bare he hg hk hp⟩
end
end Go.Proofs.Yteljibjbndpncaa
