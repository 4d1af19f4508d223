/- Texts on which the proofs stand: SpawnMath, KeyMath, KeyOrder, MFind, Size. No condition is laid on any input. -/
import Derived.Test.YteljibjbndpncaaJsG8
import Derived.Laws.StructEq
namespace Go.Proofs.Yteljibjbndpncaa

/-- Where a new entity goes, and what stands behind k of the others. -/
def insAt (id : DID) (es : List DEnt) (k : Nat) : List DEnt :=
  if k ≤ (es.takeWhile (belowE id.index)).length then es.take k else es.takeWhile (belowE id.index) ++ ⟨id, []⟩ :: (es.take k).drop (es.takeWhile (belowE id.index)).length
theorem takeWhile_get {α : Type} {f : α → Bool} : ∀ {l : List α} {k : Nat} {x : α}, k < (l.takeWhile f).length → l[k]? = some x → f x = true
  | [], k, x, h, _ => by simp at h
  | y :: r, k, x, h, hx => by
    rw [List.takeWhile_cons] at h
    split at h
    · cases k with
      | zero => rw [List.getElem?_cons_zero] at hx; rwa [← Option.some.inj hx]
      | succ k => rw [List.getElem?_cons_succ] at hx; exact takeWhile_get (by simpa using h) hx
    · simp at h
theorem takeWhile_stop {α : Type} {f : α → Bool} : ∀ {l : List α} {x : α}, l[(l.takeWhile f).length]? = some x → f x = false
  | [], x, h => by simp at h
  | y :: r, x, h => by
    rw [List.takeWhile_cons] at h
    split at h
    · rw [List.length_cons, List.getElem?_cons_succ] at h; exact takeWhile_stop h
    · rename_i hy
      rw [List.length_nil, List.getElem?_cons_zero] at h
      rw [← Option.some.inj h]; simpa using hy
theorem takeWhile_take {α : Type} {f : α → Bool} : ∀ (l : List α), l.takeWhile f = l.take (l.takeWhile f).length
  | [] => rfl
  | y :: r => by
    rw [List.takeWhile_cons]
    split
    · rw [List.length_cons, List.take_succ_cons, ← takeWhile_take r]
    · rfl
theorem dropWhile_drop {α : Type} {f : α → Bool} : ∀ (l : List α), l.dropWhile f = l.drop (l.takeWhile f).length
  | [] => rfl
  | y :: r => by
    rw [List.takeWhile_cons, List.dropWhile_cons]
    split
    · rw [List.length_cons, List.drop_succ_cons, ← dropWhile_drop r]
    · rfl
theorem takeWhile_le {α : Type} {f : α → Bool} (l : List α) : (l.takeWhile f).length ≤ l.length := (List.takeWhile_sublist _).length_le
theorem insAt_len {id : DID} {es : List DEnt} {k : Nat} : (insAt id es k).length ≤ es.length + 1 := by
  have h := takeWhile_le (f := belowE id.index) es
  unfold insAt
  split
  · rw [List.length_take]; omega
  · rw [List.length_append, List.length_cons, List.length_drop, List.length_take]; omega
theorem insAt_zero {id : DID} {es : List DEnt} : insAt id es 0 = [] := by unfold insAt; rw [if_pos (Nat.zero_le _), List.take_zero]
theorem insAt_before {id : DID} {es : List DEnt} {k : Nat} {e : DEnt} (he : es[k]? = some e) (h : k < (es.takeWhile (belowE id.index)).length) : insAt id es k ++ [e] = insAt id es (k + 1) := by
  unfold insAt
  rw [if_pos (by omega), if_pos (by omega), List.take_add_one, he]; rfl
theorem insAt_at {id : DID} {es : List DEnt} {k : Nat} {e : DEnt} (he : es[k]? = some e) (h : k = (es.takeWhile (belowE id.index)).length) : insAt id es k ++ [⟨id, []⟩] ++ [e] = insAt id es (k + 1) := by
  unfold insAt
  rw [if_pos (by omega), if_neg (by omega), ← h, List.take_add_one, he, takeWhile_take es, ← h, List.drop_append_of_le_length (by rw [List.length_take]; have := (List.getElem?_eq_some_iff.1 he).1; omega)]
  simp
theorem insAt_behind {id : DID} {es : List DEnt} {k : Nat} {e : DEnt} (he : es[k]? = some e) (h : (es.takeWhile (belowE id.index)).length < k) : insAt id es k ++ [e] = insAt id es (k + 1) := by
  unfold insAt
  rw [if_neg (by omega), if_neg (by omega), List.take_add_one, he, List.drop_append_of_le_length (by rw [List.length_take]; have := (List.getElem?_eq_some_iff.1 he).1; omega)]
  simp
theorem insAt_end {id : DID} {es : List DEnt} (h : (es.takeWhile (belowE id.index)).length < es.length) : insAt id es es.length = insEnt id es := by
  unfold insAt insEnt
  rw [if_neg (by omega), List.take_length, dropWhile_drop]
theorem insAt_last {id : DID} {es : List DEnt} (h : (es.takeWhile (belowE id.index)).length = es.length) : insAt id es es.length ++ [⟨id, []⟩] = insEnt id es := by
  unfold insAt insEnt
  rw [if_pos (by omega), List.take_length, dropWhile_drop, h, List.drop_length, takeWhile_take es, h, List.take_length]
/-- What spawning makes of the names. -/
theorem spawn_full {c : DConf} {s : DState} (ht : (takeI (idsOf c s)).2.2 ≠ 0) : takeI (idsOf c s) = (idsOf c s, noID, 9) ∧ spawnS c s = (s, noID, 9) := by
  unfold takeI spawnS idsOf at *
  dsimp only at ht ⊢
  split at ht
  · exact absurd rfl ht
  · rename_i hn
    rw [hn]
    split at ht
    · rename_i he
      dsimp only
      rw [if_pos he]
      exact ⟨rfl, if_pos he⟩
    · exact absurd rfl ht
theorem spawn_more {c : DConf} {s : DState} (h : StOk c s) (ht : (takeI (idsOf c s)).2.2 = 0) : ∃ y id, takeI (idsOf c s) = (y, id, 0) ∧ spawnS c s = (⟨y.gens, y.free, insEnt id s.ents⟩, id, 0) ∧
    (∀ e ∈ s.ents, e.id.index ≠ id.index) ∧ (Lit.int .i64 id.index).wf = true ∧ (Lit.int .i64 id.gen).wf = true := by
  have hsm := h.small
  have hgl := (right_facts h.conf).1
  unfold takeI spawnS idsOf at *
  dsimp only at ht ⊢
  split at ht
  · rename_i k hk
    have hkm : k ∈ s.free := List.mem_of_getLast? hk
    obtain ⟨k0, g, hg, hg0, hg1⟩ := h.free k hkm
    have hkl := (List.getElem?_eq_some_iff.1 hg).1
    rw [hk]
    have hgd : s.gens.getD k.toNat 0 = g := by rw [List.getD_eq_getElem?_getD, hg]; rfl
    refine ⟨_, _, rfl, rfl, fun e he hi => (h.idx he).2.2.2.2 (by have h1 : e.id.index = k := hi; rw [h1]; exact hkm), ?_, ?_⟩
    · show (Lit.int .i64 k).wf = true
      exact wf_i64 (by omega) (by omega)
    · show (Lit.int .i64 (s.gens.getD k.toNat 0)).wf = true
      rw [hgd]; exact wf_i64 (by omega) (by omega)
  · rename_i hn
    rw [hn]
    split at ht
    · cases ht
    · rename_i he
      dsimp only
      rw [if_neg he, if_neg he]
      exact ⟨_, _, rfl, rfl, fun e he2 hi => by have := (h.idx he2).2.1; have h1 : e.id.index = (s.gens.length : Int) := hi; omega, (show (Lit.int .i64 (s.gens.length : Int)).wf = true from wf_i64 (by omega) (by omega)), (show (Lit.int .i64 (0 : Int)).wf = true by decide)⟩
end Go.Proofs.Yteljibjbndpncaa
namespace Go.Proofs.Yteljibjbndpncaa
open Go.RowKit

def cmpI (a b : Int) : Int := if a < b then -1 else if b < a then 1 else 0
/-- What stands at a place of a row of bytes. -/
def At2 (b : List UInt8) (a : Nat) (x : List UInt8) : Prop := ∃ A C, A.length = a ∧ b = A ++ (x ++ C)
theorem At2.left {b x y : List UInt8} {a : Nat} (h : At2 b a (x ++ y)) : At2 b a x := by
  obtain ⟨A, C, h1, h2⟩ := h
  exact ⟨A, y ++ C, h1, by rw [h2, List.append_assoc]⟩
theorem At2.right {b x y : List UInt8} {a k : Nat} (h : At2 b a (x ++ y)) (hk : k = a + x.length) : At2 b k y := by
  obtain ⟨A, C, h1, h2⟩ := h
  exact ⟨A ++ x, C, by rw [List.length_append, h1, hk], by rw [h2, List.append_assoc, List.append_assoc]⟩
theorem At2.nat {b : List UInt8} {a w n : Nat} (h : At2 b a (num (w : Int) (n : Int))) (h1 : 1 ≤ w) (h8 : w ≤ 8) (hn : n < 256 ^ w) : natAt b a w = n := by
  obtain ⟨A, C, ha, rfl⟩ := h
  exact natAt_num ha h1 h8 hn
theorem At2.le {b x : List UInt8} {a : Nat} (h : At2 b a x) : a + x.length ≤ b.length := by
  obtain ⟨A, C, ha, rfl⟩ := h
  rw [List.length_append, List.length_append, ha]; omega
end Go.Proofs.Yteljibjbndpncaa
namespace Go.Proofs.Yteljibjbndpncaa
open Go.RowKit

/-- cmp.Compare of ints -/
theorem cmpInt_calls (a b : Int) (w : World) : Calls Try.prog 196 #[.int .i64 a, .int .i64 b] w fun e w' => e = .returned (.int .i64 (cmpI a b)) ∧ w' = w := by
  by_cases h1 : a < b
  · have HF := Lib.hid (show cmpI a b = -1 from if_pos h1)
    go_enter Try.func196, Try.ntmps196
    go_wp2
    go_ret
    exact ⟨by rw [HF.out]; rfl, rfl⟩
  · by_cases h2 : b < a
    · have HF := Lib.hid (show cmpI a b = 1 from (if_neg h1).trans (if_pos h2))
      go_enter Try.func196, Try.ntmps196
      go_wp2
      go_ret
      exact ⟨by rw [HF.out]; rfl, rfl⟩
    · have HF := Lib.hid (show cmpI a b = 0 from (if_neg h1).trans (if_neg h2))
      go_enter Try.func196, Try.ntmps196
      go_wp2
      go_ret
      exact ⟨by rw [HF.out]; rfl, rfl⟩

end Go.Proofs.Yteljibjbndpncaa
namespace Go.Proofs.Yteljibjbndpncaa
open Go.RowKit

theorem takeWhile_more {α : Type} {f : α → Bool} : ∀ {l : List α} {k : Nat} {x : α}, k ≤ (l.takeWhile f).length → l[k]? = some x → f x = true → k + 1 ≤ (l.takeWhile f).length
  | [], k, x, _, h, _ => by simp at h
  | y :: r, 0, x, _, h, hf => by
    rw [List.getElem?_cons_zero] at h
    rw [List.takeWhile_cons, Option.some.inj h, hf]; simp
  | y :: r, k + 1, x, h, hx, hf => by
    rw [List.takeWhile_cons] at h ⊢
    split
    · rename_i hy
      rw [if_pos hy, List.length_cons] at h
      rw [List.getElem?_cons_succ] at hx
      have := takeWhile_more (by omega) hx hf
      rw [List.length_cons]; omega
    · rename_i hy
      rw [if_neg hy] at h
      simp at h
theorem takeWhile_here {α : Type} {f : α → Bool} {l : List α} {k : Nat} {x : α} (hk : k ≤ (l.takeWhile f).length) (hx : l[k]? = some x) (hf : f x = false) : (l.takeWhile f).length = k := by
  rcases Nat.lt_or_ge k (l.takeWhile f).length with h | h
  · rw [takeWhile_get h hx] at hf; cases hf
  · omega
/-- Is it at its place? -/
def hereE (l : List DEnt) (i : Int) : Bool := match l[(l.takeWhile (belowE i)).length]? with | some e => decide (e.id.index = i) | none => false
def hereP (l : List DPart) (k : Int) : Bool := match l[(l.takeWhile (belowP k)).length]? with | some e => decide (e.comp = k) | none => false


set_option maxRecDepth 100000 in
/-- model.ent$1 -/
theorem belowE_calls {w : World} {e : DEnt} {Ap : Option Addr} {cp : Nat} {B : Nat} {i : Int} (h0 : w.cell? ⟨B, 0, none⟩ = some (.int .i64 i)) :
    Calls Try.prog 195 #[.agg #[.int .i64 e.id.index, .int .i64 e.id.gen, .slice Ap e.parts.length cp], .pointer (some ⟨B, 0, none⟩)] w fun en w' => en = .returned (.int .i64 (cmpI (e.id.index) i)) ∧ Below w.heap.size w w' := by
  obtain ⟨W0, hW0⟩ : ∃ W, (w.alloc (.cells #[.int .i64 e.id.index, .int .i64 e.id.gen, .slice Ap e.parts.length cp] 133)) = W := ⟨_, rfl⟩
  have hz0 : W0.heap.size = w.heap.size + 1 := by rw [← hW0]; simp
  have hb0 : Below w.heap.size w W0 := by rw [← hW0]; exact (Below.refl _ _).alloc (Nat.le_refl _) _
  have HZ := Lib.hid hz0
  have HB0 := Lib.hid hb0
  have R0_0 := Lib.hid (show W0.heap[w.heap.size]? = some (.cells #[.int .i64 e.id.index, .int .i64 e.id.gen, .slice Ap e.parts.length cp] 133 (0, 0)) by rw [← hW0]; exact alloc_at rfl)
  have O0 := Lib.hid (Only.refl (Box w 1) W0)
  have g0 := cell_call hb0 h0
  clear h0
  clear hz0 hb0
  have q0_0 := rw3 R0_0.out
  go_enter Try.func195, Try.ntmps195
  go_wp2_with fail
  try rw [hW0]
  clear hW0
  try go_wp2_with fail
  clear q0_0
  refine (cmpInt_calls _ _ _).mono ?_
  rintro en w1 ⟨rfl, hw⟩
  have hb : Below W0.heap.size W0 w1 := by rw [hw]; exact Below.refl _ _
  clear hw
  have S1 := Lib.hid (show Only (Box w 1) W0 w1 from Only.of_below hb)
  have O1 := Lib.hid (O0.out.trans S1.out)
  have R0_1 := Lib.hid (row_call hb R0_0.out)
  clear hb g0
  try go_wp2_with fail
  go_ret
  exact ⟨rfl, Only.fin HB0.out O1.out⟩

set_option maxRecDepth 100000 in
set_option maxHeartbeats 2000000 in
/-- model.find[api.Ent] -/
theorem findE_calls {Q : Nat → Prop} {w : World} {v : Value} {l : List DEnt} {B : Nat} {i : Int} (hx : rEnt.list.val Q w v l) (h0 : w.cell? ⟨B, 0, none⟩ = some (.int .i64 i)) :
    Calls Try.prog 194 #[v, .func (.func 195) #[] #[.pointer (some ⟨B, 0, none⟩)]] w fun en w' => en = .returned (.tuple #[.int .i64 ((l.takeWhile (belowE i)).length : Nat), .bool (hereE l i)]) ∧ Below w.heap.size w w' := by
  obtain ⟨A, c, rfl, hc1, hc2, hA⟩ := Rep.val_list hx
  unfold maxLen at hc2
  have HA := Lib.hid (show ∀ V, Below w.heap.size w V → rEnt.At Q V A l from fun V h => Rep.At.keep (fun b hb hl => ⟨hb, h.block b hl.lt⟩) hA)
  have H0 := Lib.hid (show ∀ V, Below w.heap.size w V → V.cell? ⟨B, 0, none⟩ = some (.int .i64 i) from fun V h => cell_call h h0)
  obtain ⟨p, hp⟩ : ∃ p, (l.takeWhile (belowE i)).length = p := ⟨_, rfl⟩
  have HP := Lib.hid hp
  have HLE := Lib.hid (takeWhile_le (f := belowE i) l)
  rw [hp] at HLE
  rw [hp]
  clear hx hA h0 hp
  go_enter Try.func194, Try.ntmps194
  go_wp2_with fail
  go_loopw [6] (fun u wr => ∃ k : Nat, u = .int .i64 k ∧ k ≤ l.length ∧ k ≤ p ∧ Hid (Below w.heap.size w wr)) (fun u _ => l.length - (intOf u).toNat)
  case atStart => exact ⟨0, rfl, Nat.zero_le _, Nat.zero_le _, Lib.hid (Below.refl _ _)⟩
  case round =>
    obtain ⟨k, rfl, hk, hkp, HBR⟩ := hrel
    by_cases hlt : (k : Int) < l.length
    · obtain ⟨e, he⟩ : ∃ e, l[k]? = some e := ⟨_, List.getElem?_eq_getElem (by omega)⟩
      obtain ⟨b, off, Ap, cp, rfl, _, e0, e1, e2, _, _, _⟩ := rEnt_at (HA.out _ HBR.out) he
      have HE := Lib.hid he
      have E0 := Lib.hid e0
      have E1 := Lib.hid e1
      have E2 := Lib.hid e2
      clear he
      go_wp2_with fail
      clear e0 e1 e2
      refine (belowE_calls (H0.out _ HBR.out)).mono ?_
      rintro en w1 ⟨rfl, hb⟩
      have B1 := Lib.hid (HBR.out.trans (hb.mono HBR.out.size))
      have e0 := cell_call hb E0.out
      have e1 := cell_call hb E1.out
      have e2 := cell_call hb E2.out
      clear hb
      by_cases hlo : e.id.index < i
      · have hcm : cmpI (e.id.index) i = -1 := by unfold cmpI; simp [hlo]
        have HK := Lib.hid (takeWhile_more (f := belowE i) (by rw [HP.out]; exact hkp) HE.out (by unfold belowE; simp [hlo]))
        rw [hcm]
        clear hcm
        go_wp2_with fail
        exact ⟨⟨k + 1, by go_num, by omega, by have := HK.out; have := HP.out; omega, B1⟩, by simp [intOf]; omega⟩
      · have hkq : p = k := HP.out.symm.trans (takeWhile_here (f := belowE i) (by rw [HP.out]; exact hkp) HE.out (by unfold belowE; simp; omega))
        by_cases heq : e.id.index = i
        · have hcm : cmpI (e.id.index) i = 0 := by unfold cmpI; simp [heq]
          have HF := Lib.hid (show hereE l i = true by unfold hereE; rw [HP.out, hkq, HE.out]; simp [heq])
          have HCM := Lib.hid hcm
          rw [hcm]
          clear hcm heq hlo
          go_wp2_with fail
          clear e0 e1 e2
          refine (belowE_calls (H0.out _ B1.out)).mono ?_
          rintro en w2 ⟨rfl, hb⟩
          rw [HCM.out]
          have B2 := Lib.hid (B1.out.trans (hb.mono B1.out.size))
          clear hb
          go_wp2_with fail
          go_ret2
          exact ⟨by rw [HF.out, hkq]; rfl, B2.out⟩
        · have hcm : cmpI (e.id.index) i = 1 := by unfold cmpI; rw [if_neg hlo, if_pos (by omega)]
          have HF := Lib.hid (show hereE l i = false by unfold hereE; rw [HP.out, hkq, HE.out]; simp [heq])
          have HCM := Lib.hid hcm
          rw [hcm]
          clear hcm heq hlo
          go_wp2_with fail
          clear e0 e1 e2
          refine (belowE_calls (H0.out _ B1.out)).mono ?_
          rintro en w2 ⟨rfl, hb⟩
          rw [HCM.out]
          have B2 := Lib.hid (B1.out.trans (hb.mono B1.out.size))
          clear hb
          go_wp2_with fail
          go_ret2
          exact ⟨by rw [HF.out, hkq]; rfl, B2.out⟩
    · obtain rfl : k = l.length := by omega
      have hpn : p = l.length := by have := HLE.out; omega
      have HF := Lib.hid (show hereE l i = false by unfold hereE; rw [HP.out, hpn, List.getElem?_eq_none (Nat.le_refl _)])
      go_wp2_with fail
      go_ret2
      exact ⟨by first | (rw [HF.out, hpn]; rfl) | (rw [HF.out]; rfl), HBR.out⟩

set_option maxRecDepth 100000 in
/-- model.part$1 -/
theorem belowP_calls {w : World} {e : DPart} {Ap : Option Addr} {cp : Nat} {B : Nat} {i : Int} (h0 : w.cell? ⟨B, 0, none⟩ = some (.int .i64 i)) :
    Calls Try.prog 199 #[.agg #[.int .i64 e.comp, .slice Ap e.data.length cp], .pointer (some ⟨B, 0, none⟩)] w fun en w' => en = .returned (.int .i64 (cmpI (e.comp) i)) ∧ Below w.heap.size w w' := by
  obtain ⟨W0, hW0⟩ : ∃ W, (w.alloc (.cells #[.int .i64 e.comp, .slice Ap e.data.length cp] 135)) = W := ⟨_, rfl⟩
  have hz0 : W0.heap.size = w.heap.size + 1 := by rw [← hW0]; simp
  have hb0 : Below w.heap.size w W0 := by rw [← hW0]; exact (Below.refl _ _).alloc (Nat.le_refl _) _
  have HZ := Lib.hid hz0
  have HB0 := Lib.hid hb0
  have R0_0 := Lib.hid (show W0.heap[w.heap.size]? = some (.cells #[.int .i64 e.comp, .slice Ap e.data.length cp] 135 (0, 0)) by rw [← hW0]; exact alloc_at rfl)
  have O0 := Lib.hid (Only.refl (Box w 1) W0)
  have g0 := cell_call hb0 h0
  clear h0
  clear hz0 hb0
  have q0_0 := rw2 R0_0.out
  go_enter Try.func199, Try.ntmps199
  go_wp2_with fail
  try rw [hW0]
  clear hW0
  try go_wp2_with fail
  clear q0_0
  refine (cmpInt_calls _ _ _).mono ?_
  rintro en w1 ⟨rfl, hw⟩
  have hb : Below W0.heap.size W0 w1 := by rw [hw]; exact Below.refl _ _
  clear hw
  have S1 := Lib.hid (show Only (Box w 1) W0 w1 from Only.of_below hb)
  have O1 := Lib.hid (O0.out.trans S1.out)
  have R0_1 := Lib.hid (row_call hb R0_0.out)
  clear hb g0
  try go_wp2_with fail
  go_ret
  exact ⟨rfl, Only.fin HB0.out O1.out⟩

set_option maxRecDepth 100000 in
set_option maxHeartbeats 2000000 in
/-- model.find[api.Part] -/
theorem findP_calls {Q : Nat → Prop} {w : World} {v : Value} {l : List DPart} {B : Nat} {i : Int} (hx : rPart.list.val Q w v l) (h0 : w.cell? ⟨B, 0, none⟩ = some (.int .i64 i)) :
    Calls Try.prog 198 #[v, .func (.func 199) #[] #[.pointer (some ⟨B, 0, none⟩)]] w fun en w' => en = .returned (.tuple #[.int .i64 ((l.takeWhile (belowP i)).length : Nat), .bool (hereP l i)]) ∧ Below w.heap.size w w' := by
  obtain ⟨A, c, rfl, hc1, hc2, hA⟩ := Rep.val_list hx
  unfold maxLen at hc2
  have HA := Lib.hid (show ∀ V, Below w.heap.size w V → rPart.At Q V A l from fun V h => Rep.At.keep (fun b hb hl => ⟨hb, h.block b hl.lt⟩) hA)
  have H0 := Lib.hid (show ∀ V, Below w.heap.size w V → V.cell? ⟨B, 0, none⟩ = some (.int .i64 i) from fun V h => cell_call h h0)
  obtain ⟨p, hp⟩ : ∃ p, (l.takeWhile (belowP i)).length = p := ⟨_, rfl⟩
  have HP := Lib.hid hp
  have HLE := Lib.hid (takeWhile_le (f := belowP i) l)
  rw [hp] at HLE
  rw [hp]
  clear hx hA h0 hp
  go_enter Try.func198, Try.ntmps198
  go_wp2_with fail
  go_loopw [6] (fun u wr => ∃ k : Nat, u = .int .i64 k ∧ k ≤ l.length ∧ k ≤ p ∧ Hid (Below w.heap.size w wr)) (fun u _ => l.length - (intOf u).toNat)
  case atStart => exact ⟨0, rfl, Nat.zero_le _, Nat.zero_le _, Lib.hid (Below.refl _ _)⟩
  case round =>
    obtain ⟨k, rfl, hk, hkp, HBR⟩ := hrel
    by_cases hlt : (k : Int) < l.length
    · obtain ⟨e, he⟩ : ∃ e, l[k]? = some e := ⟨_, List.getElem?_eq_getElem (by omega)⟩
      obtain ⟨b, off, Ap, cp, rfl, _, e0, e1, _, _⟩ := rPart_at (HA.out _ HBR.out) he
      have HE := Lib.hid he
      have E0 := Lib.hid e0
      have E1 := Lib.hid e1
      skip
      clear he
      go_wp2_with fail
      clear e0 e1 
      refine (belowP_calls (H0.out _ HBR.out)).mono ?_
      rintro en w1 ⟨rfl, hb⟩
      have B1 := Lib.hid (HBR.out.trans (hb.mono HBR.out.size))
      have e0 := cell_call hb E0.out
      have e1 := cell_call hb E1.out
      skip
      clear hb
      by_cases hlo : e.comp < i
      · have hcm : cmpI (e.comp) i = -1 := by unfold cmpI; simp [hlo]
        have HK := Lib.hid (takeWhile_more (f := belowP i) (by rw [HP.out]; exact hkp) HE.out (by unfold belowP; simp [hlo]))
        rw [hcm]
        clear hcm
        go_wp2_with fail
        exact ⟨⟨k + 1, by go_num, by omega, by have := HK.out; have := HP.out; omega, B1⟩, by simp [intOf]; omega⟩
      · have hkq : p = k := HP.out.symm.trans (takeWhile_here (f := belowP i) (by rw [HP.out]; exact hkp) HE.out (by unfold belowP; simp; omega))
        by_cases heq : e.comp = i
        · have hcm : cmpI (e.comp) i = 0 := by unfold cmpI; simp [heq]
          have HF := Lib.hid (show hereP l i = true by unfold hereP; rw [HP.out, hkq, HE.out]; simp [heq])
          have HCM := Lib.hid hcm
          rw [hcm]
          clear hcm heq hlo
          go_wp2_with fail
          clear e0 e1 
          refine (belowP_calls (H0.out _ B1.out)).mono ?_
          rintro en w2 ⟨rfl, hb⟩
          rw [HCM.out]
          have B2 := Lib.hid (B1.out.trans (hb.mono B1.out.size))
          clear hb
          go_wp2_with fail
          go_ret2
          exact ⟨by rw [HF.out, hkq]; rfl, B2.out⟩
        · have hcm : cmpI (e.comp) i = 1 := by unfold cmpI; rw [if_neg hlo, if_pos (by omega)]
          have HF := Lib.hid (show hereP l i = false by unfold hereP; rw [HP.out, hkq, HE.out]; simp [heq])
          have HCM := Lib.hid hcm
          rw [hcm]
          clear hcm heq hlo
          go_wp2_with fail
          clear e0 e1 
          refine (belowP_calls (H0.out _ B1.out)).mono ?_
          rintro en w2 ⟨rfl, hb⟩
          rw [HCM.out]
          have B2 := Lib.hid (B1.out.trans (hb.mono B1.out.size))
          clear hb
          go_wp2_with fail
          go_ret2
          exact ⟨by rw [HF.out, hkq]; rfl, B2.out⟩
    · obtain rfl : k = l.length := by omega
      have hpn : p = l.length := by have := HLE.out; omega
      have HF := Lib.hid (show hereP l i = false by unfold hereP; rw [HP.out, hpn, List.getElem?_eq_none (Nat.le_refl _)])
      go_wp2_with fail
      go_ret2
      exact ⟨by first | (rw [HF.out, hpn]; rfl) | (rw [HF.out]; rfl), HBR.out⟩

set_option maxRecDepth 100000 in
set_option maxHeartbeats 1000000 in
/-- model.part -/
theorem mpart_calls {Q : Nat → Prop} {w : World} {v : Value} {l : List DPart} {k : Int} (hx : rPart.list.val Q w v l) :
    Calls Try.prog 188 #[v, .int .i64 k] w fun en w' => en = .returned (.tuple #[.int .i64 ((l.takeWhile (belowP k)).length : Nat), .bool (hereP l k)]) ∧ Below w.heap.size w w' := by
  have HX := Lib.hid hx
  clear hx
  obtain ⟨W0, hW0⟩ : ∃ W, (w.alloc (.cells #[.int .i64 k] 3)) = W := ⟨_, rfl⟩
  have hz0 : W0.heap.size = w.heap.size + 1 := by rw [← hW0]; simp
  have hb0 : Below w.heap.size w W0 := by rw [← hW0]; exact (Below.refl _ _).alloc (Nat.le_refl _) _
  have HZ := Lib.hid hz0
  have HB0 := Lib.hid hb0
  have R0_0 := Lib.hid (show W0.heap[w.heap.size]? = some (.cells #[.int .i64 k] 3 (0, 0)) by rw [← hW0]; exact alloc_at rfl)
  have O0 := Lib.hid (Only.refl (Box w 1) W0)
  have Vl_0 := Lib.hid (show rPart.list.val (In Q w 1) W0 (v) l from val_in HX.out hb0)
  clear hz0 hb0
  have q0_0 := rw1 R0_0.out
  go_enter Try.func188, Try.ntmps188
  go_wp2_with fail
  try rw [hW0]
  clear hW0
  try go_wp2_with fail
  clear q0_0
  refine (findP_calls Vl_0.out (cell_row R0_0.out 0)).mono ?_
  rintro en w1 ⟨rfl, hb⟩
  have S1 := Lib.hid (show Only (Box w 1) W0 w1 from Only.of_below hb)
  have O1 := Lib.hid (O0.out.trans S1.out)
  have R0_1 := Lib.hid (row_call hb R0_0.out)
  have Vl_1 := Lib.hid (val_only Vl_0.out S1.out)
  clear hb
  go_wp2_with fail
  go_ret2
  exact ⟨rfl, Only.fin HB0.out O1.out⟩

/-- Where an entity stands, and whether it does. -/
def entB (s : DState) (id : DID) : Bool := match s.ents[(s.ents.takeWhile (belowE id.index)).length]? with | some e => decide (e.id = id) | none => false
theorem entB_some {s : DState} {id : DID} {e : DEnt} (h : s.ents[(s.ents.takeWhile (belowE id.index)).length]? = some e) : entB s id = decide (e.id = id) := by unfold entB; rw [h]

set_option maxRecDepth 100000 in
set_option maxHeartbeats 2000000 in
/-- model.ent -/
theorem ment_calls {Q : Nat → Prop} {w : World} {v : Value} {s : DState} {id : DID} (hx : rState.val Q w v s) :
    Calls Try.prog 185 #[v, .agg #[.int .i64 id.index, .int .i64 id.gen]] w fun en w' => en = .returned (.tuple #[.int .i64 ((s.ents.takeWhile (belowE id.index)).length : Nat), .bool (entB s id)]) ∧ Below w.heap.size w w' := by
  obtain ⟨A1, c1, A2, c2, A3, c3, rfl, _, _, f3⟩ := rState_val hx
  have m3 := f3.1
  have l3 := f3.2.1
  unfold maxLen at l3
  have F3 := Lib.hid f3
  obtain ⟨p, hp⟩ : ∃ p, (s.ents.takeWhile (belowE id.index)).length = p := ⟨_, rfl⟩
  have HP := Lib.hid hp
  rw [hp]
  clear hx f3 hp
  obtain ⟨W0, hW0⟩ : ∃ W, ((w.alloc (.cells #[.slice A1 s.gens.length c1, .slice A2 s.free.length c2, .slice A3 s.ents.length c3] 75)).alloc (.cells #[.int .i64 id.index, .int .i64 id.gen] 114)) = W := ⟨_, rfl⟩
  have hz0 : W0.heap.size = w.heap.size + 2 := by rw [← hW0]; simp
  have hb0 : Below w.heap.size w W0 := by rw [← hW0]; exact ((Below.refl _ _).alloc (Nat.le_refl _) _).alloc (by first | (simp; done) | (simp; omega)) _
  have HZ := Lib.hid hz0
  have HB0 := Lib.hid hb0
  have R0_0 := Lib.hid (show W0.heap[w.heap.size]? = some (.cells #[.slice A1 s.gens.length c1, .slice A2 s.free.length c2, .slice A3 s.ents.length c3] 75 (0, 0)) by rw [← hW0]; exact alloc_old (alloc_at rfl))
  have R1_0 := Lib.hid (show W0.heap[w.heap.size + 1]? = some (.cells #[.int .i64 id.index, .int .i64 id.gen] 114 (0, 0)) by rw [← hW0]; exact alloc_at (by simp))
  have O0 := Lib.hid (Only.refl (Box w 2) W0)
  have Ve_0 := Lib.hid (show rEnt.list.val (In Q w 2) W0 (.slice A3 s.ents.length c3) s.ents from val_in F3.out.val hb0)
  obtain ⟨h, hh⟩ : ∃ h, hereE s.ents id.index = h := ⟨_, rfl⟩
  have HH := Lib.hid hh
  clear hh
  cases h with
  | false =>
    have HE := Lib.hid (show entB s id = false by have h1 := HH.out; unfold hereE at h1; unfold entB; split <;> rename_i h2; (· rw [h2] at h1; simp at h1; exact decide_eq_false (fun h => h1 (by rw [h]))); rfl)
    clear hz0 hb0
    have q0_0 := rw3 R0_0.out
    have q1_0 := rw2 R1_0.out
    go_enter Try.func185, Try.ntmps185
    go_wp2_with fail
    try rw [hW0]
    clear hW0
    try go_wp2_with fail
    clear q0_0 q1_0
    refine (findE_calls Ve_0.out (cell_row R1_0.out 0)).mono ?_
    rintro en w1 ⟨rfl, hb⟩
    rw [HP.out, HH.out]
    have S1 := Lib.hid (show Only (Box w 2) W0 w1 from Only.of_below hb)
    have O1 := Lib.hid (O0.out.trans S1.out)
    have R0_1 := Lib.hid (row_call hb R0_0.out)
    have R1_1 := Lib.hid (row_call hb R1_0.out)
    have Ve_1 := Lib.hid (val_only Ve_0.out S1.out)
    clear hb
    have q0_0 := cl3 R0_1.out
    have q1_0 := cl2 R1_1.out
    go_wp2_with fail
    clear q0_0 q1_0
    refine wp_region_held_drew (S := fun W => Below w1.heap.size w1 W) (by kernel_rfl) ((Below.refl _ _).drew) (fun s0 => ?_)
    obtain ⟨v1, hv0⟩ : ∃ V, V = w1.drew := ⟨_, rfl⟩
    rw [← hv0] at s0 ⊢
    have t1 : Below w1.heap.size w1 v1 := s0
    clear hv0 s0
    refine tkHV (i := 0) (v := .int .i64 p) rfl t1 ?_
    go_simp
    refine tkHV (i := 1) (v := .bool false) rfl t1 ?_
    go_simp
    refine tkHV (i := 2) (v := .bool false) rfl t1 ?_
    go_simp
    refine tkH (i := 3) (v := undef) rfl (Or.inr ⟨by rfl, rfl⟩) t1 ?_
    go_simp
    refine tkH (i := 4) (v := undef) rfl (Or.inr ⟨by rfl, rfl⟩) t1 ?_
    go_simp
    refine tkH (i := 5) (v := undef) rfl (Or.inr ⟨by rfl, rfl⟩) t1 ?_
    go_simp
    refine tkH (i := 6) (v := undef) rfl (Or.inr ⟨by rfl, rfl⟩) t1 ?_
    go_simp
    refine tkH (i := 7) (v := undef) rfl (Or.inr ⟨by rfl, rfl⟩) t1 ?_
    go_simp
    refine tkH (i := 8) (v := undef) rfl (Or.inr ⟨by rfl, rfl⟩) t1 ?_
    go_simp
    refine tkH (i := 9) (v := undef) rfl (Or.inr ⟨by rfl, rfl⟩) t1 ?_
    go_simp
    refine tkH (i := 10) (v := undef) rfl (Or.inr ⟨by rfl, rfl⟩) t1 ?_
    go_simp
    refine tkHV (i := 11) (v := .bool false) rfl t1 ?_
    go_simp
    refine tkHV (i := 12) (v := .int .i64 p) rfl t1 ?_
    go_simp
    refine tkHV (i := 13) (v := .bool false) rfl t1 ?_
    go_simp
    refine wpAnyH_done (by kernel_rfl) ?_ _
    have S2 := Lib.hid (show Only (Box w 2) w1 v1 from Only.of_below t1)
    have O2 := Lib.hid (O1.out.trans S2.out)
    have R0_2 := Lib.hid (row_call t1 R0_1.out)
    have R1_2 := Lib.hid (row_call t1 R1_1.out)
    have Ve_2 := Lib.hid (val_only Ve_1.out S2.out)
    have q0_0 := cl3 R0_2.out
    have q1_0 := cl2 R1_2.out
    try go_wp2_with fail
    clear q0_0 q1_0
    go_ret2
    exact ⟨by rw [HE.out]; rfl, Only.fin HB0.out O2.out⟩
  | true =>
    obtain ⟨e, he, hei⟩ : ∃ e, s.ents[p]? = some e ∧ e.id.index = id.index := by
      have h1 := HH.out
      unfold hereE at h1
      rw [HP.out] at h1
      rcases h2 : s.ents[p]? with _ | e
      · rw [h2] at h1; cases h1
      · rw [h2] at h1; exact ⟨e, rfl, by simpa using h1⟩
    have HEB := Lib.hid (entB_some (id := id) (s := s) (e := e) (by rw [HP.out]; exact he))
    have hpl : p < s.ents.length := (List.getElem?_eq_some_iff.1 he).1
    obtain ⟨b, off, Ap, cp, rfl, _, k0, k1, _, _, _, _⟩ := rEnt_at (sl_of Ve_0.out).2.2 he
    rw [hei] at k0
    have K0 := Lib.hid k0
    have K1 := Lib.hid k1
    have HEI := Lib.hid hei
    clear k0 k1 he hei
    by_cases hg : e.id.gen = id.gen
    · skip
      have HE := Lib.hid (show entB s id = true by rw [HEB.out]; exact decide_eq_true (DID.ext HEI.out hg))
      have hg2 : (e.id.gen == id.gen) = true := by simp [hg]
      rw [hg] at K1
      clear hg
      clear hz0 hb0
      have q0_0 := rw3 R0_0.out
      have q1_0 := rw2 R1_0.out
      go_enter Try.func185, Try.ntmps185
      go_wp2_with fail
      try rw [hW0]
      clear hW0
      try go_wp2_with fail
      clear q0_0 q1_0
      refine (findE_calls Ve_0.out (cell_row R1_0.out 0)).mono ?_
      rintro en w1 ⟨rfl, hb⟩
      rw [HP.out, HH.out]
      have K0' := Lib.hid (cell_call hb K0.out)
      have K1' := Lib.hid (cell_call hb K1.out)
      have S1 := Lib.hid (show Only (Box w 2) W0 w1 from Only.of_below hb)
      have O1 := Lib.hid (O0.out.trans S1.out)
      have R0_1 := Lib.hid (row_call hb R0_0.out)
      have R1_1 := Lib.hid (row_call hb R1_0.out)
      have Ve_1 := Lib.hid (val_only Ve_0.out S1.out)
      clear hb
      have q0_0 := cl3 R0_1.out
      have q1_0 := cl2 R1_1.out
      go_wp2_with fail
      clear q0_0 q1_0
      refine wp_region_held_drew (S := fun W => Below w1.heap.size w1 W) (by kernel_rfl) ((Below.refl _ _).drew) (fun s0 => ?_)
      obtain ⟨v1, hv0⟩ : ∃ V, V = w1.drew := ⟨_, rfl⟩
      rw [← hv0] at s0 ⊢
      have t1 : Below w1.heap.size w1 v1 := s0
      clear hv0 s0
      refine tkHV (i := 0) (v := .int .i64 p) rfl t1 ?_
      go_simp
      refine tkHV (i := 1) (v := .bool true) rfl t1 ?_
      go_simp
      refine tkHV (i := 2) (v := .bool true) rfl t1 ?_
      go_simp
      refine tkHV (i := 3) (v := .pointer (some ⟨w.heap.size, 2, none⟩)) rfl t1 ?_
      go_simp
      refine tkH (i := 4) (v := .slice (some ⟨b, off, none⟩) s.ents.length c3) rfl (Or.inl ⟨by rfl, fun w' h => by have e := row_call (h : Below w1.heap.size w1 w') R0_1.out; have e0 := cell_row e 0; have e1 := cell_row e 1; have e2 := cell_row e 2; go_simp⟩) t1 ?_
      go_simp
      refine tkHV (i := 5) (v := .int .i64 p) rfl t1 ?_
      go_simp
      refine tkHV (i := 6) (v := .pointer (some ⟨b, off + p * 3, none⟩)) rfl t1 ?_
      go_simp
      refine tkHV (i := 7) (v := .pointer (some ⟨b, off + p * 3, none⟩)) rfl t1 ?_
      go_simp
      refine tkH (i := 8) (v := .agg #[.int .i64 id.index, .int .i64 id.gen]) rfl (Or.inl ⟨by rfl, fun w' h => by have e0 := cell_call (h : Below w1.heap.size w1 w') K0'.out; have e1 := cell_call (h : Below w1.heap.size w1 w') K1'.out; go_simp⟩) t1 ?_
      go_simp
      refine tkH (i := 9) (v := .agg #[.int .i64 id.index, .int .i64 id.gen]) rfl (Or.inl ⟨by rfl, fun w' h => by have e := row_call (h : Below w1.heap.size w1 w') R1_1.out; have e0 := cell_row e 0; have e1 := cell_row e 1; go_simp⟩) t1 ?_
      go_simp
      refine tkHV (i := 10) (v := .bool true) rfl t1 ?_
      go_simp
      refine tkHV (i := 11) (v := .bool true) rfl t1 ?_
      go_simp
      refine tkHV (i := 12) (v := .int .i64 p) rfl t1 ?_
      go_simp
      refine tkHV (i := 13) (v := .bool true) rfl t1 ?_
      go_simp
      refine wpAnyH_done (by kernel_rfl) ?_ _
      have S2 := Lib.hid (show Only (Box w 2) w1 v1 from Only.of_below t1)
      have O2 := Lib.hid (O1.out.trans S2.out)
      have R0_2 := Lib.hid (row_call t1 R0_1.out)
      have R1_2 := Lib.hid (row_call t1 R1_1.out)
      have Ve_2 := Lib.hid (val_only Ve_1.out S2.out)
      have q0_0 := cl3 R0_2.out
      have q1_0 := cl2 R1_2.out
      try go_wp2_with fail
      clear q0_0 q1_0
      go_ret2
      exact ⟨by rw [HE.out]; rfl, Only.fin HB0.out O2.out⟩
    · skip
      have HE := Lib.hid (show entB s id = false by rw [HEB.out]; exact decide_eq_false (fun h => hg (by rw [h])))
      have hg2 : (e.id.gen == id.gen) = false := by simp [hg]
      clear hg
      clear hz0 hb0
      have q0_0 := rw3 R0_0.out
      have q1_0 := rw2 R1_0.out
      go_enter Try.func185, Try.ntmps185
      go_wp2_with fail
      try rw [hW0]
      clear hW0
      try go_wp2_with fail
      clear q0_0 q1_0
      refine (findE_calls Ve_0.out (cell_row R1_0.out 0)).mono ?_
      rintro en w1 ⟨rfl, hb⟩
      rw [HP.out, HH.out]
      have K0' := Lib.hid (cell_call hb K0.out)
      have K1' := Lib.hid (cell_call hb K1.out)
      have S1 := Lib.hid (show Only (Box w 2) W0 w1 from Only.of_below hb)
      have O1 := Lib.hid (O0.out.trans S1.out)
      have R0_1 := Lib.hid (row_call hb R0_0.out)
      have R1_1 := Lib.hid (row_call hb R1_0.out)
      have Ve_1 := Lib.hid (val_only Ve_0.out S1.out)
      clear hb
      have q0_0 := cl3 R0_1.out
      have q1_0 := cl2 R1_1.out
      go_wp2_with fail
      clear q0_0 q1_0
      refine wp_region_held_drew (S := fun W => Below w1.heap.size w1 W) (by kernel_rfl) ((Below.refl _ _).drew) (fun s0 => ?_)
      obtain ⟨v1, hv0⟩ : ∃ V, V = w1.drew := ⟨_, rfl⟩
      rw [← hv0] at s0 ⊢
      have t1 : Below w1.heap.size w1 v1 := s0
      clear hv0 s0
      refine tkHV (i := 0) (v := .int .i64 p) rfl t1 ?_
      go_simp
      refine tkHV (i := 1) (v := .bool true) rfl t1 ?_
      go_simp
      refine tkHV (i := 2) (v := .bool true) rfl t1 ?_
      go_simp
      refine tkHV (i := 3) (v := .pointer (some ⟨w.heap.size, 2, none⟩)) rfl t1 ?_
      go_simp
      refine tkH (i := 4) (v := .slice (some ⟨b, off, none⟩) s.ents.length c3) rfl (Or.inl ⟨by rfl, fun w' h => by have e := row_call (h : Below w1.heap.size w1 w') R0_1.out; have e0 := cell_row e 0; have e1 := cell_row e 1; have e2 := cell_row e 2; go_simp⟩) t1 ?_
      go_simp
      refine tkHV (i := 5) (v := .int .i64 p) rfl t1 ?_
      go_simp
      refine tkHV (i := 6) (v := .pointer (some ⟨b, off + p * 3, none⟩)) rfl t1 ?_
      go_simp
      refine tkHV (i := 7) (v := .pointer (some ⟨b, off + p * 3, none⟩)) rfl t1 ?_
      go_simp
      refine tkH (i := 8) (v := .agg #[.int .i64 id.index, .int .i64 e.id.gen]) rfl (Or.inl ⟨by rfl, fun w' h => by have e0 := cell_call (h : Below w1.heap.size w1 w') K0'.out; have e1 := cell_call (h : Below w1.heap.size w1 w') K1'.out; go_simp⟩) t1 ?_
      go_simp
      refine tkH (i := 9) (v := .agg #[.int .i64 id.index, .int .i64 id.gen]) rfl (Or.inl ⟨by rfl, fun w' h => by have e := row_call (h : Below w1.heap.size w1 w') R1_1.out; have e0 := cell_row e 0; have e1 := cell_row e 1; go_simp⟩) t1 ?_
      go_simp
      refine tkHV (i := 10) (v := .bool false) rfl t1 ?_
      go_simp
      refine tkHV (i := 11) (v := .bool false) rfl t1 ?_
      go_simp
      refine tkHV (i := 12) (v := .int .i64 p) rfl t1 ?_
      go_simp
      refine tkHV (i := 13) (v := .bool false) rfl t1 ?_
      go_simp
      refine wpAnyH_done (by kernel_rfl) ?_ _
      have S2 := Lib.hid (show Only (Box w 2) w1 v1 from Only.of_below t1)
      have O2 := Lib.hid (O1.out.trans S2.out)
      have R0_2 := Lib.hid (row_call t1 R0_1.out)
      have R1_2 := Lib.hid (row_call t1 R1_1.out)
      have Ve_2 := Lib.hid (val_only Ve_1.out S2.out)
      have q0_0 := cl3 R0_2.out
      have q1_0 := cl2 R1_2.out
      try go_wp2_with fail
      clear q0_0 q1_0
      go_ret2
      exact ⟨by rw [HE.out]; rfl, Only.fin HB0.out O2.out⟩
end Go.Proofs.Yteljibjbndpncaa
namespace Go.Proofs.Yteljibjbndpncaa
open Go.RowKit

theorem compSize_none {c : DConf} {k : Int} (h : k < 0 ∨ (c.comps.length : Int) ≤ k) : compSize c k = none := by
  unfold compSize
  split
  · rw [List.getElem?_eq_none (by omega)]; rfl
  · rfl
theorem compSize_some {c : DConf} {k : Nat} {x : DComp} (h : c.comps[k]? = some x) : compSize c k = some x.size := by
  unfold compSize
  rw [if_pos (by omega), Int.toNat_natCast, h]; rfl

set_option maxRecDepth 100000 in
set_option maxHeartbeats 1000000 in
/-- r07.Size -/
theorem rsize_calls {Q : Nat → Prop} {w : World} {v : Value} {c : DConf} {k : Int} (hx : rConf.val Q w v c) :
    Calls Try.prog 79 #[v, .int .i64 k] w fun e w' => e = .returned (.tuple #[.int .i64 ((compSize c k).getD 0), .bool (compSize c k).isSome]) ∧ Below w.heap.size w w' := by
  obtain ⟨A, cap, rfl, _, _, _, _, hA⟩ := rConf_val hx
  have hlen := hA.2.1
  have hle := hA.1
  unfold maxLen at hlen
  by_cases h0 : 0 ≤ k
  · by_cases h1 : k < (c.comps.length : Int)
    · obtain ⟨j, rfl⟩ : ∃ j : Nat, k = (j : Int) := ⟨k.toNat, by omega⟩
      obtain ⟨x, hxx⟩ : ∃ x, c.comps[j]? = some x := ⟨_, List.getElem?_eq_getElem (by omega)⟩
      obtain ⟨W0, hW0⟩ : ∃ W, (w.alloc (.cells #[.int .i64 c.log, .int .i64 c.pages, .int .i64 c.entities, .int .i64 c.gens, .slice A c.comps.length cap] 49)) = W := ⟨_, rfl⟩
      have hz0 : W0.heap.size = w.heap.size + 1 := by rw [← hW0]; simp
      have hb0 : Below w.heap.size w W0 := by rw [← hW0]; exact (Below.refl _ _).alloc (Nat.le_refl _) _
      have HZ := Lib.hid hz0
      have HB0 := Lib.hid hb0
      have R0_0 := Lib.hid (show W0.heap[w.heap.size]? = some (.cells #[.int .i64 c.log, .int .i64 c.pages, .int .i64 c.entities, .int .i64 c.gens, .slice A c.comps.length cap] 49 (0, 0)) by rw [← hW0]; exact alloc_at rfl)
      have O0 := Lib.hid (Only.refl (Box w 1) W0)
      have hAt := Rep.At.keep (Q' := fun _ => True) (w' := W0) (fun b _ hl => ⟨trivial, hb0.block b hl.lt⟩) hA.2.2
      obtain ⟨b, off, rfl, _, e0, e1, _⟩ := rComp_at hAt hxx
      have HF := Lib.hid (compSize_some hxx)
      clear hxx hAt
      clear hz0 hb0 hx hA
      have q0_0 := rw5 R0_0.out
      go_enter Try.func79, Try.ntmps79
      go_wp2_with fail
      try rw [hW0]
      clear hW0
      try go_wp2_with fail
      go_ret2
      exact ⟨by rw [HF.out]; rfl, Only.fin HB0.out O0.out⟩
    · have HF := Lib.hid (compSize_none (c := c) (k := k) (.inr (by omega)))
      obtain ⟨W0, hW0⟩ : ∃ W, (w.alloc (.cells #[.int .i64 c.log, .int .i64 c.pages, .int .i64 c.entities, .int .i64 c.gens, .slice A c.comps.length cap] 49)) = W := ⟨_, rfl⟩
      have hz0 : W0.heap.size = w.heap.size + 1 := by rw [← hW0]; simp
      have hb0 : Below w.heap.size w W0 := by rw [← hW0]; exact (Below.refl _ _).alloc (Nat.le_refl _) _
      have HZ := Lib.hid hz0
      have HB0 := Lib.hid hb0
      have R0_0 := Lib.hid (show W0.heap[w.heap.size]? = some (.cells #[.int .i64 c.log, .int .i64 c.pages, .int .i64 c.entities, .int .i64 c.gens, .slice A c.comps.length cap] 49 (0, 0)) by rw [← hW0]; exact alloc_at rfl)
      have O0 := Lib.hid (Only.refl (Box w 1) W0)
      skip
      clear hz0 hb0 hx hA
      have q0_0 := rw5 R0_0.out
      go_enter Try.func79, Try.ntmps79
      go_wp2_with fail
      try rw [hW0]
      clear hW0
      try go_wp2_with fail
      go_ret2
      exact ⟨by rw [HF.out]; rfl, Only.fin HB0.out O0.out⟩
  · have HF := Lib.hid (compSize_none (c := c) (k := k) (.inl (by omega)))
    obtain ⟨W0, hW0⟩ : ∃ W, (w.alloc (.cells #[.int .i64 c.log, .int .i64 c.pages, .int .i64 c.entities, .int .i64 c.gens, .slice A c.comps.length cap] 49)) = W := ⟨_, rfl⟩
    have hz0 : W0.heap.size = w.heap.size + 1 := by rw [← hW0]; simp
    have hb0 : Below w.heap.size w W0 := by rw [← hW0]; exact (Below.refl _ _).alloc (Nat.le_refl _) _
    have HZ := Lib.hid hz0
    have HB0 := Lib.hid hb0
    have R0_0 := Lib.hid (show W0.heap[w.heap.size]? = some (.cells #[.int .i64 c.log, .int .i64 c.pages, .int .i64 c.entities, .int .i64 c.gens, .slice A c.comps.length cap] 49 (0, 0)) by rw [← hW0]; exact alloc_at rfl)
    have O0 := Lib.hid (Only.refl (Box w 1) W0)
    skip
    clear hz0 hb0 hx hA
    have q0_0 := rw5 R0_0.out
    go_enter Try.func79, Try.ntmps79
    go_wp2_with fail
    try rw [hW0]
    clear hW0
    try go_wp2_with fail
    go_ret2
    exact ⟨by rw [HF.out]; rfl, Only.fin HB0.out O0.out⟩

set_option maxRecDepth 100000 in
set_option maxHeartbeats 1000000 in
/-- comp.Size -/
theorem csize_calls {Q : Nat → Prop} {w : World} {v : Value} {c : DConf} {k : Int} (hx : rConf.val Q w v c) :
    Calls Try.prog 197 #[v, .int .i64 k] w fun e w' => e = .returned (.tuple #[.int .i64 ((compSize c k).getD 0), .bool (compSize c k).isSome]) ∧ Below w.heap.size w w' := by
  obtain ⟨A, cap, rfl, _, _, _, _, hA⟩ := rConf_val hx
  have hlen := hA.2.1
  have hle := hA.1
  unfold maxLen at hlen
  by_cases h0 : 0 ≤ k
  · by_cases h1 : k < (c.comps.length : Int)
    · obtain ⟨j, rfl⟩ : ∃ j : Nat, k = (j : Int) := ⟨k.toNat, by omega⟩
      obtain ⟨x, hxx⟩ : ∃ x, c.comps[j]? = some x := ⟨_, List.getElem?_eq_getElem (by omega)⟩
      obtain ⟨W0, hW0⟩ : ∃ W, (w.alloc (.cells #[.int .i64 c.log, .int .i64 c.pages, .int .i64 c.entities, .int .i64 c.gens, .slice A c.comps.length cap] 49)) = W := ⟨_, rfl⟩
      have hz0 : W0.heap.size = w.heap.size + 1 := by rw [← hW0]; simp
      have hb0 : Below w.heap.size w W0 := by rw [← hW0]; exact (Below.refl _ _).alloc (Nat.le_refl _) _
      have HZ := Lib.hid hz0
      have HB0 := Lib.hid hb0
      have R0_0 := Lib.hid (show W0.heap[w.heap.size]? = some (.cells #[.int .i64 c.log, .int .i64 c.pages, .int .i64 c.entities, .int .i64 c.gens, .slice A c.comps.length cap] 49 (0, 0)) by rw [← hW0]; exact alloc_at rfl)
      have O0 := Lib.hid (Only.refl (Box w 1) W0)
      have hAt := Rep.At.keep (Q' := fun _ => True) (w' := W0) (fun b _ hl => ⟨trivial, hb0.block b hl.lt⟩) hA.2.2
      obtain ⟨b, off, rfl, _, e0, e1, _⟩ := rComp_at hAt hxx
      have HF := Lib.hid (compSize_some hxx)
      clear hxx hAt
      clear hz0 hb0 hx hA
      have q0_0 := rw5 R0_0.out
      go_enter Try.func197, Try.ntmps197
      go_wp2_with fail
      try rw [hW0]
      clear hW0
      try go_wp2_with fail
      go_ret2
      exact ⟨by rw [HF.out]; rfl, Only.fin HB0.out O0.out⟩
    · have HF := Lib.hid (compSize_none (c := c) (k := k) (.inr (by omega)))
      obtain ⟨W0, hW0⟩ : ∃ W, (w.alloc (.cells #[.int .i64 c.log, .int .i64 c.pages, .int .i64 c.entities, .int .i64 c.gens, .slice A c.comps.length cap] 49)) = W := ⟨_, rfl⟩
      have hz0 : W0.heap.size = w.heap.size + 1 := by rw [← hW0]; simp
      have hb0 : Below w.heap.size w W0 := by rw [← hW0]; exact (Below.refl _ _).alloc (Nat.le_refl _) _
      have HZ := Lib.hid hz0
      have HB0 := Lib.hid hb0
      have R0_0 := Lib.hid (show W0.heap[w.heap.size]? = some (.cells #[.int .i64 c.log, .int .i64 c.pages, .int .i64 c.entities, .int .i64 c.gens, .slice A c.comps.length cap] 49 (0, 0)) by rw [← hW0]; exact alloc_at rfl)
      have O0 := Lib.hid (Only.refl (Box w 1) W0)
      skip
      clear hz0 hb0 hx hA
      have q0_0 := rw5 R0_0.out
      go_enter Try.func197, Try.ntmps197
      go_wp2_with fail
      try rw [hW0]
      clear hW0
      try go_wp2_with fail
      go_ret2
      exact ⟨by rw [HF.out]; rfl, Only.fin HB0.out O0.out⟩
  · have HF := Lib.hid (compSize_none (c := c) (k := k) (.inl (by omega)))
    obtain ⟨W0, hW0⟩ : ∃ W, (w.alloc (.cells #[.int .i64 c.log, .int .i64 c.pages, .int .i64 c.entities, .int .i64 c.gens, .slice A c.comps.length cap] 49)) = W := ⟨_, rfl⟩
    have hz0 : W0.heap.size = w.heap.size + 1 := by rw [← hW0]; simp
    have hb0 : Below w.heap.size w W0 := by rw [← hW0]; exact (Below.refl _ _).alloc (Nat.le_refl _) _
    have HZ := Lib.hid hz0
    have HB0 := Lib.hid hb0
    have R0_0 := Lib.hid (show W0.heap[w.heap.size]? = some (.cells #[.int .i64 c.log, .int .i64 c.pages, .int .i64 c.entities, .int .i64 c.gens, .slice A c.comps.length cap] 49 (0, 0)) by rw [← hW0]; exact alloc_at rfl)
    have O0 := Lib.hid (Only.refl (Box w 1) W0)
    skip
    clear hz0 hb0 hx hA
    have q0_0 := rw5 R0_0.out
    go_enter Try.func197, Try.ntmps197
    go_wp2_with fail
    try rw [hW0]
    clear hW0
    try go_wp2_with fail
    go_ret2
    exact ⟨by rw [HF.out]; rfl, Only.fin HB0.out O0.out⟩
end Go.Proofs.Yteljibjbndpncaa
