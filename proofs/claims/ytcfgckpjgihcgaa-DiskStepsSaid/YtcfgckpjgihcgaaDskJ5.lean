/- Texts on which the proofs stand, part 5: DiskWrite, DiskNew, DiskOf, Tear, Settle, DiskSet. No condition is laid on any input. -/
import Derived.Test.YtcfgckpjgihcgaaDskJ4
import Derived.Maps.RangeWalk
/- Walk of a write to the device. -/
namespace Go.Proofs.Ytcfgckpjgihcgaa
open Go.RowKit
open Extern.Stop (cell)

namespace DiskW
variable {W W' : World} {P : Nat} {Sf : Option Addr} {cs M : Nat} {D : DataW Value} {F B : Nat → Prop} {n : Nat} {st : DiskSt}
theorem sM (h : DiskW W P Sf cs M D F B n st) {b : Nat} (hb : (Value.slice Sf st.safe.length cs).ownBlock = some b) : b ≠ M := by
  rintro rfl
  obtain ⟨cur, hc⟩ := acc_block h.safe hb
  obtain ⟨es, clock, hm, _⟩ := h.map
  rw [hm] at hc; cases hc
theorem wM (h : DiskW W P Sf cs M D F B n st) {i : Int} {b : Nat} (hb : (valAt D i).ownBlock = some b) : b ≠ M := by
  rintro rfl
  obtain ⟨cur, hc⟩ := acc_block (h.wt i) hb
  obtain ⟨es, clock, hm, _⟩ := h.map
  rw [hm] at hc; cases hc
end DiskW

def pushSt (st : DiskSt) (i : Int) (x : List UInt8) : DiskSt := { st with wait := fun j => if j = i then st.wait i ++ [x] else st.wait j }
theorem DiskW.write {W2 w4 w5 w6 : World} {P : Nat} {Sf : Option Addr} {cs M : Nat} {D : DataW Value} {F B : Nat → Prop} {n : Nat} {st : DiskSt} (h : DiskW W2 P Sf cs M D F B n st) {i : Int} {x : List UInt8} {v' : Value}
    (hi : 0 ≤ i ∧ i < st.safe.length) (hb4 : Below W2.heap.size W2 w4) (hz4 : W2.heap.size < w4.heap.size) (ha : Rep.byte.list.acc 22 0 (fun b => B b ∨ b = W2.heap.size) w5 v' (st.wait i ++ [x]))
    (g5 : w4.grownBy w5 (valAt D i).ownBlock) (ho : v'.ownBlock = (valAt D i).ownBlock ∨ v'.ownBlock = some w4.heap.size) (hm : w6.ownsMap Try.prog 3 heldElem M (n + 1) (D.put (.int .i64 i) (.held v'))) (g6 : w5.grownBy w6 (some M)) :
    DiskW w6 P Sf cs M (D.put (.int .i64 i) (.held v')) (fun b => F b ∨ v'.ownBlock = some b) (fun b => B b ∨ b = W2.heap.size) (n + 1) (pushSt st i x) := by
  have hD := h.map.isMap
  have hMlt := h.lt M (.inl h.fM)
  have e : ∀ b, b < W2.heap.size → b ≠ M → (valAt D i).ownBlock ≠ some b → w6.heap[b]? = W2.heap[b]? := fun b hb h1 h2 => by
    have s4 := hb4.size
    have s5 := g5.size
    rw [g6.block b (by omega) (fun e => h1 (Option.some.inj e)), g5.block b (by omega) (fun e => h2 e.symm), hb4.block b hb]
  have hBM : ∀ b, B b → b ≠ M := fun b hb e => h.apart M h.fM (e ▸ hb)
  have hBW : ∀ b, B b → (valAt D i).ownBlock ≠ some b := fun b hb e => h.apart b (h.fW i b e) hb
  have hown5 : ∀ b, v'.ownBlock = some b → b < w5.heap.size := fun b hb => (Rep.acc_own ha b hb).2
  have hownM : ∀ b, v'.ownBlock = some b → b ≠ M := fun b hb => by
    rcases ho with ho | ho
    · exact h.wM (ho ▸ hb)
    · have := Option.some.inj (ho.symm.trans hb)
      have := hb4.size
      omega
  have hs6 : W2.heap.size ≤ w6.heap.size := Nat.le_trans hb4.size (Nat.le_trans g5.size g6.size)
  refine ⟨?_, ?_, hm, fun j => ?_, fun j => ?_, fun j hj => ?_, h.wf, .inl h.fP, .inl h.fM, fun b hb => .inl (h.fS b hb), fun j b hb => ?_, fun j b hb => ?_, fun j k b hne hb => ?_, fun b hb => ?_, fun b hb => ?_, fun j hj => ?_⟩
  · rw [e P (h.lt P (.inl h.fP)) h.mP.symm (fun hb => h.wP hb rfl)]; exact h.blk
  · exact Rep.acc_keep (fun b hb _ => e b (h.lt b (hb.elim .inr fun e => .inl (h.fS b e))) (hb.elim (hBM b) h.sM) (fun hw => hb.elim (fun hB => hBW b hB hw) (fun hs => h.dSW i b hw hs))) (fun _ hb _ => .inl hb) h.safe
  · by_cases hj : j = i
    · subst hj
      rw [valAt_put_same hD]
      show Rep.byte.list.acc _ _ _ _ _ (if j = j then st.wait j ++ [x] else st.wait j)
      rw [if_pos rfl]
      refine Rep.acc_keep (fun b hb hl => g6.block b hl.lt (fun e => ?_)) (fun _ hb _ => hb) ha
      have e := Option.some.inj e
      rcases hb with (hb | hb) | hb
      · exact hBM b hb e
      · omega
      · exact hownM b hb e
    · rw [valAt_put_other hj]
      show Rep.byte.list.acc _ _ _ _ _ (if j = i then st.wait i ++ [x] else st.wait j)
      rw [if_neg hj]
      exact Rep.acc_keep (fun b hb _ => e b (h.lt b (hb.elim .inr fun e => .inl (h.fW j b e))) (hb.elim (hBM b) h.wM) (fun hw => hb.elim (fun hB => hBW b hB hw) (fun hs => h.dWW i j b (fun e => hj e.symm) hw hs))) (fun _ hb _ => .inl hb) (h.wt j)
  · show (if j = i then st.wait i ++ [x] else st.wait j).length ≤ n + 1
    split
    · rw [List.length_append]; have := h.len i; simp; omega
    · have := h.len j; omega
  · change (if j = i then st.wait i ++ [x] else st.wait j) ≠ [] at hj
    split at hj
    · rename_i e; rw [e]; exact hi
    · exact h.keys j hj
  · by_cases hj : j = i
    · subst hj; rw [valAt_put_same hD] at hb; exact .inr hb
    · rw [valAt_put_other hj] at hb; exact .inl (h.fW j b hb)
  · show (Value.slice Sf st.safe.length cs).ownBlock ≠ some b
    by_cases hj : j = i
    · subst hj
      rw [valAt_put_same hD] at hb
      rcases ho with ho | ho
      · exact h.dSW j b (ho ▸ hb)
      · intro hs
        have h1 := h.lt b (.inl (h.fS b hs))
        have h2 := Option.some.inj (ho.symm.trans hb)
        omega
    · rw [valAt_put_other hj] at hb; exact h.dSW j b hb
  · by_cases hj : j = i
    · subst hj
      have hk : k ≠ j := fun e => hne e.symm
      rw [valAt_put_same hD] at hb
      rw [valAt_put_other hk]
      rcases ho with ho | ho
      · exact h.dWW j k b hne (ho ▸ hb)
      · intro hs
        have h1 := h.lt b (.inl (h.fW k b hs))
        have h2 := Option.some.inj (ho.symm.trans hb)
        omega
    · rw [valAt_put_other hj] at hb
      by_cases hk : k = i
      · subst hk
        rw [valAt_put_same hD]
        intro hs
        rcases ho with ho | ho
        · exact h.dWW j k b hj hb (ho ▸ hs)
        · have h1 := h.lt b (.inl (h.fW j b hb))
          have h2 := Option.some.inj (ho.symm.trans hs)
          omega
      · rw [valAt_put_other hk]; exact h.dWW j k b hne hb
  · rcases hb with hb | hb
    · rintro (h1 | h1)
      · exact h.apart b hb h1
      · have := h.lt b (.inl hb); omega
    · rintro (h1 | h1)
      · rcases ho with ho | ho
        · exact h.apart b (h.fW i b (ho ▸ hb)) h1
        · have := h.lt b (.inr h1)
          have := Option.some.inj (ho.symm.trans hb)
          omega
      · rcases ho with ho | ho
        · have := h.lt b (.inl (h.fW i b (ho ▸ hb))); omega
        · have := Option.some.inj (ho.symm.trans hb)
          omega
  · rcases hb with (hb | hb) | (hb | hb)
    · have := h.lt b (.inl hb); omega
    · have := hown5 b hb; have := g6.size; omega
    · have := h.lt b (.inr hb); omega
    · have := g5.size; have := g6.size; omega
  · show (if j = i then st.wait i ++ [x] else st.wait j) ≠ []
    by_cases hji : j = i
    · rw [if_pos hji]; simp
    · rw [if_neg hji]
      rw [Go.Maps.has_put_other (fun e => hji (by cases e; rfl))] at hj
      exact h.has j hj

def writeSt (st : DiskSt) (i : Int) (b : List UInt8) : DiskSt × Int :=
  if (atSt st i).2 = 0 then (pushSt { (atSt st i).1 with writes := wrap64 ((atSt st i).1.writes + 1) } i (cutTo b 512), 0) else ((atSt st i).1, (atSt st i).2)
def WritePost (F B : Nat → Prop) (P n : Nat) (W : World) (r : DiskSt × Int) (e : Ending) (W' : World) : Prop :=
  e = .returned (.int .i64 r.2) ∧ Only F W W' ∧ ∃ F' B' : Nat → Prop, DiskAt W' P F' B' (n + 1) r.1 ∧ (∀ b, F' b → F b ∨ W.heap.size ≤ b) ∧ (∀ b, B' b → B b ∨ W.heap.size ≤ b) ∧ (∀ b, F b → F' b)
theorem DiskW.more {W : World} {P : Nat} {Sf : Option Addr} {cs M : Nat} {D : DataW Value} {F B : Nat → Prop} {n n' : Nat} {st : DiskSt} (h : DiskW W P Sf cs M D F B n st) (hn : n ≤ n') : DiskW W P Sf cs M D F B n' st :=
  ⟨h.blk, h.safe, h.map.mono hn, h.wt, fun i => Nat.le_trans (h.len i) hn, h.keys, h.wf, h.fP, h.fM, h.fS, h.fW, h.dSW, h.dWW, h.apart, h.lt, h.has⟩
theorem exec_lookup {o : Oper} {a : Act} {w : World} {m x : Operand} {M n : Nat} {D : DataW Value} {i : Int} (ho : o.op = Op.lookup 209 m x false) (hm : a.eval m = .map (some M)) (hx : a.eval x = .int .i64 i)
    (h : w.ownsMap Try.prog 3 heldElem M n D) (hi : (Lit.int .i64 i).wf = true) : (execOp a.eval o).run Try.prog w = .ok (.value (valAt D i)) w := by
  have hrun := lookup_held h hi
  simp [execOp, ho, hm, hx, hrun, Result.andThen]
theorem exec_mapUpdate {o : Oper} {a : Act} {w w' : World} {m x y : Operand} {t : TypeId} {M : Nat} {key val : Value} (ho : o.op = Op.mapUpdate t m x y) (hm : a.eval m = .map (some M)) (hx : a.eval x = key) (hy : a.eval y = val)
    (hrun : (Instr.mapUpdate t (.map (some M)) key val).run Try.prog w = .ok () w') : (execOp a.eval o).run Try.prog w = .ok .skip w' := by
  simp [execOp, ho, hm, hx, hy, hrun, Result.andThen]

set_option maxRecDepth 100000 in
set_option maxHeartbeats 4000000 in
/-- (*disk.Disk).Write -/
theorem dwrite_calls {Q : Nat → Prop} {W : World} {P : Nat} {F B : Nat → Prop} {n : Nat} {st : DiskSt} {i : Int} {v : Value} {b : List UInt8} (h : DiskAt W P F B n st) (hi : (Lit.int .i64 i).wf = true) (hn : n ≤ 1000000000) (hx : Rep.byte.list.val Q W v b)
    (hQ : ∀ k, Q k → ¬ F k) :
    Calls Try.prog 85 #[.pointer (some ⟨P, 0, none⟩), .int .i64 i, v] W (WritePost F B P n W (writeSt st i b)) := by
  have HA := Lib.hid h
  have HI := Lib.hid hi
  by_cases hc : (atSt st i).2 = 0
  case neg =>
    have HF := Lib.hid (show writeSt st i b = ((atSt st i).1, (atSt st i).2) by unfold writeSt; rw [if_neg hc])
    have g0 : ((atSt st i).2 == 0) = false := by simpa using hc
    clear h hc
    go_enter Try.func85, Try.ntmps85
    go_wp2_with fail
    refine (dat_calls HA.out).mono ?_
    rintro e w1 ⟨rfl, hd1, ho⟩
    have HD1 := Lib.hid hd1
    have HO := Lib.hid ho
    clear hd1 ho
    go_wp2_with fail
    go_ret
    exact ⟨by rw [HF.out]; rfl, HO.out, F, B, by rw [HF.out]; obtain ⟨_, _, _, _, hh⟩ := HD1.out; exact ⟨_, _, _, _, hh.more (Nat.le_succ n)⟩, fun _ hb => .inl hb, fun _ hb => .inl hb, fun _ hb => hb⟩
  case pos =>
    have HF := Lib.hid (show writeSt st i b = (pushSt { (atSt st i).1 with writes := wrap64 ((atSt st i).1.writes + 1) } i (cutTo b 512), 0) by unfold writeSt; rw [if_pos hc])
    have HC := Lib.hid hc
    have hr := atSt_range hc
    have hs := atSt_same st i
    have HR := Lib.hid (show 0 ≤ i ∧ i < (atSt st i).1.safe.length by rw [hs.1]; exact hr)
    have HXB := Lib.hid (show ∀ W', Only F W W' → Rep.byte.list.val Q W' v b from fun W' ho => Rep.val_keep (fun k hk hl => ⟨hk, ho.block k hl.lt (hQ k hk)⟩) hx)
    clear h hc hr hs hx
    go_enter Try.func85, Try.ntmps85
    go_wp2_with fail
    refine (dat_calls HA.out).mono ?_
    rintro e w1 ⟨rfl, hd1, ho⟩
    rw [HC.out]
    generalize (atSt st i).1 = s1 at *
    obtain ⟨Sf, cs, M, D, hd1⟩ := hd1
    have HO1 := Lib.hid ho
    have e5 := cell_row hd1.blk 5
    have z5 := frozen_row hd1.blk 5
    obtain ⟨W2, hW2⟩ : ∃ W2, w1.setCell ⟨P, 5, none⟩ (.int .i64 (wrap64 (s1.writes + 1))) = W2 := ⟨_, rfl⟩
    have hd2 : DiskW W2 P Sf cs M D F B n { s1 with writes := wrap64 (s1.writes + 1) } := by
      rw [← hW2]; exact hd1.scal rfl rfl hd1.wf (heap_setRow hd1.blk) (by simp) fun b hb _ => Below.heap_setCell _ _ _ _ hb
    have HO2 := Lib.hid (show Only F W W2 from HO1.out.trans (by rw [← hW2]; exact Only.set hd1.fP))
    have HD2 := Lib.hid hd2
    have HW2 := Lib.hid hW2
    clear hd1 ho hd2 hW2
    go_wp2_with fail
    rw [HW2.out]
    clear HW2 e5 z5
    have KP := Lib.hid (show ∀ W', Below W2.heap.size W2 W' → W'.cell? ⟨P, 1, none⟩ = some (.map (some M)) from fun W' hb => (hb.cell (p := ⟨P, 1, none⟩) (HD2.out.lt P (.inl HD2.out.fP))).trans (cell_row HD2.out.blk 1))
    have s1' := KP.out W2.drew (Below.refl _ _).drew
    refine wp_region_held (S := fun W' => W'.cell? ⟨P, 1, none⟩ = some (.map (some M))) (by kernel_rfl) ?_
    refine wpAnyH_take (i := 0) (v := .pointer (some ⟨P, 0, none⟩)) rfl (by kernel_rfl) (by kernel_rfl) (by kernel_rfl) (fun _ _ _ h => h) (Or.inl ⟨by rfl, fun w' _ => by go_simp⟩) s1' ?_
    go_simp
    refine wpAnyH_take (i := 1) (v := .pointer (some ⟨P, 0, none⟩)) rfl (by kernel_rfl) (by kernel_rfl) (by kernel_rfl) (fun _ _ _ h => h) (Or.inl ⟨by rfl, fun w' _ => by go_simp⟩) s1' ?_
    go_simp
    refine wpAnyH_take (i := 2) (v := .pointer (some ⟨P, 1, none⟩)) rfl (by kernel_rfl) (by kernel_rfl) (by kernel_rfl) (fun _ _ _ h => h) (Or.inl ⟨by rfl, fun w' _ => by go_simp⟩) s1' ?_
    go_simp
    refine wpAnyH_take (i := 3) (v := .map (some M)) rfl (by kernel_rfl) (by kernel_rfl) (by kernel_rfl) (fun _ _ _ h => h) (Or.inl ⟨by rfl, fun w' h => by have hc : w'.cell? ⟨P, 1, none⟩ = some (.map (some M)) := h; go_simp⟩) s1' ?_
    go_simp
    refine wpAnyH_take (i := 4) (v := .int .i64 i) rfl (by kernel_rfl) (by kernel_rfl) (by kernel_rfl) (fun _ _ _ h => h) (Or.inl ⟨by rfl, fun w' _ => by go_simp⟩) s1' ?_
    go_simp
    refine wpAnyH_take (i := 5) (v := .pointer (some ⟨P, 0, none⟩)) rfl (by kernel_rfl) (by kernel_rfl) (by kernel_rfl) (fun _ _ _ h => h) (Or.inl ⟨by rfl, fun w' _ => by go_simp⟩) s1' ?_
    go_simp
    refine wpAnyH_take (i := 6) (v := .pointer (some ⟨P, 0, none⟩)) rfl (by kernel_rfl) (by kernel_rfl) (by kernel_rfl) (fun _ _ _ h => h) (Or.inl ⟨by rfl, fun w' _ => by go_simp⟩) s1' ?_
    go_simp
    refine wpAnyH_take (i := 7) (v := .pointer (some ⟨P, 1, none⟩)) rfl (by kernel_rfl) (by kernel_rfl) (by kernel_rfl) (fun _ _ _ h => h) (Or.inl ⟨by rfl, fun w' _ => by go_simp⟩) s1' ?_
    go_simp
    refine wpAnyH_take (i := 8) (v := .map (some M)) rfl (by kernel_rfl) (by kernel_rfl) (by kernel_rfl) (fun _ _ _ h => h) (Or.inl ⟨by rfl, fun w' h => by have hc : w'.cell? ⟨P, 1, none⟩ = some (.map (some M)) := h; go_simp⟩) s1' ?_
    go_simp
    refine wpAnyH_take (i := 9) (v := .int .i64 i) rfl (by kernel_rfl) (by kernel_rfl) (by kernel_rfl) (fun _ _ _ h => h) (Or.inl ⟨by rfl, fun w' _ => by go_simp⟩) s1' ?_
    go_simp
    refine wpAnyH_take (i := 11) (v := v) rfl (by kernel_rfl) (by kernel_rfl) (by kernel_rfl) (fun _ _ _ h => h) (Or.inl ⟨by rfl, fun w' _ => by go_simp⟩) s1' ?_
    go_simp
    refine wpAnyH_all (rs := [10, 12]) (by kernel_rfl) (by simp) ?_
    intro j hj
    rcases (by simpa using hj : j = 10 ∨ j = 12) with rfl | rfl
    · refine wpOp_step rfl (fun K hK => ?_)
      refine step_run rfl (exec_lookup (M := M) (n := n) (D := D) (i := i) rfl (by rfl) (by rfl) (HD2.out.map) HI.out) ?_
      go_simp
      refine hK _ _ ⟨KP.out _ (Below.refl _ _).drew, ?_⟩
      clear hK K
      refine wpAnyH_all (rs := [12]) (by kernel_rfl) (by simp) ?_
      intro j hj
      obtain rfl : j = 12 := by simpa using hj
      refine wpOp_step rfl (fun K hK => ?_)
      go_simp
      refine (lecut_calls (n := 512) (HXB.out _ (HO2.out.trans (Only.of_below (Below.refl _ _).drew))) (by decide)).mono ?_
      rintro e w3 ⟨rfl, hg, hb3⟩
      have HG := Lib.hid (show w3.heap[W2.heap.size]? = some (.cells ((cutTo b 512).map cell).toArray 5 (0, 0)) from hg)
      have HB3 := Lib.hid (show Below W2.heap.size W2 w3 from (Below.refl _ _).drew.trans hb3)
      clear hg hb3
      refine hK _ _ ⟨KP.out _ HB3.out, ?_⟩
      clear hK K
      refine wpAnyH_all (rs := [13]) (by kernel_rfl) (by simp) ?_
      intro j hj
      obtain rfl : j = 13 := by simpa using hj
      refine wpOp_step rfl (fun K hK => ?_)
      refine step_run rfl (exec_buildSlice (vy := .slice (some ⟨W2.heap.size, 0, none⟩) 512 512) rfl (.slice none 0 0) 1 Try.underlying24 info22' rfl rfl (by decide)) ?_
      go_simp
      have HB4 := Lib.hid (HB3.out.alloc HB3.out.size (.cells #[.slice (some ⟨W2.heap.size, 0, none⟩) 512 512] 22))
      refine hK _ _ ⟨KP.out _ HB4.out, ?_⟩
      clear hK K
      have hg4 := heap_alloc_new w3 (.cells #[.slice (some ⟨W2.heap.size, 0, none⟩) 512 512] 22)
      have hz3 : W2.heap.size < w3.heap.size := IsC.lt ⟨_, _, _, HG.out⟩
      have hz4 : (w3.alloc (.cells #[.slice (some ⟨W2.heap.size, 0, none⟩) 512 512] 22)).heap.size = w3.heap.size + 1 := by simp
      have hacc4 : Rep.byte.list.acc 22 0 (fun k => B k ∨ k = W2.heap.size) (w3.alloc (.cells #[.slice (some ⟨W2.heap.size, 0, none⟩) 512 512] 22)) (valAt D i) (s1.wait i) :=
        Rep.acc_keep (fun k hk hl => HB4.out.block k hl.lt) (fun _ hk _ => .inl hk) (HD2.out.wt i)
      have hu4 : Rep.byte.list.rd (fun k => (B k ∨ k = W2.heap.size) ∧ (valAt D i).ownBlock ≠ some k) (w3.alloc (.cells #[.slice (some ⟨W2.heap.size, 0, none⟩) 512 512] 22)) [.slice (some ⟨W2.heap.size, 0, none⟩) 512 512] (cutTo b 512) := by
        have hS : SecAt w3 W2.heap.size 5 (cutTo b 512) := ⟨HG.out, cutTo_length _ _⟩
        have hv := hS.sl (a := 0) (n := 512) (c := 512) (by omega) (by omega) (by simp [maxLen])
        rw [List.drop_zero, List.take_of_length_le (by rw [cutTo_length]; omega)] at hv
        have hv2 := Rep.val_keep (w' := w3.alloc (.cells #[.slice (some ⟨W2.heap.size, 0, none⟩) 512 512] 22)) (Q' := fun k => (B k ∨ k = W2.heap.size) ∧ (valAt D i).ownBlock ≠ some k) (fun k hk hl => ⟨⟨.inr hk, fun e => by have := HD2.out.lt k (.inl (HD2.out.fW i k e)); have hk' : k = W2.heap.size := hk; omega⟩, Below.heap_alloc _ _ _ hl.lt⟩) hv
        obtain ⟨A', c', he, h1, h2, es, h3, h4⟩ := Rep.val_list hv2
        have hlen : (cutTo b 512).length = 512 := cutTo_length _ _
        rw [hlen] at he
        cases he
        exact ⟨_, _, es, by rw [hlen], h1, h2, h3, h4⟩
      obtain ⟨v', w5, q1, q2, q3, q4⟩ := Rep.acc_more (P := Try.prog) (ty := 24) (ys := [cutTo b 512]) (A := some ⟨w3.heap.size, 0, none⟩) (m := 1) (c := 1) Try.underlying24 info22 rfl (by decide) rfl hacc4 rfl (Rep.row_one_elem hu4)
        (fun _ => ⟨w3.heap.size, 0, rfl, fun j u hj => by rw [cell_of_row _ _ _ _ _ _ hg4, Nat.zero_add, ← hj]; simp⟩) (by have := HD2.out.len i; have hl : (s1.wait i).length ≤ n := this; simp; unfold maxLen; omega) (by have := HD2.out.len i; have hl : (s1.wait i).length ≤ n := this; simp; omega) (Nat.zero_le _)
      have hD5 : w5.ownsMap Try.prog 3 heldElem M n D := by
        have hMl := HD2.out.lt M (.inl HD2.out.fM)
        exact HD2.out.map_keep ((q3.block M (by omega) (fun e => HD2.out.wM e.symm rfl)).trans (HB4.out.block M hMl))
      obtain ⟨w6, u1, u2, u3⟩ := hD5.update int_law Try.underlying209 (by unfold maxLen; omega) (key_i64 HI.out) (val := v') (d := .held v') (ps := []) rfl
      have hfin := HD2.out.write (x := cutTo b 512) HR.out HB4.out (by rw [hz4]; omega) q2 q3 q4 u2 u3
      have hP6 := cell_row hfin.blk 1
      refine wpAnyH_all (rs := [14]) (by kernel_rfl) (by simp) ?_
      intro j hj
      obtain rfl : j = 14 := by simpa using hj
      refine wpOp_step rfl (fun K hK => ?_)
      refine step_run rfl (exec_append (by rfl) (by rfl) (by rfl) q1) ?_
      go_simp
      refine hK _ _ ⟨?_, ?_⟩
      · have hPl := HD2.out.lt P (.inl HD2.out.fP)
        rw [World.cell?_of_block (w := w3.alloc (.cells #[.slice (some ⟨W2.heap.size, 0, none⟩) 512 512] 22)) (w' := w5) (a := ⟨P, 1, none⟩) (q3.block P (by omega) (fun e => HD2.out.wP e.symm rfl))]
        exact KP.out _ HB4.out
      clear hK K
      refine wpAnyH_all (rs := [15]) (by kernel_rfl) (by simp) ?_
      intro j hj
      obtain rfl : j = 15 := by simpa using hj
      refine wpOp_step rfl (fun K hK => ?_)
      refine step_run_skip rfl (exec_mapUpdate (M := M) (key := .int .i64 i) (val := v') rfl (by rfl) (by rfl) (by rfl) u1) ?_
      go_simp
      refine hK _ _ ⟨hP6, ?_⟩
      clear hK K
      refine wpAnyH_done (by kernel_rfl) ?_ _
      clear hP6 u1 q1 hg4
      have HFIN := Lib.hid hfin
      have HOF := Lib.hid (show Only F W w6 from by
        have s2 := HO2.out.size
        have s4 := HB4.out.size
        have s5 := q3.size
        refine ⟨(u3.os.trans q3.os).trans (HB4.out.os.trans HO2.out.os), (u3.tape.trans q3.tape).trans (HB4.out.tape.trans HO2.out.tape), (u3.output.trans q3.output).trans (HB4.out.output.trans HO2.out.output), Nat.le_trans s2 (Nat.le_trans s4 (Nat.le_trans s5 u3.size)), fun k hk hf => ?_⟩
        have hMF : ¬ k = M := fun e => hf (e ▸ HD2.out.fM)
        rw [u3.block k (by omega) (fun e => hMF (Option.some.inj e)), q3.block k (by omega) (fun e => hf (HD2.out.fW i k e.symm)), HB4.out.block k (by omega)]
        exact HO2.out.block k hk hf)
      have HFB := Lib.hid (show (∀ k, (F k ∨ v'.ownBlock = some k) → F k ∨ W.heap.size ≤ k) ∧ (∀ k, (B k ∨ k = W2.heap.size) → B k ∨ W.heap.size ≤ k) from by
        have s2 := HO2.out.size
        have s4 := HB4.out.size
        refine ⟨fun k hk => hk.elim .inl fun hk => ?_, fun k hk => hk.elim .inl fun hk => .inr (by omega)⟩
        rcases q4 with q4 | q4
        · exact .inl (HD2.out.fW i k (q4 ▸ hk))
        · have := Option.some.inj (q4.symm.trans hk)
          exact .inr (by omega))
      clear hfin u2 u3 q2 q3 q4 hacc4 hu4 hD5
      go_wp2_with fail
      go_ret
      exact ⟨by rw [HF.out]; rfl, HOF.out, _, _, by rw [HF.out]; exact ⟨_, _, _, _, HFIN.out⟩, HFB.out.1, HFB.out.2, fun _ hb => .inl hb⟩
    · refine wpOp_step rfl (fun K hK => ?_)
      go_simp
      refine (lecut_calls (n := 512) (HXB.out _ (HO2.out.trans (Only.of_below (Below.refl _ _).drew))) (by decide)).mono ?_
      rintro e w3 ⟨rfl, hg, hb3⟩
      have HG := Lib.hid (show w3.heap[W2.heap.size]? = some (.cells ((cutTo b 512).map cell).toArray 5 (0, 0)) from hg)
      have HB3 := Lib.hid (show Below W2.heap.size W2 w3 from (Below.refl _ _).drew.trans hb3)
      clear hg hb3
      refine hK _ _ ⟨KP.out _ HB3.out, ?_⟩
      clear hK K
      refine wpAnyH_all (rs := [10, 13]) (by kernel_rfl) (by simp) ?_
      intro j hj
      rcases (by simpa using hj : j = 10 ∨ j = 13) with rfl | rfl
      · refine wpOp_step rfl (fun K hK => ?_)
        refine step_run rfl (exec_lookup (M := M) (n := n) (D := D) (i := i) rfl (by rfl) (by rfl) (HD2.out.map_keep (HB3.out.block M (HD2.out.lt M (.inl HD2.out.fM)))) HI.out) ?_
        go_simp
        refine hK _ _ ⟨KP.out _ HB3.out, ?_⟩
        clear hK K
        refine wpAnyH_all (rs := [13]) (by kernel_rfl) (by simp) ?_
        intro j hj
        obtain rfl : j = 13 := by simpa using hj
        refine wpOp_step rfl (fun K hK => ?_)
        refine step_run rfl (exec_buildSlice (vy := .slice (some ⟨W2.heap.size, 0, none⟩) 512 512) rfl (.slice none 0 0) 1 Try.underlying24 info22' rfl rfl (by decide)) ?_
        go_simp
        have HB4 := Lib.hid (HB3.out.alloc HB3.out.size (.cells #[.slice (some ⟨W2.heap.size, 0, none⟩) 512 512] 22))
        refine hK _ _ ⟨KP.out _ HB4.out, ?_⟩
        clear hK K
        have hg4 := heap_alloc_new w3 (.cells #[.slice (some ⟨W2.heap.size, 0, none⟩) 512 512] 22)
        have hz3 : W2.heap.size < w3.heap.size := IsC.lt ⟨_, _, _, HG.out⟩
        have hz4 : (w3.alloc (.cells #[.slice (some ⟨W2.heap.size, 0, none⟩) 512 512] 22)).heap.size = w3.heap.size + 1 := by simp
        have hacc4 : Rep.byte.list.acc 22 0 (fun k => B k ∨ k = W2.heap.size) (w3.alloc (.cells #[.slice (some ⟨W2.heap.size, 0, none⟩) 512 512] 22)) (valAt D i) (s1.wait i) :=
          Rep.acc_keep (fun k hk hl => HB4.out.block k hl.lt) (fun _ hk _ => .inl hk) (HD2.out.wt i)
        have hu4 : Rep.byte.list.rd (fun k => (B k ∨ k = W2.heap.size) ∧ (valAt D i).ownBlock ≠ some k) (w3.alloc (.cells #[.slice (some ⟨W2.heap.size, 0, none⟩) 512 512] 22)) [.slice (some ⟨W2.heap.size, 0, none⟩) 512 512] (cutTo b 512) := by
          have hS : SecAt w3 W2.heap.size 5 (cutTo b 512) := ⟨HG.out, cutTo_length _ _⟩
          have hv := hS.sl (a := 0) (n := 512) (c := 512) (by omega) (by omega) (by simp [maxLen])
          rw [List.drop_zero, List.take_of_length_le (by rw [cutTo_length]; omega)] at hv
          have hv2 := Rep.val_keep (w' := w3.alloc (.cells #[.slice (some ⟨W2.heap.size, 0, none⟩) 512 512] 22)) (Q' := fun k => (B k ∨ k = W2.heap.size) ∧ (valAt D i).ownBlock ≠ some k) (fun k hk hl => ⟨⟨.inr hk, fun e => by have := HD2.out.lt k (.inl (HD2.out.fW i k e)); have hk' : k = W2.heap.size := hk; omega⟩, Below.heap_alloc _ _ _ hl.lt⟩) hv
          obtain ⟨A', c', he, h1, h2, es, h3, h4⟩ := Rep.val_list hv2
          have hlen : (cutTo b 512).length = 512 := cutTo_length _ _
          rw [hlen] at he
          cases he
          exact ⟨_, _, es, by rw [hlen], h1, h2, h3, h4⟩
        obtain ⟨v', w5, q1, q2, q3, q4⟩ := Rep.acc_more (P := Try.prog) (ty := 24) (ys := [cutTo b 512]) (A := some ⟨w3.heap.size, 0, none⟩) (m := 1) (c := 1) Try.underlying24 info22 rfl (by decide) rfl hacc4 rfl (Rep.row_one_elem hu4)
          (fun _ => ⟨w3.heap.size, 0, rfl, fun j u hj => by rw [cell_of_row _ _ _ _ _ _ hg4, Nat.zero_add, ← hj]; simp⟩) (by have := HD2.out.len i; have hl : (s1.wait i).length ≤ n := this; simp; unfold maxLen; omega) (by have := HD2.out.len i; have hl : (s1.wait i).length ≤ n := this; simp; omega) (Nat.zero_le _)
        have hD5 : w5.ownsMap Try.prog 3 heldElem M n D := by
          have hMl := HD2.out.lt M (.inl HD2.out.fM)
          exact HD2.out.map_keep ((q3.block M (by omega) (fun e => HD2.out.wM e.symm rfl)).trans (HB4.out.block M hMl))
        obtain ⟨w6, u1, u2, u3⟩ := hD5.update int_law Try.underlying209 (by unfold maxLen; omega) (key_i64 HI.out) (val := v') (d := .held v') (ps := []) rfl
        have hfin := HD2.out.write (x := cutTo b 512) HR.out HB4.out (by rw [hz4]; omega) q2 q3 q4 u2 u3
        have hP6 := cell_row hfin.blk 1
        refine wpAnyH_all (rs := [14]) (by kernel_rfl) (by simp) ?_
        intro j hj
        obtain rfl : j = 14 := by simpa using hj
        refine wpOp_step rfl (fun K hK => ?_)
        refine step_run rfl (exec_append (by rfl) (by rfl) (by rfl) q1) ?_
        go_simp
        refine hK _ _ ⟨?_, ?_⟩
        · have hPl := HD2.out.lt P (.inl HD2.out.fP)
          rw [World.cell?_of_block (w := w3.alloc (.cells #[.slice (some ⟨W2.heap.size, 0, none⟩) 512 512] 22)) (w' := w5) (a := ⟨P, 1, none⟩) (q3.block P (by omega) (fun e => HD2.out.wP e.symm rfl))]
          exact KP.out _ HB4.out
        clear hK K
        refine wpAnyH_all (rs := [15]) (by kernel_rfl) (by simp) ?_
        intro j hj
        obtain rfl : j = 15 := by simpa using hj
        refine wpOp_step rfl (fun K hK => ?_)
        refine step_run_skip rfl (exec_mapUpdate (M := M) (key := .int .i64 i) (val := v') rfl (by rfl) (by rfl) (by rfl) u1) ?_
        go_simp
        refine hK _ _ ⟨hP6, ?_⟩
        clear hK K
        refine wpAnyH_done (by kernel_rfl) ?_ _
        clear hP6 u1 q1 hg4
        have HFIN := Lib.hid hfin
        have HOF := Lib.hid (show Only F W w6 from by
          have s2 := HO2.out.size
          have s4 := HB4.out.size
          have s5 := q3.size
          refine ⟨(u3.os.trans q3.os).trans (HB4.out.os.trans HO2.out.os), (u3.tape.trans q3.tape).trans (HB4.out.tape.trans HO2.out.tape), (u3.output.trans q3.output).trans (HB4.out.output.trans HO2.out.output), Nat.le_trans s2 (Nat.le_trans s4 (Nat.le_trans s5 u3.size)), fun k hk hf => ?_⟩
          have hMF : ¬ k = M := fun e => hf (e ▸ HD2.out.fM)
          rw [u3.block k (by omega) (fun e => hMF (Option.some.inj e)), q3.block k (by omega) (fun e => hf (HD2.out.fW i k e.symm)), HB4.out.block k (by omega)]
          exact HO2.out.block k hk hf)
        have HFB := Lib.hid (show (∀ k, (F k ∨ v'.ownBlock = some k) → F k ∨ W.heap.size ≤ k) ∧ (∀ k, (B k ∨ k = W2.heap.size) → B k ∨ W.heap.size ≤ k) from by
          have s2 := HO2.out.size
          have s4 := HB4.out.size
          refine ⟨fun k hk => hk.elim .inl fun hk => ?_, fun k hk => hk.elim .inl fun hk => .inr (by omega)⟩
          rcases q4 with q4 | q4
          · exact .inl (HD2.out.fW i k (q4 ▸ hk))
          · have := Option.some.inj (q4.symm.trans hk)
            exact .inr (by omega))
        clear hfin u2 u3 q2 q3 q4 hacc4 hu4 hD5
        go_wp2_with fail
        go_ret
        exact ⟨by rw [HF.out]; rfl, HOF.out, _, _, by rw [HF.out]; exact ⟨_, _, _, _, HFIN.out⟩, HFB.out.1, HFB.out.2, fun _ hb => .inl hb⟩
      · refine wpOp_step rfl (fun K hK => ?_)
        refine step_run rfl (exec_buildSlice (vy := .slice (some ⟨W2.heap.size, 0, none⟩) 512 512) rfl (.slice none 0 0) 1 Try.underlying24 info22' rfl rfl (by decide)) ?_
        go_simp
        have HB4 := Lib.hid (HB3.out.alloc HB3.out.size (.cells #[.slice (some ⟨W2.heap.size, 0, none⟩) 512 512] 22))
        refine hK _ _ ⟨KP.out _ HB4.out, ?_⟩
        clear hK K
        refine wpAnyH_all (rs := [10]) (by kernel_rfl) (by simp) ?_
        intro j hj
        obtain rfl : j = 10 := by simpa using hj
        refine wpOp_step rfl (fun K hK => ?_)
        refine step_run rfl (exec_lookup (M := M) (n := n) (D := D) (i := i) rfl (by rfl) (by rfl) (HD2.out.map_keep (HB4.out.block M (HD2.out.lt M (.inl HD2.out.fM)))) HI.out) ?_
        go_simp
        refine hK _ _ ⟨KP.out _ HB4.out, ?_⟩
        clear hK K
        have hg4 := heap_alloc_new w3 (.cells #[.slice (some ⟨W2.heap.size, 0, none⟩) 512 512] 22)
        have hz3 : W2.heap.size < w3.heap.size := IsC.lt ⟨_, _, _, HG.out⟩
        have hz4 : (w3.alloc (.cells #[.slice (some ⟨W2.heap.size, 0, none⟩) 512 512] 22)).heap.size = w3.heap.size + 1 := by simp
        have hacc4 : Rep.byte.list.acc 22 0 (fun k => B k ∨ k = W2.heap.size) (w3.alloc (.cells #[.slice (some ⟨W2.heap.size, 0, none⟩) 512 512] 22)) (valAt D i) (s1.wait i) :=
          Rep.acc_keep (fun k hk hl => HB4.out.block k hl.lt) (fun _ hk _ => .inl hk) (HD2.out.wt i)
        have hu4 : Rep.byte.list.rd (fun k => (B k ∨ k = W2.heap.size) ∧ (valAt D i).ownBlock ≠ some k) (w3.alloc (.cells #[.slice (some ⟨W2.heap.size, 0, none⟩) 512 512] 22)) [.slice (some ⟨W2.heap.size, 0, none⟩) 512 512] (cutTo b 512) := by
          have hS : SecAt w3 W2.heap.size 5 (cutTo b 512) := ⟨HG.out, cutTo_length _ _⟩
          have hv := hS.sl (a := 0) (n := 512) (c := 512) (by omega) (by omega) (by simp [maxLen])
          rw [List.drop_zero, List.take_of_length_le (by rw [cutTo_length]; omega)] at hv
          have hv2 := Rep.val_keep (w' := w3.alloc (.cells #[.slice (some ⟨W2.heap.size, 0, none⟩) 512 512] 22)) (Q' := fun k => (B k ∨ k = W2.heap.size) ∧ (valAt D i).ownBlock ≠ some k) (fun k hk hl => ⟨⟨.inr hk, fun e => by have := HD2.out.lt k (.inl (HD2.out.fW i k e)); have hk' : k = W2.heap.size := hk; omega⟩, Below.heap_alloc _ _ _ hl.lt⟩) hv
          obtain ⟨A', c', he, h1, h2, es, h3, h4⟩ := Rep.val_list hv2
          have hlen : (cutTo b 512).length = 512 := cutTo_length _ _
          rw [hlen] at he
          cases he
          exact ⟨_, _, es, by rw [hlen], h1, h2, h3, h4⟩
        obtain ⟨v', w5, q1, q2, q3, q4⟩ := Rep.acc_more (P := Try.prog) (ty := 24) (ys := [cutTo b 512]) (A := some ⟨w3.heap.size, 0, none⟩) (m := 1) (c := 1) Try.underlying24 info22 rfl (by decide) rfl hacc4 rfl (Rep.row_one_elem hu4)
          (fun _ => ⟨w3.heap.size, 0, rfl, fun j u hj => by rw [cell_of_row _ _ _ _ _ _ hg4, Nat.zero_add, ← hj]; simp⟩) (by have := HD2.out.len i; have hl : (s1.wait i).length ≤ n := this; simp; unfold maxLen; omega) (by have := HD2.out.len i; have hl : (s1.wait i).length ≤ n := this; simp; omega) (Nat.zero_le _)
        have hD5 : w5.ownsMap Try.prog 3 heldElem M n D := by
          have hMl := HD2.out.lt M (.inl HD2.out.fM)
          exact HD2.out.map_keep ((q3.block M (by omega) (fun e => HD2.out.wM e.symm rfl)).trans (HB4.out.block M hMl))
        obtain ⟨w6, u1, u2, u3⟩ := hD5.update int_law Try.underlying209 (by unfold maxLen; omega) (key_i64 HI.out) (val := v') (d := .held v') (ps := []) rfl
        have hfin := HD2.out.write (x := cutTo b 512) HR.out HB4.out (by rw [hz4]; omega) q2 q3 q4 u2 u3
        have hP6 := cell_row hfin.blk 1
        refine wpAnyH_all (rs := [14]) (by kernel_rfl) (by simp) ?_
        intro j hj
        obtain rfl : j = 14 := by simpa using hj
        refine wpOp_step rfl (fun K hK => ?_)
        refine step_run rfl (exec_append (by rfl) (by rfl) (by rfl) q1) ?_
        go_simp
        refine hK _ _ ⟨?_, ?_⟩
        · have hPl := HD2.out.lt P (.inl HD2.out.fP)
          rw [World.cell?_of_block (w := w3.alloc (.cells #[.slice (some ⟨W2.heap.size, 0, none⟩) 512 512] 22)) (w' := w5) (a := ⟨P, 1, none⟩) (q3.block P (by omega) (fun e => HD2.out.wP e.symm rfl))]
          exact KP.out _ HB4.out
        clear hK K
        refine wpAnyH_all (rs := [15]) (by kernel_rfl) (by simp) ?_
        intro j hj
        obtain rfl : j = 15 := by simpa using hj
        refine wpOp_step rfl (fun K hK => ?_)
        refine step_run_skip rfl (exec_mapUpdate (M := M) (key := .int .i64 i) (val := v') rfl (by rfl) (by rfl) (by rfl) u1) ?_
        go_simp
        refine hK _ _ ⟨hP6, ?_⟩
        clear hK K
        refine wpAnyH_done (by kernel_rfl) ?_ _
        clear hP6 u1 q1 hg4
        have HFIN := Lib.hid hfin
        have HOF := Lib.hid (show Only F W w6 from by
          have s2 := HO2.out.size
          have s4 := HB4.out.size
          have s5 := q3.size
          refine ⟨(u3.os.trans q3.os).trans (HB4.out.os.trans HO2.out.os), (u3.tape.trans q3.tape).trans (HB4.out.tape.trans HO2.out.tape), (u3.output.trans q3.output).trans (HB4.out.output.trans HO2.out.output), Nat.le_trans s2 (Nat.le_trans s4 (Nat.le_trans s5 u3.size)), fun k hk hf => ?_⟩
          have hMF : ¬ k = M := fun e => hf (e ▸ HD2.out.fM)
          rw [u3.block k (by omega) (fun e => hMF (Option.some.inj e)), q3.block k (by omega) (fun e => hf (HD2.out.fW i k e.symm)), HB4.out.block k (by omega)]
          exact HO2.out.block k hk hf)
        have HFB := Lib.hid (show (∀ k, (F k ∨ v'.ownBlock = some k) → F k ∨ W.heap.size ≤ k) ∧ (∀ k, (B k ∨ k = W2.heap.size) → B k ∨ W.heap.size ≤ k) from by
          have s2 := HO2.out.size
          have s4 := HB4.out.size
          refine ⟨fun k hk => hk.elim .inl fun hk => ?_, fun k hk => hk.elim .inl fun hk => .inr (by omega)⟩
          rcases q4 with q4 | q4
          · exact .inl (HD2.out.fW i k (q4 ▸ hk))
          · have := Option.some.inj (q4.symm.trans hk)
            exact .inr (by omega))
        clear hfin u2 u3 q2 q3 q4 hacc4 hu4 hD5
        go_wp2_with fail
        go_ret
        exact ⟨by rw [HF.out]; rfl, HOF.out, _, _, by rw [HF.out]; exact ⟨_, _, _, _, HFIN.out⟩, HFB.out.1, HFB.out.2, fun _ hb => .inl hb⟩
end Go.Proofs.Ytcfgckpjgihcgaa
/- Walk of a new device. Printed by gen_disknew.py. -/
namespace Go.Proofs.Ytcfgckpjgihcgaa
open Go.RowKit
open Extern.Stop (cell)

/-- A sector of 512 bytes in a block of its own. -/
def rSec : Rep (List UInt8 × Nat) where
  size := 1
  wrap cs := cs.headD undef
  rd Q w cs x := cs = [.slice (some ⟨x.2, 0, none⟩) 512 512] ∧ Q x.2 ∧ SecAt w x.2 5 x.1
  len h := by rw [h.1]; rfl
  one h := by rw [h.1]; simp [Value.oneCell']
  back h := by rw [h.1]; rfl
  keep hk h := ⟨h.1, (hk _ h.2.1 ⟨_, _, _, h.2.2.blk⟩).1, h.2.2.keep (hk _ h.2.1 ⟨_, _, _, h.2.2.blk⟩).2⟩
theorem rSec_val {Q : Nat → Prop} {w : World} {b : Nat} {L : List UInt8} (h : SecAt w b 5 L) (hq : Q b) : rSec.val Q w (.slice (some ⟨b, 0, none⟩) 512 512) (L, b) := ⟨_, rfl, rfl, hq, h⟩
/-- A new device as0 it grows: k sectors so far. -/
structure NewAt (w0 W : World) (P M k : Nat) (Sf : Option Addr) (cs : Nat) (xs : List (List UInt8 × Nat)) : Prop where
  len : xs.length = k
  blk : W.heap[P]? = some (.cells #[.slice Sf k cs, .map (some M), .int .i64 (-1), .bool false, .int .i64 0, .int .i64 0] 211 (0, 0))
  acc : rSec.acc 22 (P + 1) (fun b => P < b) W (.slice Sf k cs) xs
  map : W.heap[M]? = some (.map #[] 0)
  bel : Below w0.heap.size w0 W
  dis : (xs.map (·.2)).Nodup
  lt : ∀ x ∈ xs, P < x.2 ∧ x.2 < W.heap.size
  pos : w0.heap.size ≤ M ∧ M < P ∧ P < W.heap.size
def newN (n : Int) : Nat := (if n < 0 then 0 else if 4096 < n then 4096 else n).toNat
def NewPost (w : World) (n : Int) (e : Ending) (W : World) : Prop :=
  ∃ P M Sf cs xs, e = .returned (.pointer (some ⟨P, 0, none⟩)) ∧ NewAt w W P M (newN n) Sf cs xs ∧ ∀ x ∈ xs, x.1 = zeros 512
theorem newN_cases (n : Int) : (n < 0 ∧ newN n = 0) ∨ (4096 < n ∧ newN n = 4096) ∨ (0 ≤ n ∧ n ≤ 4096 ∧ n = (newN n : Nat)) := by
  unfold newN
  by_cases h : n < 0
  · exact .inl ⟨h, by rw [if_pos h]; rfl⟩
  · by_cases h2 : 4096 < n
    · exact .inr (.inl ⟨h2, by rw [if_neg h, if_pos h2]; rfl⟩)
    · exact .inr (.inr ⟨by omega, by omega, by rw [if_neg h, if_neg h2]; omega⟩)

theorem new_step {w0 wr v5 W7 : World} {P M k : Nat} {Sf A7 : Option Addr} {cs c7 : Nat} {xs : List (List UInt8 × Nat)} {u : Array Value} (h : NewAt w0 wr P M k Sf cs xs) (hb6 : Below wr.heap.size wr (v5.alloc (.cells u 22))) (hl : wr.heap.size < v5.heap.size)
    (q2 : rSec.acc 22 (P + 1) (fun b => P < b) W7 (.slice A7 (k + 1) c7) (xs ++ [(zeros 512, wr.heap.size)])) (q3 : (v5.alloc (.cells u 22)).grownBy W7 (Value.slice Sf k cs).ownBlock)
    (b7 : W7.heap[P]? = some (.cells #[.slice Sf k cs, .map (some M), .int .i64 (-1), .bool false, .int .i64 0, .int .i64 0] 211 (0, 0))) (hx : (xs ++ [(zeros 512, wr.heap.size)]).length = k + 1) :
    NewAt w0 (W7.setCell ⟨P, 0, none⟩ (.slice A7 (k + 1) c7)) P M (k + 1) A7 c7 (xs ++ [(zeros 512, wr.heap.size)]) := by
  have hown := Rep.acc_own h.acc
  have hown7 := Rep.acc_own q2
  have hpos := h.pos
  have s6 := hb6.size
  have s7 := q3.size
  have hs5 : (v5.alloc (.cells u 22)).heap.size = v5.heap.size + 1 := by simp
  refine ⟨hx, heap_setRow b7, Rep.acc_keep (fun b hb _ => Below.heap_setCell _ _ _ _ ?_) (fun _ hb _ => hb) q2, ?_, ?_, ?_, fun x hx => ?_, ⟨hpos.1, hpos.2.1, by simp; omega⟩⟩
  · show b ≠ P
    rcases hb with hb | hb
    · have hb' : P < b := hb; omega
    · have := (hown7 b hb).1; omega
  · rw [Below.heap_setCell _ _ _ _ (show M ≠ P by omega), q3.block M (by omega) (fun e => by have := (hown M e.symm).1; omega), hb6.block M (by omega)]
    exact h.map
  · exact below_set ((h.bel.trans (hb6.mono h.bel.size)).grown q3 (by have := h.bel.size; omega) (fun b hb => by have := (hown b hb).1; omega)) (by omega)
  · rw [List.map_append, List.nodup_append]
    refine ⟨h.dis, by simp, fun a ha b hb => ?_⟩
    simp at hb
    obtain ⟨x, hx, rfl⟩ := List.mem_map.1 ha
    have := (h.lt x hx).2
    omega
  · have hz : (W7.setCell ⟨P, 0, none⟩ (.slice A7 (k + 1) c7)).heap.size = W7.heap.size := by simp
    rw [hz]
    rcases List.mem_append.1 hx with hx | hx
    · have := h.lt x hx; omega
    · simp at hx; rw [hx]; exact ⟨hpos.2.2, by show wr.heap.size < _; omega⟩

set_option maxRecDepth 100000 in
set_option maxHeartbeats 400000 in
/-- disk.New -/
theorem dnew_calls {n : Int} (h0 : 0 ≤ n) (h1 : n ≤ 4096) (w : World) : Calls Try.prog 53 #[.int .i64 n] w (NewPost w n) := by
  have hmk : ∀ w, (Instr.makeSlice 22 (.int .i64 512) (.int .i64 512)).run Try.prog w = .ok (.slice (some ⟨w.heap.size, 0, none⟩) 512 512) (w.alloc (.cells (zeroBytes 512) 5)) :=
    fun w => run_make_bytes Try.underlying22 info5 512 (by omega) w
  have hmm := @run_makeMap Try.prog
  obtain ⟨Z, hZ⟩ : ∃ Z, Z = zeroBytes 512 := ⟨_, rfl⟩
  rw [← hZ] at hmk
  have HZ := Lib.hid (show Z = ((zeros 512).map cell).toArray by rw [hZ, zeroBytes_is])
  clear hZ
  obtain ⟨N, hN⟩ : ∃ N, N = newN n := ⟨_, rfl⟩
  have hcase : n = (N : Int) := by rcases newN_cases n with h | h | h <;> omega
  have HN := Lib.hid hN
  have HN4 := Lib.hid (show N ≤ 4096 by omega)
  clear hN
  obtain ⟨W1, hW1⟩ : ∃ W1, w.alloc (.map #[] 0) = W1 := ⟨_, rfl⟩
  have hm1 : W1.heap[w.heap.size]? = some (.map #[] 0) := by rw [← hW1]; exact heap_alloc_new _ _
  have hb1 : Below w.heap.size w W1 := by rw [← hW1]; exact (Below.refl _ _).alloc (Nat.le_refl _) _
  have hz1 : W1.heap.size = w.heap.size + 1 := by rw [← hW1]; simp
  obtain ⟨W2, hW2⟩ : ∃ W2, W1.alloc (.cells #[.slice none 0 0, .map (some w.heap.size), .int .i64 (-1), .bool false, .int .i64 0, .int .i64 0] 211) = W2 := ⟨_, rfl⟩
  have hz2 : W2.heap.size = w.heap.size + 1 + 1 := by rw [← hW2]; simp [hz1]
  have H0 := Lib.hid (show NewAt w W2 (w.heap.size + 1) w.heap.size 0 none 0 [] from ⟨rfl, by rw [← hW2, ← hz1]; exact heap_alloc_new _ _, Rep.acc_nil, by rw [← hW2, heap_alloc_old _ _ (by omega)]; exact hm1, by rw [← hW2]; exact hb1.alloc (by omega) _, by simp, by simp, ⟨Nat.le_refl _, by omega, by omega⟩⟩)
  clear hm1 hb1
  subst hcase
  go_enter Try.func53, Try.ntmps53
  go_wp2_with fail
  try rw [hW1]
  try rw [hW2]
  go_wp2_with fail
  clear hW1 hW2 hz1 hz2
  go_loopw [10] (fun i wr => ∃ (k : Nat) (Sf : Option Addr) (cs : Nat) (xs : List (List UInt8 × Nat)), i = .int .i64 k ∧ k ≤ N ∧ NewAt w wr (w.heap.size + 1) w.heap.size k Sf cs xs ∧ Hid (∀ x ∈ xs, x.1 = zeros 512)) (fun i _ => N - (intOf i).toNat)
  case atStart => exact ⟨0, none, 0, [], rfl, Nat.zero_le _, H0.out, fun x hx => by simp at hx⟩
  case round =>
    obtain ⟨k, Sf, cs, xs, rfl, hk, hr, hall⟩ := hrel
    have HR := Lib.hid hr
    by_cases hlt : (k : Int) < N
    · have hk2 : k < 4096 := by have := HN4.out; omega
      have hgb := hr.blk
      have hgp := hr.pos
      have c0 := cell_row hr.blk 0
      clear hr
      go_wp2_with fail
      refine wp_region_any (by kernel_rfl) ?_
      try (change wpAny _ _ _ _ _ _ _ (World.drew _))
      refine wpAny_take (i := 0) (v := .pointer (some ⟨w.heap.size + 1, 0, none⟩)) rfl (by kernel_rfl) (by kernel_rfl) (by kernel_rfl) (fun _ _ _ h => h) (Or.inl ⟨by rfl, fun w' => by go_simp⟩) ?_
      go_simp
      refine wpAny_take (i := 1) (v := .pointer (some ⟨w.heap.size + 1, 0, none⟩)) rfl (by kernel_rfl) (by kernel_rfl) (by kernel_rfl) (fun _ _ _ h => h) (Or.inl ⟨by rfl, fun w' => by go_simp⟩) ?_
      go_simp
      refine wpAny_take (i := 2) (v := .pointer (some ⟨w.heap.size + 1, 0, none⟩)) rfl (by kernel_rfl) (by kernel_rfl) (by kernel_rfl) (fun _ _ _ h => h) (Or.inl ⟨by rfl, fun w' => by go_simp⟩) ?_
      go_simp
      refine wpAny_take (i := 3) (v := .pointer (some ⟨w.heap.size + 1, 0, none⟩)) rfl (by kernel_rfl) (by kernel_rfl) (by kernel_rfl) (fun _ _ _ h => h) (Or.inl ⟨by rfl, fun w' => by go_simp⟩) ?_
      go_simp
      refine any_step [4, 5] (by kernel_rfl) (by simp) ?_
      intro j hj
      rcases (by simpa using hj : j = 4 ∨ j = 5) with rfl | rfl
      · refine wpOp_step rfl (fun K hK => ?_)
        go_simp
        refine hK _ _ ?_
        clear hK K
        refine any_step [5] (by kernel_rfl) (by simp) ?_
        intro j hj
        obtain rfl : j = 5 := by simpa using hj
        refine wpOp_step rfl (fun K hK => ?_)
        go_simp
        refine hK _ _ ?_
        clear hK K
        have HB5 := Lib.hid (show Below wr.heap.size wr (wr.alloc (.cells Z 5)).drew from ((Below.refl _ _).alloc (Nat.le_refl _) _).drew)
        have HS5 := Lib.hid (show SecAt (wr.alloc (.cells Z 5)).drew wr.heap.size 5 (zeros 512) from ⟨by rw [← HZ.out]; exact heap_alloc_new wr _, zeros_length _⟩)
        have c5 := (HB5.out.cell (p := ⟨w.heap.size + 1, 0, none⟩) hgp.2.2).trans c0
        generalize (wr.alloc (.cells Z 5)).drew = W5 at *
        refine any_step [6] (by kernel_rfl) (by simp) ?_
        intro j hj
        obtain rfl : j = 6 := by simpa using hj
        refine wpOp_step rfl (fun K hK => ?_)
        refine step_run rfl (exec_buildSlice (vy := .slice (some ⟨wr.heap.size, 0, none⟩) 512 512) rfl (.slice none 0 0) 1 Try.underlying24 info22' rfl rfl (by decide)) ?_
        go_simp
        refine hK _ _ ?_
        clear hK K
        have HB6 := Lib.hid (HB5.out.alloc HB5.out.size (.cells #[.slice (some ⟨wr.heap.size, 0, none⟩) 512 512] 22))
        have c6 := (HB6.out.cell (p := ⟨w.heap.size + 1, 0, none⟩) hgp.2.2).trans c0
        have hg6 := heap_alloc_new W5 (.cells #[.slice (some ⟨wr.heap.size, 0, none⟩) 512 512] 22)
        have hz6 : (W5.alloc (.cells #[.slice (some ⟨wr.heap.size, 0, none⟩) 512 512] 22)).heap.size = W5.heap.size + 1 := by simp
        have hacc6 : rSec.acc 22 (w.heap.size + 1 + 1) (fun b => w.heap.size + 1 < b) (W5.alloc (.cells #[.slice (some ⟨wr.heap.size, 0, none⟩) 512 512] 22)) (.slice Sf k cs) xs :=
          Rep.acc_keep (fun b _ hl => HB6.out.block b hl.lt) (fun _ hb _ => hb) HR.out.acc
        have hown := Rep.acc_own HR.out.acc
        have hrd6 : rSec.rd (fun b => w.heap.size + 1 < b ∧ (Value.slice Sf k cs).ownBlock ≠ some b) (W5.alloc (.cells #[.slice (some ⟨wr.heap.size, 0, none⟩) 512 512] 22)) [.slice (some ⟨wr.heap.size, 0, none⟩) 512 512] (zeros 512, wr.heap.size) :=
          ⟨rfl, ⟨hgp.2.2, fun e => by have := (hown _ e).2; omega⟩, HS5.out.keep (heap_alloc_old _ _ HS5.out.lt)⟩
        obtain ⟨v', W7, q1, q2, q3, q4⟩ := Rep.acc_more (P := Try.prog) (ty := 24) (ys := [(zeros 512, wr.heap.size)]) (A := some ⟨W5.heap.size, 0, none⟩) (m := 1) (c := 1) Try.underlying24 info22 rfl (by decide) rfl hacc6 rfl (Rep.row_one_elem hrd6)
          (fun _ => ⟨W5.heap.size, 0, rfl, fun j u hj => by rw [cell_of_row _ _ _ _ _ _ hg6, Nat.zero_add, ← hj]; simp⟩) (by have := HR.out.len; simp; unfold maxLen; omega) (by have := HR.out.len; simp; omega) (by have := HB6.out.size; omega)
        obtain ⟨A7, c7, rfl, hf1, hf2⟩ := Rep.acc_form q2
        have hxl : (xs ++ [(zeros 512, wr.heap.size)]).length = k + 1 := by rw [List.length_append, HR.out.len]; rfl
        rw [hxl] at q1 q2 q4
        refine any_step [7] (by kernel_rfl) (by simp) ?_
        intro j hj
        obtain rfl : j = 7 := by simpa using hj
        refine wpOp_step rfl (fun K hK => ?_)
        refine step_run rfl (exec_append (by rfl) (by rfl) (by rfl) q1) ?_
        go_simp
        refine hK _ _ ?_
        clear hK K
        have hPne : ∀ W8 : World, (W5.alloc (.cells #[.slice (some ⟨wr.heap.size, 0, none⟩) 512 512] 22)).grownBy W8 (Value.slice Sf k cs).ownBlock → W8.heap[w.heap.size + 1]? = wr.heap[w.heap.size + 1]? := fun W8 hg => (hg.block _ (by have := HB6.out.size; omega) (fun e => by have := (hown _ e.symm).1; omega)).trans (HB6.out.block _ hgp.2.2)
        have b7 := (hPne W7 q3).trans hgb
        have d0 := cell_row b7 0
        have z0 := frozen_row b7 0
        refine wpAny_take (i := 8) (v := .pointer (some ⟨w.heap.size + 1, 0, none⟩)) rfl (by kernel_rfl) (by kernel_rfl) (by kernel_rfl) (fun _ _ _ h => h) (Or.inl ⟨by rfl, fun w' => by go_simp⟩) ?_
        go_simp
        refine wpAny_take (i := 9) (v := .pointer (some ⟨w.heap.size + 1, 0, none⟩)) rfl (by kernel_rfl) (by kernel_rfl) (by kernel_rfl) (fun _ _ _ h => h) (Or.inl ⟨by rfl, fun w' => by go_simp⟩) ?_
        go_simp
        refine any_step [10] (by kernel_rfl) (by simp) ?_
        intro j hj
        obtain rfl : j = 10 := by simpa using hj
        refine wpOp_step rfl (fun K hK => ?_)
        go_simp
        refine hK _ _ ?_
        clear hK K
        have HNEW := Lib.hid (new_step (w0 := w) (v5 := W5) HR.out HB6.out HS5.out.lt q2 q3 b7 hxl)
        have HALL := Lib.hid (show ∀ x ∈ xs ++ [(zeros 512, wr.heap.size)], x.1 = zeros 512 from fun x hx => by rcases List.mem_append.1 hx with hx | hx; exact hall x hx; simp at hx; rw [hx])
        refine wpAny_done (by kernel_rfl) ?_ _
        clear q1 q2 q3 q4 b7 d0 z0 hrd6 hacc6 hg6 hz6 hPne hown
        go_wp2_with fail
        exact ⟨⟨k + 1, _, _, _, by go_num, by omega, HNEW.out, HALL.out⟩, by simp [intOf]; omega⟩
      · refine wpOp_step rfl (fun K hK => ?_)
        go_simp
        refine hK _ _ ?_
        clear hK K
        have HB5 := Lib.hid (show Below wr.heap.size wr (wr.alloc (.cells Z 5)).drew from ((Below.refl _ _).alloc (Nat.le_refl _) _).drew)
        have HS5 := Lib.hid (show SecAt (wr.alloc (.cells Z 5)).drew wr.heap.size 5 (zeros 512) from ⟨by rw [← HZ.out]; exact heap_alloc_new wr _, zeros_length _⟩)
        have c5 := (HB5.out.cell (p := ⟨w.heap.size + 1, 0, none⟩) hgp.2.2).trans c0
        generalize (wr.alloc (.cells Z 5)).drew = W5 at *
        refine any_step [4, 6] (by kernel_rfl) (by simp) ?_
        intro j hj
        rcases (by simpa using hj : j = 4 ∨ j = 6) with rfl | rfl
        · refine wpOp_step rfl (fun K hK => ?_)
          go_simp
          refine hK _ _ ?_
          clear hK K
          refine any_step [6] (by kernel_rfl) (by simp) ?_
          intro j hj
          obtain rfl : j = 6 := by simpa using hj
          refine wpOp_step rfl (fun K hK => ?_)
          refine step_run rfl (exec_buildSlice (vy := .slice (some ⟨wr.heap.size, 0, none⟩) 512 512) rfl (.slice none 0 0) 1 Try.underlying24 info22' rfl rfl (by decide)) ?_
          go_simp
          refine hK _ _ ?_
          clear hK K
          have HB6 := Lib.hid (HB5.out.alloc HB5.out.size (.cells #[.slice (some ⟨wr.heap.size, 0, none⟩) 512 512] 22))
          have c6 := (HB6.out.cell (p := ⟨w.heap.size + 1, 0, none⟩) hgp.2.2).trans c0
          have hg6 := heap_alloc_new W5 (.cells #[.slice (some ⟨wr.heap.size, 0, none⟩) 512 512] 22)
          have hz6 : (W5.alloc (.cells #[.slice (some ⟨wr.heap.size, 0, none⟩) 512 512] 22)).heap.size = W5.heap.size + 1 := by simp
          have hacc6 : rSec.acc 22 (w.heap.size + 1 + 1) (fun b => w.heap.size + 1 < b) (W5.alloc (.cells #[.slice (some ⟨wr.heap.size, 0, none⟩) 512 512] 22)) (.slice Sf k cs) xs :=
            Rep.acc_keep (fun b _ hl => HB6.out.block b hl.lt) (fun _ hb _ => hb) HR.out.acc
          have hown := Rep.acc_own HR.out.acc
          have hrd6 : rSec.rd (fun b => w.heap.size + 1 < b ∧ (Value.slice Sf k cs).ownBlock ≠ some b) (W5.alloc (.cells #[.slice (some ⟨wr.heap.size, 0, none⟩) 512 512] 22)) [.slice (some ⟨wr.heap.size, 0, none⟩) 512 512] (zeros 512, wr.heap.size) :=
            ⟨rfl, ⟨hgp.2.2, fun e => by have := (hown _ e).2; omega⟩, HS5.out.keep (heap_alloc_old _ _ HS5.out.lt)⟩
          obtain ⟨v', W7, q1, q2, q3, q4⟩ := Rep.acc_more (P := Try.prog) (ty := 24) (ys := [(zeros 512, wr.heap.size)]) (A := some ⟨W5.heap.size, 0, none⟩) (m := 1) (c := 1) Try.underlying24 info22 rfl (by decide) rfl hacc6 rfl (Rep.row_one_elem hrd6)
            (fun _ => ⟨W5.heap.size, 0, rfl, fun j u hj => by rw [cell_of_row _ _ _ _ _ _ hg6, Nat.zero_add, ← hj]; simp⟩) (by have := HR.out.len; simp; unfold maxLen; omega) (by have := HR.out.len; simp; omega) (by have := HB6.out.size; omega)
          obtain ⟨A7, c7, rfl, hf1, hf2⟩ := Rep.acc_form q2
          have hxl : (xs ++ [(zeros 512, wr.heap.size)]).length = k + 1 := by rw [List.length_append, HR.out.len]; rfl
          rw [hxl] at q1 q2 q4
          refine any_step [7] (by kernel_rfl) (by simp) ?_
          intro j hj
          obtain rfl : j = 7 := by simpa using hj
          refine wpOp_step rfl (fun K hK => ?_)
          refine step_run rfl (exec_append (by rfl) (by rfl) (by rfl) q1) ?_
          go_simp
          refine hK _ _ ?_
          clear hK K
          have hPne : ∀ W8 : World, (W5.alloc (.cells #[.slice (some ⟨wr.heap.size, 0, none⟩) 512 512] 22)).grownBy W8 (Value.slice Sf k cs).ownBlock → W8.heap[w.heap.size + 1]? = wr.heap[w.heap.size + 1]? := fun W8 hg => (hg.block _ (by have := HB6.out.size; omega) (fun e => by have := (hown _ e.symm).1; omega)).trans (HB6.out.block _ hgp.2.2)
          have b7 := (hPne W7 q3).trans hgb
          have d0 := cell_row b7 0
          have z0 := frozen_row b7 0
          refine wpAny_take (i := 8) (v := .pointer (some ⟨w.heap.size + 1, 0, none⟩)) rfl (by kernel_rfl) (by kernel_rfl) (by kernel_rfl) (fun _ _ _ h => h) (Or.inl ⟨by rfl, fun w' => by go_simp⟩) ?_
          go_simp
          refine wpAny_take (i := 9) (v := .pointer (some ⟨w.heap.size + 1, 0, none⟩)) rfl (by kernel_rfl) (by kernel_rfl) (by kernel_rfl) (fun _ _ _ h => h) (Or.inl ⟨by rfl, fun w' => by go_simp⟩) ?_
          go_simp
          refine any_step [10] (by kernel_rfl) (by simp) ?_
          intro j hj
          obtain rfl : j = 10 := by simpa using hj
          refine wpOp_step rfl (fun K hK => ?_)
          go_simp
          refine hK _ _ ?_
          clear hK K
          have HNEW := Lib.hid (new_step (w0 := w) (v5 := W5) HR.out HB6.out HS5.out.lt q2 q3 b7 hxl)
          have HALL := Lib.hid (show ∀ x ∈ xs ++ [(zeros 512, wr.heap.size)], x.1 = zeros 512 from fun x hx => by rcases List.mem_append.1 hx with hx | hx; exact hall x hx; simp at hx; rw [hx])
          refine wpAny_done (by kernel_rfl) ?_ _
          clear q1 q2 q3 q4 b7 d0 z0 hrd6 hacc6 hg6 hz6 hPne hown
          go_wp2_with fail
          exact ⟨⟨k + 1, _, _, _, by go_num, by omega, HNEW.out, HALL.out⟩, by simp [intOf]; omega⟩
        · refine wpOp_step rfl (fun K hK => ?_)
          refine step_run rfl (exec_buildSlice (vy := .slice (some ⟨wr.heap.size, 0, none⟩) 512 512) rfl (.slice none 0 0) 1 Try.underlying24 info22' rfl rfl (by decide)) ?_
          go_simp
          refine hK _ _ ?_
          clear hK K
          have HB6 := Lib.hid (HB5.out.alloc HB5.out.size (.cells #[.slice (some ⟨wr.heap.size, 0, none⟩) 512 512] 22))
          have c6 := (HB6.out.cell (p := ⟨w.heap.size + 1, 0, none⟩) hgp.2.2).trans c0
          refine any_step [4] (by kernel_rfl) (by simp) ?_
          intro j hj
          obtain rfl : j = 4 := by simpa using hj
          refine wpOp_step rfl (fun K hK => ?_)
          go_simp
          refine hK _ _ ?_
          clear hK K
          have hg6 := heap_alloc_new W5 (.cells #[.slice (some ⟨wr.heap.size, 0, none⟩) 512 512] 22)
          have hz6 : (W5.alloc (.cells #[.slice (some ⟨wr.heap.size, 0, none⟩) 512 512] 22)).heap.size = W5.heap.size + 1 := by simp
          have hacc6 : rSec.acc 22 (w.heap.size + 1 + 1) (fun b => w.heap.size + 1 < b) (W5.alloc (.cells #[.slice (some ⟨wr.heap.size, 0, none⟩) 512 512] 22)) (.slice Sf k cs) xs :=
            Rep.acc_keep (fun b _ hl => HB6.out.block b hl.lt) (fun _ hb _ => hb) HR.out.acc
          have hown := Rep.acc_own HR.out.acc
          have hrd6 : rSec.rd (fun b => w.heap.size + 1 < b ∧ (Value.slice Sf k cs).ownBlock ≠ some b) (W5.alloc (.cells #[.slice (some ⟨wr.heap.size, 0, none⟩) 512 512] 22)) [.slice (some ⟨wr.heap.size, 0, none⟩) 512 512] (zeros 512, wr.heap.size) :=
            ⟨rfl, ⟨hgp.2.2, fun e => by have := (hown _ e).2; omega⟩, HS5.out.keep (heap_alloc_old _ _ HS5.out.lt)⟩
          obtain ⟨v', W7, q1, q2, q3, q4⟩ := Rep.acc_more (P := Try.prog) (ty := 24) (ys := [(zeros 512, wr.heap.size)]) (A := some ⟨W5.heap.size, 0, none⟩) (m := 1) (c := 1) Try.underlying24 info22 rfl (by decide) rfl hacc6 rfl (Rep.row_one_elem hrd6)
            (fun _ => ⟨W5.heap.size, 0, rfl, fun j u hj => by rw [cell_of_row _ _ _ _ _ _ hg6, Nat.zero_add, ← hj]; simp⟩) (by have := HR.out.len; simp; unfold maxLen; omega) (by have := HR.out.len; simp; omega) (by have := HB6.out.size; omega)
          obtain ⟨A7, c7, rfl, hf1, hf2⟩ := Rep.acc_form q2
          have hxl : (xs ++ [(zeros 512, wr.heap.size)]).length = k + 1 := by rw [List.length_append, HR.out.len]; rfl
          rw [hxl] at q1 q2 q4
          refine any_step [7] (by kernel_rfl) (by simp) ?_
          intro j hj
          obtain rfl : j = 7 := by simpa using hj
          refine wpOp_step rfl (fun K hK => ?_)
          refine step_run rfl (exec_append (by rfl) (by rfl) (by rfl) q1) ?_
          go_simp
          refine hK _ _ ?_
          clear hK K
          have hPne : ∀ W8 : World, (W5.alloc (.cells #[.slice (some ⟨wr.heap.size, 0, none⟩) 512 512] 22)).grownBy W8 (Value.slice Sf k cs).ownBlock → W8.heap[w.heap.size + 1]? = wr.heap[w.heap.size + 1]? := fun W8 hg => (hg.block _ (by have := HB6.out.size; omega) (fun e => by have := (hown _ e.symm).1; omega)).trans (HB6.out.block _ hgp.2.2)
          have b7 := (hPne W7 q3).trans hgb
          have d0 := cell_row b7 0
          have z0 := frozen_row b7 0
          refine wpAny_take (i := 8) (v := .pointer (some ⟨w.heap.size + 1, 0, none⟩)) rfl (by kernel_rfl) (by kernel_rfl) (by kernel_rfl) (fun _ _ _ h => h) (Or.inl ⟨by rfl, fun w' => by go_simp⟩) ?_
          go_simp
          refine wpAny_take (i := 9) (v := .pointer (some ⟨w.heap.size + 1, 0, none⟩)) rfl (by kernel_rfl) (by kernel_rfl) (by kernel_rfl) (fun _ _ _ h => h) (Or.inl ⟨by rfl, fun w' => by go_simp⟩) ?_
          go_simp
          refine any_step [10] (by kernel_rfl) (by simp) ?_
          intro j hj
          obtain rfl : j = 10 := by simpa using hj
          refine wpOp_step rfl (fun K hK => ?_)
          go_simp
          refine hK _ _ ?_
          clear hK K
          have HNEW := Lib.hid (new_step (w0 := w) (v5 := W5) HR.out HB6.out HS5.out.lt q2 q3 b7 hxl)
          have HALL := Lib.hid (show ∀ x ∈ xs ++ [(zeros 512, wr.heap.size)], x.1 = zeros 512 from fun x hx => by rcases List.mem_append.1 hx with hx | hx; exact hall x hx; simp at hx; rw [hx])
          refine wpAny_done (by kernel_rfl) ?_ _
          clear q1 q2 q3 q4 b7 d0 z0 hrd6 hacc6 hg6 hz6 hPne hown
          go_wp2_with fail
          exact ⟨⟨k + 1, _, _, _, by go_num, by omega, HNEW.out, HALL.out⟩, by simp [intOf]; omega⟩
    · have hke : k = N := by omega
      have HK := Lib.hid hke
      go_wp2_with fail
      go_ret
      exact ⟨_, _, Sf, cs, xs, rfl, by rw [← HN.out, ← HK.out]; exact HR.out, hall⟩
end Go.Proofs.Ytcfgckpjgihcgaa
/- Walk of a device of given bytes. -/
namespace Go.Proofs.Ytcfgckpjgihcgaa
open Go.RowKit
open Extern.Stop (cell)

theorem sec_row {Q Q' : Nat → Prop} {W : World} : ∀ {xs : List (List UInt8 × Nat)} {cs : List Value}, rSec.row Q W cs xs → (∀ x ∈ xs, Q x.2 → Q' x.2) → Rep.byte.list.row Q' W cs (xs.map (·.1))
  | [], _, h, _ => h
  | x :: xs, _, h, hq => by
    obtain ⟨es, rest, rfl, ⟨rfl, h1, h2⟩, h3⟩ := h
    refine ⟨_, rest, rfl, ?_, sec_row h3 fun y hy => hq y (by simp [hy])⟩
    have hv := h2.sl (a := 0) (n := 512) (c := 512) (by omega) (by omega) (by simp [maxLen])
    rw [List.drop_zero, List.take_of_length_le (by rw [h2.len]; omega)] at hv
    have hv2 := Rep.val_mono (Q' := Q') (fun b hb _ => by have : b = x.2 := hb; rw [this]; exact hq x (by simp) h1) hv
    obtain ⟨A', c', he, g1, g2, es, g3, g4⟩ := Rep.val_list hv2
    have hlen := h2.len
    rw [hlen] at he
    cases he
    exact ⟨_, _, es, by rw [hlen], g1, g2, g3, g4⟩
def newSt (l : List (List UInt8)) : DiskSt := ⟨l, fun _ => [], -1, false, 0, 0⟩
theorem empty_map {W : World} {M : Nat} (h : W.heap[M]? = some (.map #[] 0)) : W.ownsMap Try.prog 3 heldElem M 0 (.map []) :=
  ⟨#[], 0, h, ⟨by simp, Go.MapKept.stamped_empty 0, by simp⟩, Nat.le_refl _, rfl⟩
/-- A new device is a device. -/
theorem NewAt.disk {w0 W : World} {P M k : Nat} {Sf : Option Addr} {cs : Nat} {xs : List (List UInt8 × Nat)} (h : NewAt w0 W P M k Sf cs xs) :
    DiskAt W P (fun b => b = P ∨ b = M ∨ (Value.slice Sf k cs).ownBlock = some b) (fun b => b ∈ xs.map (·.2) ∧ (Value.slice Sf k cs).ownBlock ≠ some b) 0 (newSt (xs.map (·.1))) := by
  have hl : (xs.map (·.1)).length = k := by rw [List.length_map]; exact h.len
  have hown := Rep.acc_own h.acc
  have hpos := h.pos
  refine ⟨Sf, cs, M, .map [], ⟨?_, ?_, empty_map h.map, fun i => Rep.acc_nil, fun i => Nat.le_refl _, fun i hi => absurd rfl hi, rfl, .inl rfl, .inr (.inl rfl), ?_, fun i b hb => (by cases hb), fun i b hb => (by cases hb), fun i j b _ hb => (by cases hb), fun b hb hB => ?_, fun b hb => ?_, fun i hi => by cases hi⟩⟩
  · show W.heap[P]? = some (.cells #[.slice Sf (xs.map (·.1)).length cs, _, _, _, _, _] _ _)
    rw [hl]; exact h.blk
  · show Rep.byte.list.acc 22 0 _ W (.slice Sf (xs.map (·.1)).length cs) (xs.map (·.1))
    rw [hl]
    obtain ⟨cells, h1, h2⟩ := h.acc
    refine ⟨cells, ⟨?_, ?_⟩, ?_⟩
    · have := h1.1; rw [this, h.len, hl]; rfl
    · rcases h1.2 with ⟨e, e0⟩ | ⟨g, cap, cur, e, hb, hh, g1, g2, g3, g4⟩
      · exact .inl ⟨e, by rw [hl]; rw [h.len] at e0; exact e0⟩
      · rw [h.len] at e g1 g4
        exact .inr ⟨g, cap, cur, by rw [hl]; exact e, Nat.zero_le _, hh, by rw [hl]; exact g1, g2, g3, by rw [hl]; exact g4⟩
    · exact sec_row h2 fun x hx hq => ⟨⟨List.mem_map.2 ⟨x, hx, rfl⟩, hq.2⟩, hq.2⟩
  · show ∀ b, (Value.slice Sf (xs.map (·.1)).length cs).ownBlock = some b → _
    rw [hl]; exact fun b hb => .inr (.inr hb)
  · obtain ⟨x, hx, rfl⟩ := List.mem_map.1 hB.1
    have := (h.lt x hx).1
    rcases hb with hb | hb | hb
    · omega
    · omega
    · exact hB.2 hb
  · rcases hb with (hb | hb | hb) | hb
    · omega
    · omega
    · exact (hown b hb).2
    · obtain ⟨x, hx, rfl⟩ := List.mem_map.1 hb.1
      exact (h.lt x hx).2

theorem row_set {Q : Nat → Prop} {W W' : World} {C : List UInt8} {bk : Nat} : ∀ {xs : List (List UInt8 × Nat)} {cs : List Value} {k : Nat} (_ : k < xs.length) (_ : (xs.map (·.2)).Nodup) (_ : rSec.row Q W cs xs) (_ : (xs[k]'‹_›).2 = bk) (_ : SecAt W' bk 5 C) (_ : ∀ b, b ≠ bk → W'.heap[b]? = W.heap[b]?), rSec.row Q W' cs (xs.set k (C, bk))
  | [], _, k, hk, _, _, _, _, _ => by simp at hk
  | x :: xs, _, 0, hk, hd, h, hbk, hc, hw => by
    obtain ⟨es, rest, rfl, ⟨rfl, h1, h2⟩, h3⟩ := h
    have e : x.2 = bk := hbk
    refine ⟨_, rest, rfl, ⟨by rw [← e], e ▸ h1, hc⟩, ?_⟩
    have hd2 := (List.nodup_cons.1 hd).1
    have : ∀ {ys : List (List UInt8 × Nat)} {cs : List Value}, (∀ y ∈ ys, y.2 ≠ bk) → rSec.row Q W cs ys → rSec.row Q W' cs ys := by
      intro ys
      induction ys with
      | nil => intro cs _ h; exact h
      | cons y ys ih =>
        intro cs hne h
        obtain ⟨es, rest, rfl, ⟨rfl, g1, g2⟩, g3⟩ := h
        exact ⟨_, rest, rfl, ⟨rfl, g1, g2.keep (hw _ (hne y (by simp)))⟩, ih (fun z hz => hne z (by simp [hz])) g3⟩
    exact this (fun y hy e2 => hd2 (List.mem_map.2 ⟨y, hy, e2.trans e.symm⟩)) h3
  | x :: xs, _, k + 1, hk, hd, h, hbk, hc, hw => by
    obtain ⟨es, rest, rfl, ⟨rfl, h1, h2⟩, h3⟩ := h
    have hd2 := (List.nodup_cons.1 hd)
    have hk2 : k < xs.length := by simpa using hk
    have hne : x.2 ≠ bk := fun e => hd2.1 (List.mem_map.2 ⟨xs[k], List.getElem_mem hk2, hbk.trans e.symm⟩)
    exact ⟨_, rest, rfl, ⟨rfl, h1, h2.keep (hw _ hne)⟩, row_set hk2 hd2.2 h3 hbk hc hw⟩
theorem NewAt.set {w0 W W' : World} {P M k j : Nat} {Sf : Option Addr} {cs : Nat} {xs : List (List UInt8 × Nat)} {C : List UInt8} {bk : Nat} (h : NewAt w0 W P M k Sf cs xs) (hj : j < xs.length) (hbk : xs[j].2 = bk)
    (hc : SecAt W' bk 5 C) (hw : ∀ b, b ≠ bk → W'.heap[b]? = W.heap[b]?) (hs : W'.heap.size = W.heap.size) (ho : W'.os = W.os ∧ W'.tape = W.tape ∧ W'.output = W.output) (hne : (Value.slice Sf k cs).ownBlock ≠ some bk) :
    NewAt w0 W' P M k Sf cs (xs.set j (C, bk)) := by
  have hlt := h.lt xs[j] (List.getElem_mem hj)
  rw [hbk] at hlt
  have hpos := h.pos
  have hmap : (xs.set j (C, bk)).map (·.2) = xs.map (·.2) := by
    rw [List.map_set]
    show (xs.map (·.2)).set j bk = xs.map (·.2)
    have : (xs.map (·.2))[j]'(by simpa using hj) = bk := by simp [hbk]
    rw [← this, List.set_getElem_self]
  obtain ⟨cells, h1, h2⟩ := h.acc
  refine ⟨by rw [List.length_set]; exact h.len, (hw P (by omega)).trans h.blk, ⟨cells, ?_, row_set hj h.dis h2 hbk hc hw⟩, (hw M (by omega)).trans h.map,
    ⟨ho.1.trans h.bel.os, ho.2.1.trans h.bel.tape, ho.2.2.trans h.bel.output, by rw [hs]; exact h.bel.size, fun b hb => (hw b (by omega)).trans (h.bel.block b hb)⟩, by rw [hmap]; exact h.dis, fun x hx => ?_, ⟨hpos.1, hpos.2.1, by rw [hs]; exact hpos.2.2⟩⟩
  · rw [List.length_set]
    refine ⟨h1.1, ?_⟩
    rcases h1.2 with e | ⟨g, cap, cur, e, hb, hh, r⟩
    · exact .inl e
    · refine .inr ⟨g, cap, cur, e, hb, (hw g (fun e2 => ?_)).trans hh, r⟩
      apply hne
      rw [e, e2]; rfl
  · rw [hs]
    rcases List.mem_or_eq_of_mem_set hx with hx | rfl
    · exact h.lt x hx
    · exact hlt

theorem step_copy_set {P : Program} {ops : Array Oper} {o : Oper} {a : Act} {w : World} {K : Act → World → Prop} {Q : Exit → Act → World → Prop} {E : Prop} (hgd : o.guard = none) (d s : Operand) (dT sT : TypeId)
    (ho : o.op = .call { callee := .builtin .copy, args := #[d, s], argTypes := #[dT, sT] }) (elem : TypeId) (hu : P.underlying dT = some (.slice elem)) (hsz : (P.info? elem).map (·.size) = some 1)
    (g off dLen dCap : Nat) (ad : Addr) (sLen sCap : Nat) (hd : a.eval d = .slice (some ⟨g, off, none⟩) dLen dCap) (hs : a.eval s = .slice (some ad) sLen sCap)
    (cur : Array Value) (t : TypeId) (hg : w.heap[g]? = some (.cells cur t (0, 0))) (cs : List Value) (hn : cs.length = Nat.min sLen dLen)
    (hsrc : ∀ j v, cs[j]? = some v → w.cell? (ad.add j) = some v) (hfit : off + cs.length ≤ cur.size) (h1 : ∀ v ∈ cs, v.oneCell' = true)
    (h : K (a.put o.dst (goInt cs.length)) (w.setRow g (splice cur.toList off cs).toArray)) :
    if Region.wanted o (yielded ops a.tmps) = true then Oper.wp P o a w K Q else E := by
  have hw : Region.wanted o (yielded ops a.tmps) = true := by simp [Region.wanted, hgd]
  rw [if_pos hw]
  have hrun := run_copy_row (P := P) w dT sT o.type elem g off dLen dCap ad sLen sCap cur t cs hu hsz hg hn hsrc hfit h1
  unfold Oper.wp
  simp [execOp, ho, resolve, invoke, builtin, hd, hs, hrun, Result.andThen]
  have h2 := h
  unfold splice at h2
  exact h2

def chunk (b : List UInt8) (k : Nat) : List UInt8 := (b.drop (512 * k)).take 512
def chunks (b : List UInt8) : List (List UInt8) := (List.range (b.length / 512)).map (chunk b)
def OfPost (w : World) (b : List UInt8) (e : Ending) (W : World) : Prop :=
  ∃ (P : Nat) (F B : Nat → Prop), e = .returned (.pointer (some ⟨P, 0, none⟩)) ∧ DiskAt W P F B 0 (newSt (chunks b)) ∧ (∀ k, F k ∨ B k → w.heap.size ≤ k) ∧ Below w.heap.size w W
theorem NewAt.old {w0 W : World} {P M k : Nat} {Sf : Option Addr} {cs : Nat} {xs : List (List UInt8 × Nat)} (h : NewAt w0 W P M k Sf cs xs) : ∀ b, ((b = P ∨ b = M ∨ (Value.slice Sf k cs).ownBlock = some b) ∨ (b ∈ xs.map (·.2) ∧ (Value.slice Sf k cs).ownBlock ≠ some b)) → w0.heap.size ≤ b := by
  intro b hb
  have hpos := h.pos
  rcases hb with (hb | hb | hb) | hb
  · omega
  · omega
  · have := (Rep.acc_own h.acc b hb).1; omega
  · obtain ⟨x, hx, rfl⟩ := List.mem_map.1 hb.1
    have := (h.lt x hx).1; omega
theorem splice_whole (Z X : List Value) (h : Z.length = X.length) : splice Z 0 X = X := by
  have := splice_here (B := Z) (T := []) h
  simpa using this

set_option maxRecDepth 100000 in
set_option maxHeartbeats 1000000 in
/-- disk.Of -/
theorem dof_calls {Q : Nat → Prop} {w : World} {v : Value} {b : List UInt8} (hx : Rep.byte.list.val Q w v b) (hl : b.length ≤ 2097152) :
    Calls Try.prog 79 #[v] w (OfPost w b) := by
  have HX := Lib.hid hx
  obtain ⟨A0, c0, rfl, hc1, hc2, hA⟩ := Rep.val_list hx
  unfold maxLen at hc2
  have HA := Lib.hid hA
  obtain ⟨N, hN⟩ : ∃ N, N = b.length / 512 := ⟨_, rfl⟩
  have HN := Lib.hid hN
  have hdiv : (b.length : Int) / 512 = N := by omega
  have hdiv2 : (b.length : Int).tdiv 512 = N := by rw [Int.tdiv_eq_ediv_of_nonneg (by omega)]; exact hdiv
  have HN4 := Lib.hid (show N ≤ 4096 by omega)
  have HLB := Lib.hid (show N * 512 ≤ b.length by omega)
  clear hx hA hN
  go_enter Try.func79, Try.ntmps79
  go_wp2_with fail
  refine (dnew_calls (n := (N : Int)) (by omega) (by have := HN4.out; omega) _).mono ?_
  rintro e w1 ⟨P, M, Sf, cs, xs, rfl, hnew, hz⟩
  have hnn : newN (N : Int) = N := by rcases newN_cases (N : Int) with h | h | h <;> (have := HN4.out; omega)
  rw [hnn] at hnew
  have HNEW := Lib.hid hnew
  have HZ := Lib.hid (show xs.map (·.1) = (List.range N).map (fun j => if j < 0 then chunk b j else zeros 512) from by
    apply List.ext_getElem
    · simp [hnew.len]
    · intro j h1 h2
      simp only [List.getElem_map]
      rw [if_neg (by omega)]
      exact hz _ (List.getElem_mem _))
  have c0' := cell_row hnew.blk 0
  clear hnew hz hnn
  go_wp2_with fail
  clear c0'
  go_loopw [14] (fun i wr => ∃ (k : Nat) (ys : List (List UInt8 × Nat)), i = .int .i64 k ∧ k ≤ N ∧ NewAt w wr P M N Sf cs ys ∧ Hid (ys.map (·.1) = (List.range N).map (fun j => if j < k then chunk b j else zeros 512))) (fun i _ => N - (intOf i).toNat)
  case atStart => exact ⟨0, xs, rfl, Nat.zero_le _, HNEW.out, HZ.out⟩
  case round =>
    obtain ⟨k, ys, rfl, hk, hr, hys⟩ := hrel
    have HR := Lib.hid hr
    by_cases hlt : (k : Int) < N
    · have hkN : k < N := by omega
      have hky : k < ys.length := by rw [hr.len]; exact hkN
      obtain ⟨x, hx⟩ : ∃ x, x = ys[k] := ⟨_, rfl⟩
      have hb0 := cell_row hr.blk 0
      have hbel := hr.bel
      have hacc : rSec.acc 22 (P + 1) (fun b => P < b) wr (.slice Sf ys.length cs) ys := by rw [hr.len]; exact hr.acc
      obtain ⟨A', c', he, _, _, hat⟩ := Rep.val_list (Rep.acc_val hacc)
      cases he
      obtain ⟨bS, offS, es, hSf, _, _, ⟨rfl, hq, hsec⟩, hcells⟩ := hat.get (List.getElem?_eq_getElem hky)
      have hcell := hcells 0 _ rfl
      simp only [rSec, Nat.mul_one, Nat.add_zero] at hcell
      rw [← hx] at hcell hsec
      have hx1 : x.1 = zeros 512 := by
        have h1 : (ys.map (·.1))[k]? = some x.1 := by rw [List.getElem?_map, List.getElem?_eq_getElem hky, ← hx]; rfl
        rw [hys.out, List.getElem?_map, List.getElem?_range hkN] at h1
        simp at h1
        exact h1.symm
      have hown : (Value.slice Sf N cs).ownBlock ≠ some x.2 := by
        obtain ⟨cells, hh1, hh2⟩ := hr.acc
        obtain ⟨es2, hg2, _⟩ := Rep.row_get hh2 (List.getElem?_eq_getElem hky)
        rw [← hx] at hg2
        exact hg2.2.1.2
      subst hSf
      rw [hx1] at hsec
      obtain ⟨bb, off, hA0⟩ := Rep.At.addr HA.out (by have := HLB.out; omega)
      subst hA0
      have hle : k * 512 + 512 ≤ b.length := by have := HLB.out; omega
      have hrange : ∀ j v, ((chunk b k).map cell)[j]? = some v → wr.drew.cell? ((⟨bb, off + k * 512, none⟩ : Addr).add j) = some v := by
        obtain ⟨es2, hrow, hc⟩ := HA.out
        obtain ⟨b', o', he, _, hic, hcs⟩ := hc (by omega)
        cases he
        intro j v hj
        rw [Addr.add_mid]
        have hj2 : ((b.map fun x => Value.int .u8 (x.toNat : Int)))[k * 512 + j]? = some v := by
          rw [cells_of]
          have hjl := (List.getElem?_eq_some_iff.1 hj).1
          rw [List.length_map] at hjl
          unfold chunk at hj hjl
          rw [List.length_take] at hjl
          simp only [List.getElem?_map, List.getElem?_take, List.getElem?_drop] at hj ⊢
          rw [if_pos (by omega), Nat.mul_comm] at hj
          exact hj
        have := hcs (k * 512 + j) v (by rw [Rep.row_byte hrow]; exact hj2)
        rw [← Nat.add_assoc] at this
        show wr.cell? ⟨bb, off + k * 512 + j, none⟩ = some v
        rw [hbel.cell (p := ⟨bb, off + k * 512 + j, none⟩) hic.lt]
        exact this
      have hcl : (chunk b k).length = 512 := by unfold chunk; rw [List.length_take, List.length_drop]; omega
      have HC := Lib.hid hcl
      have HRA := Lib.hid hrange
      have HSEC := Lib.hid (show wr.drew.heap[x.2]? = some (.cells ((zeros 512).map cell).toArray 5 (0, 0)) from hsec.blk)
      have HN2 := Lib.hid (show ((chunk b k).map cell).length = Nat.min (b.length - k * 512) 512 by rw [List.length_map, hcl]; exact (Nat.min_eq_right (by omega)).symm)
      have HFIT := Lib.hid (show 0 + ((chunk b k).map cell).length ≤ (((zeros 512).map cell).toArray : Array Value).size by rw [List.length_map, hcl]; simp [zeros_length])
      have HNEXT := Lib.hid (show ∀ W', SecAt W' x.2 5 (chunk b k) → (∀ c, c ≠ x.2 → W'.heap[c]? = wr.heap[c]?) → W'.heap.size = wr.heap.size → (W'.os = wr.os ∧ W'.tape = wr.tape ∧ W'.output = wr.output) → NewAt w W' P M N (some ⟨bS, offS, none⟩) cs (ys.set k (chunk b k, x.2)) from fun W' h1 h2 h3 h4 => HR.out.set hky (by rw [hx]) h1 h2 h3 h4 hown)
      have HYS := Lib.hid (show (ys.set k (chunk b k, x.2)).map (·.1) = (List.range N).map (fun j => if j < k + 1 then chunk b j else zeros 512) from by
        rw [List.map_set, hys.out]
        apply List.ext_getElem
        · simp
        · intro j g1 g2
          simp only [List.getElem_set, List.getElem_map, List.getElem_range]
          by_cases hjk : k = j
          · rw [if_pos hjk, if_pos (by omega), hjk]
          · rw [if_neg hjk]
            by_cases hj2 : j < k
            · rw [if_pos hj2, if_pos (by omega)]
            · rw [if_neg hj2, if_neg (by omega)])
      have i1 : IntKind.i64.wrap ((k : Int) * 512) = (k : Int) * 512 := IntWalk.i64_in _ ⟨by omega, by have := HN4.out; omega⟩
      have i2 : (0 : Int) ≤ (k : Int) * 512 := by omega
      have i3 : (k : Int) * 512 ≤ b.length := by omega
      have i4 : ((k : Int) * 512).toNat = k * 512 := by omega
      have i5 : ¬ c0 = k * 512 := by omega
      have i6 : (b.length : Int) ≤ c0 := by omega
      clear hat hcells hacc hq hsec hx1 hown hrange hcl hle hr hys hx
      go_wp2_with fail
      go_region_law (refine step_copy_set rfl (.tmp 23) (.tmp 27) 22 22 rfl 5 Try.underlying22 size5 x.2 0 512 512 ⟨bb, off + k * 512, none⟩ (b.length - k * 512) (c0 - k * 512) (by rfl) (by rfl) ((zeros 512).map cell).toArray 5 HSEC.out ((chunk b k).map cell) HN2.out HRA.out HFIT.out (copy_one _) ?_)
      have hW := setRow_heap wr.drew x.2 _ (splice (((zeros 512).map cell).toArray : Array Value).toList 0 ((chunk b k).map cell)).toArray 5 _ HSEC.out
      have HS := Lib.hid (show SecAt (wr.drew.setRow x.2 (splice (((zeros 512).map cell).toArray : Array Value).toList 0 ((chunk b k).map cell)).toArray) x.2 5 (chunk b k) from ⟨by rw [hW]; congr 3; exact splice_whole _ _ (by simp [zeros_length, HC.out]), HC.out⟩)
      have HNE := Lib.hid (HNEXT.out _ HS.out (fun c hc => setRow_other wr.drew x.2 c _ hc) (by simp [World.setRow]) ⟨rfl, rfl, rfl⟩)
      clear hW
      generalize wr.drew.setRow x.2 (splice (((zeros 512).map cell).toArray : Array Value).toList 0 ((chunk b k).map cell)).toArray = W7 at *
      go_wp2_with fail
      exact ⟨⟨k + 1, _, by go_num, by omega, HNE.out, HYS.out⟩, by simp [intOf]; omega⟩
    · have hke : k = N := by omega
      subst hke
      have HF := Lib.hid (show ys.map (·.1) = chunks b by
        rw [hys.out, chunks, ← HN.out]
        apply List.map_congr_left
        intro j hj
        rw [if_pos (List.mem_range.1 hj)])
      clear hr hys
      go_wp2_with fail
      go_ret
      exact ⟨P, _, _, rfl, by rw [← HF.out]; exact HR.out.disk, HR.out.old, HR.out.bel⟩
end Go.Proofs.Ytcfgckpjgihcgaa
/- Walk of a torn sector. -/
namespace Go.Proofs.Ytcfgckpjgihcgaa
open Go.RowKit
open Extern.Stop (cell)

/-- A part of one sector over another. -/
def tearOf (a b : List UInt8) (k : Int) : List UInt8 :=
  if 0 < k then (cutTo b 512).take (8 * (min k 64).toNat) ++ (cutTo a 512).drop (8 * (min k 64).toNat)
  else if k < 0 then (cutTo a 512).take (8 * (64 + max k (-64)).toNat) ++ (cutTo b 512).drop (8 * (64 + max k (-64)).toNat)
  else cutTo a 512
theorem tear_length (a b : List UInt8) (k : Int) : (tearOf a b k).length = 512 := by
  unfold tearOf
  split
  · rw [List.length_append, List.length_take, List.length_drop, cutTo_length, cutTo_length]; omega
  · split
    · rw [List.length_append, List.length_take, List.length_drop, cutTo_length, cutTo_length]; omega
    · exact cutTo_length _ _
theorem splice_front {α : Type} {X Y : List α} {n : Nat} (hn : n ≤ Y.length) : splice X 0 (Y.take n) = Y.take n ++ X.drop n := by
  unfold splice
  rw [List.take_zero, List.nil_append, List.length_take, Nat.zero_add, Nat.min_eq_left hn]
theorem splice_back {α : Type} {X Y : List α} {n : Nat} (hx : X.length = Y.length) : splice X n (Y.drop n) = X.take n ++ Y.drop n := by
  unfold splice
  rw [List.length_drop]
  by_cases h : n ≤ Y.length
  · rw [List.drop_of_length_le (show X.length ≤ n + (Y.length - n) by omega), List.append_nil]
  · rw [List.drop_of_length_le (show X.length ≤ n + (Y.length - n) by omega), List.append_nil]

set_option maxRecDepth 100000 in
set_option maxHeartbeats 4000000 in
/-- seal.Tear -/
theorem tear_calls {Q Q' : Nat → Prop} {w : World} {v u : Value} {a b : List UInt8} {k : Int} (hx : Rep.byte.list.val Q w v a) (hy : Rep.byte.list.val Q' w u b) (hk : (Lit.int .i64 k).wf = true) :
    Calls Try.prog 108 #[v, u, .int .i64 k] w (Res Rep.byte.list (fun c => w.heap.size ≤ c) w (tearOf a b k)) := by
  have HX := Lib.hid hx
  have HY := Lib.hid (Rep.val_any hy)
  have hkb : -9223372036854775808 ≤ k ∧ k ≤ 9223372036854775807 := by simpa [Lit.wf, IntKind.min, IntKind.max, IntKind.signed, IntKind.bits] using hk
  obtain ⟨X, hX⟩ : ∃ X, X = cutTo a 512 := ⟨_, rfl⟩
  obtain ⟨Y, hY⟩ : ∃ Y, Y = cutTo b 512 := ⟨_, rfl⟩
  have HXE := Lib.hid hX
  have HYE := Lib.hid hY
  have HXL := Lib.hid (show X.length = 512 by rw [hX, cutTo_length])
  have HYL := Lib.hid (show Y.length = 512 by rw [hY, cutTo_length])
  have HT := Lib.hid (show tearOf a b k = if 0 < k then Y.take (8 * (min k 64).toNat) ++ X.drop (8 * (min k 64).toNat) else if k < 0 then X.take (8 * (64 + max k (-64)).toNat) ++ Y.drop (8 * (64 + max k (-64)).toNat) else X by rw [hX, hY]; rfl)
  clear hx hy hk hX hY
  by_cases h1 : 64 < k
  · have HT2 := Lib.hid (show tearOf a b k = Y.take 512 ++ X.drop 512 by rw [HT.out, if_pos (by omega), Int.min_eq_right (by omega)]; rfl)
    have h2 : 0 < k := by omega
    go_enter Try.func108, Try.ntmps108
    go_wp2_with fail
    refine (lecut_calls (n := 512) HX.out (by decide)).mono ?_
    rintro e w2 ⟨rfl, hg2, hb2⟩
    rw [← HXE.out] at hg2
    have G2 := Lib.hid hg2
    have B2 := Lib.hid hb2
    clear hg2 hb2
    go_wp2_with fail
    refine (lecut_calls (n := 512) (Rep.val_below HY.out B2.out (fun _ h _ => h)) (by decide)).mono ?_
    rintro e w3 ⟨rfl, hg3, hb3⟩
    rw [← HYE.out] at hg3
    have S2 := Lib.hid (show w.heap.size < w2.heap.size from IsC.lt ⟨_, _, _, G2.out⟩)
    have SX := Lib.hid (show SecAt w3 w.heap.size 5 X from ⟨(hb3.block _ S2.out).trans G2.out, HXL.out⟩)
    have SY := Lib.hid (show SecAt w3 w2.heap.size 5 Y from ⟨hg3, HYL.out⟩)
    have B3 := Lib.hid (B2.out.trans (hb3.mono B2.out.size))
    clear hg3 hb3
    generalize hg : w2.heap.size = g2 at *
    clear hg
    have HL := Lib.hid (show ((Y.take 512).map cell).length = Nat.min 512 512 by rw [List.length_map, List.length_take, HYL.out]; try exact Nat.min_comm _ _)
    have HF := Lib.hid (show 0 + ((Y.take 512).map cell).length ≤ (X.map cell).length by rw [List.length_map, List.length_take, List.length_map, HYL.out, HXL.out]; omega)
    have HC := Lib.hid (copy_from (X := Y.take 512) (c := 512) (A := some ⟨g2, 0, none⟩) (w := w3) (Q := fun b => b = g2) (by
      have h := SY.out.sl (a := 0) (n := 512) (c := 512) (by omega) (by omega) (by simp [maxLen])
      rw [List.drop_zero] at h
      obtain ⟨A', c', he, h1, h2, h3⟩ := Rep.val_list h
      simp only [Value.slice.injEq] at he
      obtain ⟨rfl, _, rfl⟩ := he
      exact ⟨h1, h2, h3⟩))
    go_wp2_with (refine wpList_copy_splice rfl (.tmp 21) (.tmp 22) 22 22 rfl 5 Try.underlying22 size5 (some ⟨w.heap.size, 0, none⟩) (some ⟨g2, 0, none⟩) 512 512 512 512 (by exact rfl) (by exact rfl) w.heap.size 0 (X.map cell) 5 SX.out.blk ((Y.take 512).map cell) HL.out (fun h => ⟨rfl, HC.out h⟩) HF.out (copy_one _) w.heap.size w B3.out (Nat.le_refl _) ?_; intro w5 hg5 hb5; have H5 := Lib.hid hg5.out; have D5 := Lib.hid hb5; clear hg5 hb5)
    have hs5 : SecAt w5 w.heap.size 5 (Y.take 512 ++ X.drop 512) := ⟨by rw [H5.out, ← splice_map, splice_front (by rw [HYL.out]; omega)], by rw [List.length_append, List.length_take, List.length_drop, HYL.out, HXL.out]; omega⟩
    go_ret
    refine ⟨_, rfl, ?_, D5.out⟩
    rw [HT2.out]
    have hsl := hs5.sl (a := 0) (n := 512) (c := 512) (by decide) (Nat.le_refl _) (by simp [maxLen])
    rw [List.drop_zero, List.take_of_length_le (by rw [hs5.len]; exact Nat.le_refl _)] at hsl
    exact Rep.val_mono (fun c hc _ => by rw [show c = w.heap.size from hc]; exact Nat.le_refl _) hsl
  · by_cases h2 : 0 < k
    · obtain ⟨m, rfl⟩ : ∃ m : Nat, k = m := ⟨k.toNat, by omega⟩
      obtain ⟨n, hn⟩ : ∃ n : Nat, n = 8 * m := ⟨_, rfl⟩
      have HT2 := Lib.hid (show tearOf a b (m : Int) = Y.take n ++ X.drop n by rw [HT.out, if_pos h2, Int.min_eq_left (by omega), Int.toNat_natCast, ← hn])
      have i1 : IntKind.i64.wrap ((m : Int) * 8) = (m : Int) * 8 := IntWalk.i64_in _ ⟨by omega, by omega⟩
      have i2 : ((m : Int) * 8).toNat = n := by omega
      have i3 : (m : Int) * 8 ≤ 512 := by omega
      have i4 : (0 : Int) ≤ (m : Int) * 8 := by omega
      have hn5 : n ≤ 512 := by omega
      clear hn
      go_enter Try.func108, Try.ntmps108
      go_wp2_with fail
      refine (lecut_calls (n := 512) HX.out (by decide)).mono ?_
      rintro e w2 ⟨rfl, hg2, hb2⟩
      rw [← HXE.out] at hg2
      have G2 := Lib.hid hg2
      have B2 := Lib.hid hb2
      clear hg2 hb2
      go_wp2_with fail
      refine (lecut_calls (n := 512) (Rep.val_below HY.out B2.out (fun _ h _ => h)) (by decide)).mono ?_
      rintro e w3 ⟨rfl, hg3, hb3⟩
      rw [← HYE.out] at hg3
      have S2 := Lib.hid (show w.heap.size < w2.heap.size from IsC.lt ⟨_, _, _, G2.out⟩)
      have SX := Lib.hid (show SecAt w3 w.heap.size 5 X from ⟨(hb3.block _ S2.out).trans G2.out, HXL.out⟩)
      have SY := Lib.hid (show SecAt w3 w2.heap.size 5 Y from ⟨hg3, HYL.out⟩)
      have B3 := Lib.hid (B2.out.trans (hb3.mono B2.out.size))
      clear hg3 hb3
      generalize hg : w2.heap.size = g2 at *
      clear hg
      have HL := Lib.hid (show ((Y.take n).map cell).length = Nat.min 512 n by rw [List.length_map, List.length_take, HYL.out]; try exact Nat.min_comm _ _)
      have HF := Lib.hid (show 0 + ((Y.take n).map cell).length ≤ (X.map cell).length by rw [List.length_map, List.length_take, List.length_map, HYL.out, HXL.out]; omega)
      have HC := Lib.hid (copy_from (X := Y.take n) (c := 512) (A := some ⟨g2, 0, none⟩) (w := w3) (Q := fun b => b = g2) (by
        have h := SY.out.sl (a := 0) (n := n) (c := 512) (by omega) (by omega) (by simp [maxLen])
        rw [List.drop_zero] at h
        obtain ⟨A', c', he, h1, h2, h3⟩ := Rep.val_list h
        simp only [Value.slice.injEq] at he
        obtain ⟨rfl, _, rfl⟩ := he
        exact ⟨h1, h2, h3⟩))
      go_wp2_with (refine wpList_copy_splice rfl (.tmp 21) (.tmp 22) 22 22 rfl 5 Try.underlying22 size5 (some ⟨w.heap.size, 0, none⟩) (some ⟨g2, 0, none⟩) n 512 512 512 (by exact rfl) (by exact rfl) w.heap.size 0 (X.map cell) 5 SX.out.blk ((Y.take n).map cell) HL.out (fun h => ⟨rfl, HC.out h⟩) HF.out (copy_one _) w.heap.size w B3.out (Nat.le_refl _) ?_; intro w5 hg5 hb5; have H5 := Lib.hid hg5.out; have D5 := Lib.hid hb5; clear hg5 hb5)
      have hs5 : SecAt w5 w.heap.size 5 (Y.take n ++ X.drop n) := ⟨by rw [H5.out, ← splice_map, splice_front (by rw [HYL.out]; omega)], by rw [List.length_append, List.length_take, List.length_drop, HYL.out, HXL.out]; omega⟩
      go_ret
      refine ⟨_, rfl, ?_, D5.out⟩
      rw [HT2.out]
      have hsl := hs5.sl (a := 0) (n := 512) (c := 512) (by decide) (Nat.le_refl _) (by simp [maxLen])
      rw [List.drop_zero, List.take_of_length_le (by rw [hs5.len]; exact Nat.le_refl _)] at hsl
      exact Rep.val_mono (fun c hc _ => by rw [show c = w.heap.size from hc]; exact Nat.le_refl _) hsl
    · by_cases h3 : k < 0
      · by_cases h4 : k < -64
        · skip
          have HT2 := Lib.hid (show tearOf a b k = X.take 0 ++ Y.drop 0 by rw [HT.out, if_neg h2, if_pos h3, Int.max_eq_right (by omega)]; rfl)
          go_enter Try.func108, Try.ntmps108
          go_wp2_with fail
          refine (lecut_calls (n := 512) HX.out (by decide)).mono ?_
          rintro e w2 ⟨rfl, hg2, hb2⟩
          rw [← HXE.out] at hg2
          have G2 := Lib.hid hg2
          have B2 := Lib.hid hb2
          clear hg2 hb2
          go_wp2_with fail
          refine (lecut_calls (n := 512) (Rep.val_below HY.out B2.out (fun _ h _ => h)) (by decide)).mono ?_
          rintro e w3 ⟨rfl, hg3, hb3⟩
          rw [← HYE.out] at hg3
          have S2 := Lib.hid (show w.heap.size < w2.heap.size from IsC.lt ⟨_, _, _, G2.out⟩)
          have SX := Lib.hid (show SecAt w3 w.heap.size 5 X from ⟨(hb3.block _ S2.out).trans G2.out, HXL.out⟩)
          have SY := Lib.hid (show SecAt w3 w2.heap.size 5 Y from ⟨hg3, HYL.out⟩)
          have B3 := Lib.hid (B2.out.trans (hb3.mono B2.out.size))
          clear hg3 hb3
          generalize hg : w2.heap.size = g2 at *
          clear hg
          have HN := Lib.hid (show ((Y.drop 0).map cell).length = Nat.min (512 - 0) (512 - 0) by rw [List.length_map, List.length_drop, HYL.out]; try exact (Nat.min_self _).symm)
          have HFIT := Lib.hid (show 0 + ((Y.drop 0).map cell).length ≤ ((X.map cell).toArray : Array Value).size by simp [HXL.out, HYL.out] <;> omega)
          have HSRC := Lib.hid (show ∀ j x, ((Y.drop 0).map cell)[j]? = some x → w3.drew.cell? ((⟨g2, 0 + 0, none⟩ : Addr).add j) = some x from fun j x hj => by
            rw [Addr.add_mid]
            show w3.cell? ⟨g2, 0 + 0 + j, none⟩ = some x
            rw [cell_of_row _ _ _ _ _ _ SY.out.blk, ← hj]
            first | simp | simp [List.getElem?_drop, Nat.add_comm])
          have HSEC := Lib.hid (show w3.drew.heap[w.heap.size]? = some (.cells (X.map cell).toArray 5 (0, 0)) from SX.out.blk)
          go_wp2_with fail
          go_region_law (refine step_copy_set rfl (.tmp 33) (.tmp 36) 22 22 rfl 5 Try.underlying22 size5 w.heap.size (0 + 0) (512 - 0) (512 - 0) ⟨g2, 0 + 0, none⟩ (512 - 0) (512 - 0) (by exact rfl) (by exact rfl) (X.map cell).toArray 5 HSEC.out ((Y.drop 0).map cell) HN.out HSRC.out (by simpa using HFIT.out) (copy_one _) ?_)
          have hW := setRow_heap w3.drew w.heap.size _ (splice ((X.map cell).toArray : Array Value).toList 0 ((Y).map cell)).toArray 5 _ HSEC.out
          have hs5 : SecAt (w3.drew.setRow w.heap.size (splice ((X.map cell).toArray : Array Value).toList 0 ((Y).map cell)).toArray) w.heap.size 5 (X.take 0 ++ Y.drop 0) := ⟨by
            rw [hW]
            show some (Obj.cells (splice (X.map cell) 0 ((Y).map cell)).toArray 5 (0, 0)) = _
            rw [← splice_map, show splice X 0 (Y) = X.take 0 ++ Y.drop 0 by first | exact splice_back (by rw [HXL.out, HYL.out]) | (rw [← splice_back (n := 0) (by rw [HXL.out, HYL.out])]; simp)], by rw [List.length_append, List.length_take, List.length_drop, HXL.out, HYL.out]; omega⟩
          have hb5 : Below w.heap.size w (w3.drew.setRow w.heap.size (splice ((X.map cell).toArray : Array Value).toList 0 ((Y).map cell)).toArray) := ⟨B3.out.os, B3.out.tape, B3.out.output, by simp [World.setRow]; exact B3.out.size, fun b hb => (setRow_other w3.drew w.heap.size b _ (by omega)).trans (B3.out.block b hb)⟩
          clear hW
          generalize w3.drew.setRow w.heap.size (splice ((X.map cell).toArray : Array Value).toList 0 ((Y).map cell)).toArray = W7 at *
          have HS5 := Lib.hid hs5
          have HB5 := Lib.hid hb5
          clear hs5 hb5
          go_wp2_with fail
          go_ret
          refine ⟨_, rfl, ?_, HB5.out⟩
          rw [HT2.out]
          have hsl := HS5.out.sl (a := 0) (n := 512) (c := 512) (by decide) (Nat.le_refl _) (by simp [maxLen])
          rw [List.drop_zero, List.take_of_length_le (by rw [HS5.out.len]; exact Nat.le_refl _)] at hsl
          exact Rep.val_mono (fun c hc _ => by rw [show c = w.heap.size from hc]; exact Nat.le_refl _) hsl
        · obtain ⟨m, hm⟩ : ∃ m : Nat, 64 + k = m := ⟨(64 + k).toNat, by omega⟩
          obtain rfl : k = (m : Int) - 64 := by omega
          obtain ⟨n, hn⟩ : ∃ n : Nat, n = 8 * m := ⟨_, rfl⟩
          have HT2 := Lib.hid (show tearOf a b ((m : Int) - 64) = X.take n ++ Y.drop n by rw [HT.out, if_neg h2, if_pos h3, Int.max_eq_left (by omega), hm, Int.toNat_natCast, ← hn])
          have i1 : IntKind.i64.wrap ((m : Int) * 8) = (m : Int) * 8 := IntWalk.i64_in _ ⟨by omega, by omega⟩
          have i2 : ((m : Int) * 8).toNat = n := by omega
          have i3 : (m : Int) * 8 ≤ 512 := by omega
          have i4 : (0 : Int) ≤ (m : Int) * 8 := by omega
          have hn5 : n ≤ 512 := by omega
          have i9 : ¬ 512 = n := by omega
          have i6 : IntKind.i64.wrap (64 + ((m : Int) - 64)) = (m : Int) := by rw [show 64 + ((m : Int) - 64) = (m : Int) by omega]; exact IntWalk.i64_in _ ⟨by omega, by omega⟩
          have i7 : ¬ (m : Int) - 64 < -64 := by omega
          have i8 : (m : Int) - 64 < 0 := by omega
          clear hn hm
          go_enter Try.func108, Try.ntmps108
          go_wp2_with fail
          refine (lecut_calls (n := 512) HX.out (by decide)).mono ?_
          rintro e w2 ⟨rfl, hg2, hb2⟩
          rw [← HXE.out] at hg2
          have G2 := Lib.hid hg2
          have B2 := Lib.hid hb2
          clear hg2 hb2
          go_wp2_with fail
          refine (lecut_calls (n := 512) (Rep.val_below HY.out B2.out (fun _ h _ => h)) (by decide)).mono ?_
          rintro e w3 ⟨rfl, hg3, hb3⟩
          rw [← HYE.out] at hg3
          have S2 := Lib.hid (show w.heap.size < w2.heap.size from IsC.lt ⟨_, _, _, G2.out⟩)
          have SX := Lib.hid (show SecAt w3 w.heap.size 5 X from ⟨(hb3.block _ S2.out).trans G2.out, HXL.out⟩)
          have SY := Lib.hid (show SecAt w3 w2.heap.size 5 Y from ⟨hg3, HYL.out⟩)
          have B3 := Lib.hid (B2.out.trans (hb3.mono B2.out.size))
          clear hg3 hb3
          generalize hg : w2.heap.size = g2 at *
          clear hg
          have HN := Lib.hid (show ((Y.drop n).map cell).length = Nat.min (512 - n) (512 - n) by rw [List.length_map, List.length_drop, HYL.out]; try exact (Nat.min_self _).symm)
          have HFIT := Lib.hid (show n + ((Y.drop n).map cell).length ≤ ((X.map cell).toArray : Array Value).size by simp [HXL.out, HYL.out] <;> omega)
          have HSRC := Lib.hid (show ∀ j x, ((Y.drop n).map cell)[j]? = some x → w3.drew.cell? ((⟨g2, n, none⟩ : Addr).add j) = some x from fun j x hj => by
            rw [Addr.add_mid]
            show w3.cell? ⟨g2, n + j, none⟩ = some x
            rw [cell_of_row _ _ _ _ _ _ SY.out.blk, ← hj]
            first | simp | simp [List.getElem?_drop, Nat.add_comm])
          have HSEC := Lib.hid (show w3.drew.heap[w.heap.size]? = some (.cells (X.map cell).toArray 5 (0, 0)) from SX.out.blk)
          go_wp2_with fail
          go_region_law (refine step_copy_set rfl (.tmp 33) (.tmp 36) 22 22 rfl 5 Try.underlying22 size5 w.heap.size n (512 - n) (512 - n) ⟨g2, n, none⟩ (512 - n) (512 - n) (by exact rfl) (by exact rfl) (X.map cell).toArray 5 HSEC.out ((Y.drop n).map cell) HN.out HSRC.out (by simpa using HFIT.out) (copy_one _) ?_)
          have hW := setRow_heap w3.drew w.heap.size _ (splice ((X.map cell).toArray : Array Value).toList n ((Y.drop n).map cell)).toArray 5 _ HSEC.out
          have hs5 : SecAt (w3.drew.setRow w.heap.size (splice ((X.map cell).toArray : Array Value).toList n ((Y.drop n).map cell)).toArray) w.heap.size 5 (X.take n ++ Y.drop n) := ⟨by
            rw [hW]
            show some (Obj.cells (splice (X.map cell) n ((Y.drop n).map cell)).toArray 5 (0, 0)) = _
            rw [← splice_map, show splice X n (Y.drop n) = X.take n ++ Y.drop n by first | exact splice_back (by rw [HXL.out, HYL.out]) | (rw [← splice_back (n := n) (by rw [HXL.out, HYL.out])]; simp)], by rw [List.length_append, List.length_take, List.length_drop, HXL.out, HYL.out]; omega⟩
          have hb5 : Below w.heap.size w (w3.drew.setRow w.heap.size (splice ((X.map cell).toArray : Array Value).toList n ((Y.drop n).map cell)).toArray) := ⟨B3.out.os, B3.out.tape, B3.out.output, by simp [World.setRow]; exact B3.out.size, fun b hb => (setRow_other w3.drew w.heap.size b _ (by omega)).trans (B3.out.block b hb)⟩
          clear hW
          rw [List.map_drop] at hs5 hb5
          replace hs5 : SecAt (w3.drew.setRow w.heap.size (splice (X.map cell) n ((Y.map cell).drop n)).toArray) w.heap.size 5 (X.take n ++ Y.drop n) := hs5
          replace hb5 : Below w.heap.size w (w3.drew.setRow w.heap.size (splice (X.map cell) n ((Y.map cell).drop n)).toArray) := hb5
          generalize w3.drew.setRow w.heap.size (splice (X.map cell) n ((Y.map cell).drop n)).toArray = W7 at *
          have HS5 := Lib.hid hs5
          have HB5 := Lib.hid hb5
          clear hs5 hb5
          go_wp2_with fail
          go_ret
          refine ⟨_, rfl, ?_, HB5.out⟩
          rw [HT2.out]
          have hsl := HS5.out.sl (a := 0) (n := 512) (c := 512) (by decide) (Nat.le_refl _) (by simp [maxLen])
          rw [List.drop_zero, List.take_of_length_le (by rw [HS5.out.len]; exact Nat.le_refl _)] at hsl
          exact Rep.val_mono (fun c hc _ => by rw [show c = w.heap.size from hc]; exact Nat.le_refl _) hsl
      · obtain rfl : k = 0 := by omega
        have HT2 := Lib.hid (show tearOf a b 0 = X from HT.out)
        go_enter Try.func108, Try.ntmps108
        go_wp2_with fail
        refine (lecut_calls (n := 512) HX.out (by decide)).mono ?_
        rintro e w2 ⟨rfl, hg2, hb2⟩
        rw [← HXE.out] at hg2
        have G2 := Lib.hid hg2
        have B2 := Lib.hid hb2
        clear hg2 hb2
        go_wp2_with fail
        refine (lecut_calls (n := 512) (Rep.val_below HY.out B2.out (fun _ h _ => h)) (by decide)).mono ?_
        rintro e w3 ⟨rfl, hg3, hb3⟩
        rw [← HYE.out] at hg3
        have S2 := Lib.hid (show w.heap.size < w2.heap.size from IsC.lt ⟨_, _, _, G2.out⟩)
        have SX := Lib.hid (show SecAt w3 w.heap.size 5 X from ⟨(hb3.block _ S2.out).trans G2.out, HXL.out⟩)
        have SY := Lib.hid (show SecAt w3 w2.heap.size 5 Y from ⟨hg3, HYL.out⟩)
        have B3 := Lib.hid (B2.out.trans (hb3.mono B2.out.size))
        clear hg3 hb3
        generalize hg : w2.heap.size = g2 at *
        clear hg
        go_wp2_with fail
        go_ret
        refine ⟨_, rfl, ?_, B3.out⟩
        rw [HT2.out]
        have hsl := SX.out.sl (a := 0) (n := 512) (c := 512) (by decide) (Nat.le_refl _) (by simp [maxLen])
        rw [List.drop_zero, List.take_of_length_le (by rw [SX.out.len]; exact Nat.le_refl _)] at hsl
        exact Rep.val_mono (fun c hc _ => by rw [show c = w.heap.size from hc]; exact Nat.le_refl _) hsl
end Go.Proofs.Ytcfgckpjgihcgaa
/- Walk of what stays of a sector when the power fails. -/
namespace Go.Proofs.Ytcfgckpjgihcgaa
open Go.RowKit

def keptOf (f : DFate) (n : Nat) : Nat := (min (max f.kept 0) (n : Int)).toNat
def settleOf (s : List UInt8) (l : List (List UInt8)) (f : DFate) : List UInt8 :=
  if keptOf f l.length < l.length then tearOf ((s :: l).getD (keptOf f l.length) []) ((s :: l).getD (keptOf f l.length + 1) []) f.torn else (s :: l).getD (keptOf f l.length) []
theorem kept_le (f : DFate) (n : Nat) : keptOf f n ≤ n := by unfold keptOf; omega
/-- 'append(s, xs...)', xs a slice of the call's own or kept as0 one. -/
theorem wpList_spread_acc {α : Type} {r : Rep α} {e base e2 base2 : Nat} {Q Q' : Nat → Prop} {P : Program} {w : World} {ops : Array Oper} {rest : List Oper} {o : Oper} {a : Act} {R : Exit → Act → World → Prop} (hg : o.guard = none) (s x : Operand) (t : TypeId)
    (ho : o.op = .call { callee := .builtin .append, args := #[s, x], argTypes := #[t, t] })
    (z : Value) (size bytes : Nat) (ht : P.underlying t = some (.slice e)) (hi : (P.info? e).map (fun i => (i.zero, i.size, i.bytes)) = some (some z, size, bytes)) (hzs : z.cells.size = size) (hsz : 0 < size)
    (hr : r.size = size) (v : Value) (xs : List α) (hs : a.eval s = v) (h : r.acc e base Q w v xs) (u : Value) (ys : List α) (hx : a.eval x = u) (hy : r.acc e2 base2 Q' w u ys)
    (hq : ∀ b, Q' b → IsC w b → Q b ∧ v.ownBlock ≠ some b)
    (h63 : xs.length + ys.length ≤ maxLen) (hbytes : (xs.length + ys.length) * bytes ≤ 140737488355328) (hbase : base ≤ w.heap.size)
    (K : ∀ v' w', r.acc e base Q w' v' (xs ++ ys) → w.grownBy w' v.ownBlock → (v'.ownBlock = v.ownBlock ∨ v'.ownBlock = some w.heap.size) → wpList P ops R rest (a.put o.dst v') w') :
    wpList P ops R (o :: rest) a w := by
  obtain ⟨A, c, rfl, _, _⟩ := Rep.acc_form hy
  obtain ⟨cells, h1, h2⟩ := hy
  refine wpList_plain hg fun K2 hK2 => ?_
  obtain ⟨v', w', q1, q2, q3, q4⟩ := Rep.acc_more (P := P) (ty := o.type) (c := c) (A := A) ht hi hzs hsz hr h rfl (Rep.row_keep (fun b hb hl => ⟨hq b hb.1 hl, rfl⟩) h2)
    (fun hn => by
      rcases h1.2 with ⟨hv, h0⟩ | ⟨g, cap, cur, hv, _⟩
      · omega
      · cases hv
        refine ⟨g, 0, rfl, fun j u hj => ?_⟩
        have := h1.cells (g := g) rfl j u hj
        rwa [Addr.add_lit] at this) h63 hbytes hbase
  unfold Oper.wp execOp
  simp only [ho, resolve, invoke, builtin, Sem.run_bind, Sem.run_pure, Result.andThen_ok, List.map_toArray, List.map_cons, List.map_nil, hs, hx, q1]
  exact hK2 _ _ (K v' w' q2 q3 q4)
theorem cell_lt {w : World} {b o : Nat} {v : Value} (h : w.cell? ⟨b, o, none⟩ = some v) : b < w.heap.size := by
  unfold World.cell? at h
  by_cases hb : b < w.heap.size
  · exact hb
  · rw [Array.getElem?_eq_none (show w.heap.size ≤ b by omega)] at h
    simp at h
/-- A slice of one element, just built. -/
theorem Rep.acc_one {α : Type} {r : Rep α} {e base : Nat} {Q : Nat → Prop} {w : World} {v : Value} {x : α} (hr : r.size = 1) (hb : base ≤ w.heap.size) (h : r.val Q w v x) (hv : v.cells = #[v]) : 
    r.acc e base (fun b => Q b ∧ b < w.heap.size) (w.alloc (.cells #[v] e)) (.slice (some ⟨w.heap.size, 0, none⟩) 1 1) [x] := by
  obtain ⟨cs, he, hrd⟩ := h
  have hb2 : cs = [v] := by
    have := r.back hrd
    rw [← he, hv] at this
    exact this.symm
  subst hb2
  refine ⟨[v], ⟨by simp [hr], .inr ⟨w.heap.size, 1, #[v], rfl, hb, heap_alloc_new w _, Nat.le_refl _, by simp [maxLen], by simp [hr], by simp [hr]⟩⟩, Rep.row_one_elem ?_⟩
  exact r.keep (fun b hb' hl => ⟨⟨⟨hb', hl.lt⟩, fun e => by have := hl.lt; have e2 : w.heap.size = b := Option.some.inj e; omega⟩, Below.heap_alloc _ _ _ hl.lt⟩) hrd

set_option maxRecDepth 100000 in
set_option maxHeartbeats 4000000 in
theorem settle_neg0 {base : Nat} {Q : Nat → Prop} {w : World} {u : Value} {A0 : Option Addr} {c0 : Nat} {s : List UInt8} {l : List (List UInt8)} {kept : Int} {torn : Int} (hx : Rep.byte.list.val Q w (.slice A0 s.length c0) s) (hy : Rep.byte.list.acc 22 base Q w u l)  (hl : l.length ≤ 1000000000) (hk : kept < 0) (hl0 : l = []) :
    Calls Try.prog 174 #[.slice A0 s.length c0, u, .agg #[.int .i64 (kept), .int .i64 torn]] w (Res Rep.byte.list (fun c => Q c ∨ w.heap.size ≤ c) w (settleOf s l ⟨kept, torn⟩)) := by
  subst hl0
  have hm0 := (Rep.val_list hx).choose_spec.choose_spec.2.1
  obtain ⟨A1, c1, rfl, hc1, hm1⟩ := Rep.acc_form hy
  obtain ⟨A0', c0', he0, hc0, hm0', _⟩ := Rep.val_list hx
  cases he0
  unfold maxLen at hm0' hm1
  clear hm0
  have hk0 : keptOf ⟨kept, torn⟩ ([] : List (List UInt8)).length = 0 := by show keptOf ⟨kept, torn⟩ 0 = 0; unfold keptOf; dsimp only; omega
  have HF := Lib.hid (show settleOf s ([] : List (List UInt8)) ⟨kept, torn⟩ = (s :: ([] : List (List UInt8))).getD (0) [] by unfold settleOf; rw [hk0, if_neg (by first | omega | exact Nat.lt_irrefl _)])
  clear hk0
  have hbel : Below w.heap.size w (w.alloc (.cells #[.int .i64 (kept), .int .i64 torn] 233)) := (Below.refl _ _).alloc (Nat.le_refl _) _
  have hbx := heap_alloc_new w (.cells #[.int .i64 (kept), .int .i64 torn] 233)
  have hsz : (w.alloc (.cells #[.int .i64 (kept), .int .i64 torn] 233)).heap.size = w.heap.size + 1 := by simp
  have hx1 := Rep.val_keep (w' := (w.alloc (.cells #[.int .i64 (kept), .int .i64 torn] 233))) (Q' := fun b => Q b ∧ b < w.heap.size) (fun b hb hl => ⟨⟨hb, hl.lt⟩, Below.heap_alloc _ _ _ hl.lt⟩) hx
  have hy1 := Rep.acc_keep (w' := (w.alloc (.cells #[.int .i64 (kept), .int .i64 torn] 233))) (Q' := fun b => Q b ∧ b < w.heap.size) (fun b _ hl => Below.heap_alloc _ _ _ hl.lt) (fun b hb hl => ⟨hb, hl.lt⟩) hy
  generalize hW1 : w.alloc (.cells #[.int .i64 (kept), .int .i64 torn] 233) = W1 at *
  have e0 := cell_row hbx 0
  have HB := Lib.hid hbel
  have HBX := Lib.hid hbx
  have HS := Lib.hid hsz
  have hacc := Rep.acc_one (e := 22) (base := W1.heap.size) (r := Rep.byte.list) rfl (Nat.le_refl _) hx1 rfl
  have HA := Lib.hid (Rep.acc_keep (fun _ _ _ => rfl) (Q' := fun b => Q b ∧ b < w.heap.size) (fun b hb _ => hb.1) hacc)
  have hsz2 : (W1.alloc (.cells #[.slice A0 s.length c0] 22)).heap.size = W1.heap.size + 1 := by simp
  have HY := Lib.hid (Rep.acc_keep (w' := W1.alloc (.cells #[.slice A0 s.length c0] 22)) (Q' := fun b => (Q b ∧ b < w.heap.size)) (fun b _ hl => Below.heap_alloc _ _ _ hl.lt) (fun b hb _ => hb) hy1)
  have HQ := Lib.hid (show ∀ b, (Q b ∧ b < w.heap.size) → IsC (W1.alloc (.cells #[.slice A0 s.length c0] 22)) b → (Q b ∧ b < w.heap.size) ∧ (Value.slice (some ⟨W1.heap.size, 0, none⟩) 1 1).ownBlock ≠ some b from fun b hb _ => ⟨hb, fun e => by have e2 : W1.heap.size = b := Option.some.inj e; have := hb.2; omega⟩)
  have L63 := Lib.hid (show [s].length + ([] : List (List UInt8)).length ≤ maxLen ∧ ([s].length + ([] : List (List UInt8)).length) * 24 ≤ 140737488355328 by simp [maxLen] <;> omega)
  have HZ2 := Lib.hid (show W1.heap.size ≤ (W1.alloc (.cells #[.slice A0 s.length c0] 22)).heap.size by rw [hsz2]; exact Nat.le_succ _)
  have HOLD := Lib.hid (show ∀ w' row, (W1.alloc (.cells #[.slice A0 s.length c0] 22)).grownBy w' row → (∀ k, row = some k → W1.heap.size ≤ k) → Below W1.heap.size W1 w' from fun w' row hg hr => ((Below.refl _ _).alloc (Nat.le_refl _) _).grown hg HZ2.out hr)
  clear hx hy hbel hbx hsz hx1 hy1 hacc hsz2
  go_enter Try.func174, Try.ntmps174
  go_wp2_with (refine wpList_spread_acc (e := 22) (base := W1.heap.size) (Q := fun b => Q b ∧ b < w.heap.size) (r := Rep.byte.list) rfl _ _ 24 rfl (.slice none 0 0) 1 24 Try.underlying24 info22 rfl (by decide) rfl _ [s] (by exact rfl) HA.out _ ([] : List (List UInt8)) (by exact rfl) HY.out HQ.out L63.out.1 L63.out.2 HZ2.out ?_; intro v5 w5 hacc5 hgr5 hat5; obtain ⟨A5, c5, hv5, hc5, hm5⟩ := Rep.acc_form hacc5; subst hv5; have B5 := Lib.hid (HOLD.out _ _ hgr5 (fun k hk => (Rep.acc_own HA.out k hk).1)); have HU5 := Lib.hid (show Rep.byte.list.acc 22 W1.heap.size (fun b => Q b ∧ b < w.heap.size) w5 (.slice A5 ([s] ++ ([] : List (List UInt8))).length c5) (s :: ([] : List (List UInt8))) from hacc5); have hl5 : ([s] ++ ([] : List (List UInt8))).length = 0 + 1 := (by simp); rw [hl5] at HU5 hc5 ⊢; unfold maxLen at hm5; obtain ⟨y, hy⟩ : ∃ y, (s :: ([] : List (List UInt8)))[0]? = some y := ⟨_, List.getElem?_eq_getElem (by simp only [List.length_cons]; omega)⟩; obtain ⟨b5, o5, B7, c7, hA5, hcell, hc7, hm7, hat7⟩ := Rep.At.list (by obtain ⟨A', c', he, _, _, h3⟩ := Rep.val_list (Rep.acc_val HU5.out); cases he; exact h3) hy; subst hA5; have HY7 := Lib.hid (show Rep.byte.list.val (fun b => (Q b ∧ b < w.heap.size) ∨ (Value.slice (some ⟨b5, o5, none⟩) (0 + 1) c5).ownBlock = some b) w5 (.slice B7 y.length c7) y from Rep.list_val rfl hc7 hm7 hat7); have HYE := Lib.hid hy; clear hat7 hy; replace hcell : w5.cell? ⟨b5, o5, none⟩ = some (.slice B7 y.length c7) := hcell; clear hacc5 hgr5 hat5 hl5)
  go_ret
  refine ⟨_, rfl, ?_, HB.out.trans (B5.out.mono HB.out.size)⟩
  rw [HF.out, List.getD_eq_getElem?_getD, HYE.out]
  refine Rep.val_mono (fun b hb _ => ?_) HY7.out
  rcases hb with hb | hb
  · exact .inl hb.1
  · have := (Rep.acc_own HU5.out b hb).1
    exact .inr (by have := HB.out.size; omega)

set_option maxRecDepth 100000 in
set_option maxHeartbeats 4000000 in
theorem settle_neg1 {base : Nat} {Q : Nat → Prop} {w : World} {u : Value} {A0 : Option Addr} {c0 : Nat} {s : List UInt8} {l : List (List UInt8)} {kept : Int} {torn : Int} (hx : Rep.byte.list.val Q w (.slice A0 s.length c0) s) (hy : Rep.byte.list.acc 22 base Q w u l) (HT : Hid ((Lit.int .i64 torn).wf = true)) (hl : l.length ≤ 1000000000) (hk : kept < 0) (hl1 : 0 < l.length) :
    Calls Try.prog 174 #[.slice A0 s.length c0, u, .agg #[.int .i64 (kept), .int .i64 torn]] w (Res Rep.byte.list (fun c => Q c ∨ w.heap.size ≤ c) w (settleOf s l ⟨kept, torn⟩)) := by
  have hm0 := (Rep.val_list hx).choose_spec.choose_spec.2.1
  obtain ⟨A1, c1, rfl, hc1, hm1⟩ := Rep.acc_form hy
  obtain ⟨A0', c0', he0, hc0, hm0', _⟩ := Rep.val_list hx
  cases he0
  unfold maxLen at hm0' hm1
  clear hm0
  have hk0 : keptOf ⟨kept, torn⟩ l.length = 0 := by unfold keptOf; dsimp only; omega
  have HF := Lib.hid (show settleOf s l ⟨kept, torn⟩ = tearOf ((s :: l).getD (0) []) ((s :: l).getD (0 + 1) []) torn by unfold settleOf; rw [hk0, if_pos (by omega)])
  clear hk0
  have hbel : Below w.heap.size w (w.alloc (.cells #[.int .i64 (kept), .int .i64 torn] 233)) := (Below.refl _ _).alloc (Nat.le_refl _) _
  have hbx := heap_alloc_new w (.cells #[.int .i64 (kept), .int .i64 torn] 233)
  have hsz : (w.alloc (.cells #[.int .i64 (kept), .int .i64 torn] 233)).heap.size = w.heap.size + 1 := by simp
  have hx1 := Rep.val_keep (w' := (w.alloc (.cells #[.int .i64 (kept), .int .i64 torn] 233))) (Q' := fun b => Q b ∧ b < w.heap.size) (fun b hb hl => ⟨⟨hb, hl.lt⟩, Below.heap_alloc _ _ _ hl.lt⟩) hx
  have hy1 := Rep.acc_keep (w' := (w.alloc (.cells #[.int .i64 (kept), .int .i64 torn] 233))) (Q' := fun b => Q b ∧ b < w.heap.size) (fun b _ hl => Below.heap_alloc _ _ _ hl.lt) (fun b hb hl => ⟨hb, hl.lt⟩) hy
  generalize hW1 : w.alloc (.cells #[.int .i64 (kept), .int .i64 torn] 233) = W1 at *
  have e0 := cell_row hbx 0
  have HB := Lib.hid hbel
  have HBX := Lib.hid hbx
  have HS := Lib.hid hsz
  have hacc := Rep.acc_one (e := 22) (base := W1.heap.size) (r := Rep.byte.list) rfl (Nat.le_refl _) hx1 rfl
  have HA := Lib.hid (Rep.acc_keep (fun _ _ _ => rfl) (Q' := fun b => Q b ∧ b < w.heap.size) (fun b hb _ => hb.1) hacc)
  have hsz2 : (W1.alloc (.cells #[.slice A0 s.length c0] 22)).heap.size = W1.heap.size + 1 := by simp
  have HY := Lib.hid (Rep.acc_keep (w' := W1.alloc (.cells #[.slice A0 s.length c0] 22)) (Q' := fun b => (Q b ∧ b < w.heap.size)) (fun b _ hl => Below.heap_alloc _ _ _ hl.lt) (fun b hb _ => hb) hy1)
  have HQ := Lib.hid (show ∀ b, (Q b ∧ b < w.heap.size) → IsC (W1.alloc (.cells #[.slice A0 s.length c0] 22)) b → (Q b ∧ b < w.heap.size) ∧ (Value.slice (some ⟨W1.heap.size, 0, none⟩) 1 1).ownBlock ≠ some b from fun b hb _ => ⟨hb, fun e => by have e2 : W1.heap.size = b := Option.some.inj e; have := hb.2; omega⟩)
  have L63 := Lib.hid (show [s].length + l.length ≤ maxLen ∧ ([s].length + l.length) * 24 ≤ 140737488355328 by simp [maxLen] <;> omega)
  have HZ2 := Lib.hid (show W1.heap.size ≤ (W1.alloc (.cells #[.slice A0 s.length c0] 22)).heap.size by rw [hsz2]; exact Nat.le_succ _)
  have HOLD := Lib.hid (show ∀ w' row, (W1.alloc (.cells #[.slice A0 s.length c0] 22)).grownBy w' row → (∀ k, row = some k → W1.heap.size ≤ k) → Below W1.heap.size W1 w' from fun w' row hg hr => ((Below.refl _ _).alloc (Nat.le_refl _) _).grown hg HZ2.out hr)
  clear hx hy hbel hbx hsz hx1 hy1 hacc hsz2
  have g1 : (0 : Int) < l.length := by omega
  have g2 : (1 : Int) < (l.length : Int) + 1 := by omega
  have g3 : (0 : Int) < (l.length : Int) + 1 := by omega
  have g5 : l ≠ [] := List.length_pos_iff.1 hl1
  have g6 : ¬ l = [] := g5
  have i1 : IntKind.i64.wrap 1 = 1 := rfl
  go_enter Try.func174, Try.ntmps174
  go_wp2_with (refine wpList_spread_acc (e := 22) (base := W1.heap.size) (Q := fun b => Q b ∧ b < w.heap.size) (r := Rep.byte.list) rfl _ _ 24 rfl (.slice none 0 0) 1 24 Try.underlying24 info22 rfl (by decide) rfl _ [s] (by exact rfl) HA.out _ l (by exact rfl) HY.out HQ.out L63.out.1 L63.out.2 HZ2.out ?_; intro v5 w5 hacc5 hgr5 hat5; obtain ⟨A5, c5, hv5, hc5, hm5⟩ := Rep.acc_form hacc5; subst hv5; have B5 := Lib.hid (HOLD.out _ _ hgr5 (fun k hk => (Rep.acc_own HA.out k hk).1)); have HU5 := Lib.hid (show Rep.byte.list.acc 22 W1.heap.size (fun b => Q b ∧ b < w.heap.size) w5 (.slice A5 ([s] ++ l).length c5) (s :: l) from hacc5); have hl5 : ([s] ++ l).length = l.length + 1 := (by simp); rw [hl5] at HU5 hc5 ⊢; unfold maxLen at hm5; obtain ⟨y, hy⟩ : ∃ y, (s :: l)[0]? = some y := ⟨_, List.getElem?_eq_getElem (by simp only [List.length_cons]; omega)⟩; obtain ⟨b5, o5, B7, c7, hA5, hcell, hc7, hm7, hat7⟩ := Rep.At.list (by obtain ⟨A', c', he, _, _, h3⟩ := Rep.val_list (Rep.acc_val HU5.out); cases he; exact h3) hy; subst hA5; have HY7 := Lib.hid (show Rep.byte.list.val (fun b => (Q b ∧ b < w.heap.size) ∨ (Value.slice (some ⟨b5, o5, none⟩) (l.length + 1) c5).ownBlock = some b) w5 (.slice B7 y.length c7) y from Rep.list_val rfl hc7 hm7 hat7); have HYE := Lib.hid hy; clear hat7 hy; replace hcell : w5.cell? ⟨b5, o5, none⟩ = some (.slice B7 y.length c7) := hcell; obtain ⟨y2, hy2⟩ : ∃ y, (s :: l)[0 + 1]? = some y := ⟨_, List.getElem?_eq_getElem (by simp only [List.length_cons]; omega)⟩; obtain ⟨b6, o6, B8, c8, hA6, hcell2, hc8, hm8, hat8⟩ := Rep.At.list (by obtain ⟨A', c', he, _, _, h3⟩ := Rep.val_list (Rep.acc_val HU5.out); cases he; exact h3) hy2; cases hA6; have HY8 := Lib.hid (show Rep.byte.list.val (fun b => (Q b ∧ b < w.heap.size) ∨ (Value.slice (some ⟨b5, o5, none⟩) (l.length + 1) c5).ownBlock = some b) w5 (.slice B8 y2.length c8) y2 from Rep.list_val rfl hc8 hm8 hat8); have HYE2 := Lib.hid hy2; clear hat8 hy2; have hb5 := (B5.out.block _ (by have := HS.out; omega)).trans HBX.out; have e1 := cell_row hb5 1; have KS := Lib.hid (show ∀ W', Below w5.heap.size w5 W' → W'.cell? ⟨b5, o5, none⟩ = some (.slice B7 y.length c7) ∧ W'.cell? ⟨b5, o5 + 1, none⟩ = some (.slice B8 y2.length c8) ∧ W'.cell? ⟨w.heap.size, 1, none⟩ = some (.int .i64 torn) from fun W' hb => ⟨(hb.cell (p := ⟨b5, o5, none⟩) (cell_lt hcell)).trans hcell, (hb.cell (p := ⟨b5, o5 + 1, none⟩) (cell_lt hcell2)).trans hcell2, (hb.cell (p := ⟨w.heap.size, 1, none⟩) (cell_lt e1)).trans e1⟩); have s0 := (KS.out _ (Below.refl _ _).drew).1; have s1 := (KS.out _ (Below.refl _ _).drew).2.1; have s2 := (KS.out _ (Below.refl _ _).drew).2.2; clear hacc5 hgr5 hat5 hl5)
  go_region_held3 (fun W' => W'.cell? ⟨b5, o5, none⟩ = some (.slice B7 y.length c7) ∧ W'.cell? ⟨b5, o5 + 1, none⟩ = some (.slice B8 y2.length c8) ∧ W'.cell? ⟨w.heap.size, 1, none⟩ = some (.int .i64 torn))
    (first
      | exact KS.out _ (Below.refl _ _).drew
      | exact KS.out _ D9.out)
    (first | (go_at_call 108; refine (tear_calls (Rep.val_drewN HY7.out 1) (Rep.val_drewN HY8.out 1) HT.out).mono ?_; rintro e w9 ⟨u9, rfl, hu9, hb9⟩; have D9 := Lib.hid ((Below.refl w5.heap.size w5).drew.trans hb9); have HU9 := Lib.hid hu9; clear hb9 hu9))
  go_wp2_with fail
  go_ret
  refine ⟨_, rfl, ?_, HB.out.trans ((B5.out.mono HB.out.size).trans (D9.out.mono (Nat.le_trans HB.out.size B5.out.size)))⟩
  rw [HF.out, List.getD_eq_getElem?_getD, HYE.out, List.getD_eq_getElem?_getD, HYE2.out]
  exact Rep.val_mono (fun b hb _ => .inr (Nat.le_trans HB.out.size (Nat.le_trans B5.out.size hb))) HU9.out

set_option maxRecDepth 100000 in
set_option maxHeartbeats 4000000 in
theorem settle_lt {base : Nat} {Q : Nat → Prop} {w : World} {u : Value} {A0 : Option Addr} {c0 : Nat} {s : List UInt8} {l : List (List UInt8)} {m : Nat} {torn : Int} (hx : Rep.byte.list.val Q w (.slice A0 s.length c0) s) (hy : Rep.byte.list.acc 22 base Q w u l) (HT : Hid ((Lit.int .i64 torn).wf = true)) (hl : l.length ≤ 1000000000) (hk : m < l.length) :
    Calls Try.prog 174 #[.slice A0 s.length c0, u, .agg #[.int .i64 ((m : Int)), .int .i64 torn]] w (Res Rep.byte.list (fun c => Q c ∨ w.heap.size ≤ c) w (settleOf s l ⟨(m : Int), torn⟩)) := by
  have hm0 := (Rep.val_list hx).choose_spec.choose_spec.2.1
  obtain ⟨A1, c1, rfl, hc1, hm1⟩ := Rep.acc_form hy
  obtain ⟨A0', c0', he0, hc0, hm0', _⟩ := Rep.val_list hx
  cases he0
  unfold maxLen at hm0' hm1
  clear hm0
  have hk0 : keptOf ⟨(m : Int), torn⟩ l.length = m := by unfold keptOf; dsimp only; omega
  have HF := Lib.hid (show settleOf s l ⟨(m : Int), torn⟩ = tearOf ((s :: l).getD (m) []) ((s :: l).getD (m + 1) []) torn by unfold settleOf; rw [hk0, if_pos (by omega)])
  clear hk0
  have hbel : Below w.heap.size w (w.alloc (.cells #[.int .i64 ((m : Int)), .int .i64 torn] 233)) := (Below.refl _ _).alloc (Nat.le_refl _) _
  have hbx := heap_alloc_new w (.cells #[.int .i64 ((m : Int)), .int .i64 torn] 233)
  have hsz : (w.alloc (.cells #[.int .i64 ((m : Int)), .int .i64 torn] 233)).heap.size = w.heap.size + 1 := by simp
  have hx1 := Rep.val_keep (w' := (w.alloc (.cells #[.int .i64 ((m : Int)), .int .i64 torn] 233))) (Q' := fun b => Q b ∧ b < w.heap.size) (fun b hb hl => ⟨⟨hb, hl.lt⟩, Below.heap_alloc _ _ _ hl.lt⟩) hx
  have hy1 := Rep.acc_keep (w' := (w.alloc (.cells #[.int .i64 ((m : Int)), .int .i64 torn] 233))) (Q' := fun b => Q b ∧ b < w.heap.size) (fun b _ hl => Below.heap_alloc _ _ _ hl.lt) (fun b hb hl => ⟨hb, hl.lt⟩) hy
  generalize hW1 : w.alloc (.cells #[.int .i64 ((m : Int)), .int .i64 torn] 233) = W1 at *
  have e0 := cell_row hbx 0
  have HB := Lib.hid hbel
  have HBX := Lib.hid hbx
  have HS := Lib.hid hsz
  have hacc := Rep.acc_one (e := 22) (base := W1.heap.size) (r := Rep.byte.list) rfl (Nat.le_refl _) hx1 rfl
  have HA := Lib.hid (Rep.acc_keep (fun _ _ _ => rfl) (Q' := fun b => Q b ∧ b < w.heap.size) (fun b hb _ => hb.1) hacc)
  have hsz2 : (W1.alloc (.cells #[.slice A0 s.length c0] 22)).heap.size = W1.heap.size + 1 := by simp
  have HY := Lib.hid (Rep.acc_keep (w' := W1.alloc (.cells #[.slice A0 s.length c0] 22)) (Q' := fun b => (Q b ∧ b < w.heap.size)) (fun b _ hl => Below.heap_alloc _ _ _ hl.lt) (fun b hb _ => hb) hy1)
  have HQ := Lib.hid (show ∀ b, (Q b ∧ b < w.heap.size) → IsC (W1.alloc (.cells #[.slice A0 s.length c0] 22)) b → (Q b ∧ b < w.heap.size) ∧ (Value.slice (some ⟨W1.heap.size, 0, none⟩) 1 1).ownBlock ≠ some b from fun b hb _ => ⟨hb, fun e => by have e2 : W1.heap.size = b := Option.some.inj e; have := hb.2; omega⟩)
  have L63 := Lib.hid (show [s].length + l.length ≤ maxLen ∧ ([s].length + l.length) * 24 ≤ 140737488355328 by simp [maxLen] <;> omega)
  have HZ2 := Lib.hid (show W1.heap.size ≤ (W1.alloc (.cells #[.slice A0 s.length c0] 22)).heap.size by rw [hsz2]; exact Nat.le_succ _)
  have HOLD := Lib.hid (show ∀ w' row, (W1.alloc (.cells #[.slice A0 s.length c0] 22)).grownBy w' row → (∀ k, row = some k → W1.heap.size ≤ k) → Below W1.heap.size W1 w' from fun w' row hg hr => ((Below.refl _ _).alloc (Nat.le_refl _) _).grown hg HZ2.out hr)
  clear hx hy hbel hbx hsz hx1 hy1 hacc hsz2
  have g1 : (m : Int) < l.length := by omega
  have g2 : (m : Int) + 1 < (l.length : Int) + 1 := by omega
  have g3 : (m : Int) < (l.length : Int) + 1 := by omega
  have g4 : (0 : Int) ≤ (m : Int) + 1 := by omega
  have i1 : IntKind.i64.wrap ((m : Int) + 1) = (m : Int) + 1 := IntWalk.i64_in _ ⟨by omega, by omega⟩
  have i2 : ((m : Int) + 1).toNat = m + 1 := by omega
  go_enter Try.func174, Try.ntmps174
  go_wp2_with (refine wpList_spread_acc (e := 22) (base := W1.heap.size) (Q := fun b => Q b ∧ b < w.heap.size) (r := Rep.byte.list) rfl _ _ 24 rfl (.slice none 0 0) 1 24 Try.underlying24 info22 rfl (by decide) rfl _ [s] (by exact rfl) HA.out _ l (by exact rfl) HY.out HQ.out L63.out.1 L63.out.2 HZ2.out ?_; intro v5 w5 hacc5 hgr5 hat5; obtain ⟨A5, c5, hv5, hc5, hm5⟩ := Rep.acc_form hacc5; subst hv5; have B5 := Lib.hid (HOLD.out _ _ hgr5 (fun k hk => (Rep.acc_own HA.out k hk).1)); have HU5 := Lib.hid (show Rep.byte.list.acc 22 W1.heap.size (fun b => Q b ∧ b < w.heap.size) w5 (.slice A5 ([s] ++ l).length c5) (s :: l) from hacc5); have hl5 : ([s] ++ l).length = l.length + 1 := (by simp); rw [hl5] at HU5 hc5 ⊢; unfold maxLen at hm5; obtain ⟨y, hy⟩ : ∃ y, (s :: l)[m]? = some y := ⟨_, List.getElem?_eq_getElem (by simp only [List.length_cons]; omega)⟩; obtain ⟨b5, o5, B7, c7, hA5, hcell, hc7, hm7, hat7⟩ := Rep.At.list (by obtain ⟨A', c', he, _, _, h3⟩ := Rep.val_list (Rep.acc_val HU5.out); cases he; exact h3) hy; subst hA5; have HY7 := Lib.hid (show Rep.byte.list.val (fun b => (Q b ∧ b < w.heap.size) ∨ (Value.slice (some ⟨b5, o5, none⟩) (l.length + 1) c5).ownBlock = some b) w5 (.slice B7 y.length c7) y from Rep.list_val rfl hc7 hm7 hat7); have HYE := Lib.hid hy; clear hat7 hy; obtain ⟨y2, hy2⟩ : ∃ y, (s :: l)[m + 1]? = some y := ⟨_, List.getElem?_eq_getElem (by simp only [List.length_cons]; omega)⟩; obtain ⟨b6, o6, B8, c8, hA6, hcell2, hc8, hm8, hat8⟩ := Rep.At.list (by obtain ⟨A', c', he, _, _, h3⟩ := Rep.val_list (Rep.acc_val HU5.out); cases he; exact h3) hy2; cases hA6; have HY8 := Lib.hid (show Rep.byte.list.val (fun b => (Q b ∧ b < w.heap.size) ∨ (Value.slice (some ⟨b5, o5, none⟩) (l.length + 1) c5).ownBlock = some b) w5 (.slice B8 y2.length c8) y2 from Rep.list_val rfl hc8 hm8 hat8); have HYE2 := Lib.hid hy2; clear hat8 hy2; have hb5 := (B5.out.block _ (by have := HS.out; omega)).trans HBX.out; have e1 := cell_row hb5 1; have KS := Lib.hid (show ∀ W', Below w5.heap.size w5 W' → W'.cell? ⟨b5, o5 + m, none⟩ = some (.slice B7 y.length c7) ∧ W'.cell? ⟨b5, o5 + (m + 1), none⟩ = some (.slice B8 y2.length c8) ∧ W'.cell? ⟨w.heap.size, 1, none⟩ = some (.int .i64 torn) from fun W' hb => ⟨(hb.cell (p := ⟨b5, o5 + m, none⟩) (cell_lt hcell)).trans hcell, (hb.cell (p := ⟨b5, o5 + (m + 1), none⟩) (cell_lt hcell2)).trans hcell2, (hb.cell (p := ⟨w.heap.size, 1, none⟩) (cell_lt e1)).trans e1⟩); have s0 := (KS.out _ (Below.refl _ _).drew).1; have s1 := (KS.out _ (Below.refl _ _).drew).2.1; have s2 := (KS.out _ (Below.refl _ _).drew).2.2; clear hacc5 hgr5 hat5 hl5)
  go_region_held3 (fun W' => W'.cell? ⟨b5, o5 + m, none⟩ = some (.slice B7 y.length c7) ∧ W'.cell? ⟨b5, o5 + (m + 1), none⟩ = some (.slice B8 y2.length c8) ∧ W'.cell? ⟨w.heap.size, 1, none⟩ = some (.int .i64 torn))
    (first
      | exact KS.out _ (Below.refl _ _).drew
      | exact KS.out _ D9.out)
    (first | (go_at_call 108; refine (tear_calls (Rep.val_drewN HY7.out 1) (Rep.val_drewN HY8.out 1) HT.out).mono ?_; rintro e w9 ⟨u9, rfl, hu9, hb9⟩; have D9 := Lib.hid ((Below.refl w5.heap.size w5).drew.trans hb9); have HU9 := Lib.hid hu9; clear hb9 hu9))
  go_wp2_with fail
  go_ret
  refine ⟨_, rfl, ?_, HB.out.trans ((B5.out.mono HB.out.size).trans (D9.out.mono (Nat.le_trans HB.out.size B5.out.size)))⟩
  rw [HF.out, List.getD_eq_getElem?_getD, HYE.out, List.getD_eq_getElem?_getD, HYE2.out]
  exact Rep.val_mono (fun b hb _ => .inr (Nat.le_trans HB.out.size (Nat.le_trans B5.out.size hb))) HU9.out

set_option maxRecDepth 100000 in
set_option maxHeartbeats 4000000 in
theorem settle_eq {base : Nat} {Q : Nat → Prop} {w : World} {u : Value} {A0 : Option Addr} {c0 : Nat} {s : List UInt8} {l : List (List UInt8)}  {torn : Int} (hx : Rep.byte.list.val Q w (.slice A0 s.length c0) s) (hy : Rep.byte.list.acc 22 base Q w u l)  (hl : l.length ≤ 1000000000)  :
    Calls Try.prog 174 #[.slice A0 s.length c0, u, .agg #[.int .i64 ((l.length : Int)), .int .i64 torn]] w (Res Rep.byte.list (fun c => Q c ∨ w.heap.size ≤ c) w (settleOf s l ⟨(l.length : Int), torn⟩)) := by
  have hm0 := (Rep.val_list hx).choose_spec.choose_spec.2.1
  obtain ⟨A1, c1, rfl, hc1, hm1⟩ := Rep.acc_form hy
  obtain ⟨A0', c0', he0, hc0, hm0', _⟩ := Rep.val_list hx
  cases he0
  unfold maxLen at hm0' hm1
  clear hm0
  have hk0 : keptOf ⟨(l.length : Int), torn⟩ l.length = l.length := by unfold keptOf; dsimp only; omega
  have HF := Lib.hid (show settleOf s l ⟨(l.length : Int), torn⟩ = (s :: l).getD (l.length) [] by unfold settleOf; rw [hk0, if_neg (by first | omega | exact Nat.lt_irrefl _)])
  clear hk0
  have hbel : Below w.heap.size w (w.alloc (.cells #[.int .i64 ((l.length : Int)), .int .i64 torn] 233)) := (Below.refl _ _).alloc (Nat.le_refl _) _
  have hbx := heap_alloc_new w (.cells #[.int .i64 ((l.length : Int)), .int .i64 torn] 233)
  have hsz : (w.alloc (.cells #[.int .i64 ((l.length : Int)), .int .i64 torn] 233)).heap.size = w.heap.size + 1 := by simp
  have hx1 := Rep.val_keep (w' := (w.alloc (.cells #[.int .i64 ((l.length : Int)), .int .i64 torn] 233))) (Q' := fun b => Q b ∧ b < w.heap.size) (fun b hb hl => ⟨⟨hb, hl.lt⟩, Below.heap_alloc _ _ _ hl.lt⟩) hx
  have hy1 := Rep.acc_keep (w' := (w.alloc (.cells #[.int .i64 ((l.length : Int)), .int .i64 torn] 233))) (Q' := fun b => Q b ∧ b < w.heap.size) (fun b _ hl => Below.heap_alloc _ _ _ hl.lt) (fun b hb hl => ⟨hb, hl.lt⟩) hy
  generalize hW1 : w.alloc (.cells #[.int .i64 ((l.length : Int)), .int .i64 torn] 233) = W1 at *
  have e0 := cell_row hbx 0
  have HB := Lib.hid hbel
  have HBX := Lib.hid hbx
  have HS := Lib.hid hsz
  have hacc := Rep.acc_one (e := 22) (base := W1.heap.size) (r := Rep.byte.list) rfl (Nat.le_refl _) hx1 rfl
  have HA := Lib.hid (Rep.acc_keep (fun _ _ _ => rfl) (Q' := fun b => Q b ∧ b < w.heap.size) (fun b hb _ => hb.1) hacc)
  have hsz2 : (W1.alloc (.cells #[.slice A0 s.length c0] 22)).heap.size = W1.heap.size + 1 := by simp
  have HY := Lib.hid (Rep.acc_keep (w' := W1.alloc (.cells #[.slice A0 s.length c0] 22)) (Q' := fun b => (Q b ∧ b < w.heap.size)) (fun b _ hl => Below.heap_alloc _ _ _ hl.lt) (fun b hb _ => hb) hy1)
  have HQ := Lib.hid (show ∀ b, (Q b ∧ b < w.heap.size) → IsC (W1.alloc (.cells #[.slice A0 s.length c0] 22)) b → (Q b ∧ b < w.heap.size) ∧ (Value.slice (some ⟨W1.heap.size, 0, none⟩) 1 1).ownBlock ≠ some b from fun b hb _ => ⟨hb, fun e => by have e2 : W1.heap.size = b := Option.some.inj e; have := hb.2; omega⟩)
  have L63 := Lib.hid (show [s].length + l.length ≤ maxLen ∧ ([s].length + l.length) * 24 ≤ 140737488355328 by simp [maxLen] <;> omega)
  have HZ2 := Lib.hid (show W1.heap.size ≤ (W1.alloc (.cells #[.slice A0 s.length c0] 22)).heap.size by rw [hsz2]; exact Nat.le_succ _)
  have HOLD := Lib.hid (show ∀ w' row, (W1.alloc (.cells #[.slice A0 s.length c0] 22)).grownBy w' row → (∀ k, row = some k → W1.heap.size ≤ k) → Below W1.heap.size W1 w' from fun w' row hg hr => ((Below.refl _ _).alloc (Nat.le_refl _) _).grown hg HZ2.out hr)
  clear hx hy hbel hbx hsz hx1 hy1 hacc hsz2
  go_enter Try.func174, Try.ntmps174
  go_wp2_with (refine wpList_spread_acc (e := 22) (base := W1.heap.size) (Q := fun b => Q b ∧ b < w.heap.size) (r := Rep.byte.list) rfl _ _ 24 rfl (.slice none 0 0) 1 24 Try.underlying24 info22 rfl (by decide) rfl _ [s] (by exact rfl) HA.out _ l (by exact rfl) HY.out HQ.out L63.out.1 L63.out.2 HZ2.out ?_; intro v5 w5 hacc5 hgr5 hat5; obtain ⟨A5, c5, hv5, hc5, hm5⟩ := Rep.acc_form hacc5; subst hv5; have B5 := Lib.hid (HOLD.out _ _ hgr5 (fun k hk => (Rep.acc_own HA.out k hk).1)); have HU5 := Lib.hid (show Rep.byte.list.acc 22 W1.heap.size (fun b => Q b ∧ b < w.heap.size) w5 (.slice A5 ([s] ++ l).length c5) (s :: l) from hacc5); have hl5 : ([s] ++ l).length = l.length + 1 := (by simp); rw [hl5] at HU5 hc5 ⊢; unfold maxLen at hm5; obtain ⟨y, hy⟩ : ∃ y, (s :: l)[l.length]? = some y := ⟨_, List.getElem?_eq_getElem (by simp only [List.length_cons]; omega)⟩; obtain ⟨b5, o5, B7, c7, hA5, hcell, hc7, hm7, hat7⟩ := Rep.At.list (by obtain ⟨A', c', he, _, _, h3⟩ := Rep.val_list (Rep.acc_val HU5.out); cases he; exact h3) hy; subst hA5; have HY7 := Lib.hid (show Rep.byte.list.val (fun b => (Q b ∧ b < w.heap.size) ∨ (Value.slice (some ⟨b5, o5, none⟩) (l.length + 1) c5).ownBlock = some b) w5 (.slice B7 y.length c7) y from Rep.list_val rfl hc7 hm7 hat7); have HYE := Lib.hid hy; clear hat7 hy; clear hacc5 hgr5 hat5 hl5)
  go_ret
  refine ⟨_, rfl, ?_, HB.out.trans (B5.out.mono HB.out.size)⟩
  rw [HF.out, List.getD_eq_getElem?_getD, HYE.out]
  refine Rep.val_mono (fun b hb _ => ?_) HY7.out
  rcases hb with hb | hb
  · exact .inl hb.1
  · have := (Rep.acc_own HU5.out b hb).1
    exact .inr (by have := HB.out.size; omega)

set_option maxRecDepth 100000 in
set_option maxHeartbeats 4000000 in
theorem settle_gt {base : Nat} {Q : Nat → Prop} {w : World} {u : Value} {A0 : Option Addr} {c0 : Nat} {s : List UInt8} {l : List (List UInt8)} {m : Nat} {torn : Int} (hx : Rep.byte.list.val Q w (.slice A0 s.length c0) s) (hy : Rep.byte.list.acc 22 base Q w u l)  (hl : l.length ≤ 1000000000) (hk : l.length < m) :
    Calls Try.prog 174 #[.slice A0 s.length c0, u, .agg #[.int .i64 ((m : Int)), .int .i64 torn]] w (Res Rep.byte.list (fun c => Q c ∨ w.heap.size ≤ c) w (settleOf s l ⟨(m : Int), torn⟩)) := by
  have hm0 := (Rep.val_list hx).choose_spec.choose_spec.2.1
  obtain ⟨A1, c1, rfl, hc1, hm1⟩ := Rep.acc_form hy
  obtain ⟨A0', c0', he0, hc0, hm0', _⟩ := Rep.val_list hx
  cases he0
  unfold maxLen at hm0' hm1
  clear hm0
  have hk0 : keptOf ⟨(m : Int), torn⟩ l.length = l.length := by unfold keptOf; dsimp only; omega
  have HF := Lib.hid (show settleOf s l ⟨(m : Int), torn⟩ = (s :: l).getD (l.length) [] by unfold settleOf; rw [hk0, if_neg (by first | omega | exact Nat.lt_irrefl _)])
  clear hk0
  have hbel : Below w.heap.size w (w.alloc (.cells #[.int .i64 ((m : Int)), .int .i64 torn] 233)) := (Below.refl _ _).alloc (Nat.le_refl _) _
  have hbx := heap_alloc_new w (.cells #[.int .i64 ((m : Int)), .int .i64 torn] 233)
  have hsz : (w.alloc (.cells #[.int .i64 ((m : Int)), .int .i64 torn] 233)).heap.size = w.heap.size + 1 := by simp
  have hx1 := Rep.val_keep (w' := (w.alloc (.cells #[.int .i64 ((m : Int)), .int .i64 torn] 233))) (Q' := fun b => Q b ∧ b < w.heap.size) (fun b hb hl => ⟨⟨hb, hl.lt⟩, Below.heap_alloc _ _ _ hl.lt⟩) hx
  have hy1 := Rep.acc_keep (w' := (w.alloc (.cells #[.int .i64 ((m : Int)), .int .i64 torn] 233))) (Q' := fun b => Q b ∧ b < w.heap.size) (fun b _ hl => Below.heap_alloc _ _ _ hl.lt) (fun b hb hl => ⟨hb, hl.lt⟩) hy
  generalize hW1 : w.alloc (.cells #[.int .i64 ((m : Int)), .int .i64 torn] 233) = W1 at *
  have e0 := cell_row hbx 0
  have HB := Lib.hid hbel
  have HBX := Lib.hid hbx
  have HS := Lib.hid hsz
  have hacc := Rep.acc_one (e := 22) (base := W1.heap.size) (r := Rep.byte.list) rfl (Nat.le_refl _) hx1 rfl
  have HA := Lib.hid (Rep.acc_keep (fun _ _ _ => rfl) (Q' := fun b => Q b ∧ b < w.heap.size) (fun b hb _ => hb.1) hacc)
  have hsz2 : (W1.alloc (.cells #[.slice A0 s.length c0] 22)).heap.size = W1.heap.size + 1 := by simp
  have HY := Lib.hid (Rep.acc_keep (w' := W1.alloc (.cells #[.slice A0 s.length c0] 22)) (Q' := fun b => (Q b ∧ b < w.heap.size)) (fun b _ hl => Below.heap_alloc _ _ _ hl.lt) (fun b hb _ => hb) hy1)
  have HQ := Lib.hid (show ∀ b, (Q b ∧ b < w.heap.size) → IsC (W1.alloc (.cells #[.slice A0 s.length c0] 22)) b → (Q b ∧ b < w.heap.size) ∧ (Value.slice (some ⟨W1.heap.size, 0, none⟩) 1 1).ownBlock ≠ some b from fun b hb _ => ⟨hb, fun e => by have e2 : W1.heap.size = b := Option.some.inj e; have := hb.2; omega⟩)
  have L63 := Lib.hid (show [s].length + l.length ≤ maxLen ∧ ([s].length + l.length) * 24 ≤ 140737488355328 by simp [maxLen] <;> omega)
  have HZ2 := Lib.hid (show W1.heap.size ≤ (W1.alloc (.cells #[.slice A0 s.length c0] 22)).heap.size by rw [hsz2]; exact Nat.le_succ _)
  have HOLD := Lib.hid (show ∀ w' row, (W1.alloc (.cells #[.slice A0 s.length c0] 22)).grownBy w' row → (∀ k, row = some k → W1.heap.size ≤ k) → Below W1.heap.size W1 w' from fun w' row hg hr => ((Below.refl _ _).alloc (Nat.le_refl _) _).grown hg HZ2.out hr)
  clear hx hy hbel hbx hsz hx1 hy1 hacc hsz2
  have g1 : (l.length : Int) < m := by omega
  go_enter Try.func174, Try.ntmps174
  go_wp2_with (refine wpList_spread_acc (e := 22) (base := W1.heap.size) (Q := fun b => Q b ∧ b < w.heap.size) (r := Rep.byte.list) rfl _ _ 24 rfl (.slice none 0 0) 1 24 Try.underlying24 info22 rfl (by decide) rfl _ [s] (by exact rfl) HA.out _ l (by exact rfl) HY.out HQ.out L63.out.1 L63.out.2 HZ2.out ?_; intro v5 w5 hacc5 hgr5 hat5; obtain ⟨A5, c5, hv5, hc5, hm5⟩ := Rep.acc_form hacc5; subst hv5; have B5 := Lib.hid (HOLD.out _ _ hgr5 (fun k hk => (Rep.acc_own HA.out k hk).1)); have HU5 := Lib.hid (show Rep.byte.list.acc 22 W1.heap.size (fun b => Q b ∧ b < w.heap.size) w5 (.slice A5 ([s] ++ l).length c5) (s :: l) from hacc5); have hl5 : ([s] ++ l).length = l.length + 1 := (by simp); rw [hl5] at HU5 hc5 ⊢; unfold maxLen at hm5; obtain ⟨y, hy⟩ : ∃ y, (s :: l)[l.length]? = some y := ⟨_, List.getElem?_eq_getElem (by simp only [List.length_cons]; omega)⟩; obtain ⟨b5, o5, B7, c7, hA5, hcell, hc7, hm7, hat7⟩ := Rep.At.list (by obtain ⟨A', c', he, _, _, h3⟩ := Rep.val_list (Rep.acc_val HU5.out); cases he; exact h3) hy; subst hA5; have HY7 := Lib.hid (show Rep.byte.list.val (fun b => (Q b ∧ b < w.heap.size) ∨ (Value.slice (some ⟨b5, o5, none⟩) (l.length + 1) c5).ownBlock = some b) w5 (.slice B7 y.length c7) y from Rep.list_val rfl hc7 hm7 hat7); have HYE := Lib.hid hy; clear hat7 hy; clear hacc5 hgr5 hat5 hl5)
  go_ret
  refine ⟨_, rfl, ?_, HB.out.trans (B5.out.mono HB.out.size)⟩
  rw [HF.out, List.getD_eq_getElem?_getD, HYE.out]
  refine Rep.val_mono (fun b hb _ => ?_) HY7.out
  rcases hb with hb | hb
  · exact .inl hb.1
  · have := (Rep.acc_own HU5.out b hb).1
    exact .inr (by have := HB.out.size; omega)

/-- disk.settle -/
theorem settle_calls {base : Nat} {Q : Nat → Prop} {w : World} {v u z : Value} {s : List UInt8} {l : List (List UInt8)} {f : DFate} (hx : Rep.byte.list.val Q w v s) (hy : Rep.byte.list.acc 22 base Q w u l) (hf : rFate.val Q w z f) (hl : l.length ≤ 1000000000) :
    Calls Try.prog 174 #[v, u, z] w (Res Rep.byte.list (fun c => Q c ∨ w.heap.size ≤ c) w (settleOf s l f)) := by
  obtain ⟨rfl, _, f1⟩ := rFate_val hf
  obtain ⟨A0, c0, rfl, _, _, _⟩ := Rep.val_list hx
  have HT := Lib.hid f1
  obtain ⟨kept, torn⟩ := f
  by_cases hn : kept < 0
  · cases hc : l with
    | nil => subst hc; exact settle_neg0 hx hy hl hn rfl
    | cons x xs => rw [← hc]; exact settle_neg1 hx hy HT hl hn (by rw [hc]; simp)
  · obtain ⟨m, rfl⟩ : ∃ m : Nat, kept = m := ⟨kept.toNat, by omega⟩
    by_cases h1 : m < l.length
    · exact settle_lt hx hy HT hl h1
    · by_cases h2 : m = l.length
      · subst h2; exact settle_eq hx hy hl
      · exact settle_gt hx hy hl (by omega)
end Go.Proofs.Ytcfgckpjgihcgaa
/- A sector is laid anew; the waiting writes are struck: what the device is then. -/
namespace Go.Proofs.Ytcfgckpjgihcgaa
open Go.RowKit

theorem Rep.row_put {α : Type} {r : Rep α} {Q : Nat → Prop} {w : World} {u : Value} {y : α} (hr : r.size = 1) (hrd : r.rd Q w [u] y) : ∀ {xs : List α} {cs : List Value} (i : Nat), r.row Q w cs xs → r.row Q w (cs.set i u) (xs.set i y)
  | [], cs, i, h => by have h' : cs = [] := h; subst h'; exact h
  | x :: xs, cs, 0, h => by
    obtain ⟨es, rest, rfl, h1, h2⟩ := h
    have hl := r.len h1
    rw [hr] at hl
    obtain ⟨e, rfl⟩ : ∃ e, es = [e] := List.length_eq_one_iff.1 hl
    exact ⟨[u], rest, rfl, hrd, h2⟩
  | x :: xs, cs, i + 1, h => by
    obtain ⟨es, rest, rfl, h1, h2⟩ := h
    have hl := r.len h1
    rw [hr] at hl
    obtain ⟨e, rfl⟩ : ∃ e, es = [e] := List.length_eq_one_iff.1 hl
    exact ⟨[e], rest.set i u, rfl, h1, Rep.row_put hr hrd i h2⟩
theorem Rep.acc_put {α : Type} {r : Rep α} {e base : Nat} {Q : Nat → Prop} {w : World} {v u : Value} {xs : List α} {y : α} {i : Nat} (hr : r.size = 1) (h : r.acc e base Q w v xs) (hi : i < xs.length) (hu : r.rd (fun b => Q b ∧ v.ownBlock ≠ some b) w [u] y) (_ : u.oneCell' = true) :
    ∃ g cap, v = .slice (some ⟨g, 0, none⟩) xs.length cap ∧ w.heap[g]? ≠ none ∧ r.acc e base Q (w.setCell ⟨g, i, none⟩ u) v (xs.set i y) := by
  obtain ⟨cells, g1, g2⟩ := h
  rcases g1.2 with ⟨rfl, h0⟩ | ⟨g, cap, cur, rfl, hb, hg, h3, h4, h5, h6⟩
  · omega
  · have hown : (Value.slice (some ⟨g, 0, none⟩) xs.length cap).ownBlock = some g := rfl
    refine ⟨g, cap, rfl, by rw [hg]; simp, cells.set i u, ⟨by rw [List.length_set, List.length_set]; exact g1.1, .inr ⟨g, cap, cur.setIfInBounds i u, by rw [List.length_set], hb, heap_setRow hg, by rw [List.length_set]; exact h3, h4, by simp [h5], ?_⟩⟩, ?_⟩
    · rw [List.length_set, hr, Nat.mul_one] at *
      rw [Array.toList_setIfInBounds, List.take_set, h6]
    · refine Rep.row_put hr ?_ i (Rep.row_keep (w := w) (fun b hb' hl => ⟨hb', Below.heap_setCell _ _ _ _ (fun e => hb'.2 (by rw [e]; rfl))⟩) g2)
      exact r.keep (fun b hb' hl => ⟨hb', Below.heap_setCell _ _ _ _ (fun e => hb'.2 (by rw [e]; rfl))⟩) hu

/-- An element of a slice of slices of bytes. -/
theorem Rep.acc_elem {e base : Nat} {Q : Nat → Prop} {w : World} {v : Value} {xs : List (List UInt8)} (h : Rep.byte.list.acc e base Q w v xs) {i : Nat} {x : List UInt8} (hx : xs[i]? = some x) :
    ∃ g B c cap, v = .slice (some ⟨g, 0, none⟩) xs.length cap ∧ w.cell? ⟨g, i, none⟩ = some (.slice B x.length c) ∧ w.frozen? ⟨g, i, none⟩ = false ∧ g < w.heap.size ∧ Rep.byte.list.val (fun b => Q b ∧ g ≠ b) w (.slice B x.length c) x := by
  obtain ⟨cells, g1, g2⟩ := h
  have hi := (List.getElem?_eq_some_iff.1 hx).1
  rcases g1.2 with ⟨rfl, h0⟩ | ⟨g, cap, cur, rfl, hb, hg, h3, h4, h5, h6⟩
  · omega
  · obtain ⟨es, hrd, hcell⟩ := Rep.row_get g2 hx
    have hval : Rep.byte.list.val (fun b => Q b ∧ g ≠ b) w (Rep.byte.list.wrap es) x := ⟨es, rfl, Rep.byte.list.mono (fun b hb' _ => ⟨hb'.1, fun e => hb'.2 (by rw [e]; rfl)⟩) hrd⟩
    obtain ⟨B, c, he, hc1, hc2, hat⟩ := Rep.val_list hval
    rw [he] at hval
    have hes : es = [.slice B x.length c] := by
      have := Rep.byte.list.back hrd
      rw [he] at this
      exact this.symm
    subst hes
    refine ⟨g, B, c, cap, rfl, ?_, frozen_row hg i, (Array.getElem?_eq_some_iff.1 hg).1, hval⟩
    have := g1.cells (g := g) rfl i (.slice B x.length c) (by have := hcell 0 _ rfl; simpa [Rep.list] using this)
    rw [Addr.add_lit, Nat.zero_add] at this
    exact this

namespace DiskW
variable {W W' : World} {P : Nat} {Sf : Option Addr} {cs M : Nat} {D : DataW Value} {F B : Nat → Prop} {n : Nat} {st : DiskSt}
theorem wide (h : DiskW W P Sf cs M D F B n st) {B' : Nat → Prop} (hb : ∀ b, B b → B' b) (ha : ∀ b, F b → ¬ B' b) (hl : ∀ b, B' b → b < W.heap.size) : DiskW W P Sf cs M D F B' n st :=
  ⟨h.blk, Rep.acc_keep (fun _ _ _ => rfl) (fun b hb' _ => hb b hb') h.safe, h.map, fun i => Rep.acc_keep (fun _ _ _ => rfl) (fun b hb' _ => hb b hb') (h.wt i), h.len, h.keys, h.wf, h.fP, h.fM, h.fS, h.fW, h.dSW, h.dWW, ha, fun b hb' => hb'.elim (fun e => h.lt b (.inl e)) (hl b), h.has⟩
/-- A sector is laid anew. -/
theorem setSafe (h : DiskW W P Sf cs M D F B n st) {i : Nat} (hi : i < st.safe.length) {u : Value} {y : List UInt8} (hu : Rep.byte.list.val B W u y) :
    ∃ g, Sf = some ⟨g, 0, none⟩ ∧ F g ∧ DiskW (W.setCell ⟨g, i, none⟩ u) P Sf cs M D F B n { st with safe := st.safe.set i y } := by
  obtain ⟨A', c', rfl, _, _, _⟩ := Rep.val_list hu
  obtain ⟨cs', he, hrd⟩ := hu
  have hcs : cs' = [.slice A' y.length c'] := by
    have := Rep.byte.list.back hrd
    rw [← he] at this
    exact this.symm
  subst hcs
  have hown : ∀ b, B b → (Value.slice Sf st.safe.length cs).ownBlock ≠ some b := fun b hb e => h.apart b (h.fS b e) hb
  obtain ⟨g, cap, hv, _, hacc⟩ := Rep.acc_put rfl h.safe hi (Rep.byte.list.mono (fun b hb _ => ⟨hb, hown b hb⟩) hrd) rfl
  cases hv
  have hg : (Value.slice (some ⟨g, 0, none⟩) st.safe.length cs).ownBlock = some g := rfl
  have hFg := h.fS g hg
  have ek : ∀ b, b ≠ g → (W.setCell ⟨g, i, none⟩ (.slice A' y.length c')).heap[b]? = W.heap[b]? := fun b hb => Below.heap_setCell _ _ _ _ hb
  have hlen : (st.safe.set i y).length = st.safe.length := List.length_set ..
  refine ⟨g, rfl, hFg, ⟨?_, ?_, h.map_keep (ek M (fun e => h.sM hg e.symm)), fun j => ?_, h.len, fun j hj => ?_, h.wf, h.fP, h.fM, ?_, h.fW, ?_, h.dWW, h.apart, fun b hb => ?_, h.has⟩⟩
  · rw [ek P (fun e => h.sP hg e.symm)]
    show W.heap[P]? = some (.cells #[.slice _ (st.safe.set i y).length _, _, _, _, _, _] _ _)
    rw [hlen]; exact h.blk
  · show Rep.byte.list.acc 22 0 B _ (.slice _ (st.safe.set i y).length cs) (st.safe.set i y)
    rw [hlen]; exact hacc
  · exact Rep.acc_keep (fun b hb _ => ek b (hb.elim (fun e e2 => h.apart g hFg (e2 ▸ e)) (fun e e2 => h.dSW j b e (by rw [e2]; exact hg)))) (fun _ hb _ => hb) (h.wt j)
  · show 0 ≤ j ∧ j < ((st.safe.set i y).length : Int)
    rw [hlen]; exact h.keys j hj
  · show ∀ b, (Value.slice _ (st.safe.set i y).length cs).ownBlock = some b → F b
    rw [hlen]; exact h.fS
  · show ∀ j b, (valAt D j).ownBlock = some b → (Value.slice _ (st.safe.set i y).length cs).ownBlock ≠ some b
    rw [hlen]; exact h.dSW
  · have := h.lt b hb; simpa using this
/-- The waiting writes are struck. -/
theorem struck (h : DiskW W P Sf cs M D F B n st) {clock : Nat} (hm : W'.heap[M]? = some (.map #[] clock)) (hs : W'.heap.size = W.heap.size) (hk : ∀ b, b ≠ M → W'.heap[b]? = W.heap[b]?) :
    DiskW W' P Sf cs M (.map []) F B n { st with wait := fun _ => [] } := by
  have hBM : ∀ b, B b → b ≠ M := fun b hb e => h.apart M h.fM (e ▸ hb)
  refine ⟨(hk P (fun e => h.mP e.symm)).trans h.blk, ?_, ⟨#[], clock, hm, ⟨by simp, Go.MapKept.stamped_empty clock, by simp⟩, Nat.zero_le _, rfl⟩, fun i => Rep.acc_nil, fun i => Nat.zero_le _, fun i hi => absurd rfl hi, h.wf, h.fP, h.fM, h.fS, fun i b hb => (by cases hb), fun i b hb => (by cases hb), fun i j b _ hb => (by cases hb), h.apart, fun b hb => by rw [hs]; exact h.lt b hb, fun i hi => by cases hi⟩
  exact Rep.acc_keep (fun b hb _ => hk b (hb.elim (hBM b) h.sM)) (fun _ hb _ => hb) h.safe
/-- A key with waiting writes is one of the map's. -/
theorem of_wait (h : DiskW W P Sf cs M D F B n st) {i : Int} (hw : st.wait i ≠ []) : Go.Maps.has D (.int .i64 i) = true := by
  cases hh : Go.Maps.has D (.int .i64 i) with
  | true => rfl
  | false =>
    exfalso
    have e : valAt D i = nilList := by unfold valAt; rw [Go.Maps.atKey_of_not_has hh]
    have h1 := h.wt i
    rw [e] at h1
    obtain ⟨A, c, he, _⟩ := Rep.acc_form h1
    cases hl : st.wait i with
    | nil => exact hw hl
    | cons y ys => rw [hl] at he; unfold nilList at he; injection he with _ h2 _; simp at h2
end DiskW
/-- clear(m). -/
theorem clear_map {w : World} {M : Nat} {es : Array MapEntry} {clock : Nat} {ty : TypeId} (hb : w.heap[M]? = some (.map es clock)) :
    ∃ w' c', (Builtin.clear_ #[209] ty #[.map (some M)]).run Try.prog w = .ok (.tuple #[]) w' ∧ w'.heap[M]? = some (.map #[] c') ∧ w'.heap.size = w.heap.size ∧ (∀ b, b ≠ M → w'.heap[b]? = w.heap[b]?) ∧ w'.os = w.os ∧ w'.tape = w.tape ∧ w'.output = w.output := by
  have hm := Try.underlying209
  have hlt : M < w.heap.size := (Array.getElem?_eq_some_iff.1 hb).1
  refine ⟨{ w with heap := w.heap.setIfInBounds M (.map #[] clock) }, clock, ?_, ?_, by simp, fun b hne => ?_, rfl, rfl, rfl⟩
  · simp [Builtin.clear_, run_underlying hm, Go.MapKept.run_getObj_map hb, Go.MapKept.run_setObj_map _ hb, Result.andThen]
  · simp [hlt]
  · show (w.heap.setIfInBounds M _)[b]? = w.heap[b]?
    rw [Array.getElem?_setIfInBounds_ne (fun e => hne e.symm)]
end Go.Proofs.Ytcfgckpjgihcgaa
