/- Walk of a write to the device. -/
import Derived.Test.YteljibjbndpncaaWfCut
import Derived.Test.YteljibjbndpncaaWfG15
import Derived.Test.YteljibjbndpncaaWfG20
namespace Go.Proofs.Yteljibjbndpncaa
open Go.RowKit
open Extern.Stop (cell)

namespace DiskW
variable {W W' : World} {P : Nat} {Sf : Option Addr} {cs M : Nat} {D : DataW Value} {F B : Nat → Prop} {n : Nat} {st : DiskSt}
theorem sM (h : DiskW W P Sf cs M D F B n st) {b : Nat} (hb : (Value.slice Sf st.safe.length cs).ownBlock = some b) : b ≠ M := by
  rintro rfl
  obtain ⟨cur, hc⟩ := acc_block h.safe hb
  obtain ⟨es, clock, hm, _⟩ := h.map
  rw [hm] at hc; cases hc
theorem wM (h : DiskW W P Sf cs M D F B n st) {i : Int} {b : Nat} (hb : (valAt D i).ownBlock = some b) : b ≠ M := by
  rintro rfl
  obtain ⟨cur, hc⟩ := acc_block (h.wt i) hb
  obtain ⟨es, clock, hm, _⟩ := h.map
  rw [hm] at hc; cases hc
end DiskW

def pushSt (st : DiskSt) (i : Int) (x : List UInt8) : DiskSt := { st with wait := fun j => if j = i then st.wait i ++ [x] else st.wait j }
theorem DiskW.write {W2 w4 w5 w6 : World} {P : Nat} {Sf : Option Addr} {cs M : Nat} {D : DataW Value} {F B : Nat → Prop} {n : Nat} {st : DiskSt} (h : DiskW W2 P Sf cs M D F B n st) {i : Int} {x : List UInt8} {v' : Value}
    (hi : 0 ≤ i ∧ i < st.safe.length) (hb4 : Below W2.heap.size W2 w4) (hz4 : W2.heap.size < w4.heap.size) (ha : Rep.byte.list.acc 33 0 (fun b => B b ∨ b = W2.heap.size) w5 v' (st.wait i ++ [x]))
    (g5 : w4.grownBy w5 (valAt D i).ownBlock) (ho : v'.ownBlock = (valAt D i).ownBlock ∨ v'.ownBlock = some w4.heap.size) (hm : w6.ownsMap Try.prog 3 heldElem M (n + 1) (D.put (.int .i64 i) (.held v'))) (g6 : w5.grownBy w6 (some M)) :
    DiskW w6 P Sf cs M (D.put (.int .i64 i) (.held v')) (fun b => F b ∨ v'.ownBlock = some b) (fun b => B b ∨ b = W2.heap.size) (n + 1) (pushSt st i x) := by
  have hD := h.map.isMap
  have hMlt := h.lt M (.inl h.fM)
  have e : ∀ b, b < W2.heap.size → b ≠ M → (valAt D i).ownBlock ≠ some b → w6.heap[b]? = W2.heap[b]? := fun b hb h1 h2 => by
    have s4 := hb4.size
    have s5 := g5.size
    rw [g6.block b (by omega) (fun e => h1 (Option.some.inj e)), g5.block b (by omega) (fun e => h2 e.symm), hb4.block b hb]
  have hBM : ∀ b, B b → b ≠ M := fun b hb e => h.apart M h.fM (e ▸ hb)
  have hBW : ∀ b, B b → (valAt D i).ownBlock ≠ some b := fun b hb e => h.apart b (h.fW i b e) hb
  have hown5 : ∀ b, v'.ownBlock = some b → b < w5.heap.size := fun b hb => (Rep.acc_own ha b hb).2
  have hownM : ∀ b, v'.ownBlock = some b → b ≠ M := fun b hb => by
    rcases ho with ho | ho
    · exact h.wM (ho ▸ hb)
    · have := Option.some.inj (ho.symm.trans hb)
      have := hb4.size
      omega
  have hs6 : W2.heap.size ≤ w6.heap.size := Nat.le_trans hb4.size (Nat.le_trans g5.size g6.size)
  refine ⟨?_, ?_, hm, fun j => ?_, fun j => ?_, fun j hj => ?_, h.wf, .inl h.fP, .inl h.fM, fun b hb => .inl (h.fS b hb), fun j b hb => ?_, fun j b hb => ?_, fun j k b hne hb => ?_, fun b hb => ?_, fun b hb => ?_, fun j hj => ?_⟩
  · rw [e P (h.lt P (.inl h.fP)) h.mP.symm (fun hb => h.wP hb rfl)]; exact h.blk
  · exact Rep.acc_keep (fun b hb _ => e b (h.lt b (hb.elim .inr fun e => .inl (h.fS b e))) (hb.elim (hBM b) h.sM) (fun hw => hb.elim (fun hB => hBW b hB hw) (fun hs => h.dSW i b hw hs))) (fun _ hb _ => .inl hb) h.safe
  · by_cases hj : j = i
    · subst hj
      rw [valAt_put_same hD]
      show Rep.byte.list.acc _ _ _ _ _ (if j = j then st.wait j ++ [x] else st.wait j)
      rw [if_pos rfl]
      refine Rep.acc_keep (fun b hb hl => g6.block b hl.lt (fun e => ?_)) (fun _ hb _ => hb) ha
      have e := Option.some.inj e
      rcases hb with (hb | hb) | hb
      · exact hBM b hb e
      · omega
      · exact hownM b hb e
    · rw [valAt_put_other hj]
      show Rep.byte.list.acc _ _ _ _ _ (if j = i then st.wait i ++ [x] else st.wait j)
      rw [if_neg hj]
      exact Rep.acc_keep (fun b hb _ => e b (h.lt b (hb.elim .inr fun e => .inl (h.fW j b e))) (hb.elim (hBM b) h.wM) (fun hw => hb.elim (fun hB => hBW b hB hw) (fun hs => h.dWW i j b (fun e => hj e.symm) hw hs))) (fun _ hb _ => .inl hb) (h.wt j)
  · show (if j = i then st.wait i ++ [x] else st.wait j).length ≤ n + 1
    split
    · rw [List.length_append]; have := h.len i; simp; omega
    · have := h.len j; omega
  · change (if j = i then st.wait i ++ [x] else st.wait j) ≠ [] at hj
    split at hj
    · rename_i e; rw [e]; exact hi
    · exact h.keys j hj
  · by_cases hj : j = i
    · subst hj; rw [valAt_put_same hD] at hb; exact .inr hb
    · rw [valAt_put_other hj] at hb; exact .inl (h.fW j b hb)
  · show (Value.slice Sf st.safe.length cs).ownBlock ≠ some b
    by_cases hj : j = i
    · subst hj
      rw [valAt_put_same hD] at hb
      rcases ho with ho | ho
      · exact h.dSW j b (ho ▸ hb)
      · intro hs
        have h1 := h.lt b (.inl (h.fS b hs))
        have h2 := Option.some.inj (ho.symm.trans hb)
        omega
    · rw [valAt_put_other hj] at hb; exact h.dSW j b hb
  · by_cases hj : j = i
    · subst hj
      have hk : k ≠ j := fun e => hne e.symm
      rw [valAt_put_same hD] at hb
      rw [valAt_put_other hk]
      rcases ho with ho | ho
      · exact h.dWW j k b hne (ho ▸ hb)
      · intro hs
        have h1 := h.lt b (.inl (h.fW k b hs))
        have h2 := Option.some.inj (ho.symm.trans hb)
        omega
    · rw [valAt_put_other hj] at hb
      by_cases hk : k = i
      · subst hk
        rw [valAt_put_same hD]
        intro hs
        rcases ho with ho | ho
        · exact h.dWW j k b hj hb (ho ▸ hs)
        · have h1 := h.lt b (.inl (h.fW j b hb))
          have h2 := Option.some.inj (ho.symm.trans hs)
          omega
      · rw [valAt_put_other hk]; exact h.dWW j k b hne hb
  · rcases hb with hb | hb
    · rintro (h1 | h1)
      · exact h.apart b hb h1
      · have := h.lt b (.inl hb); omega
    · rintro (h1 | h1)
      · rcases ho with ho | ho
        · exact h.apart b (h.fW i b (ho ▸ hb)) h1
        · have := h.lt b (.inr h1)
          have := Option.some.inj (ho.symm.trans hb)
          omega
      · rcases ho with ho | ho
        · have := h.lt b (.inl (h.fW i b (ho ▸ hb))); omega
        · have := Option.some.inj (ho.symm.trans hb)
          omega
  · rcases hb with (hb | hb) | (hb | hb)
    · have := h.lt b (.inl hb); omega
    · have := hown5 b hb; have := g6.size; omega
    · have := h.lt b (.inr hb); omega
    · have := g5.size; have := g6.size; omega
  · show (if j = i then st.wait i ++ [x] else st.wait j) ≠ []
    by_cases hji : j = i
    · rw [if_pos hji]; simp
    · rw [if_neg hji]
      rw [Go.Maps.has_put_other (fun e => hji (by cases e; rfl))] at hj
      exact h.has j hj

def writeSt (st : DiskSt) (i : Int) (b : List UInt8) : DiskSt × Int :=
  if (atSt st i).2 = 0 then (pushSt { (atSt st i).1 with writes := wrap64 ((atSt st i).1.writes + 1) } i (cutTo b 512), 0) else ((atSt st i).1, (atSt st i).2)
def WritePost (F B : Nat → Prop) (P n : Nat) (W : World) (r : DiskSt × Int) (e : Ending) (W' : World) : Prop :=
  e = .returned (.int .i64 r.2) ∧ Only F W W' ∧ ∃ F' B' : Nat → Prop, DiskAt W' P F' B' (n + 1) r.1 ∧ (∀ b, F' b → F b ∨ W.heap.size ≤ b) ∧ (∀ b, B' b → B b ∨ W.heap.size ≤ b) ∧ (∀ b, F b → F' b)
theorem DiskW.more {W : World} {P : Nat} {Sf : Option Addr} {cs M : Nat} {D : DataW Value} {F B : Nat → Prop} {n n' : Nat} {st : DiskSt} (h : DiskW W P Sf cs M D F B n st) (hn : n ≤ n') : DiskW W P Sf cs M D F B n' st :=
  ⟨h.blk, h.safe, h.map.mono hn, h.wt, fun i => Nat.le_trans (h.len i) hn, h.keys, h.wf, h.fP, h.fM, h.fS, h.fW, h.dSW, h.dWW, h.apart, h.lt, h.has⟩
theorem exec_lookup {o : Oper} {a : Act} {w : World} {m x : Operand} {M n : Nat} {D : DataW Value} {i : Int} (ho : o.op = Op.lookup 103 m x false) (hm : a.eval m = .map (some M)) (hx : a.eval x = .int .i64 i)
    (h : w.ownsMap Try.prog 3 heldElem M n D) (hi : (Lit.int .i64 i).wf = true) : (execOp a.eval o).run Try.prog w = .ok (.value (valAt D i)) w := by
  have hrun := lookup_held h hi
  simp [execOp, ho, hm, hx, hrun, Result.andThen]
theorem exec_mapUpdate {o : Oper} {a : Act} {w w' : World} {m x y : Operand} {t : TypeId} {M : Nat} {key val : Value} (ho : o.op = Op.mapUpdate t m x y) (hm : a.eval m = .map (some M)) (hx : a.eval x = key) (hy : a.eval y = val)
    (hrun : (Instr.mapUpdate t (.map (some M)) key val).run Try.prog w = .ok () w') : (execOp a.eval o).run Try.prog w = .ok .skip w' := by
  simp [execOp, ho, hm, hx, hy, hrun, Result.andThen]

set_option maxRecDepth 100000 in
set_option maxHeartbeats 4000000 in
/-- (*disk.Disk).Write -/
theorem dwrite_calls {Q : Nat → Prop} {W : World} {P : Nat} {F B : Nat → Prop} {n : Nat} {st : DiskSt} {i : Int} {v : Value} {b : List UInt8} (h : DiskAt W P F B n st) (hi : (Lit.int .i64 i).wf = true) (hn : n ≤ 1000000000) (hx : Rep.byte.list.val Q W v b)
    (hQ : ∀ k, Q k → ¬ F k) :
    Calls Try.prog 95 #[.pointer (some ⟨P, 0, none⟩), .int .i64 i, v] W (WritePost F B P n W (writeSt st i b)) := by
  have HA := Lib.hid h
  have HI := Lib.hid hi
  by_cases hc : (atSt st i).2 = 0
  case neg =>
    have HF := Lib.hid (show writeSt st i b = ((atSt st i).1, (atSt st i).2) by unfold writeSt; rw [if_neg hc])
    have g0 : ((atSt st i).2 == 0) = false := by simpa using hc
    clear h hc
    go_enter Try.func95, Try.ntmps95
    go_wp2_with fail
    refine (dat_calls HA.out).mono ?_
    rintro e w1 ⟨rfl, hd1, ho⟩
    have HD1 := Lib.hid hd1
    have HO := Lib.hid ho
    clear hd1 ho
    go_wp2_with fail
    go_ret
    exact ⟨by rw [HF.out]; rfl, HO.out, F, B, by rw [HF.out]; obtain ⟨_, _, _, _, hh⟩ := HD1.out; exact ⟨_, _, _, _, hh.more (Nat.le_succ n)⟩, fun _ hb => .inl hb, fun _ hb => .inl hb, fun _ hb => hb⟩
  case pos =>
    have HF := Lib.hid (show writeSt st i b = (pushSt { (atSt st i).1 with writes := wrap64 ((atSt st i).1.writes + 1) } i (cutTo b 512), 0) by unfold writeSt; rw [if_pos hc])
    have HC := Lib.hid hc
    have hr := atSt_range hc
    have hs := atSt_same st i
    have HR := Lib.hid (show 0 ≤ i ∧ i < (atSt st i).1.safe.length by rw [hs.1]; exact hr)
    have HXB := Lib.hid (show ∀ W', Only F W W' → Rep.byte.list.val Q W' v b from fun W' ho => Rep.val_keep (fun k hk hl => ⟨hk, ho.block k hl.lt (hQ k hk)⟩) hx)
    clear h hc hr hs hx
    go_enter Try.func95, Try.ntmps95
    go_wp2_with fail
    refine (dat_calls HA.out).mono ?_
    rintro e w1 ⟨rfl, hd1, ho⟩
    rw [HC.out]
    generalize (atSt st i).1 = s1 at *
    obtain ⟨Sf, cs, M, D, hd1⟩ := hd1
    have HO1 := Lib.hid ho
    have e5 := cell_row hd1.blk 5
    have z5 := frozen_row hd1.blk 5
    obtain ⟨W2, hW2⟩ : ∃ W2, w1.setCell ⟨P, 5, none⟩ (.int .i64 (wrap64 (s1.writes + 1))) = W2 := ⟨_, rfl⟩
    have hd2 : DiskW W2 P Sf cs M D F B n { s1 with writes := wrap64 (s1.writes + 1) } := by
      rw [← hW2]; exact hd1.scal rfl rfl hd1.wf (heap_setRow hd1.blk) (by simp) fun b hb _ => Below.heap_setCell _ _ _ _ hb
    have HO2 := Lib.hid (show Only F W W2 from HO1.out.trans (by rw [← hW2]; exact Only.set hd1.fP))
    have HD2 := Lib.hid hd2
    have HW2 := Lib.hid hW2
    clear hd1 ho hd2 hW2
    go_wp2_with fail
    rw [HW2.out]
    clear HW2 e5 z5
    have KP := Lib.hid (show ∀ W', Below W2.heap.size W2 W' → W'.cell? ⟨P, 1, none⟩ = some (.map (some M)) from fun W' hb => (hb.cell (p := ⟨P, 1, none⟩) (HD2.out.lt P (.inl HD2.out.fP))).trans (cell_row HD2.out.blk 1))
    have s1' := KP.out W2.drew (Below.refl _ _).drew
    refine wp_region_held (S := fun W' => W'.cell? ⟨P, 1, none⟩ = some (.map (some M))) (by kernel_rfl) ?_
    refine wpAnyH_take (i := 0) (v := .pointer (some ⟨P, 0, none⟩)) rfl (by kernel_rfl) (by kernel_rfl) (by kernel_rfl) (fun _ _ _ h => h) (Or.inl ⟨by rfl, fun w' _ => by go_simp⟩) s1' ?_
    go_simp
    refine wpAnyH_take (i := 1) (v := .pointer (some ⟨P, 0, none⟩)) rfl (by kernel_rfl) (by kernel_rfl) (by kernel_rfl) (fun _ _ _ h => h) (Or.inl ⟨by rfl, fun w' _ => by go_simp⟩) s1' ?_
    go_simp
    refine wpAnyH_take (i := 2) (v := .pointer (some ⟨P, 1, none⟩)) rfl (by kernel_rfl) (by kernel_rfl) (by kernel_rfl) (fun _ _ _ h => h) (Or.inl ⟨by rfl, fun w' _ => by go_simp⟩) s1' ?_
    go_simp
    refine wpAnyH_take (i := 3) (v := .map (some M)) rfl (by kernel_rfl) (by kernel_rfl) (by kernel_rfl) (fun _ _ _ h => h) (Or.inl ⟨by rfl, fun w' h => by have hc : w'.cell? ⟨P, 1, none⟩ = some (.map (some M)) := h; go_simp⟩) s1' ?_
    go_simp
    refine wpAnyH_take (i := 4) (v := .int .i64 i) rfl (by kernel_rfl) (by kernel_rfl) (by kernel_rfl) (fun _ _ _ h => h) (Or.inl ⟨by rfl, fun w' _ => by go_simp⟩) s1' ?_
    go_simp
    refine wpAnyH_take (i := 5) (v := .pointer (some ⟨P, 0, none⟩)) rfl (by kernel_rfl) (by kernel_rfl) (by kernel_rfl) (fun _ _ _ h => h) (Or.inl ⟨by rfl, fun w' _ => by go_simp⟩) s1' ?_
    go_simp
    refine wpAnyH_take (i := 6) (v := .pointer (some ⟨P, 0, none⟩)) rfl (by kernel_rfl) (by kernel_rfl) (by kernel_rfl) (fun _ _ _ h => h) (Or.inl ⟨by rfl, fun w' _ => by go_simp⟩) s1' ?_
    go_simp
    refine wpAnyH_take (i := 7) (v := .pointer (some ⟨P, 1, none⟩)) rfl (by kernel_rfl) (by kernel_rfl) (by kernel_rfl) (fun _ _ _ h => h) (Or.inl ⟨by rfl, fun w' _ => by go_simp⟩) s1' ?_
    go_simp
    refine wpAnyH_take (i := 8) (v := .map (some M)) rfl (by kernel_rfl) (by kernel_rfl) (by kernel_rfl) (fun _ _ _ h => h) (Or.inl ⟨by rfl, fun w' h => by have hc : w'.cell? ⟨P, 1, none⟩ = some (.map (some M)) := h; go_simp⟩) s1' ?_
    go_simp
    refine wpAnyH_take (i := 9) (v := .int .i64 i) rfl (by kernel_rfl) (by kernel_rfl) (by kernel_rfl) (fun _ _ _ h => h) (Or.inl ⟨by rfl, fun w' _ => by go_simp⟩) s1' ?_
    go_simp
    refine wpAnyH_take (i := 11) (v := v) rfl (by kernel_rfl) (by kernel_rfl) (by kernel_rfl) (fun _ _ _ h => h) (Or.inl ⟨by rfl, fun w' _ => by go_simp⟩) s1' ?_
    go_simp
    refine wpAnyH_all (rs := [10, 12]) (by kernel_rfl) (by simp) ?_
    intro j hj
    rcases (by simpa using hj : j = 10 ∨ j = 12) with rfl | rfl
    · refine wpOp_step rfl (fun K hK => ?_)
      refine step_run rfl (exec_lookup (M := M) (n := n) (D := D) (i := i) rfl (by rfl) (by rfl) (HD2.out.map) HI.out) ?_
      go_simp
      refine hK _ _ ⟨KP.out _ (Below.refl _ _).drew, ?_⟩
      clear hK K
      refine wpAnyH_all (rs := [12]) (by kernel_rfl) (by simp) ?_
      intro j hj
      obtain rfl : j = 12 := by simpa using hj
      refine wpOp_step rfl (fun K hK => ?_)
      go_simp
      refine (lecut_calls (n := 512) (HXB.out _ (HO2.out.trans (Only.of_below (Below.refl _ _).drew))) (by decide)).mono ?_
      rintro e w3 ⟨rfl, hg, hb3⟩
      have HG := Lib.hid (show w3.heap[W2.heap.size]? = some (.cells ((cutTo b 512).map cell).toArray 5 (0, 0)) from hg)
      have HB3 := Lib.hid (show Below W2.heap.size W2 w3 from (Below.refl _ _).drew.trans hb3)
      clear hg hb3
      refine hK _ _ ⟨KP.out _ HB3.out, ?_⟩
      clear hK K
      refine wpAnyH_all (rs := [13]) (by kernel_rfl) (by simp) ?_
      intro j hj
      obtain rfl : j = 13 := by simpa using hj
      refine wpOp_step rfl (fun K hK => ?_)
      refine step_run rfl (exec_buildSlice (vy := .slice (some ⟨W2.heap.size, 0, none⟩) 512 512) rfl (.slice none 0 0) 1 Try.underlying39 info22' rfl rfl (by decide)) ?_
      go_simp
      have HB4 := Lib.hid (HB3.out.alloc HB3.out.size (.cells #[.slice (some ⟨W2.heap.size, 0, none⟩) 512 512] 33))
      refine hK _ _ ⟨KP.out _ HB4.out, ?_⟩
      clear hK K
      have hg4 := heap_alloc_new w3 (.cells #[.slice (some ⟨W2.heap.size, 0, none⟩) 512 512] 33)
      have hz3 : W2.heap.size < w3.heap.size := IsC.lt ⟨_, _, _, HG.out⟩
      have hz4 : (w3.alloc (.cells #[.slice (some ⟨W2.heap.size, 0, none⟩) 512 512] 33)).heap.size = w3.heap.size + 1 := by simp
      have hacc4 : Rep.byte.list.acc 33 0 (fun k => B k ∨ k = W2.heap.size) (w3.alloc (.cells #[.slice (some ⟨W2.heap.size, 0, none⟩) 512 512] 33)) (valAt D i) (s1.wait i) :=
        Rep.acc_keep (fun k hk hl => HB4.out.block k hl.lt) (fun _ hk _ => .inl hk) (HD2.out.wt i)
      have hu4 : Rep.byte.list.rd (fun k => (B k ∨ k = W2.heap.size) ∧ (valAt D i).ownBlock ≠ some k) (w3.alloc (.cells #[.slice (some ⟨W2.heap.size, 0, none⟩) 512 512] 33)) [.slice (some ⟨W2.heap.size, 0, none⟩) 512 512] (cutTo b 512) := by
        have hS : SecAt w3 W2.heap.size 5 (cutTo b 512) := ⟨HG.out, cutTo_length _ _⟩
        have hv := hS.sl (a := 0) (n := 512) (c := 512) (by omega) (by omega) (by simp [maxLen])
        rw [List.drop_zero, List.take_of_length_le (by rw [cutTo_length]; omega)] at hv
        have hv2 := Rep.val_keep (w' := w3.alloc (.cells #[.slice (some ⟨W2.heap.size, 0, none⟩) 512 512] 33)) (Q' := fun k => (B k ∨ k = W2.heap.size) ∧ (valAt D i).ownBlock ≠ some k) (fun k hk hl => ⟨⟨.inr hk, fun e => by have := HD2.out.lt k (.inl (HD2.out.fW i k e)); have hk' : k = W2.heap.size := hk; omega⟩, Below.heap_alloc _ _ _ hl.lt⟩) hv
        obtain ⟨A', c', he, h1, h2, es, h3, h4⟩ := Rep.val_list hv2
        have hlen : (cutTo b 512).length = 512 := cutTo_length _ _
        rw [hlen] at he
        cases he
        exact ⟨_, _, es, by rw [hlen], h1, h2, h3, h4⟩
      obtain ⟨v', w5, q1, q2, q3, q4⟩ := Rep.acc_more (P := Try.prog) (ty := 39) (ys := [cutTo b 512]) (A := some ⟨w3.heap.size, 0, none⟩) (m := 1) (c := 1) Try.underlying39 info22 rfl (by decide) rfl hacc4 rfl (Rep.row_one_elem hu4)
        (fun _ => ⟨w3.heap.size, 0, rfl, fun j u hj => by rw [cell_of_row _ _ _ _ _ _ hg4, Nat.zero_add, ← hj]; simp⟩) (by have := HD2.out.len i; have hl : (s1.wait i).length ≤ n := this; simp; unfold maxLen; omega) (by have := HD2.out.len i; have hl : (s1.wait i).length ≤ n := this; simp; omega) (Nat.zero_le _)
      have hD5 : w5.ownsMap Try.prog 3 heldElem M n D := by
        have hMl := HD2.out.lt M (.inl HD2.out.fM)
        exact HD2.out.map_keep ((q3.block M (by omega) (fun e => HD2.out.wM e.symm rfl)).trans (HB4.out.block M hMl))
      obtain ⟨w6, u1, u2, u3⟩ := hD5.update int_law Try.underlying103 (by unfold maxLen; omega) (key_i64 HI.out) (val := v') (d := .held v') (ps := []) rfl
      have hfin := HD2.out.write (x := cutTo b 512) HR.out HB4.out (by rw [hz4]; omega) q2 q3 q4 u2 u3
      have hP6 := cell_row hfin.blk 1
      refine wpAnyH_all (rs := [14]) (by kernel_rfl) (by simp) ?_
      intro j hj
      obtain rfl : j = 14 := by simpa using hj
      refine wpOp_step rfl (fun K hK => ?_)
      refine step_run rfl (exec_append (by rfl) (by rfl) (by rfl) q1) ?_
      go_simp
      refine hK _ _ ⟨?_, ?_⟩
      · have hPl := HD2.out.lt P (.inl HD2.out.fP)
        rw [World.cell?_of_block (w := w3.alloc (.cells #[.slice (some ⟨W2.heap.size, 0, none⟩) 512 512] 33)) (w' := w5) (a := ⟨P, 1, none⟩) (q3.block P (by omega) (fun e => HD2.out.wP e.symm rfl))]
        exact KP.out _ HB4.out
      clear hK K
      refine wpAnyH_all (rs := [15]) (by kernel_rfl) (by simp) ?_
      intro j hj
      obtain rfl : j = 15 := by simpa using hj
      refine wpOp_step rfl (fun K hK => ?_)
      refine step_run_skip rfl (exec_mapUpdate (M := M) (key := .int .i64 i) (val := v') rfl (by rfl) (by rfl) (by rfl) u1) ?_
      go_simp
      refine hK _ _ ⟨hP6, ?_⟩
      clear hK K
      refine wpAnyH_done (by kernel_rfl) ?_ _
      clear hP6 u1 q1 hg4
      have HFIN := Lib.hid hfin
      have HOF := Lib.hid (show Only F W w6 from by
        have s2 := HO2.out.size
        have s4 := HB4.out.size
        have s5 := q3.size
        refine ⟨(u3.os.trans q3.os).trans (HB4.out.os.trans HO2.out.os), (u3.tape.trans q3.tape).trans (HB4.out.tape.trans HO2.out.tape), (u3.output.trans q3.output).trans (HB4.out.output.trans HO2.out.output), Nat.le_trans s2 (Nat.le_trans s4 (Nat.le_trans s5 u3.size)), fun k hk hf => ?_⟩
        have hMF : ¬ k = M := fun e => hf (e ▸ HD2.out.fM)
        rw [u3.block k (by omega) (fun e => hMF (Option.some.inj e)), q3.block k (by omega) (fun e => hf (HD2.out.fW i k e.symm)), HB4.out.block k (by omega)]
        exact HO2.out.block k hk hf)
      have HFB := Lib.hid (show (∀ k, (F k ∨ v'.ownBlock = some k) → F k ∨ W.heap.size ≤ k) ∧ (∀ k, (B k ∨ k = W2.heap.size) → B k ∨ W.heap.size ≤ k) from by
        have s2 := HO2.out.size
        have s4 := HB4.out.size
        refine ⟨fun k hk => hk.elim .inl fun hk => ?_, fun k hk => hk.elim .inl fun hk => .inr (by omega)⟩
        rcases q4 with q4 | q4
        · exact .inl (HD2.out.fW i k (q4 ▸ hk))
        · have := Option.some.inj (q4.symm.trans hk)
          exact .inr (by omega))
      clear hfin u2 u3 q2 q3 q4 hacc4 hu4 hD5
      go_wp2_with fail
      go_ret
      exact ⟨by rw [HF.out]; rfl, HOF.out, _, _, by rw [HF.out]; exact ⟨_, _, _, _, HFIN.out⟩, HFB.out.1, HFB.out.2, fun _ hb => .inl hb⟩
    · refine wpOp_step rfl (fun K hK => ?_)
      go_simp
      refine (lecut_calls (n := 512) (HXB.out _ (HO2.out.trans (Only.of_below (Below.refl _ _).drew))) (by decide)).mono ?_
      rintro e w3 ⟨rfl, hg, hb3⟩
      have HG := Lib.hid (show w3.heap[W2.heap.size]? = some (.cells ((cutTo b 512).map cell).toArray 5 (0, 0)) from hg)
      have HB3 := Lib.hid (show Below W2.heap.size W2 w3 from (Below.refl _ _).drew.trans hb3)
      clear hg hb3
      refine hK _ _ ⟨KP.out _ HB3.out, ?_⟩
      clear hK K
      refine wpAnyH_all (rs := [10, 13]) (by kernel_rfl) (by simp) ?_
      intro j hj
      rcases (by simpa using hj : j = 10 ∨ j = 13) with rfl | rfl
      · refine wpOp_step rfl (fun K hK => ?_)
        refine step_run rfl (exec_lookup (M := M) (n := n) (D := D) (i := i) rfl (by rfl) (by rfl) (HD2.out.map_keep (HB3.out.block M (HD2.out.lt M (.inl HD2.out.fM)))) HI.out) ?_
        go_simp
        refine hK _ _ ⟨KP.out _ HB3.out, ?_⟩
        clear hK K
        refine wpAnyH_all (rs := [13]) (by kernel_rfl) (by simp) ?_
        intro j hj
        obtain rfl : j = 13 := by simpa using hj
        refine wpOp_step rfl (fun K hK => ?_)
        refine step_run rfl (exec_buildSlice (vy := .slice (some ⟨W2.heap.size, 0, none⟩) 512 512) rfl (.slice none 0 0) 1 Try.underlying39 info22' rfl rfl (by decide)) ?_
        go_simp
        have HB4 := Lib.hid (HB3.out.alloc HB3.out.size (.cells #[.slice (some ⟨W2.heap.size, 0, none⟩) 512 512] 33))
        refine hK _ _ ⟨KP.out _ HB4.out, ?_⟩
        clear hK K
        have hg4 := heap_alloc_new w3 (.cells #[.slice (some ⟨W2.heap.size, 0, none⟩) 512 512] 33)
        have hz3 : W2.heap.size < w3.heap.size := IsC.lt ⟨_, _, _, HG.out⟩
        have hz4 : (w3.alloc (.cells #[.slice (some ⟨W2.heap.size, 0, none⟩) 512 512] 33)).heap.size = w3.heap.size + 1 := by simp
        have hacc4 : Rep.byte.list.acc 33 0 (fun k => B k ∨ k = W2.heap.size) (w3.alloc (.cells #[.slice (some ⟨W2.heap.size, 0, none⟩) 512 512] 33)) (valAt D i) (s1.wait i) :=
          Rep.acc_keep (fun k hk hl => HB4.out.block k hl.lt) (fun _ hk _ => .inl hk) (HD2.out.wt i)
        have hu4 : Rep.byte.list.rd (fun k => (B k ∨ k = W2.heap.size) ∧ (valAt D i).ownBlock ≠ some k) (w3.alloc (.cells #[.slice (some ⟨W2.heap.size, 0, none⟩) 512 512] 33)) [.slice (some ⟨W2.heap.size, 0, none⟩) 512 512] (cutTo b 512) := by
          have hS : SecAt w3 W2.heap.size 5 (cutTo b 512) := ⟨HG.out, cutTo_length _ _⟩
          have hv := hS.sl (a := 0) (n := 512) (c := 512) (by omega) (by omega) (by simp [maxLen])
          rw [List.drop_zero, List.take_of_length_le (by rw [cutTo_length]; omega)] at hv
          have hv2 := Rep.val_keep (w' := w3.alloc (.cells #[.slice (some ⟨W2.heap.size, 0, none⟩) 512 512] 33)) (Q' := fun k => (B k ∨ k = W2.heap.size) ∧ (valAt D i).ownBlock ≠ some k) (fun k hk hl => ⟨⟨.inr hk, fun e => by have := HD2.out.lt k (.inl (HD2.out.fW i k e)); have hk' : k = W2.heap.size := hk; omega⟩, Below.heap_alloc _ _ _ hl.lt⟩) hv
          obtain ⟨A', c', he, h1, h2, es, h3, h4⟩ := Rep.val_list hv2
          have hlen : (cutTo b 512).length = 512 := cutTo_length _ _
          rw [hlen] at he
          cases he
          exact ⟨_, _, es, by rw [hlen], h1, h2, h3, h4⟩
        obtain ⟨v', w5, q1, q2, q3, q4⟩ := Rep.acc_more (P := Try.prog) (ty := 39) (ys := [cutTo b 512]) (A := some ⟨w3.heap.size, 0, none⟩) (m := 1) (c := 1) Try.underlying39 info22 rfl (by decide) rfl hacc4 rfl (Rep.row_one_elem hu4)
          (fun _ => ⟨w3.heap.size, 0, rfl, fun j u hj => by rw [cell_of_row _ _ _ _ _ _ hg4, Nat.zero_add, ← hj]; simp⟩) (by have := HD2.out.len i; have hl : (s1.wait i).length ≤ n := this; simp; unfold maxLen; omega) (by have := HD2.out.len i; have hl : (s1.wait i).length ≤ n := this; simp; omega) (Nat.zero_le _)
        have hD5 : w5.ownsMap Try.prog 3 heldElem M n D := by
          have hMl := HD2.out.lt M (.inl HD2.out.fM)
          exact HD2.out.map_keep ((q3.block M (by omega) (fun e => HD2.out.wM e.symm rfl)).trans (HB4.out.block M hMl))
        obtain ⟨w6, u1, u2, u3⟩ := hD5.update int_law Try.underlying103 (by unfold maxLen; omega) (key_i64 HI.out) (val := v') (d := .held v') (ps := []) rfl
        have hfin := HD2.out.write (x := cutTo b 512) HR.out HB4.out (by rw [hz4]; omega) q2 q3 q4 u2 u3
        have hP6 := cell_row hfin.blk 1
        refine wpAnyH_all (rs := [14]) (by kernel_rfl) (by simp) ?_
        intro j hj
        obtain rfl : j = 14 := by simpa using hj
        refine wpOp_step rfl (fun K hK => ?_)
        refine step_run rfl (exec_append (by rfl) (by rfl) (by rfl) q1) ?_
        go_simp
        refine hK _ _ ⟨?_, ?_⟩
        · have hPl := HD2.out.lt P (.inl HD2.out.fP)
          rw [World.cell?_of_block (w := w3.alloc (.cells #[.slice (some ⟨W2.heap.size, 0, none⟩) 512 512] 33)) (w' := w5) (a := ⟨P, 1, none⟩) (q3.block P (by omega) (fun e => HD2.out.wP e.symm rfl))]
          exact KP.out _ HB4.out
        clear hK K
        refine wpAnyH_all (rs := [15]) (by kernel_rfl) (by simp) ?_
        intro j hj
        obtain rfl : j = 15 := by simpa using hj
        refine wpOp_step rfl (fun K hK => ?_)
        refine step_run_skip rfl (exec_mapUpdate (M := M) (key := .int .i64 i) (val := v') rfl (by rfl) (by rfl) (by rfl) u1) ?_
        go_simp
        refine hK _ _ ⟨hP6, ?_⟩
        clear hK K
        refine wpAnyH_done (by kernel_rfl) ?_ _
        clear hP6 u1 q1 hg4
        have HFIN := Lib.hid hfin
        have HOF := Lib.hid (show Only F W w6 from by
          have s2 := HO2.out.size
          have s4 := HB4.out.size
          have s5 := q3.size
          refine ⟨(u3.os.trans q3.os).trans (HB4.out.os.trans HO2.out.os), (u3.tape.trans q3.tape).trans (HB4.out.tape.trans HO2.out.tape), (u3.output.trans q3.output).trans (HB4.out.output.trans HO2.out.output), Nat.le_trans s2 (Nat.le_trans s4 (Nat.le_trans s5 u3.size)), fun k hk hf => ?_⟩
          have hMF : ¬ k = M := fun e => hf (e ▸ HD2.out.fM)
          rw [u3.block k (by omega) (fun e => hMF (Option.some.inj e)), q3.block k (by omega) (fun e => hf (HD2.out.fW i k e.symm)), HB4.out.block k (by omega)]
          exact HO2.out.block k hk hf)
        have HFB := Lib.hid (show (∀ k, (F k ∨ v'.ownBlock = some k) → F k ∨ W.heap.size ≤ k) ∧ (∀ k, (B k ∨ k = W2.heap.size) → B k ∨ W.heap.size ≤ k) from by
          have s2 := HO2.out.size
          have s4 := HB4.out.size
          refine ⟨fun k hk => hk.elim .inl fun hk => ?_, fun k hk => hk.elim .inl fun hk => .inr (by omega)⟩
          rcases q4 with q4 | q4
          · exact .inl (HD2.out.fW i k (q4 ▸ hk))
          · have := Option.some.inj (q4.symm.trans hk)
            exact .inr (by omega))
        clear hfin u2 u3 q2 q3 q4 hacc4 hu4 hD5
        go_wp2_with fail
        go_ret
        exact ⟨by rw [HF.out]; rfl, HOF.out, _, _, by rw [HF.out]; exact ⟨_, _, _, _, HFIN.out⟩, HFB.out.1, HFB.out.2, fun _ hb => .inl hb⟩
      · refine wpOp_step rfl (fun K hK => ?_)
        refine step_run rfl (exec_buildSlice (vy := .slice (some ⟨W2.heap.size, 0, none⟩) 512 512) rfl (.slice none 0 0) 1 Try.underlying39 info22' rfl rfl (by decide)) ?_
        go_simp
        have HB4 := Lib.hid (HB3.out.alloc HB3.out.size (.cells #[.slice (some ⟨W2.heap.size, 0, none⟩) 512 512] 33))
        refine hK _ _ ⟨KP.out _ HB4.out, ?_⟩
        clear hK K
        refine wpAnyH_all (rs := [10]) (by kernel_rfl) (by simp) ?_
        intro j hj
        obtain rfl : j = 10 := by simpa using hj
        refine wpOp_step rfl (fun K hK => ?_)
        refine step_run rfl (exec_lookup (M := M) (n := n) (D := D) (i := i) rfl (by rfl) (by rfl) (HD2.out.map_keep (HB4.out.block M (HD2.out.lt M (.inl HD2.out.fM)))) HI.out) ?_
        go_simp
        refine hK _ _ ⟨KP.out _ HB4.out, ?_⟩
        clear hK K
        have hg4 := heap_alloc_new w3 (.cells #[.slice (some ⟨W2.heap.size, 0, none⟩) 512 512] 33)
        have hz3 : W2.heap.size < w3.heap.size := IsC.lt ⟨_, _, _, HG.out⟩
        have hz4 : (w3.alloc (.cells #[.slice (some ⟨W2.heap.size, 0, none⟩) 512 512] 33)).heap.size = w3.heap.size + 1 := by simp
        have hacc4 : Rep.byte.list.acc 33 0 (fun k => B k ∨ k = W2.heap.size) (w3.alloc (.cells #[.slice (some ⟨W2.heap.size, 0, none⟩) 512 512] 33)) (valAt D i) (s1.wait i) :=
          Rep.acc_keep (fun k hk hl => HB4.out.block k hl.lt) (fun _ hk _ => .inl hk) (HD2.out.wt i)
        have hu4 : Rep.byte.list.rd (fun k => (B k ∨ k = W2.heap.size) ∧ (valAt D i).ownBlock ≠ some k) (w3.alloc (.cells #[.slice (some ⟨W2.heap.size, 0, none⟩) 512 512] 33)) [.slice (some ⟨W2.heap.size, 0, none⟩) 512 512] (cutTo b 512) := by
          have hS : SecAt w3 W2.heap.size 5 (cutTo b 512) := ⟨HG.out, cutTo_length _ _⟩
          have hv := hS.sl (a := 0) (n := 512) (c := 512) (by omega) (by omega) (by simp [maxLen])
          rw [List.drop_zero, List.take_of_length_le (by rw [cutTo_length]; omega)] at hv
          have hv2 := Rep.val_keep (w' := w3.alloc (.cells #[.slice (some ⟨W2.heap.size, 0, none⟩) 512 512] 33)) (Q' := fun k => (B k ∨ k = W2.heap.size) ∧ (valAt D i).ownBlock ≠ some k) (fun k hk hl => ⟨⟨.inr hk, fun e => by have := HD2.out.lt k (.inl (HD2.out.fW i k e)); have hk' : k = W2.heap.size := hk; omega⟩, Below.heap_alloc _ _ _ hl.lt⟩) hv
          obtain ⟨A', c', he, h1, h2, es, h3, h4⟩ := Rep.val_list hv2
          have hlen : (cutTo b 512).length = 512 := cutTo_length _ _
          rw [hlen] at he
          cases he
          exact ⟨_, _, es, by rw [hlen], h1, h2, h3, h4⟩
        obtain ⟨v', w5, q1, q2, q3, q4⟩ := Rep.acc_more (P := Try.prog) (ty := 39) (ys := [cutTo b 512]) (A := some ⟨w3.heap.size, 0, none⟩) (m := 1) (c := 1) Try.underlying39 info22 rfl (by decide) rfl hacc4 rfl (Rep.row_one_elem hu4)
          (fun _ => ⟨w3.heap.size, 0, rfl, fun j u hj => by rw [cell_of_row _ _ _ _ _ _ hg4, Nat.zero_add, ← hj]; simp⟩) (by have := HD2.out.len i; have hl : (s1.wait i).length ≤ n := this; simp; unfold maxLen; omega) (by have := HD2.out.len i; have hl : (s1.wait i).length ≤ n := this; simp; omega) (Nat.zero_le _)
        have hD5 : w5.ownsMap Try.prog 3 heldElem M n D := by
          have hMl := HD2.out.lt M (.inl HD2.out.fM)
          exact HD2.out.map_keep ((q3.block M (by omega) (fun e => HD2.out.wM e.symm rfl)).trans (HB4.out.block M hMl))
        obtain ⟨w6, u1, u2, u3⟩ := hD5.update int_law Try.underlying103 (by unfold maxLen; omega) (key_i64 HI.out) (val := v') (d := .held v') (ps := []) rfl
        have hfin := HD2.out.write (x := cutTo b 512) HR.out HB4.out (by rw [hz4]; omega) q2 q3 q4 u2 u3
        have hP6 := cell_row hfin.blk 1
        refine wpAnyH_all (rs := [14]) (by kernel_rfl) (by simp) ?_
        intro j hj
        obtain rfl : j = 14 := by simpa using hj
        refine wpOp_step rfl (fun K hK => ?_)
        refine step_run rfl (exec_append (by rfl) (by rfl) (by rfl) q1) ?_
        go_simp
        refine hK _ _ ⟨?_, ?_⟩
        · have hPl := HD2.out.lt P (.inl HD2.out.fP)
          rw [World.cell?_of_block (w := w3.alloc (.cells #[.slice (some ⟨W2.heap.size, 0, none⟩) 512 512] 33)) (w' := w5) (a := ⟨P, 1, none⟩) (q3.block P (by omega) (fun e => HD2.out.wP e.symm rfl))]
          exact KP.out _ HB4.out
        clear hK K
        refine wpAnyH_all (rs := [15]) (by kernel_rfl) (by simp) ?_
        intro j hj
        obtain rfl : j = 15 := by simpa using hj
        refine wpOp_step rfl (fun K hK => ?_)
        refine step_run_skip rfl (exec_mapUpdate (M := M) (key := .int .i64 i) (val := v') rfl (by rfl) (by rfl) (by rfl) u1) ?_
        go_simp
        refine hK _ _ ⟨hP6, ?_⟩
        clear hK K
        refine wpAnyH_done (by kernel_rfl) ?_ _
        clear hP6 u1 q1 hg4
        have HFIN := Lib.hid hfin
        have HOF := Lib.hid (show Only F W w6 from by
          have s2 := HO2.out.size
          have s4 := HB4.out.size
          have s5 := q3.size
          refine ⟨(u3.os.trans q3.os).trans (HB4.out.os.trans HO2.out.os), (u3.tape.trans q3.tape).trans (HB4.out.tape.trans HO2.out.tape), (u3.output.trans q3.output).trans (HB4.out.output.trans HO2.out.output), Nat.le_trans s2 (Nat.le_trans s4 (Nat.le_trans s5 u3.size)), fun k hk hf => ?_⟩
          have hMF : ¬ k = M := fun e => hf (e ▸ HD2.out.fM)
          rw [u3.block k (by omega) (fun e => hMF (Option.some.inj e)), q3.block k (by omega) (fun e => hf (HD2.out.fW i k e.symm)), HB4.out.block k (by omega)]
          exact HO2.out.block k hk hf)
        have HFB := Lib.hid (show (∀ k, (F k ∨ v'.ownBlock = some k) → F k ∨ W.heap.size ≤ k) ∧ (∀ k, (B k ∨ k = W2.heap.size) → B k ∨ W.heap.size ≤ k) from by
          have s2 := HO2.out.size
          have s4 := HB4.out.size
          refine ⟨fun k hk => hk.elim .inl fun hk => ?_, fun k hk => hk.elim .inl fun hk => .inr (by omega)⟩
          rcases q4 with q4 | q4
          · exact .inl (HD2.out.fW i k (q4 ▸ hk))
          · have := Option.some.inj (q4.symm.trans hk)
            exact .inr (by omega))
        clear hfin u2 u3 q2 q3 q4 hacc4 hu4 hD5
        go_wp2_with fail
        go_ret
        exact ⟨by rw [HF.out]; rfl, HOF.out, _, _, by rw [HF.out]; exact ⟨_, _, _, _, HFIN.out⟩, HFB.out.1, HFB.out.2, fun _ hb => .inl hb⟩
end Go.Proofs.Yteljibjbndpncaa
