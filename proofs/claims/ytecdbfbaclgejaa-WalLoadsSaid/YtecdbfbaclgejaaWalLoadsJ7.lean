/- Texts on which the proof of WalLoads stands, part 7: DiskWrite, DiskNew, DiskOf, WalWrite, WalEach, WalAppend, WalLiveMath, WalLive, WalLoadsMath. No condition is laid on any input. -/
import Derived.Test.YtecdbfbaclgejaaWalLoadsJ6
/- Walk of a write to the device. -/
namespace Go.Proofs.Ytecdbfbaclgejaa
open Go.RowKit
open Extern.Stop (cell)

namespace DiskW
variable {W W' : World} {P : Nat} {Sf : Option Addr} {cs M : Nat} {D : DataW Value} {F B : Nat → Prop} {n : Nat} {st : DiskSt}
theorem sM (h : DiskW W P Sf cs M D F B n st) {b : Nat} (hb : (Value.slice Sf st.safe.length cs).ownBlock = some b) : b ≠ M := by
  rintro rfl
  obtain ⟨cur, hc⟩ := acc_block h.safe hb
  obtain ⟨es, clock, hm, _⟩ := h.map
  rw [hm] at hc; cases hc
theorem wM (h : DiskW W P Sf cs M D F B n st) {i : Int} {b : Nat} (hb : (valAt D i).ownBlock = some b) : b ≠ M := by
  rintro rfl
  obtain ⟨cur, hc⟩ := acc_block (h.wt i) hb
  obtain ⟨es, clock, hm, _⟩ := h.map
  rw [hm] at hc; cases hc
end DiskW

def pushSt (st : DiskSt) (i : Int) (x : List UInt8) : DiskSt := { st with wait := fun j => if j = i then st.wait i ++ [x] else st.wait j }
theorem DiskW.write {W2 w4 w5 w6 : World} {P : Nat} {Sf : Option Addr} {cs M : Nat} {D : DataW Value} {F B : Nat → Prop} {n : Nat} {st : DiskSt} (h : DiskW W2 P Sf cs M D F B n st) {i : Int} {x : List UInt8} {v' : Value}
    (hi : 0 ≤ i ∧ i < st.safe.length) (hb4 : Below W2.heap.size W2 w4) (hz4 : W2.heap.size < w4.heap.size) (ha : Rep.byte.list.acc 22 0 (fun b => B b ∨ b = W2.heap.size) w5 v' (st.wait i ++ [x]))
    (g5 : w4.grownBy w5 (valAt D i).ownBlock) (ho : v'.ownBlock = (valAt D i).ownBlock ∨ v'.ownBlock = some w4.heap.size) (hm : w6.ownsMap Try.prog 3 heldElem M (n + 1) (D.put (.int .i64 i) (.held v'))) (g6 : w5.grownBy w6 (some M)) :
    DiskW w6 P Sf cs M (D.put (.int .i64 i) (.held v')) (fun b => F b ∨ v'.ownBlock = some b) (fun b => B b ∨ b = W2.heap.size) (n + 1) (pushSt st i x) := by
  have hD := h.map.isMap
  have hMlt := h.lt M (.inl h.fM)
  have e : ∀ b, b < W2.heap.size → b ≠ M → (valAt D i).ownBlock ≠ some b → w6.heap[b]? = W2.heap[b]? := fun b hb h1 h2 => by
    have s4 := hb4.size
    have s5 := g5.size
    rw [g6.block b (by omega) (fun e => h1 (Option.some.inj e)), g5.block b (by omega) (fun e => h2 e.symm), hb4.block b hb]
  have hBM : ∀ b, B b → b ≠ M := fun b hb e => h.apart M h.fM (e ▸ hb)
  have hBW : ∀ b, B b → (valAt D i).ownBlock ≠ some b := fun b hb e => h.apart b (h.fW i b e) hb
  have hown5 : ∀ b, v'.ownBlock = some b → b < w5.heap.size := fun b hb => (Rep.acc_own ha b hb).2
  have hownM : ∀ b, v'.ownBlock = some b → b ≠ M := fun b hb => by
    rcases ho with ho | ho
    · exact h.wM (ho ▸ hb)
    · have := Option.some.inj (ho.symm.trans hb)
      have := hb4.size
      omega
  have hs6 : W2.heap.size ≤ w6.heap.size := Nat.le_trans hb4.size (Nat.le_trans g5.size g6.size)
  refine ⟨?_, ?_, hm, fun j => ?_, fun j => ?_, fun j hj => ?_, h.wf, .inl h.fP, .inl h.fM, fun b hb => .inl (h.fS b hb), fun j b hb => ?_, fun j b hb => ?_, fun j k b hne hb => ?_, fun b hb => ?_, fun b hb => ?_⟩
  · rw [e P (h.lt P (.inl h.fP)) h.mP.symm (fun hb => h.wP hb rfl)]; exact h.blk
  · exact Rep.acc_keep (fun b hb _ => e b (h.lt b (hb.elim .inr fun e => .inl (h.fS b e))) (hb.elim (hBM b) h.sM) (fun hw => hb.elim (fun hB => hBW b hB hw) (fun hs => h.dSW i b hw hs))) (fun _ hb _ => .inl hb) h.safe
  · by_cases hj : j = i
    · subst hj
      rw [valAt_put_same hD]
      show Rep.byte.list.acc _ _ _ _ _ (if j = j then st.wait j ++ [x] else st.wait j)
      rw [if_pos rfl]
      refine Rep.acc_keep (fun b hb hl => g6.block b hl.lt (fun e => ?_)) (fun _ hb _ => hb) ha
      have e := Option.some.inj e
      rcases hb with (hb | hb) | hb
      · exact hBM b hb e
      · omega
      · exact hownM b hb e
    · rw [valAt_put_other hj]
      show Rep.byte.list.acc _ _ _ _ _ (if j = i then st.wait i ++ [x] else st.wait j)
      rw [if_neg hj]
      exact Rep.acc_keep (fun b hb _ => e b (h.lt b (hb.elim .inr fun e => .inl (h.fW j b e))) (hb.elim (hBM b) h.wM) (fun hw => hb.elim (fun hB => hBW b hB hw) (fun hs => h.dWW i j b (fun e => hj e.symm) hw hs))) (fun _ hb _ => .inl hb) (h.wt j)
  · show (if j = i then st.wait i ++ [x] else st.wait j).length ≤ n + 1
    split
    · rw [List.length_append]; have := h.len i; simp; omega
    · have := h.len j; omega
  · change (if j = i then st.wait i ++ [x] else st.wait j) ≠ [] at hj
    split at hj
    · rename_i e; rw [e]; exact hi
    · exact h.keys j hj
  · by_cases hj : j = i
    · subst hj; rw [valAt_put_same hD] at hb; exact .inr hb
    · rw [valAt_put_other hj] at hb; exact .inl (h.fW j b hb)
  · show (Value.slice Sf st.safe.length cs).ownBlock ≠ some b
    by_cases hj : j = i
    · subst hj
      rw [valAt_put_same hD] at hb
      rcases ho with ho | ho
      · exact h.dSW j b (ho ▸ hb)
      · intro hs
        have h1 := h.lt b (.inl (h.fS b hs))
        have h2 := Option.some.inj (ho.symm.trans hb)
        omega
    · rw [valAt_put_other hj] at hb; exact h.dSW j b hb
  · by_cases hj : j = i
    · subst hj
      have hk : k ≠ j := fun e => hne e.symm
      rw [valAt_put_same hD] at hb
      rw [valAt_put_other hk]
      rcases ho with ho | ho
      · exact h.dWW j k b hne (ho ▸ hb)
      · intro hs
        have h1 := h.lt b (.inl (h.fW k b hs))
        have h2 := Option.some.inj (ho.symm.trans hb)
        omega
    · rw [valAt_put_other hj] at hb
      by_cases hk : k = i
      · subst hk
        rw [valAt_put_same hD]
        intro hs
        rcases ho with ho | ho
        · exact h.dWW j k b hj hb (ho ▸ hs)
        · have h1 := h.lt b (.inl (h.fW j b hb))
          have h2 := Option.some.inj (ho.symm.trans hs)
          omega
      · rw [valAt_put_other hk]; exact h.dWW j k b hne hb
  · rcases hb with hb | hb
    · rintro (h1 | h1)
      · exact h.apart b hb h1
      · have := h.lt b (.inl hb); omega
    · rintro (h1 | h1)
      · rcases ho with ho | ho
        · exact h.apart b (h.fW i b (ho ▸ hb)) h1
        · have := h.lt b (.inr h1)
          have := Option.some.inj (ho.symm.trans hb)
          omega
      · rcases ho with ho | ho
        · have := h.lt b (.inl (h.fW i b (ho ▸ hb))); omega
        · have := Option.some.inj (ho.symm.trans hb)
          omega
  · rcases hb with (hb | hb) | (hb | hb)
    · have := h.lt b (.inl hb); omega
    · have := hown5 b hb; have := g6.size; omega
    · have := h.lt b (.inr hb); omega
    · have := g5.size; have := g6.size; omega

def writeSt (st : DiskSt) (i : Int) (b : List UInt8) : DiskSt × Int :=
  if (atSt st i).2 = 0 then (pushSt { (atSt st i).1 with writes := wrap64 ((atSt st i).1.writes + 1) } i (cutTo b 512), 0) else ((atSt st i).1, (atSt st i).2)
def WritePost (F B : Nat → Prop) (P n : Nat) (W : World) (r : DiskSt × Int) (e : Ending) (W' : World) : Prop :=
  e = .returned (.int .i64 r.2) ∧ Only F W W' ∧ ∃ F' B' : Nat → Prop, DiskAt W' P F' B' (n + 1) r.1 ∧ (∀ b, F' b → F b ∨ W.heap.size ≤ b) ∧ (∀ b, B' b → B b ∨ W.heap.size ≤ b) ∧ (∀ b, F b → F' b)
theorem DiskW.more {W : World} {P : Nat} {Sf : Option Addr} {cs M : Nat} {D : DataW Value} {F B : Nat → Prop} {n n' : Nat} {st : DiskSt} (h : DiskW W P Sf cs M D F B n st) (hn : n ≤ n') : DiskW W P Sf cs M D F B n' st :=
  ⟨h.blk, h.safe, h.map.mono hn, h.wt, fun i => Nat.le_trans (h.len i) hn, h.keys, h.wf, h.fP, h.fM, h.fS, h.fW, h.dSW, h.dWW, h.apart, h.lt⟩
theorem exec_lookup {o : Oper} {a : Act} {w : World} {m x : Operand} {M n : Nat} {D : DataW Value} {i : Int} (ho : o.op = Op.lookup 182 m x false) (hm : a.eval m = .map (some M)) (hx : a.eval x = .int .i64 i)
    (h : w.ownsMap Try.prog 3 heldElem M n D) (hi : (Lit.int .i64 i).wf = true) : (execOp a.eval o).run Try.prog w = .ok (.value (valAt D i)) w := by
  have hrun := lookup_held h hi
  simp [execOp, ho, hm, hx, hrun, Result.andThen]
theorem exec_mapUpdate {o : Oper} {a : Act} {w w' : World} {m x y : Operand} {t : TypeId} {M : Nat} {key val : Value} (ho : o.op = Op.mapUpdate t m x y) (hm : a.eval m = .map (some M)) (hx : a.eval x = key) (hy : a.eval y = val)
    (hrun : (Instr.mapUpdate t (.map (some M)) key val).run Try.prog w = .ok () w') : (execOp a.eval o).run Try.prog w = .ok .skip w' := by
  simp [execOp, ho, hm, hx, hy, hrun, Result.andThen]

set_option maxRecDepth 100000 in
set_option maxHeartbeats 4000000 in
/-- (*disk.Disk).Write -/
theorem dwrite_calls {Q : Nat → Prop} {W : World} {P : Nat} {F B : Nat → Prop} {n : Nat} {st : DiskSt} {i : Int} {v : Value} {b : List UInt8} (h : DiskAt W P F B n st) (hi : (Lit.int .i64 i).wf = true) (hn : n ≤ 1000000000) (hx : Rep.byte.list.val Q W v b)
    (hQ : ∀ k, Q k → ¬ F k) :
    Calls Try.prog 152 #[.pointer (some ⟨P, 0, none⟩), .int .i64 i, v] W (WritePost F B P n W (writeSt st i b)) := by
  have HA := Lib.hid h
  have HI := Lib.hid hi
  by_cases hc : (atSt st i).2 = 0
  case neg =>
    have HF := Lib.hid (show writeSt st i b = ((atSt st i).1, (atSt st i).2) by unfold writeSt; rw [if_neg hc])
    have g0 : ((atSt st i).2 == 0) = false := by simpa using hc
    clear h hc
    go_enter Try.func152, Try.ntmps152
    go_wp2_with fail
    refine (dat_calls HA.out).mono ?_
    rintro e w1 ⟨rfl, hd1, ho⟩
    have HD1 := Lib.hid hd1
    have HO := Lib.hid ho
    clear hd1 ho
    go_wp2_with fail
    go_ret
    exact ⟨by rw [HF.out]; rfl, HO.out, F, B, by rw [HF.out]; obtain ⟨_, _, _, _, hh⟩ := HD1.out; exact ⟨_, _, _, _, hh.more (Nat.le_succ n)⟩, fun _ hb => .inl hb, fun _ hb => .inl hb, fun _ hb => hb⟩
  case pos =>
    have HF := Lib.hid (show writeSt st i b = (pushSt { (atSt st i).1 with writes := wrap64 ((atSt st i).1.writes + 1) } i (cutTo b 512), 0) by unfold writeSt; rw [if_pos hc])
    have HC := Lib.hid hc
    have hr := atSt_range hc
    have hs := atSt_same st i
    have HR := Lib.hid (show 0 ≤ i ∧ i < (atSt st i).1.safe.length by rw [hs.1]; exact hr)
    have HXB := Lib.hid (show ∀ W', Only F W W' → Rep.byte.list.val Q W' v b from fun W' ho => Rep.val_keep (fun k hk hl => ⟨hk, ho.block k hl.lt (hQ k hk)⟩) hx)
    clear h hc hr hs hx
    go_enter Try.func152, Try.ntmps152
    go_wp2_with fail
    refine (dat_calls HA.out).mono ?_
    rintro e w1 ⟨rfl, hd1, ho⟩
    rw [HC.out]
    generalize (atSt st i).1 = s1 at *
    obtain ⟨Sf, cs, M, D, hd1⟩ := hd1
    have HO1 := Lib.hid ho
    have e5 := cell_row hd1.blk 5
    have z5 := frozen_row hd1.blk 5
    obtain ⟨W2, hW2⟩ : ∃ W2, w1.setCell ⟨P, 5, none⟩ (.int .i64 (wrap64 (s1.writes + 1))) = W2 := ⟨_, rfl⟩
    have hd2 : DiskW W2 P Sf cs M D F B n { s1 with writes := wrap64 (s1.writes + 1) } := by
      rw [← hW2]; exact hd1.scal rfl rfl hd1.wf (heap_setRow hd1.blk) (by simp) fun b hb _ => Below.heap_setCell _ _ _ _ hb
    have HO2 := Lib.hid (show Only F W W2 from HO1.out.trans (by rw [← hW2]; exact Only.set hd1.fP))
    have HD2 := Lib.hid hd2
    have HW2 := Lib.hid hW2
    clear hd1 ho hd2 hW2
    go_wp2_with fail
    rw [HW2.out]
    clear HW2 e5 z5
    have KP := Lib.hid (show ∀ W', Below W2.heap.size W2 W' → W'.cell? ⟨P, 1, none⟩ = some (.map (some M)) from fun W' hb => (hb.cell (p := ⟨P, 1, none⟩) (HD2.out.lt P (.inl HD2.out.fP))).trans (cell_row HD2.out.blk 1))
    have s1' := KP.out W2.drew (Below.refl _ _).drew
    refine wp_region_held (S := fun W' => W'.cell? ⟨P, 1, none⟩ = some (.map (some M))) (by kernel_rfl) ?_
    refine wpAnyH_take (i := 0) (v := .pointer (some ⟨P, 0, none⟩)) rfl (by kernel_rfl) (by kernel_rfl) (by kernel_rfl) (fun _ _ _ h => h) (Or.inl ⟨by rfl, fun w' _ => by go_simp⟩) s1' ?_
    go_simp
    refine wpAnyH_take (i := 1) (v := .pointer (some ⟨P, 0, none⟩)) rfl (by kernel_rfl) (by kernel_rfl) (by kernel_rfl) (fun _ _ _ h => h) (Or.inl ⟨by rfl, fun w' _ => by go_simp⟩) s1' ?_
    go_simp
    refine wpAnyH_take (i := 2) (v := .pointer (some ⟨P, 1, none⟩)) rfl (by kernel_rfl) (by kernel_rfl) (by kernel_rfl) (fun _ _ _ h => h) (Or.inl ⟨by rfl, fun w' _ => by go_simp⟩) s1' ?_
    go_simp
    refine wpAnyH_take (i := 3) (v := .map (some M)) rfl (by kernel_rfl) (by kernel_rfl) (by kernel_rfl) (fun _ _ _ h => h) (Or.inl ⟨by rfl, fun w' h => by have hc : w'.cell? ⟨P, 1, none⟩ = some (.map (some M)) := h; go_simp⟩) s1' ?_
    go_simp
    refine wpAnyH_take (i := 4) (v := .int .i64 i) rfl (by kernel_rfl) (by kernel_rfl) (by kernel_rfl) (fun _ _ _ h => h) (Or.inl ⟨by rfl, fun w' _ => by go_simp⟩) s1' ?_
    go_simp
    refine wpAnyH_take (i := 5) (v := .pointer (some ⟨P, 0, none⟩)) rfl (by kernel_rfl) (by kernel_rfl) (by kernel_rfl) (fun _ _ _ h => h) (Or.inl ⟨by rfl, fun w' _ => by go_simp⟩) s1' ?_
    go_simp
    refine wpAnyH_take (i := 6) (v := .pointer (some ⟨P, 0, none⟩)) rfl (by kernel_rfl) (by kernel_rfl) (by kernel_rfl) (fun _ _ _ h => h) (Or.inl ⟨by rfl, fun w' _ => by go_simp⟩) s1' ?_
    go_simp
    refine wpAnyH_take (i := 7) (v := .pointer (some ⟨P, 1, none⟩)) rfl (by kernel_rfl) (by kernel_rfl) (by kernel_rfl) (fun _ _ _ h => h) (Or.inl ⟨by rfl, fun w' _ => by go_simp⟩) s1' ?_
    go_simp
    refine wpAnyH_take (i := 8) (v := .map (some M)) rfl (by kernel_rfl) (by kernel_rfl) (by kernel_rfl) (fun _ _ _ h => h) (Or.inl ⟨by rfl, fun w' h => by have hc : w'.cell? ⟨P, 1, none⟩ = some (.map (some M)) := h; go_simp⟩) s1' ?_
    go_simp
    refine wpAnyH_take (i := 9) (v := .int .i64 i) rfl (by kernel_rfl) (by kernel_rfl) (by kernel_rfl) (fun _ _ _ h => h) (Or.inl ⟨by rfl, fun w' _ => by go_simp⟩) s1' ?_
    go_simp
    refine wpAnyH_take (i := 11) (v := v) rfl (by kernel_rfl) (by kernel_rfl) (by kernel_rfl) (fun _ _ _ h => h) (Or.inl ⟨by rfl, fun w' _ => by go_simp⟩) s1' ?_
    go_simp
    refine wpAnyH_all (rs := [10, 12]) (by kernel_rfl) (by simp) ?_
    intro j hj
    rcases (by simpa using hj : j = 10 ∨ j = 12) with rfl | rfl
    · refine wpOp_step rfl (fun K hK => ?_)
      refine step_run rfl (exec_lookup (M := M) (n := n) (D := D) (i := i) rfl (by rfl) (by rfl) (HD2.out.map) HI.out) ?_
      go_simp
      refine hK _ _ ⟨KP.out _ (Below.refl _ _).drew, ?_⟩
      clear hK K
      refine wpAnyH_all (rs := [12]) (by kernel_rfl) (by simp) ?_
      intro j hj
      obtain rfl : j = 12 := by simpa using hj
      refine wpOp_step rfl (fun K hK => ?_)
      go_simp
      refine (lecut_calls (n := 512) (HXB.out _ (HO2.out.trans (Only.of_below (Below.refl _ _).drew))) (by decide)).mono ?_
      rintro e w3 ⟨rfl, hg, hb3⟩
      have HG := Lib.hid (show w3.heap[W2.heap.size]? = some (.cells ((cutTo b 512).map cell).toArray 5 (0, 0)) from hg)
      have HB3 := Lib.hid (show Below W2.heap.size W2 w3 from (Below.refl _ _).drew.trans hb3)
      clear hg hb3
      refine hK _ _ ⟨KP.out _ HB3.out, ?_⟩
      clear hK K
      refine wpAnyH_all (rs := [13]) (by kernel_rfl) (by simp) ?_
      intro j hj
      obtain rfl : j = 13 := by simpa using hj
      refine wpOp_step rfl (fun K hK => ?_)
      refine step_run rfl (exec_buildSlice (vy := .slice (some ⟨W2.heap.size, 0, none⟩) 512 512) rfl (.slice none 0 0) 1 Try.underlying24 info22' rfl rfl (by decide)) ?_
      go_simp
      have HB4 := Lib.hid (HB3.out.alloc HB3.out.size (.cells #[.slice (some ⟨W2.heap.size, 0, none⟩) 512 512] 22))
      refine hK _ _ ⟨KP.out _ HB4.out, ?_⟩
      clear hK K
      have hg4 := heap_alloc_new w3 (.cells #[.slice (some ⟨W2.heap.size, 0, none⟩) 512 512] 22)
      have hz3 : W2.heap.size < w3.heap.size := IsC.lt ⟨_, _, _, HG.out⟩
      have hz4 : (w3.alloc (.cells #[.slice (some ⟨W2.heap.size, 0, none⟩) 512 512] 22)).heap.size = w3.heap.size + 1 := by simp
      have hacc4 : Rep.byte.list.acc 22 0 (fun k => B k ∨ k = W2.heap.size) (w3.alloc (.cells #[.slice (some ⟨W2.heap.size, 0, none⟩) 512 512] 22)) (valAt D i) (s1.wait i) :=
        Rep.acc_keep (fun k hk hl => HB4.out.block k hl.lt) (fun _ hk _ => .inl hk) (HD2.out.wt i)
      have hu4 : Rep.byte.list.rd (fun k => (B k ∨ k = W2.heap.size) ∧ (valAt D i).ownBlock ≠ some k) (w3.alloc (.cells #[.slice (some ⟨W2.heap.size, 0, none⟩) 512 512] 22)) [.slice (some ⟨W2.heap.size, 0, none⟩) 512 512] (cutTo b 512) := by
        have hS : SecAt w3 W2.heap.size 5 (cutTo b 512) := ⟨HG.out, cutTo_length _ _⟩
        have hv := hS.sl (a := 0) (n := 512) (c := 512) (by omega) (by omega) (by simp [maxLen])
        rw [List.drop_zero, List.take_of_length_le (by rw [cutTo_length]; omega)] at hv
        have hv2 := Rep.val_keep (w' := w3.alloc (.cells #[.slice (some ⟨W2.heap.size, 0, none⟩) 512 512] 22)) (Q' := fun k => (B k ∨ k = W2.heap.size) ∧ (valAt D i).ownBlock ≠ some k) (fun k hk hl => ⟨⟨.inr hk, fun e => by have := HD2.out.lt k (.inl (HD2.out.fW i k e)); have hk' : k = W2.heap.size := hk; omega⟩, Below.heap_alloc _ _ _ hl.lt⟩) hv
        obtain ⟨A', c', he, h1, h2, es, h3, h4⟩ := Rep.val_list hv2
        have hlen : (cutTo b 512).length = 512 := cutTo_length _ _
        rw [hlen] at he
        cases he
        exact ⟨_, _, es, by rw [hlen], h1, h2, h3, h4⟩
      obtain ⟨v', w5, q1, q2, q3, q4⟩ := Rep.acc_more (P := Try.prog) (ty := 24) (ys := [cutTo b 512]) (A := some ⟨w3.heap.size, 0, none⟩) (m := 1) (c := 1) Try.underlying24 info22 rfl (by decide) rfl hacc4 rfl (Rep.row_one_elem hu4)
        (fun _ => ⟨w3.heap.size, 0, rfl, fun j u hj => by rw [cell_of_row _ _ _ _ _ _ hg4, Nat.zero_add, ← hj]; simp⟩) (by have := HD2.out.len i; have hl : (s1.wait i).length ≤ n := this; simp; unfold maxLen; omega) (by have := HD2.out.len i; have hl : (s1.wait i).length ≤ n := this; simp; omega) (Nat.zero_le _)
      have hD5 : w5.ownsMap Try.prog 3 heldElem M n D := by
        have hMl := HD2.out.lt M (.inl HD2.out.fM)
        exact HD2.out.map_keep ((q3.block M (by omega) (fun e => HD2.out.wM e.symm rfl)).trans (HB4.out.block M hMl))
      obtain ⟨w6, u1, u2, u3⟩ := hD5.update int_law Try.underlying182 (by unfold maxLen; omega) (key_i64 HI.out) (val := v') (d := .held v') (ps := []) rfl
      have hfin := HD2.out.write (x := cutTo b 512) HR.out HB4.out (by rw [hz4]; omega) q2 q3 q4 u2 u3
      have hP6 := cell_row hfin.blk 1
      refine wpAnyH_all (rs := [14]) (by kernel_rfl) (by simp) ?_
      intro j hj
      obtain rfl : j = 14 := by simpa using hj
      refine wpOp_step rfl (fun K hK => ?_)
      refine step_run rfl (exec_append (by rfl) (by rfl) (by rfl) q1) ?_
      go_simp
      refine hK _ _ ⟨?_, ?_⟩
      · have hPl := HD2.out.lt P (.inl HD2.out.fP)
        rw [World.cell?_of_block (w := w3.alloc (.cells #[.slice (some ⟨W2.heap.size, 0, none⟩) 512 512] 22)) (w' := w5) (a := ⟨P, 1, none⟩) (q3.block P (by omega) (fun e => HD2.out.wP e.symm rfl))]
        exact KP.out _ HB4.out
      clear hK K
      refine wpAnyH_all (rs := [15]) (by kernel_rfl) (by simp) ?_
      intro j hj
      obtain rfl : j = 15 := by simpa using hj
      refine wpOp_step rfl (fun K hK => ?_)
      refine step_run_skip rfl (exec_mapUpdate (M := M) (key := .int .i64 i) (val := v') rfl (by rfl) (by rfl) (by rfl) u1) ?_
      go_simp
      refine hK _ _ ⟨hP6, ?_⟩
      clear hK K
      refine wpAnyH_done (by kernel_rfl) ?_ _
      clear hP6 u1 q1 hg4
      have HFIN := Lib.hid hfin
      have HOF := Lib.hid (show Only F W w6 from by
        have s2 := HO2.out.size
        have s4 := HB4.out.size
        have s5 := q3.size
        refine ⟨(u3.os.trans q3.os).trans (HB4.out.os.trans HO2.out.os), (u3.tape.trans q3.tape).trans (HB4.out.tape.trans HO2.out.tape), (u3.output.trans q3.output).trans (HB4.out.output.trans HO2.out.output), Nat.le_trans s2 (Nat.le_trans s4 (Nat.le_trans s5 u3.size)), fun k hk hf => ?_⟩
        have hMF : ¬ k = M := fun e => hf (e ▸ HD2.out.fM)
        rw [u3.block k (by omega) (fun e => hMF (Option.some.inj e)), q3.block k (by omega) (fun e => hf (HD2.out.fW i k e.symm)), HB4.out.block k (by omega)]
        exact HO2.out.block k hk hf)
      have HFB := Lib.hid (show (∀ k, (F k ∨ v'.ownBlock = some k) → F k ∨ W.heap.size ≤ k) ∧ (∀ k, (B k ∨ k = W2.heap.size) → B k ∨ W.heap.size ≤ k) from by
        have s2 := HO2.out.size
        have s4 := HB4.out.size
        refine ⟨fun k hk => hk.elim .inl fun hk => ?_, fun k hk => hk.elim .inl fun hk => .inr (by omega)⟩
        rcases q4 with q4 | q4
        · exact .inl (HD2.out.fW i k (q4 ▸ hk))
        · have := Option.some.inj (q4.symm.trans hk)
          exact .inr (by omega))
      clear hfin u2 u3 q2 q3 q4 hacc4 hu4 hD5
      go_wp2_with fail
      go_ret
      exact ⟨by rw [HF.out]; rfl, HOF.out, _, _, by rw [HF.out]; exact ⟨_, _, _, _, HFIN.out⟩, HFB.out.1, HFB.out.2, fun _ hb => .inl hb⟩
    · refine wpOp_step rfl (fun K hK => ?_)
      go_simp
      refine (lecut_calls (n := 512) (HXB.out _ (HO2.out.trans (Only.of_below (Below.refl _ _).drew))) (by decide)).mono ?_
      rintro e w3 ⟨rfl, hg, hb3⟩
      have HG := Lib.hid (show w3.heap[W2.heap.size]? = some (.cells ((cutTo b 512).map cell).toArray 5 (0, 0)) from hg)
      have HB3 := Lib.hid (show Below W2.heap.size W2 w3 from (Below.refl _ _).drew.trans hb3)
      clear hg hb3
      refine hK _ _ ⟨KP.out _ HB3.out, ?_⟩
      clear hK K
      refine wpAnyH_all (rs := [10, 13]) (by kernel_rfl) (by simp) ?_
      intro j hj
      rcases (by simpa using hj : j = 10 ∨ j = 13) with rfl | rfl
      · refine wpOp_step rfl (fun K hK => ?_)
        refine step_run rfl (exec_lookup (M := M) (n := n) (D := D) (i := i) rfl (by rfl) (by rfl) (HD2.out.map_keep (HB3.out.block M (HD2.out.lt M (.inl HD2.out.fM)))) HI.out) ?_
        go_simp
        refine hK _ _ ⟨KP.out _ HB3.out, ?_⟩
        clear hK K
        refine wpAnyH_all (rs := [13]) (by kernel_rfl) (by simp) ?_
        intro j hj
        obtain rfl : j = 13 := by simpa using hj
        refine wpOp_step rfl (fun K hK => ?_)
        refine step_run rfl (exec_buildSlice (vy := .slice (some ⟨W2.heap.size, 0, none⟩) 512 512) rfl (.slice none 0 0) 1 Try.underlying24 info22' rfl rfl (by decide)) ?_
        go_simp
        have HB4 := Lib.hid (HB3.out.alloc HB3.out.size (.cells #[.slice (some ⟨W2.heap.size, 0, none⟩) 512 512] 22))
        refine hK _ _ ⟨KP.out _ HB4.out, ?_⟩
        clear hK K
        have hg4 := heap_alloc_new w3 (.cells #[.slice (some ⟨W2.heap.size, 0, none⟩) 512 512] 22)
        have hz3 : W2.heap.size < w3.heap.size := IsC.lt ⟨_, _, _, HG.out⟩
        have hz4 : (w3.alloc (.cells #[.slice (some ⟨W2.heap.size, 0, none⟩) 512 512] 22)).heap.size = w3.heap.size + 1 := by simp
        have hacc4 : Rep.byte.list.acc 22 0 (fun k => B k ∨ k = W2.heap.size) (w3.alloc (.cells #[.slice (some ⟨W2.heap.size, 0, none⟩) 512 512] 22)) (valAt D i) (s1.wait i) :=
          Rep.acc_keep (fun k hk hl => HB4.out.block k hl.lt) (fun _ hk _ => .inl hk) (HD2.out.wt i)
        have hu4 : Rep.byte.list.rd (fun k => (B k ∨ k = W2.heap.size) ∧ (valAt D i).ownBlock ≠ some k) (w3.alloc (.cells #[.slice (some ⟨W2.heap.size, 0, none⟩) 512 512] 22)) [.slice (some ⟨W2.heap.size, 0, none⟩) 512 512] (cutTo b 512) := by
          have hS : SecAt w3 W2.heap.size 5 (cutTo b 512) := ⟨HG.out, cutTo_length _ _⟩
          have hv := hS.sl (a := 0) (n := 512) (c := 512) (by omega) (by omega) (by simp [maxLen])
          rw [List.drop_zero, List.take_of_length_le (by rw [cutTo_length]; omega)] at hv
          have hv2 := Rep.val_keep (w' := w3.alloc (.cells #[.slice (some ⟨W2.heap.size, 0, none⟩) 512 512] 22)) (Q' := fun k => (B k ∨ k = W2.heap.size) ∧ (valAt D i).ownBlock ≠ some k) (fun k hk hl => ⟨⟨.inr hk, fun e => by have := HD2.out.lt k (.inl (HD2.out.fW i k e)); have hk' : k = W2.heap.size := hk; omega⟩, Below.heap_alloc _ _ _ hl.lt⟩) hv
          obtain ⟨A', c', he, h1, h2, es, h3, h4⟩ := Rep.val_list hv2
          have hlen : (cutTo b 512).length = 512 := cutTo_length _ _
          rw [hlen] at he
          cases he
          exact ⟨_, _, es, by rw [hlen], h1, h2, h3, h4⟩
        obtain ⟨v', w5, q1, q2, q3, q4⟩ := Rep.acc_more (P := Try.prog) (ty := 24) (ys := [cutTo b 512]) (A := some ⟨w3.heap.size, 0, none⟩) (m := 1) (c := 1) Try.underlying24 info22 rfl (by decide) rfl hacc4 rfl (Rep.row_one_elem hu4)
          (fun _ => ⟨w3.heap.size, 0, rfl, fun j u hj => by rw [cell_of_row _ _ _ _ _ _ hg4, Nat.zero_add, ← hj]; simp⟩) (by have := HD2.out.len i; have hl : (s1.wait i).length ≤ n := this; simp; unfold maxLen; omega) (by have := HD2.out.len i; have hl : (s1.wait i).length ≤ n := this; simp; omega) (Nat.zero_le _)
        have hD5 : w5.ownsMap Try.prog 3 heldElem M n D := by
          have hMl := HD2.out.lt M (.inl HD2.out.fM)
          exact HD2.out.map_keep ((q3.block M (by omega) (fun e => HD2.out.wM e.symm rfl)).trans (HB4.out.block M hMl))
        obtain ⟨w6, u1, u2, u3⟩ := hD5.update int_law Try.underlying182 (by unfold maxLen; omega) (key_i64 HI.out) (val := v') (d := .held v') (ps := []) rfl
        have hfin := HD2.out.write (x := cutTo b 512) HR.out HB4.out (by rw [hz4]; omega) q2 q3 q4 u2 u3
        have hP6 := cell_row hfin.blk 1
        refine wpAnyH_all (rs := [14]) (by kernel_rfl) (by simp) ?_
        intro j hj
        obtain rfl : j = 14 := by simpa using hj
        refine wpOp_step rfl (fun K hK => ?_)
        refine step_run rfl (exec_append (by rfl) (by rfl) (by rfl) q1) ?_
        go_simp
        refine hK _ _ ⟨?_, ?_⟩
        · have hPl := HD2.out.lt P (.inl HD2.out.fP)
          rw [World.cell?_of_block (w := w3.alloc (.cells #[.slice (some ⟨W2.heap.size, 0, none⟩) 512 512] 22)) (w' := w5) (a := ⟨P, 1, none⟩) (q3.block P (by omega) (fun e => HD2.out.wP e.symm rfl))]
          exact KP.out _ HB4.out
        clear hK K
        refine wpAnyH_all (rs := [15]) (by kernel_rfl) (by simp) ?_
        intro j hj
        obtain rfl : j = 15 := by simpa using hj
        refine wpOp_step rfl (fun K hK => ?_)
        refine step_run_skip rfl (exec_mapUpdate (M := M) (key := .int .i64 i) (val := v') rfl (by rfl) (by rfl) (by rfl) u1) ?_
        go_simp
        refine hK _ _ ⟨hP6, ?_⟩
        clear hK K
        refine wpAnyH_done (by kernel_rfl) ?_ _
        clear hP6 u1 q1 hg4
        have HFIN := Lib.hid hfin
        have HOF := Lib.hid (show Only F W w6 from by
          have s2 := HO2.out.size
          have s4 := HB4.out.size
          have s5 := q3.size
          refine ⟨(u3.os.trans q3.os).trans (HB4.out.os.trans HO2.out.os), (u3.tape.trans q3.tape).trans (HB4.out.tape.trans HO2.out.tape), (u3.output.trans q3.output).trans (HB4.out.output.trans HO2.out.output), Nat.le_trans s2 (Nat.le_trans s4 (Nat.le_trans s5 u3.size)), fun k hk hf => ?_⟩
          have hMF : ¬ k = M := fun e => hf (e ▸ HD2.out.fM)
          rw [u3.block k (by omega) (fun e => hMF (Option.some.inj e)), q3.block k (by omega) (fun e => hf (HD2.out.fW i k e.symm)), HB4.out.block k (by omega)]
          exact HO2.out.block k hk hf)
        have HFB := Lib.hid (show (∀ k, (F k ∨ v'.ownBlock = some k) → F k ∨ W.heap.size ≤ k) ∧ (∀ k, (B k ∨ k = W2.heap.size) → B k ∨ W.heap.size ≤ k) from by
          have s2 := HO2.out.size
          have s4 := HB4.out.size
          refine ⟨fun k hk => hk.elim .inl fun hk => ?_, fun k hk => hk.elim .inl fun hk => .inr (by omega)⟩
          rcases q4 with q4 | q4
          · exact .inl (HD2.out.fW i k (q4 ▸ hk))
          · have := Option.some.inj (q4.symm.trans hk)
            exact .inr (by omega))
        clear hfin u2 u3 q2 q3 q4 hacc4 hu4 hD5
        go_wp2_with fail
        go_ret
        exact ⟨by rw [HF.out]; rfl, HOF.out, _, _, by rw [HF.out]; exact ⟨_, _, _, _, HFIN.out⟩, HFB.out.1, HFB.out.2, fun _ hb => .inl hb⟩
      · refine wpOp_step rfl (fun K hK => ?_)
        refine step_run rfl (exec_buildSlice (vy := .slice (some ⟨W2.heap.size, 0, none⟩) 512 512) rfl (.slice none 0 0) 1 Try.underlying24 info22' rfl rfl (by decide)) ?_
        go_simp
        have HB4 := Lib.hid (HB3.out.alloc HB3.out.size (.cells #[.slice (some ⟨W2.heap.size, 0, none⟩) 512 512] 22))
        refine hK _ _ ⟨KP.out _ HB4.out, ?_⟩
        clear hK K
        refine wpAnyH_all (rs := [10]) (by kernel_rfl) (by simp) ?_
        intro j hj
        obtain rfl : j = 10 := by simpa using hj
        refine wpOp_step rfl (fun K hK => ?_)
        refine step_run rfl (exec_lookup (M := M) (n := n) (D := D) (i := i) rfl (by rfl) (by rfl) (HD2.out.map_keep (HB4.out.block M (HD2.out.lt M (.inl HD2.out.fM)))) HI.out) ?_
        go_simp
        refine hK _ _ ⟨KP.out _ HB4.out, ?_⟩
        clear hK K
        have hg4 := heap_alloc_new w3 (.cells #[.slice (some ⟨W2.heap.size, 0, none⟩) 512 512] 22)
        have hz3 : W2.heap.size < w3.heap.size := IsC.lt ⟨_, _, _, HG.out⟩
        have hz4 : (w3.alloc (.cells #[.slice (some ⟨W2.heap.size, 0, none⟩) 512 512] 22)).heap.size = w3.heap.size + 1 := by simp
        have hacc4 : Rep.byte.list.acc 22 0 (fun k => B k ∨ k = W2.heap.size) (w3.alloc (.cells #[.slice (some ⟨W2.heap.size, 0, none⟩) 512 512] 22)) (valAt D i) (s1.wait i) :=
          Rep.acc_keep (fun k hk hl => HB4.out.block k hl.lt) (fun _ hk _ => .inl hk) (HD2.out.wt i)
        have hu4 : Rep.byte.list.rd (fun k => (B k ∨ k = W2.heap.size) ∧ (valAt D i).ownBlock ≠ some k) (w3.alloc (.cells #[.slice (some ⟨W2.heap.size, 0, none⟩) 512 512] 22)) [.slice (some ⟨W2.heap.size, 0, none⟩) 512 512] (cutTo b 512) := by
          have hS : SecAt w3 W2.heap.size 5 (cutTo b 512) := ⟨HG.out, cutTo_length _ _⟩
          have hv := hS.sl (a := 0) (n := 512) (c := 512) (by omega) (by omega) (by simp [maxLen])
          rw [List.drop_zero, List.take_of_length_le (by rw [cutTo_length]; omega)] at hv
          have hv2 := Rep.val_keep (w' := w3.alloc (.cells #[.slice (some ⟨W2.heap.size, 0, none⟩) 512 512] 22)) (Q' := fun k => (B k ∨ k = W2.heap.size) ∧ (valAt D i).ownBlock ≠ some k) (fun k hk hl => ⟨⟨.inr hk, fun e => by have := HD2.out.lt k (.inl (HD2.out.fW i k e)); have hk' : k = W2.heap.size := hk; omega⟩, Below.heap_alloc _ _ _ hl.lt⟩) hv
          obtain ⟨A', c', he, h1, h2, es, h3, h4⟩ := Rep.val_list hv2
          have hlen : (cutTo b 512).length = 512 := cutTo_length _ _
          rw [hlen] at he
          cases he
          exact ⟨_, _, es, by rw [hlen], h1, h2, h3, h4⟩
        obtain ⟨v', w5, q1, q2, q3, q4⟩ := Rep.acc_more (P := Try.prog) (ty := 24) (ys := [cutTo b 512]) (A := some ⟨w3.heap.size, 0, none⟩) (m := 1) (c := 1) Try.underlying24 info22 rfl (by decide) rfl hacc4 rfl (Rep.row_one_elem hu4)
          (fun _ => ⟨w3.heap.size, 0, rfl, fun j u hj => by rw [cell_of_row _ _ _ _ _ _ hg4, Nat.zero_add, ← hj]; simp⟩) (by have := HD2.out.len i; have hl : (s1.wait i).length ≤ n := this; simp; unfold maxLen; omega) (by have := HD2.out.len i; have hl : (s1.wait i).length ≤ n := this; simp; omega) (Nat.zero_le _)
        have hD5 : w5.ownsMap Try.prog 3 heldElem M n D := by
          have hMl := HD2.out.lt M (.inl HD2.out.fM)
          exact HD2.out.map_keep ((q3.block M (by omega) (fun e => HD2.out.wM e.symm rfl)).trans (HB4.out.block M hMl))
        obtain ⟨w6, u1, u2, u3⟩ := hD5.update int_law Try.underlying182 (by unfold maxLen; omega) (key_i64 HI.out) (val := v') (d := .held v') (ps := []) rfl
        have hfin := HD2.out.write (x := cutTo b 512) HR.out HB4.out (by rw [hz4]; omega) q2 q3 q4 u2 u3
        have hP6 := cell_row hfin.blk 1
        refine wpAnyH_all (rs := [14]) (by kernel_rfl) (by simp) ?_
        intro j hj
        obtain rfl : j = 14 := by simpa using hj
        refine wpOp_step rfl (fun K hK => ?_)
        refine step_run rfl (exec_append (by rfl) (by rfl) (by rfl) q1) ?_
        go_simp
        refine hK _ _ ⟨?_, ?_⟩
        · have hPl := HD2.out.lt P (.inl HD2.out.fP)
          rw [World.cell?_of_block (w := w3.alloc (.cells #[.slice (some ⟨W2.heap.size, 0, none⟩) 512 512] 22)) (w' := w5) (a := ⟨P, 1, none⟩) (q3.block P (by omega) (fun e => HD2.out.wP e.symm rfl))]
          exact KP.out _ HB4.out
        clear hK K
        refine wpAnyH_all (rs := [15]) (by kernel_rfl) (by simp) ?_
        intro j hj
        obtain rfl : j = 15 := by simpa using hj
        refine wpOp_step rfl (fun K hK => ?_)
        refine step_run_skip rfl (exec_mapUpdate (M := M) (key := .int .i64 i) (val := v') rfl (by rfl) (by rfl) (by rfl) u1) ?_
        go_simp
        refine hK _ _ ⟨hP6, ?_⟩
        clear hK K
        refine wpAnyH_done (by kernel_rfl) ?_ _
        clear hP6 u1 q1 hg4
        have HFIN := Lib.hid hfin
        have HOF := Lib.hid (show Only F W w6 from by
          have s2 := HO2.out.size
          have s4 := HB4.out.size
          have s5 := q3.size
          refine ⟨(u3.os.trans q3.os).trans (HB4.out.os.trans HO2.out.os), (u3.tape.trans q3.tape).trans (HB4.out.tape.trans HO2.out.tape), (u3.output.trans q3.output).trans (HB4.out.output.trans HO2.out.output), Nat.le_trans s2 (Nat.le_trans s4 (Nat.le_trans s5 u3.size)), fun k hk hf => ?_⟩
          have hMF : ¬ k = M := fun e => hf (e ▸ HD2.out.fM)
          rw [u3.block k (by omega) (fun e => hMF (Option.some.inj e)), q3.block k (by omega) (fun e => hf (HD2.out.fW i k e.symm)), HB4.out.block k (by omega)]
          exact HO2.out.block k hk hf)
        have HFB := Lib.hid (show (∀ k, (F k ∨ v'.ownBlock = some k) → F k ∨ W.heap.size ≤ k) ∧ (∀ k, (B k ∨ k = W2.heap.size) → B k ∨ W.heap.size ≤ k) from by
          have s2 := HO2.out.size
          have s4 := HB4.out.size
          refine ⟨fun k hk => hk.elim .inl fun hk => ?_, fun k hk => hk.elim .inl fun hk => .inr (by omega)⟩
          rcases q4 with q4 | q4
          · exact .inl (HD2.out.fW i k (q4 ▸ hk))
          · have := Option.some.inj (q4.symm.trans hk)
            exact .inr (by omega))
        clear hfin u2 u3 q2 q3 q4 hacc4 hu4 hD5
        go_wp2_with fail
        go_ret
        exact ⟨by rw [HF.out]; rfl, HOF.out, _, _, by rw [HF.out]; exact ⟨_, _, _, _, HFIN.out⟩, HFB.out.1, HFB.out.2, fun _ hb => .inl hb⟩
end Go.Proofs.Ytecdbfbaclgejaa
/- Walk of a new device. Printed by gen_disknew.py. -/
namespace Go.Proofs.Ytecdbfbaclgejaa
open Go.RowKit
open Extern.Stop (cell)

/-- A sector of 512 bytes in a block of its own. -/
def rSec : Rep (List UInt8 × Nat) where
  size := 1
  wrap cs := cs.headD undef
  rd Q w cs x := cs = [.slice (some ⟨x.2, 0, none⟩) 512 512] ∧ Q x.2 ∧ SecAt w x.2 5 x.1
  len h := by rw [h.1]; rfl
  one h := by rw [h.1]; simp [Value.oneCell']
  back h := by rw [h.1]; rfl
  keep hk h := ⟨h.1, (hk _ h.2.1 ⟨_, _, _, h.2.2.blk⟩).1, h.2.2.keep (hk _ h.2.1 ⟨_, _, _, h.2.2.blk⟩).2⟩
theorem rSec_val {Q : Nat → Prop} {w : World} {b : Nat} {L : List UInt8} (h : SecAt w b 5 L) (hq : Q b) : rSec.val Q w (.slice (some ⟨b, 0, none⟩) 512 512) (L, b) := ⟨_, rfl, rfl, hq, h⟩
/-- A new device as0 it grows: k sectors so far. -/
structure NewAt (w0 W : World) (P M k : Nat) (Sf : Option Addr) (cs : Nat) (xs : List (List UInt8 × Nat)) : Prop where
  len : xs.length = k
  blk : W.heap[P]? = some (.cells #[.slice Sf k cs, .map (some M), .int .i64 (-1), .bool false, .int .i64 0, .int .i64 0] 184 (0, 0))
  acc : rSec.acc 22 (P + 1) (fun b => P < b) W (.slice Sf k cs) xs
  map : W.heap[M]? = some (.map #[] 0)
  bel : Below w0.heap.size w0 W
  dis : (xs.map (·.2)).Nodup
  lt : ∀ x ∈ xs, P < x.2 ∧ x.2 < W.heap.size
  pos : w0.heap.size ≤ M ∧ M < P ∧ P < W.heap.size
def newN (n : Int) : Nat := (if n < 0 then 0 else if 4096 < n then 4096 else n).toNat
def NewPost (w : World) (n : Int) (e : Ending) (W : World) : Prop :=
  ∃ P M Sf cs xs, e = .returned (.pointer (some ⟨P, 0, none⟩)) ∧ NewAt w W P M (newN n) Sf cs xs ∧ ∀ x ∈ xs, x.1 = zeros 512
theorem newN_cases (n : Int) : (n < 0 ∧ newN n = 0) ∨ (4096 < n ∧ newN n = 4096) ∨ (0 ≤ n ∧ n ≤ 4096 ∧ n = (newN n : Nat)) := by
  unfold newN
  by_cases h : n < 0
  · exact .inl ⟨h, by rw [if_pos h]; rfl⟩
  · by_cases h2 : 4096 < n
    · exact .inr (.inl ⟨h2, by rw [if_neg h, if_pos h2]; rfl⟩)
    · exact .inr (.inr ⟨by omega, by omega, by rw [if_neg h, if_neg h2]; omega⟩)

theorem new_step {w0 wr v5 W7 : World} {P M k : Nat} {Sf A7 : Option Addr} {cs c7 : Nat} {xs : List (List UInt8 × Nat)} {u : Array Value} (h : NewAt w0 wr P M k Sf cs xs) (hb6 : Below wr.heap.size wr (v5.alloc (.cells u 22))) (hl : wr.heap.size < v5.heap.size)
    (q2 : rSec.acc 22 (P + 1) (fun b => P < b) W7 (.slice A7 (k + 1) c7) (xs ++ [(zeros 512, wr.heap.size)])) (q3 : (v5.alloc (.cells u 22)).grownBy W7 (Value.slice Sf k cs).ownBlock)
    (b7 : W7.heap[P]? = some (.cells #[.slice Sf k cs, .map (some M), .int .i64 (-1), .bool false, .int .i64 0, .int .i64 0] 184 (0, 0))) (hx : (xs ++ [(zeros 512, wr.heap.size)]).length = k + 1) :
    NewAt w0 (W7.setCell ⟨P, 0, none⟩ (.slice A7 (k + 1) c7)) P M (k + 1) A7 c7 (xs ++ [(zeros 512, wr.heap.size)]) := by
  have hown := Rep.acc_own h.acc
  have hown7 := Rep.acc_own q2
  have hpos := h.pos
  have s6 := hb6.size
  have s7 := q3.size
  have hs5 : (v5.alloc (.cells u 22)).heap.size = v5.heap.size + 1 := by simp
  refine ⟨hx, heap_setRow b7, Rep.acc_keep (fun b hb _ => Below.heap_setCell _ _ _ _ ?_) (fun _ hb _ => hb) q2, ?_, ?_, ?_, fun x hx => ?_, ⟨hpos.1, hpos.2.1, by simp; omega⟩⟩
  · show b ≠ P
    rcases hb with hb | hb
    · have hb' : P < b := hb; omega
    · have := (hown7 b hb).1; omega
  · rw [Below.heap_setCell _ _ _ _ (show M ≠ P by omega), q3.block M (by omega) (fun e => by have := (hown M e.symm).1; omega), hb6.block M (by omega)]
    exact h.map
  · exact below_set ((h.bel.trans (hb6.mono h.bel.size)).grown q3 (by have := h.bel.size; omega) (fun b hb => by have := (hown b hb).1; omega)) (by omega)
  · rw [List.map_append, List.nodup_append]
    refine ⟨h.dis, by simp, fun a ha b hb => ?_⟩
    simp at hb
    obtain ⟨x, hx, rfl⟩ := List.mem_map.1 ha
    have := (h.lt x hx).2
    omega
  · have hz : (W7.setCell ⟨P, 0, none⟩ (.slice A7 (k + 1) c7)).heap.size = W7.heap.size := by simp
    rw [hz]
    rcases List.mem_append.1 hx with hx | hx
    · have := h.lt x hx; omega
    · simp at hx; rw [hx]; exact ⟨hpos.2.2, by show wr.heap.size < _; omega⟩

set_option maxRecDepth 100000 in
set_option maxHeartbeats 400000 in
/-- disk.New -/
theorem dnew_calls {n : Int} (h0 : 0 ≤ n) (h1 : n ≤ 4096) (w : World) : Calls Try.prog 90 #[.int .i64 n] w (NewPost w n) := by
  have hmk : ∀ w, (Instr.makeSlice 22 (.int .i64 512) (.int .i64 512)).run Try.prog w = .ok (.slice (some ⟨w.heap.size, 0, none⟩) 512 512) (w.alloc (.cells (zeroBytes 512) 5)) :=
    fun w => run_make_bytes Try.underlying22 info5 512 (by omega) w
  have hmm := @run_makeMap Try.prog
  obtain ⟨Z, hZ⟩ : ∃ Z, Z = zeroBytes 512 := ⟨_, rfl⟩
  rw [← hZ] at hmk
  have HZ := Lib.hid (show Z = ((zeros 512).map cell).toArray by rw [hZ, zeroBytes_is])
  clear hZ
  obtain ⟨N, hN⟩ : ∃ N, N = newN n := ⟨_, rfl⟩
  have hcase : n = (N : Int) := by rcases newN_cases n with h | h | h <;> omega
  have HN := Lib.hid hN
  have HN4 := Lib.hid (show N ≤ 4096 by omega)
  clear hN
  obtain ⟨W1, hW1⟩ : ∃ W1, w.alloc (.map #[] 0) = W1 := ⟨_, rfl⟩
  have hm1 : W1.heap[w.heap.size]? = some (.map #[] 0) := by rw [← hW1]; exact heap_alloc_new _ _
  have hb1 : Below w.heap.size w W1 := by rw [← hW1]; exact (Below.refl _ _).alloc (Nat.le_refl _) _
  have hz1 : W1.heap.size = w.heap.size + 1 := by rw [← hW1]; simp
  obtain ⟨W2, hW2⟩ : ∃ W2, W1.alloc (.cells #[.slice none 0 0, .map (some w.heap.size), .int .i64 (-1), .bool false, .int .i64 0, .int .i64 0] 184) = W2 := ⟨_, rfl⟩
  have hz2 : W2.heap.size = w.heap.size + 1 + 1 := by rw [← hW2]; simp [hz1]
  have H0 := Lib.hid (show NewAt w W2 (w.heap.size + 1) w.heap.size 0 none 0 [] from ⟨rfl, by rw [← hW2, ← hz1]; exact heap_alloc_new _ _, Rep.acc_nil, by rw [← hW2, heap_alloc_old _ _ (by omega)]; exact hm1, by rw [← hW2]; exact hb1.alloc (by omega) _, by simp, by simp, ⟨Nat.le_refl _, by omega, by omega⟩⟩)
  clear hm1 hb1
  subst hcase
  go_enter Try.func90, Try.ntmps90
  go_wp2_with fail
  try rw [hW1]
  try rw [hW2]
  go_wp2_with fail
  clear hW1 hW2 hz1 hz2
  go_loopw [10] (fun i wr => ∃ (k : Nat) (Sf : Option Addr) (cs : Nat) (xs : List (List UInt8 × Nat)), i = .int .i64 k ∧ k ≤ N ∧ NewAt w wr (w.heap.size + 1) w.heap.size k Sf cs xs ∧ Hid (∀ x ∈ xs, x.1 = zeros 512)) (fun i _ => N - (intOf i).toNat)
  case atStart => exact ⟨0, none, 0, [], rfl, Nat.zero_le _, H0.out, fun x hx => by simp at hx⟩
  case round =>
    obtain ⟨k, Sf, cs, xs, rfl, hk, hr, hall⟩ := hrel
    have HR := Lib.hid hr
    by_cases hlt : (k : Int) < N
    · have hk2 : k < 4096 := by have := HN4.out; omega
      have hgb := hr.blk
      have hgp := hr.pos
      have c0 := cell_row hr.blk 0
      clear hr
      go_wp2_with fail
      refine wp_region_any (by kernel_rfl) ?_
      try (change wpAny _ _ _ _ _ _ _ (World.drew _))
      refine wpAny_take (i := 0) (v := .pointer (some ⟨w.heap.size + 1, 0, none⟩)) rfl (by kernel_rfl) (by kernel_rfl) (by kernel_rfl) (fun _ _ _ h => h) (Or.inl ⟨by rfl, fun w' => by go_simp⟩) ?_
      go_simp
      refine wpAny_take (i := 1) (v := .pointer (some ⟨w.heap.size + 1, 0, none⟩)) rfl (by kernel_rfl) (by kernel_rfl) (by kernel_rfl) (fun _ _ _ h => h) (Or.inl ⟨by rfl, fun w' => by go_simp⟩) ?_
      go_simp
      refine wpAny_take (i := 2) (v := .pointer (some ⟨w.heap.size + 1, 0, none⟩)) rfl (by kernel_rfl) (by kernel_rfl) (by kernel_rfl) (fun _ _ _ h => h) (Or.inl ⟨by rfl, fun w' => by go_simp⟩) ?_
      go_simp
      refine wpAny_take (i := 3) (v := .pointer (some ⟨w.heap.size + 1, 0, none⟩)) rfl (by kernel_rfl) (by kernel_rfl) (by kernel_rfl) (fun _ _ _ h => h) (Or.inl ⟨by rfl, fun w' => by go_simp⟩) ?_
      go_simp
      refine any_step [4, 5] (by kernel_rfl) (by simp) ?_
      intro j hj
      rcases (by simpa using hj : j = 4 ∨ j = 5) with rfl | rfl
      · refine wpOp_step rfl (fun K hK => ?_)
        go_simp
        refine hK _ _ ?_
        clear hK K
        refine any_step [5] (by kernel_rfl) (by simp) ?_
        intro j hj
        obtain rfl : j = 5 := by simpa using hj
        refine wpOp_step rfl (fun K hK => ?_)
        go_simp
        refine hK _ _ ?_
        clear hK K
        have HB5 := Lib.hid (show Below wr.heap.size wr (wr.alloc (.cells Z 5)).drew from ((Below.refl _ _).alloc (Nat.le_refl _) _).drew)
        have HS5 := Lib.hid (show SecAt (wr.alloc (.cells Z 5)).drew wr.heap.size 5 (zeros 512) from ⟨by rw [← HZ.out]; exact heap_alloc_new wr _, zeros_length _⟩)
        have c5 := (HB5.out.cell (p := ⟨w.heap.size + 1, 0, none⟩) hgp.2.2).trans c0
        generalize (wr.alloc (.cells Z 5)).drew = W5 at *
        refine any_step [6] (by kernel_rfl) (by simp) ?_
        intro j hj
        obtain rfl : j = 6 := by simpa using hj
        refine wpOp_step rfl (fun K hK => ?_)
        refine step_run rfl (exec_buildSlice (vy := .slice (some ⟨wr.heap.size, 0, none⟩) 512 512) rfl (.slice none 0 0) 1 Try.underlying24 info22' rfl rfl (by decide)) ?_
        go_simp
        refine hK _ _ ?_
        clear hK K
        have HB6 := Lib.hid (HB5.out.alloc HB5.out.size (.cells #[.slice (some ⟨wr.heap.size, 0, none⟩) 512 512] 22))
        have c6 := (HB6.out.cell (p := ⟨w.heap.size + 1, 0, none⟩) hgp.2.2).trans c0
        have hg6 := heap_alloc_new W5 (.cells #[.slice (some ⟨wr.heap.size, 0, none⟩) 512 512] 22)
        have hz6 : (W5.alloc (.cells #[.slice (some ⟨wr.heap.size, 0, none⟩) 512 512] 22)).heap.size = W5.heap.size + 1 := by simp
        have hacc6 : rSec.acc 22 (w.heap.size + 1 + 1) (fun b => w.heap.size + 1 < b) (W5.alloc (.cells #[.slice (some ⟨wr.heap.size, 0, none⟩) 512 512] 22)) (.slice Sf k cs) xs :=
          Rep.acc_keep (fun b _ hl => HB6.out.block b hl.lt) (fun _ hb _ => hb) HR.out.acc
        have hown := Rep.acc_own HR.out.acc
        have hrd6 : rSec.rd (fun b => w.heap.size + 1 < b ∧ (Value.slice Sf k cs).ownBlock ≠ some b) (W5.alloc (.cells #[.slice (some ⟨wr.heap.size, 0, none⟩) 512 512] 22)) [.slice (some ⟨wr.heap.size, 0, none⟩) 512 512] (zeros 512, wr.heap.size) :=
          ⟨rfl, ⟨hgp.2.2, fun e => by have := (hown _ e).2; omega⟩, HS5.out.keep (heap_alloc_old _ _ HS5.out.lt)⟩
        obtain ⟨v', W7, q1, q2, q3, q4⟩ := Rep.acc_more (P := Try.prog) (ty := 24) (ys := [(zeros 512, wr.heap.size)]) (A := some ⟨W5.heap.size, 0, none⟩) (m := 1) (c := 1) Try.underlying24 info22 rfl (by decide) rfl hacc6 rfl (Rep.row_one_elem hrd6)
          (fun _ => ⟨W5.heap.size, 0, rfl, fun j u hj => by rw [cell_of_row _ _ _ _ _ _ hg6, Nat.zero_add, ← hj]; simp⟩) (by have := HR.out.len; simp; unfold maxLen; omega) (by have := HR.out.len; simp; omega) (by have := HB6.out.size; omega)
        obtain ⟨A7, c7, rfl, hf1, hf2⟩ := Rep.acc_form q2
        have hxl : (xs ++ [(zeros 512, wr.heap.size)]).length = k + 1 := by rw [List.length_append, HR.out.len]; rfl
        rw [hxl] at q1 q2 q4
        refine any_step [7] (by kernel_rfl) (by simp) ?_
        intro j hj
        obtain rfl : j = 7 := by simpa using hj
        refine wpOp_step rfl (fun K hK => ?_)
        refine step_run rfl (exec_append (by rfl) (by rfl) (by rfl) q1) ?_
        go_simp
        refine hK _ _ ?_
        clear hK K
        have hPne : ∀ W8 : World, (W5.alloc (.cells #[.slice (some ⟨wr.heap.size, 0, none⟩) 512 512] 22)).grownBy W8 (Value.slice Sf k cs).ownBlock → W8.heap[w.heap.size + 1]? = wr.heap[w.heap.size + 1]? := fun W8 hg => (hg.block _ (by have := HB6.out.size; omega) (fun e => by have := (hown _ e.symm).1; omega)).trans (HB6.out.block _ hgp.2.2)
        have b7 := (hPne W7 q3).trans hgb
        have d0 := cell_row b7 0
        have z0 := frozen_row b7 0
        refine wpAny_take (i := 8) (v := .pointer (some ⟨w.heap.size + 1, 0, none⟩)) rfl (by kernel_rfl) (by kernel_rfl) (by kernel_rfl) (fun _ _ _ h => h) (Or.inl ⟨by rfl, fun w' => by go_simp⟩) ?_
        go_simp
        refine wpAny_take (i := 9) (v := .pointer (some ⟨w.heap.size + 1, 0, none⟩)) rfl (by kernel_rfl) (by kernel_rfl) (by kernel_rfl) (fun _ _ _ h => h) (Or.inl ⟨by rfl, fun w' => by go_simp⟩) ?_
        go_simp
        refine any_step [10] (by kernel_rfl) (by simp) ?_
        intro j hj
        obtain rfl : j = 10 := by simpa using hj
        refine wpOp_step rfl (fun K hK => ?_)
        go_simp
        refine hK _ _ ?_
        clear hK K
        have HNEW := Lib.hid (new_step (w0 := w) (v5 := W5) HR.out HB6.out HS5.out.lt q2 q3 b7 hxl)
        have HALL := Lib.hid (show ∀ x ∈ xs ++ [(zeros 512, wr.heap.size)], x.1 = zeros 512 from fun x hx => by rcases List.mem_append.1 hx with hx | hx; exact hall x hx; simp at hx; rw [hx])
        refine wpAny_done (by kernel_rfl) ?_ _
        clear q1 q2 q3 q4 b7 d0 z0 hrd6 hacc6 hg6 hz6 hPne hown
        go_wp2_with fail
        exact ⟨⟨k + 1, _, _, _, by go_num, by omega, HNEW.out, HALL.out⟩, by simp [intOf]; omega⟩
      · refine wpOp_step rfl (fun K hK => ?_)
        go_simp
        refine hK _ _ ?_
        clear hK K
        have HB5 := Lib.hid (show Below wr.heap.size wr (wr.alloc (.cells Z 5)).drew from ((Below.refl _ _).alloc (Nat.le_refl _) _).drew)
        have HS5 := Lib.hid (show SecAt (wr.alloc (.cells Z 5)).drew wr.heap.size 5 (zeros 512) from ⟨by rw [← HZ.out]; exact heap_alloc_new wr _, zeros_length _⟩)
        have c5 := (HB5.out.cell (p := ⟨w.heap.size + 1, 0, none⟩) hgp.2.2).trans c0
        generalize (wr.alloc (.cells Z 5)).drew = W5 at *
        refine any_step [4, 6] (by kernel_rfl) (by simp) ?_
        intro j hj
        rcases (by simpa using hj : j = 4 ∨ j = 6) with rfl | rfl
        · refine wpOp_step rfl (fun K hK => ?_)
          go_simp
          refine hK _ _ ?_
          clear hK K
          refine any_step [6] (by kernel_rfl) (by simp) ?_
          intro j hj
          obtain rfl : j = 6 := by simpa using hj
          refine wpOp_step rfl (fun K hK => ?_)
          refine step_run rfl (exec_buildSlice (vy := .slice (some ⟨wr.heap.size, 0, none⟩) 512 512) rfl (.slice none 0 0) 1 Try.underlying24 info22' rfl rfl (by decide)) ?_
          go_simp
          refine hK _ _ ?_
          clear hK K
          have HB6 := Lib.hid (HB5.out.alloc HB5.out.size (.cells #[.slice (some ⟨wr.heap.size, 0, none⟩) 512 512] 22))
          have c6 := (HB6.out.cell (p := ⟨w.heap.size + 1, 0, none⟩) hgp.2.2).trans c0
          have hg6 := heap_alloc_new W5 (.cells #[.slice (some ⟨wr.heap.size, 0, none⟩) 512 512] 22)
          have hz6 : (W5.alloc (.cells #[.slice (some ⟨wr.heap.size, 0, none⟩) 512 512] 22)).heap.size = W5.heap.size + 1 := by simp
          have hacc6 : rSec.acc 22 (w.heap.size + 1 + 1) (fun b => w.heap.size + 1 < b) (W5.alloc (.cells #[.slice (some ⟨wr.heap.size, 0, none⟩) 512 512] 22)) (.slice Sf k cs) xs :=
            Rep.acc_keep (fun b _ hl => HB6.out.block b hl.lt) (fun _ hb _ => hb) HR.out.acc
          have hown := Rep.acc_own HR.out.acc
          have hrd6 : rSec.rd (fun b => w.heap.size + 1 < b ∧ (Value.slice Sf k cs).ownBlock ≠ some b) (W5.alloc (.cells #[.slice (some ⟨wr.heap.size, 0, none⟩) 512 512] 22)) [.slice (some ⟨wr.heap.size, 0, none⟩) 512 512] (zeros 512, wr.heap.size) :=
            ⟨rfl, ⟨hgp.2.2, fun e => by have := (hown _ e).2; omega⟩, HS5.out.keep (heap_alloc_old _ _ HS5.out.lt)⟩
          obtain ⟨v', W7, q1, q2, q3, q4⟩ := Rep.acc_more (P := Try.prog) (ty := 24) (ys := [(zeros 512, wr.heap.size)]) (A := some ⟨W5.heap.size, 0, none⟩) (m := 1) (c := 1) Try.underlying24 info22 rfl (by decide) rfl hacc6 rfl (Rep.row_one_elem hrd6)
            (fun _ => ⟨W5.heap.size, 0, rfl, fun j u hj => by rw [cell_of_row _ _ _ _ _ _ hg6, Nat.zero_add, ← hj]; simp⟩) (by have := HR.out.len; simp; unfold maxLen; omega) (by have := HR.out.len; simp; omega) (by have := HB6.out.size; omega)
          obtain ⟨A7, c7, rfl, hf1, hf2⟩ := Rep.acc_form q2
          have hxl : (xs ++ [(zeros 512, wr.heap.size)]).length = k + 1 := by rw [List.length_append, HR.out.len]; rfl
          rw [hxl] at q1 q2 q4
          refine any_step [7] (by kernel_rfl) (by simp) ?_
          intro j hj
          obtain rfl : j = 7 := by simpa using hj
          refine wpOp_step rfl (fun K hK => ?_)
          refine step_run rfl (exec_append (by rfl) (by rfl) (by rfl) q1) ?_
          go_simp
          refine hK _ _ ?_
          clear hK K
          have hPne : ∀ W8 : World, (W5.alloc (.cells #[.slice (some ⟨wr.heap.size, 0, none⟩) 512 512] 22)).grownBy W8 (Value.slice Sf k cs).ownBlock → W8.heap[w.heap.size + 1]? = wr.heap[w.heap.size + 1]? := fun W8 hg => (hg.block _ (by have := HB6.out.size; omega) (fun e => by have := (hown _ e.symm).1; omega)).trans (HB6.out.block _ hgp.2.2)
          have b7 := (hPne W7 q3).trans hgb
          have d0 := cell_row b7 0
          have z0 := frozen_row b7 0
          refine wpAny_take (i := 8) (v := .pointer (some ⟨w.heap.size + 1, 0, none⟩)) rfl (by kernel_rfl) (by kernel_rfl) (by kernel_rfl) (fun _ _ _ h => h) (Or.inl ⟨by rfl, fun w' => by go_simp⟩) ?_
          go_simp
          refine wpAny_take (i := 9) (v := .pointer (some ⟨w.heap.size + 1, 0, none⟩)) rfl (by kernel_rfl) (by kernel_rfl) (by kernel_rfl) (fun _ _ _ h => h) (Or.inl ⟨by rfl, fun w' => by go_simp⟩) ?_
          go_simp
          refine any_step [10] (by kernel_rfl) (by simp) ?_
          intro j hj
          obtain rfl : j = 10 := by simpa using hj
          refine wpOp_step rfl (fun K hK => ?_)
          go_simp
          refine hK _ _ ?_
          clear hK K
          have HNEW := Lib.hid (new_step (w0 := w) (v5 := W5) HR.out HB6.out HS5.out.lt q2 q3 b7 hxl)
          have HALL := Lib.hid (show ∀ x ∈ xs ++ [(zeros 512, wr.heap.size)], x.1 = zeros 512 from fun x hx => by rcases List.mem_append.1 hx with hx | hx; exact hall x hx; simp at hx; rw [hx])
          refine wpAny_done (by kernel_rfl) ?_ _
          clear q1 q2 q3 q4 b7 d0 z0 hrd6 hacc6 hg6 hz6 hPne hown
          go_wp2_with fail
          exact ⟨⟨k + 1, _, _, _, by go_num, by omega, HNEW.out, HALL.out⟩, by simp [intOf]; omega⟩
        · refine wpOp_step rfl (fun K hK => ?_)
          refine step_run rfl (exec_buildSlice (vy := .slice (some ⟨wr.heap.size, 0, none⟩) 512 512) rfl (.slice none 0 0) 1 Try.underlying24 info22' rfl rfl (by decide)) ?_
          go_simp
          refine hK _ _ ?_
          clear hK K
          have HB6 := Lib.hid (HB5.out.alloc HB5.out.size (.cells #[.slice (some ⟨wr.heap.size, 0, none⟩) 512 512] 22))
          have c6 := (HB6.out.cell (p := ⟨w.heap.size + 1, 0, none⟩) hgp.2.2).trans c0
          refine any_step [4] (by kernel_rfl) (by simp) ?_
          intro j hj
          obtain rfl : j = 4 := by simpa using hj
          refine wpOp_step rfl (fun K hK => ?_)
          go_simp
          refine hK _ _ ?_
          clear hK K
          have hg6 := heap_alloc_new W5 (.cells #[.slice (some ⟨wr.heap.size, 0, none⟩) 512 512] 22)
          have hz6 : (W5.alloc (.cells #[.slice (some ⟨wr.heap.size, 0, none⟩) 512 512] 22)).heap.size = W5.heap.size + 1 := by simp
          have hacc6 : rSec.acc 22 (w.heap.size + 1 + 1) (fun b => w.heap.size + 1 < b) (W5.alloc (.cells #[.slice (some ⟨wr.heap.size, 0, none⟩) 512 512] 22)) (.slice Sf k cs) xs :=
            Rep.acc_keep (fun b _ hl => HB6.out.block b hl.lt) (fun _ hb _ => hb) HR.out.acc
          have hown := Rep.acc_own HR.out.acc
          have hrd6 : rSec.rd (fun b => w.heap.size + 1 < b ∧ (Value.slice Sf k cs).ownBlock ≠ some b) (W5.alloc (.cells #[.slice (some ⟨wr.heap.size, 0, none⟩) 512 512] 22)) [.slice (some ⟨wr.heap.size, 0, none⟩) 512 512] (zeros 512, wr.heap.size) :=
            ⟨rfl, ⟨hgp.2.2, fun e => by have := (hown _ e).2; omega⟩, HS5.out.keep (heap_alloc_old _ _ HS5.out.lt)⟩
          obtain ⟨v', W7, q1, q2, q3, q4⟩ := Rep.acc_more (P := Try.prog) (ty := 24) (ys := [(zeros 512, wr.heap.size)]) (A := some ⟨W5.heap.size, 0, none⟩) (m := 1) (c := 1) Try.underlying24 info22 rfl (by decide) rfl hacc6 rfl (Rep.row_one_elem hrd6)
            (fun _ => ⟨W5.heap.size, 0, rfl, fun j u hj => by rw [cell_of_row _ _ _ _ _ _ hg6, Nat.zero_add, ← hj]; simp⟩) (by have := HR.out.len; simp; unfold maxLen; omega) (by have := HR.out.len; simp; omega) (by have := HB6.out.size; omega)
          obtain ⟨A7, c7, rfl, hf1, hf2⟩ := Rep.acc_form q2
          have hxl : (xs ++ [(zeros 512, wr.heap.size)]).length = k + 1 := by rw [List.length_append, HR.out.len]; rfl
          rw [hxl] at q1 q2 q4
          refine any_step [7] (by kernel_rfl) (by simp) ?_
          intro j hj
          obtain rfl : j = 7 := by simpa using hj
          refine wpOp_step rfl (fun K hK => ?_)
          refine step_run rfl (exec_append (by rfl) (by rfl) (by rfl) q1) ?_
          go_simp
          refine hK _ _ ?_
          clear hK K
          have hPne : ∀ W8 : World, (W5.alloc (.cells #[.slice (some ⟨wr.heap.size, 0, none⟩) 512 512] 22)).grownBy W8 (Value.slice Sf k cs).ownBlock → W8.heap[w.heap.size + 1]? = wr.heap[w.heap.size + 1]? := fun W8 hg => (hg.block _ (by have := HB6.out.size; omega) (fun e => by have := (hown _ e.symm).1; omega)).trans (HB6.out.block _ hgp.2.2)
          have b7 := (hPne W7 q3).trans hgb
          have d0 := cell_row b7 0
          have z0 := frozen_row b7 0
          refine wpAny_take (i := 8) (v := .pointer (some ⟨w.heap.size + 1, 0, none⟩)) rfl (by kernel_rfl) (by kernel_rfl) (by kernel_rfl) (fun _ _ _ h => h) (Or.inl ⟨by rfl, fun w' => by go_simp⟩) ?_
          go_simp
          refine wpAny_take (i := 9) (v := .pointer (some ⟨w.heap.size + 1, 0, none⟩)) rfl (by kernel_rfl) (by kernel_rfl) (by kernel_rfl) (fun _ _ _ h => h) (Or.inl ⟨by rfl, fun w' => by go_simp⟩) ?_
          go_simp
          refine any_step [10] (by kernel_rfl) (by simp) ?_
          intro j hj
          obtain rfl : j = 10 := by simpa using hj
          refine wpOp_step rfl (fun K hK => ?_)
          go_simp
          refine hK _ _ ?_
          clear hK K
          have HNEW := Lib.hid (new_step (w0 := w) (v5 := W5) HR.out HB6.out HS5.out.lt q2 q3 b7 hxl)
          have HALL := Lib.hid (show ∀ x ∈ xs ++ [(zeros 512, wr.heap.size)], x.1 = zeros 512 from fun x hx => by rcases List.mem_append.1 hx with hx | hx; exact hall x hx; simp at hx; rw [hx])
          refine wpAny_done (by kernel_rfl) ?_ _
          clear q1 q2 q3 q4 b7 d0 z0 hrd6 hacc6 hg6 hz6 hPne hown
          go_wp2_with fail
          exact ⟨⟨k + 1, _, _, _, by go_num, by omega, HNEW.out, HALL.out⟩, by simp [intOf]; omega⟩
    · have hke : k = N := by omega
      have HK := Lib.hid hke
      go_wp2_with fail
      go_ret
      exact ⟨_, _, Sf, cs, xs, rfl, by rw [← HN.out, ← HK.out]; exact HR.out, hall⟩
end Go.Proofs.Ytecdbfbaclgejaa
/- Walk of a device of given bytes. -/
namespace Go.Proofs.Ytecdbfbaclgejaa
open Go.RowKit
open Extern.Stop (cell)

theorem sec_row {Q Q' : Nat → Prop} {W : World} : ∀ {xs : List (List UInt8 × Nat)} {cs : List Value}, rSec.row Q W cs xs → (∀ x ∈ xs, Q x.2 → Q' x.2) → Rep.byte.list.row Q' W cs (xs.map (·.1))
  | [], _, h, _ => h
  | x :: xs, _, h, hq => by
    obtain ⟨es, rest, rfl, ⟨rfl, h1, h2⟩, h3⟩ := h
    refine ⟨_, rest, rfl, ?_, sec_row h3 fun y hy => hq y (by simp [hy])⟩
    have hv := h2.sl (a := 0) (n := 512) (c := 512) (by omega) (by omega) (by simp [maxLen])
    rw [List.drop_zero, List.take_of_length_le (by rw [h2.len]; omega)] at hv
    have hv2 := Rep.val_mono (Q' := Q') (fun b hb _ => by have : b = x.2 := hb; rw [this]; exact hq x (by simp) h1) hv
    obtain ⟨A', c', he, g1, g2, es, g3, g4⟩ := Rep.val_list hv2
    have hlen := h2.len
    rw [hlen] at he
    cases he
    exact ⟨_, _, es, by rw [hlen], g1, g2, g3, g4⟩
def newSt (l : List (List UInt8)) : DiskSt := ⟨l, fun _ => [], -1, false, 0, 0⟩
theorem empty_map {W : World} {M : Nat} (h : W.heap[M]? = some (.map #[] 0)) : W.ownsMap Try.prog 3 heldElem M 0 (.map []) :=
  ⟨#[], 0, h, ⟨by simp, Go.MapKept.stamped_empty 0, by simp⟩, Nat.le_refl _, rfl⟩
/-- A new device is a device. -/
theorem NewAt.disk {w0 W : World} {P M k : Nat} {Sf : Option Addr} {cs : Nat} {xs : List (List UInt8 × Nat)} (h : NewAt w0 W P M k Sf cs xs) :
    DiskAt W P (fun b => b = P ∨ b = M ∨ (Value.slice Sf k cs).ownBlock = some b) (fun b => b ∈ xs.map (·.2) ∧ (Value.slice Sf k cs).ownBlock ≠ some b) 0 (newSt (xs.map (·.1))) := by
  have hl : (xs.map (·.1)).length = k := by rw [List.length_map]; exact h.len
  have hown := Rep.acc_own h.acc
  have hpos := h.pos
  refine ⟨Sf, cs, M, .map [], ⟨?_, ?_, empty_map h.map, fun i => Rep.acc_nil, fun i => Nat.le_refl _, fun i hi => absurd rfl hi, rfl, .inl rfl, .inr (.inl rfl), ?_, fun i b hb => (by cases hb), fun i b hb => (by cases hb), fun i j b _ hb => (by cases hb), fun b hb hB => ?_, fun b hb => ?_⟩⟩
  · show W.heap[P]? = some (.cells #[.slice Sf (xs.map (·.1)).length cs, _, _, _, _, _] _ _)
    rw [hl]; exact h.blk
  · show Rep.byte.list.acc 22 0 _ W (.slice Sf (xs.map (·.1)).length cs) (xs.map (·.1))
    rw [hl]
    obtain ⟨cells, h1, h2⟩ := h.acc
    refine ⟨cells, ⟨?_, ?_⟩, ?_⟩
    · have := h1.1; rw [this, h.len, hl]; rfl
    · rcases h1.2 with ⟨e, e0⟩ | ⟨g, cap, cur, e, hb, hh, g1, g2, g3, g4⟩
      · exact .inl ⟨e, by rw [hl]; rw [h.len] at e0; exact e0⟩
      · rw [h.len] at e g1 g4
        exact .inr ⟨g, cap, cur, by rw [hl]; exact e, Nat.zero_le _, hh, by rw [hl]; exact g1, g2, g3, by rw [hl]; exact g4⟩
    · exact sec_row h2 fun x hx hq => ⟨⟨List.mem_map.2 ⟨x, hx, rfl⟩, hq.2⟩, hq.2⟩
  · show ∀ b, (Value.slice Sf (xs.map (·.1)).length cs).ownBlock = some b → _
    rw [hl]; exact fun b hb => .inr (.inr hb)
  · obtain ⟨x, hx, rfl⟩ := List.mem_map.1 hB.1
    have := (h.lt x hx).1
    rcases hb with hb | hb | hb
    · omega
    · omega
    · exact hB.2 hb
  · rcases hb with (hb | hb | hb) | hb
    · omega
    · omega
    · exact (hown b hb).2
    · obtain ⟨x, hx, rfl⟩ := List.mem_map.1 hb.1
      exact (h.lt x hx).2

theorem row_set {Q : Nat → Prop} {W W' : World} {C : List UInt8} {bk : Nat} : ∀ {xs : List (List UInt8 × Nat)} {cs : List Value} {k : Nat} (_ : k < xs.length) (_ : (xs.map (·.2)).Nodup) (_ : rSec.row Q W cs xs) (_ : (xs[k]'‹_›).2 = bk) (_ : SecAt W' bk 5 C) (_ : ∀ b, b ≠ bk → W'.heap[b]? = W.heap[b]?), rSec.row Q W' cs (xs.set k (C, bk))
  | [], _, k, hk, _, _, _, _, _ => by simp at hk
  | x :: xs, _, 0, hk, hd, h, hbk, hc, hw => by
    obtain ⟨es, rest, rfl, ⟨rfl, h1, h2⟩, h3⟩ := h
    have e : x.2 = bk := hbk
    refine ⟨_, rest, rfl, ⟨by rw [← e], e ▸ h1, hc⟩, ?_⟩
    have hd2 := (List.nodup_cons.1 hd).1
    have : ∀ {ys : List (List UInt8 × Nat)} {cs : List Value}, (∀ y ∈ ys, y.2 ≠ bk) → rSec.row Q W cs ys → rSec.row Q W' cs ys := by
      intro ys
      induction ys with
      | nil => intro cs _ h; exact h
      | cons y ys ih =>
        intro cs hne h
        obtain ⟨es, rest, rfl, ⟨rfl, g1, g2⟩, g3⟩ := h
        exact ⟨_, rest, rfl, ⟨rfl, g1, g2.keep (hw _ (hne y (by simp)))⟩, ih (fun z hz => hne z (by simp [hz])) g3⟩
    exact this (fun y hy e2 => hd2 (List.mem_map.2 ⟨y, hy, e2.trans e.symm⟩)) h3
  | x :: xs, _, k + 1, hk, hd, h, hbk, hc, hw => by
    obtain ⟨es, rest, rfl, ⟨rfl, h1, h2⟩, h3⟩ := h
    have hd2 := (List.nodup_cons.1 hd)
    have hk2 : k < xs.length := by simpa using hk
    have hne : x.2 ≠ bk := fun e => hd2.1 (List.mem_map.2 ⟨xs[k], List.getElem_mem hk2, hbk.trans e.symm⟩)
    exact ⟨_, rest, rfl, ⟨rfl, h1, h2.keep (hw _ hne)⟩, row_set hk2 hd2.2 h3 hbk hc hw⟩
theorem NewAt.set {w0 W W' : World} {P M k j : Nat} {Sf : Option Addr} {cs : Nat} {xs : List (List UInt8 × Nat)} {C : List UInt8} {bk : Nat} (h : NewAt w0 W P M k Sf cs xs) (hj : j < xs.length) (hbk : xs[j].2 = bk)
    (hc : SecAt W' bk 5 C) (hw : ∀ b, b ≠ bk → W'.heap[b]? = W.heap[b]?) (hs : W'.heap.size = W.heap.size) (ho : W'.os = W.os ∧ W'.tape = W.tape ∧ W'.output = W.output) (hne : (Value.slice Sf k cs).ownBlock ≠ some bk) :
    NewAt w0 W' P M k Sf cs (xs.set j (C, bk)) := by
  have hlt := h.lt xs[j] (List.getElem_mem hj)
  rw [hbk] at hlt
  have hpos := h.pos
  have hmap : (xs.set j (C, bk)).map (·.2) = xs.map (·.2) := by
    rw [List.map_set]
    show (xs.map (·.2)).set j bk = xs.map (·.2)
    have : (xs.map (·.2))[j]'(by simpa using hj) = bk := by simp [hbk]
    rw [← this, List.set_getElem_self]
  obtain ⟨cells, h1, h2⟩ := h.acc
  refine ⟨by rw [List.length_set]; exact h.len, (hw P (by omega)).trans h.blk, ⟨cells, ?_, row_set hj h.dis h2 hbk hc hw⟩, (hw M (by omega)).trans h.map,
    ⟨ho.1.trans h.bel.os, ho.2.1.trans h.bel.tape, ho.2.2.trans h.bel.output, by rw [hs]; exact h.bel.size, fun b hb => (hw b (by omega)).trans (h.bel.block b hb)⟩, by rw [hmap]; exact h.dis, fun x hx => ?_, ⟨hpos.1, hpos.2.1, by rw [hs]; exact hpos.2.2⟩⟩
  · rw [List.length_set]
    refine ⟨h1.1, ?_⟩
    rcases h1.2 with e | ⟨g, cap, cur, e, hb, hh, r⟩
    · exact .inl e
    · refine .inr ⟨g, cap, cur, e, hb, (hw g (fun e2 => ?_)).trans hh, r⟩
      apply hne
      rw [e, e2]; rfl
  · rw [hs]
    rcases List.mem_or_eq_of_mem_set hx with hx | rfl
    · exact h.lt x hx
    · exact hlt

theorem step_copy_set {P : Program} {ops : Array Oper} {o : Oper} {a : Act} {w : World} {K : Act → World → Prop} {Q : Exit → Act → World → Prop} {E : Prop} (hgd : o.guard = none) (d s : Operand) (dT sT : TypeId)
    (ho : o.op = .call { callee := .builtin .copy, args := #[d, s], argTypes := #[dT, sT] }) (elem : TypeId) (hu : P.underlying dT = some (.slice elem)) (hsz : (P.info? elem).map (·.size) = some 1)
    (g off dLen dCap : Nat) (ad : Addr) (sLen sCap : Nat) (hd : a.eval d = .slice (some ⟨g, off, none⟩) dLen dCap) (hs : a.eval s = .slice (some ad) sLen sCap)
    (cur : Array Value) (t : TypeId) (hg : w.heap[g]? = some (.cells cur t (0, 0))) (cs : List Value) (hn : cs.length = Nat.min sLen dLen)
    (hsrc : ∀ j v, cs[j]? = some v → w.cell? (ad.add j) = some v) (hfit : off + cs.length ≤ cur.size) (h1 : ∀ v ∈ cs, v.oneCell' = true)
    (h : K (a.put o.dst (goInt cs.length)) (w.setRow g (splice cur.toList off cs).toArray)) :
    if Region.wanted o (yielded ops a.tmps) = true then Oper.wp P o a w K Q else E := by
  have hw : Region.wanted o (yielded ops a.tmps) = true := by simp [Region.wanted, hgd]
  rw [if_pos hw]
  have hrun := run_copy_row (P := P) w dT sT o.type elem g off dLen dCap ad sLen sCap cur t cs hu hsz hg hn hsrc hfit h1
  unfold Oper.wp
  simp [execOp, ho, resolve, invoke, builtin, hd, hs, hrun, Result.andThen]
  have h2 := h
  unfold splice at h2
  exact h2

def chunk (b : List UInt8) (k : Nat) : List UInt8 := (b.drop (512 * k)).take 512
def chunks (b : List UInt8) : List (List UInt8) := (List.range (b.length / 512)).map (chunk b)
def OfPost (w : World) (b : List UInt8) (e : Ending) (W : World) : Prop :=
  ∃ (P : Nat) (F B : Nat → Prop), e = .returned (.pointer (some ⟨P, 0, none⟩)) ∧ DiskAt W P F B 0 (newSt (chunks b)) ∧ (∀ k, F k ∨ B k → w.heap.size ≤ k) ∧ Below w.heap.size w W
theorem NewAt.old {w0 W : World} {P M k : Nat} {Sf : Option Addr} {cs : Nat} {xs : List (List UInt8 × Nat)} (h : NewAt w0 W P M k Sf cs xs) : ∀ b, ((b = P ∨ b = M ∨ (Value.slice Sf k cs).ownBlock = some b) ∨ (b ∈ xs.map (·.2) ∧ (Value.slice Sf k cs).ownBlock ≠ some b)) → w0.heap.size ≤ b := by
  intro b hb
  have hpos := h.pos
  rcases hb with (hb | hb | hb) | hb
  · omega
  · omega
  · have := (Rep.acc_own h.acc b hb).1; omega
  · obtain ⟨x, hx, rfl⟩ := List.mem_map.1 hb.1
    have := (h.lt x hx).1; omega
theorem splice_whole (Z X : List Value) (h : Z.length = X.length) : splice Z 0 X = X := by
  have := splice_here (B := Z) (T := []) h
  simpa using this

set_option maxRecDepth 100000 in
set_option maxHeartbeats 1000000 in
/-- disk.Of -/
theorem dof_calls {Q : Nat → Prop} {w : World} {v : Value} {b : List UInt8} (hx : Rep.byte.list.val Q w v b) (hl : b.length ≤ 2097152) :
    Calls Try.prog 70 #[v] w (OfPost w b) := by
  have HX := Lib.hid hx
  obtain ⟨A0, c0, rfl, hc1, hc2, hA⟩ := Rep.val_list hx
  unfold maxLen at hc2
  have HA := Lib.hid hA
  obtain ⟨N, hN⟩ : ∃ N, N = b.length / 512 := ⟨_, rfl⟩
  have HN := Lib.hid hN
  have hdiv : (b.length : Int) / 512 = N := by omega
  have hdiv2 : (b.length : Int).tdiv 512 = N := by rw [Int.tdiv_eq_ediv_of_nonneg (by omega)]; exact hdiv
  have HN4 := Lib.hid (show N ≤ 4096 by omega)
  have HLB := Lib.hid (show N * 512 ≤ b.length by omega)
  clear hx hA hN
  go_enter Try.func70, Try.ntmps70
  go_wp2_with fail
  refine (dnew_calls (n := (N : Int)) (by omega) (by have := HN4.out; omega) _).mono ?_
  rintro e w1 ⟨P, M, Sf, cs, xs, rfl, hnew, hz⟩
  have hnn : newN (N : Int) = N := by rcases newN_cases (N : Int) with h | h | h <;> (have := HN4.out; omega)
  rw [hnn] at hnew
  have HNEW := Lib.hid hnew
  have HZ := Lib.hid (show xs.map (·.1) = (List.range N).map (fun j => if j < 0 then chunk b j else zeros 512) from by
    apply List.ext_getElem
    · simp [hnew.len]
    · intro j h1 h2
      simp only [List.getElem_map]
      rw [if_neg (by omega)]
      exact hz _ (List.getElem_mem _))
  have c0' := cell_row hnew.blk 0
  clear hnew hz hnn
  go_wp2_with fail
  clear c0'
  go_loopw [14] (fun i wr => ∃ (k : Nat) (ys : List (List UInt8 × Nat)), i = .int .i64 k ∧ k ≤ N ∧ NewAt w wr P M N Sf cs ys ∧ Hid (ys.map (·.1) = (List.range N).map (fun j => if j < k then chunk b j else zeros 512))) (fun i _ => N - (intOf i).toNat)
  case atStart => exact ⟨0, xs, rfl, Nat.zero_le _, HNEW.out, HZ.out⟩
  case round =>
    obtain ⟨k, ys, rfl, hk, hr, hys⟩ := hrel
    have HR := Lib.hid hr
    by_cases hlt : (k : Int) < N
    · have hkN : k < N := by omega
      have hky : k < ys.length := by rw [hr.len]; exact hkN
      obtain ⟨x, hx⟩ : ∃ x, x = ys[k] := ⟨_, rfl⟩
      have hb0 := cell_row hr.blk 0
      have hbel := hr.bel
      have hacc : rSec.acc 22 (P + 1) (fun b => P < b) wr (.slice Sf ys.length cs) ys := by rw [hr.len]; exact hr.acc
      obtain ⟨A', c', he, _, _, hat⟩ := Rep.val_list (Rep.acc_val hacc)
      cases he
      obtain ⟨bS, offS, es, hSf, _, _, ⟨rfl, hq, hsec⟩, hcells⟩ := hat.get (List.getElem?_eq_getElem hky)
      have hcell := hcells 0 _ rfl
      simp only [rSec, Nat.mul_one, Nat.add_zero] at hcell
      rw [← hx] at hcell hsec
      have hx1 : x.1 = zeros 512 := by
        have h1 : (ys.map (·.1))[k]? = some x.1 := by rw [List.getElem?_map, List.getElem?_eq_getElem hky, ← hx]; rfl
        rw [hys.out, List.getElem?_map, List.getElem?_range hkN] at h1
        simp at h1
        exact h1.symm
      have hown : (Value.slice Sf N cs).ownBlock ≠ some x.2 := by
        obtain ⟨cells, hh1, hh2⟩ := hr.acc
        obtain ⟨es2, hg2, _⟩ := Rep.row_get hh2 (List.getElem?_eq_getElem hky)
        rw [← hx] at hg2
        exact hg2.2.1.2
      subst hSf
      rw [hx1] at hsec
      obtain ⟨bb, off, hA0⟩ := Rep.At.addr HA.out (by have := HLB.out; omega)
      subst hA0
      have hle : k * 512 + 512 ≤ b.length := by have := HLB.out; omega
      have hrange : ∀ j v, ((chunk b k).map cell)[j]? = some v → wr.drew.cell? ((⟨bb, off + k * 512, none⟩ : Addr).add j) = some v := by
        obtain ⟨es2, hrow, hc⟩ := HA.out
        obtain ⟨b', o', he, _, hic, hcs⟩ := hc (by omega)
        cases he
        intro j v hj
        rw [Addr.add_mid]
        have hj2 : ((b.map fun x => Value.int .u8 (x.toNat : Int)))[k * 512 + j]? = some v := by
          rw [cells_of]
          have hjl := (List.getElem?_eq_some_iff.1 hj).1
          rw [List.length_map] at hjl
          unfold chunk at hj hjl
          rw [List.length_take] at hjl
          simp only [List.getElem?_map, List.getElem?_take, List.getElem?_drop] at hj ⊢
          rw [if_pos (by omega), Nat.mul_comm] at hj
          exact hj
        have := hcs (k * 512 + j) v (by rw [Rep.row_byte hrow]; exact hj2)
        rw [← Nat.add_assoc] at this
        show wr.cell? ⟨bb, off + k * 512 + j, none⟩ = some v
        rw [hbel.cell (p := ⟨bb, off + k * 512 + j, none⟩) hic.lt]
        exact this
      have hcl : (chunk b k).length = 512 := by unfold chunk; rw [List.length_take, List.length_drop]; omega
      have HC := Lib.hid hcl
      have HRA := Lib.hid hrange
      have HSEC := Lib.hid (show wr.drew.heap[x.2]? = some (.cells ((zeros 512).map cell).toArray 5 (0, 0)) from hsec.blk)
      have HN2 := Lib.hid (show ((chunk b k).map cell).length = Nat.min (b.length - k * 512) 512 by rw [List.length_map, hcl]; exact (Nat.min_eq_right (by omega)).symm)
      have HFIT := Lib.hid (show 0 + ((chunk b k).map cell).length ≤ (((zeros 512).map cell).toArray : Array Value).size by rw [List.length_map, hcl]; simp [zeros_length])
      have HNEXT := Lib.hid (show ∀ W', SecAt W' x.2 5 (chunk b k) → (∀ c, c ≠ x.2 → W'.heap[c]? = wr.heap[c]?) → W'.heap.size = wr.heap.size → (W'.os = wr.os ∧ W'.tape = wr.tape ∧ W'.output = wr.output) → NewAt w W' P M N (some ⟨bS, offS, none⟩) cs (ys.set k (chunk b k, x.2)) from fun W' h1 h2 h3 h4 => HR.out.set hky (by rw [hx]) h1 h2 h3 h4 hown)
      have HYS := Lib.hid (show (ys.set k (chunk b k, x.2)).map (·.1) = (List.range N).map (fun j => if j < k + 1 then chunk b j else zeros 512) from by
        rw [List.map_set, hys.out]
        apply List.ext_getElem
        · simp
        · intro j g1 g2
          simp only [List.getElem_set, List.getElem_map, List.getElem_range]
          by_cases hjk : k = j
          · rw [if_pos hjk, if_pos (by omega), hjk]
          · rw [if_neg hjk]
            by_cases hj2 : j < k
            · rw [if_pos hj2, if_pos (by omega)]
            · rw [if_neg hj2, if_neg (by omega)])
      have i1 : IntKind.i64.wrap ((k : Int) * 512) = (k : Int) * 512 := IntWalk.i64_in _ ⟨by omega, by have := HN4.out; omega⟩
      have i2 : (0 : Int) ≤ (k : Int) * 512 := by omega
      have i3 : (k : Int) * 512 ≤ b.length := by omega
      have i4 : ((k : Int) * 512).toNat = k * 512 := by omega
      have i5 : ¬ c0 = k * 512 := by omega
      have i6 : (b.length : Int) ≤ c0 := by omega
      clear hat hcells hacc hq hsec hx1 hown hrange hcl hle hr hys hx
      go_wp2_with fail
      go_region_law (refine step_copy_set rfl (.tmp 23) (.tmp 27) 22 22 rfl 5 Try.underlying22 size5 x.2 0 512 512 ⟨bb, off + k * 512, none⟩ (b.length - k * 512) (c0 - k * 512) (by rfl) (by rfl) ((zeros 512).map cell).toArray 5 HSEC.out ((chunk b k).map cell) HN2.out HRA.out HFIT.out (copy_one _) ?_)
      have hW := setRow_heap wr.drew x.2 _ (splice (((zeros 512).map cell).toArray : Array Value).toList 0 ((chunk b k).map cell)).toArray 5 _ HSEC.out
      have HS := Lib.hid (show SecAt (wr.drew.setRow x.2 (splice (((zeros 512).map cell).toArray : Array Value).toList 0 ((chunk b k).map cell)).toArray) x.2 5 (chunk b k) from ⟨by rw [hW]; congr 3; exact splice_whole _ _ (by simp [zeros_length, HC.out]), HC.out⟩)
      have HNE := Lib.hid (HNEXT.out _ HS.out (fun c hc => setRow_other wr.drew x.2 c _ hc) (by simp [World.setRow]) ⟨rfl, rfl, rfl⟩)
      clear hW
      generalize wr.drew.setRow x.2 (splice (((zeros 512).map cell).toArray : Array Value).toList 0 ((chunk b k).map cell)).toArray = W7 at *
      go_wp2_with fail
      exact ⟨⟨k + 1, _, by go_num, by omega, HNE.out, HYS.out⟩, by simp [intOf]; omega⟩
    · have hke : k = N := by omega
      subst hke
      have HF := Lib.hid (show ys.map (·.1) = chunks b by
        rw [hys.out, chunks, ← HN.out]
        apply List.map_congr_left
        intro j hj
        rw [if_pos (List.mem_range.1 hj)])
      clear hr hys
      go_wp2_with fail
      go_ret
      exact ⟨P, _, _, rfl, by rw [← HF.out]; exact HR.out.disk, HR.out.old, HR.out.bel⟩
end Go.Proofs.Ytecdbfbaclgejaa
/- Walks of a log's room, and of a piece written to it. -/
namespace Go.Proofs.Ytecdbfbaclgejaa
open Go.RowKit

/-- The cells of a log. -/
structure LogCells (W : World) (L P : Nat) (A : Option Addr) (cap : Nat) (c : DConf) (x : LogSt) : Prop where
  c0 : W.cell? ⟨L, 0, none⟩ = some (.pointer (some ⟨P, 0, none⟩))
  c1 : W.cell? ⟨L, 1, none⟩ = some (.int .i64 c.log)
  c2 : W.cell? ⟨L, 2, none⟩ = some (.int .i64 c.pages)
  c3 : W.cell? ⟨L, 3, none⟩ = some (.int .i64 c.entities)
  c4 : W.cell? ⟨L, 4, none⟩ = some (.int .i64 c.gens)
  c5 : W.cell? ⟨L, 5, none⟩ = some (.slice A c.comps.length cap)
  c6 : W.cell? ⟨L, 6, none⟩ = some (.int .i64 x.epoch)
  c7 : W.cell? ⟨L, 7, none⟩ = some (.int .i64 x.head)
  c8 : W.cell? ⟨L, 8, none⟩ = some (.int .i64 x.tail)
  c9 : W.cell? ⟨L, 9, none⟩ = some (.int .i64 x.seq)
theorem LogW.cells {W : World} {L P : Nat} {A : Option Addr} {cap : Nat} {G : Nat → Prop} {c : DConf} {x : LogSt} (h : LogW W L P A cap G c x) : LogCells W L P A cap c x :=
  ⟨cell_row h.blk 0, cell_row h.blk 1, cell_row h.blk 2, cell_row h.blk 3, cell_row h.blk 4, cell_row h.blk 5, cell_row h.blk 6, cell_row h.blk 7, cell_row h.blk 8, cell_row h.blk 9⟩
theorem LogW.below {W W' : World} {L P : Nat} {A : Option Addr} {cap : Nat} {G : Nat → Prop} {c : DConf} {x : LogSt} (h : LogW W L P A cap G c x) (hb : Below W.heap.size W W') : LogW W' L P A cap G c x :=
  h.keep hb.size fun b hb' => hb.block b (h.lt b hb')
theorem LogW.only {W W' : World} {L P : Nat} {A : Option Addr} {cap : Nat} {F G : Nat → Prop} {c : DConf} {x : LogSt} (h : LogW W L P A cap G c x) (ho : Only F W W') (hf : ∀ b, b = L ∨ G b → ¬ F b) : LogW W' L P A cap G c x :=
  h.keep ho.size fun b hb' => ho.block b (h.lt b hb') (hf b hb')

set_option maxRecDepth 100000 in
set_option maxHeartbeats 4000000 in
/-- (*wal.Log).Room -/
theorem wroom_calls {W : World} {L P : Nat} {A : Option Addr} {cap : Nat} {G : Nat → Prop} {c : DConf} {x : LogSt} (h : LogW W L P A cap G c x) :
    Calls Try.prog 78 #[.pointer (some ⟨L, 0, none⟩)] W fun e w' => e = .returned (.int .i64 (roomOf c x.head x.tail)) ∧ Below W.heap.size W w' := by
  have HL := Lib.hid (fun W' (hb : Below W.heap.size W W') => h.below hb)
  obtain ⟨rm, hrm⟩ : ∃ rm, roomOf c x.head x.tail = rm := ⟨_, rfl⟩
  rw [hrm]
  have HRM := Lib.hid hrm
  clear h hrm
  obtain ⟨ep, hd, tl, sq⟩ := x
  dsimp only at *
  have KS := Lib.hid (show ∀ W', Below W.heap.size W W' → W'.cell? ⟨L, 1, none⟩ = some (.int .i64 c.log) ∧ W'.cell? ⟨L, 2, none⟩ = some (.int .i64 c.pages) ∧ W'.cell? ⟨L, 3, none⟩ = some (.int .i64 c.entities) ∧ W'.cell? ⟨L, 4, none⟩ = some (.int .i64 c.gens) ∧ W'.cell? ⟨L, 5, none⟩ = some (.slice A c.comps.length cap) ∧ W'.cell? ⟨L, 7, none⟩ = some (.int .i64 hd) ∧ W'.cell? ⟨L, 8, none⟩ = some (.int .i64 tl) from fun W' hb => by
    have k := (HL.out W' hb).cells
    exact ⟨k.c1, k.c2, k.c3, k.c4, k.c5, k.c7, k.c8⟩)
  obtain ⟨s1, s2, s3, s4, s5, s7, s8⟩ := KS.out _ (Below.refl _ _).drew
  go_enter Try.func78, Try.ntmps78
  go_wp2_with fail
  go_region_held3 (fun W' => W'.cell? ⟨L, 1, none⟩ = some (.int .i64 c.log) ∧ W'.cell? ⟨L, 2, none⟩ = some (.int .i64 c.pages) ∧ W'.cell? ⟨L, 3, none⟩ = some (.int .i64 c.entities) ∧ W'.cell? ⟨L, 4, none⟩ = some (.int .i64 c.gens) ∧ W'.cell? ⟨L, 5, none⟩ = some (.slice A c.comps.length cap) ∧ W'.cell? ⟨L, 7, none⟩ = some (.int .i64 hd) ∧ W'.cell? ⟨L, 8, none⟩ = some (.int .i64 tl))
    (first
      | exact KS.out _ (Below.refl _ _).drew
      | exact KS.out _ D2.out)
    (first | (go_at_call 142; refine (geomRoom_calls (HL.out _ (Below.refl _ _).drew).conf).mono ?_; rintro e w2 ⟨rfl, hb2⟩; rw [HRM.out]; have D2 := Lib.hid ((Below.refl W.heap.size W).drew.trans hb2); clear hb2))
  go_wp2_with fail
  go_ret
  exact ⟨rfl, D2.out⟩

def sealOf (x : LogSt) (i : Int) (p : List UInt8) : DSeal := ⟨x.epoch, x.tail + i, 1, p⟩
def pieceSt (st : DiskSt) (c : DConf) (x : LogSt) (i : Int) (p : List UInt8) : DiskSt × Int := writeSt st (logOf c (x.tail + i)) (sealBytes (sealOf x i p))
theorem logOf_wf2 {c : DConf} (k : Int) : (Lit.int .i64 (logOf c k)).wf = true := by
  unfold logOf
  cases hr : confRight c with
  | false => rfl
  | true =>
    have hf := (right_facts hr).1
    obtain ⟨g1, g2, _⟩ := hf
    have m1 : 0 ≤ k % c.log := Int.emod_nonneg _ (by omega)
    have m2 : k % c.log < c.log := Int.emod_lt_of_pos _ (by omega)
    split
    · exact wf_i64 (by omega) (by omega)
    · decide

set_option maxRecDepth 100000 in
set_option maxHeartbeats 4000000 in
/-- (*wal.Log).write -/
theorem wwrite_calls {Q : Nat → Prop} {W : World} {L P : Nat} {A : Option Addr} {cap : Nat} {G : Nat → Prop} {c : DConf} {x : LogSt} {F B : Nat → Prop} {n : Nat} {st : DiskSt} {i : Int} {v : Value} {p : List UInt8}
    (h : LogW W L P A cap G c x) (hd : DiskAt W P F B n st) (hn : n ≤ 1000000000) (hf : ∀ b, b = L ∨ G b → ¬ F b) (he : (Lit.int .i64 x.epoch).wf = true) (hi : 0 ≤ x.tail + i ∧ x.tail + i ≤ 1000000000000000) (hp : Rep.byte.list.val Q W v p) :
    Calls Try.prog 141 #[.pointer (some ⟨L, 0, none⟩), .int .i64 i, v] W (WritePost F B P n W (pieceSt st c x i p)) := by
  have HL := Lib.hid (fun W' (hb : Below W.heap.size W W') => h.below hb)
  have HLO := Lib.hid (fun W' (ho : Only F W W') => h.only ho hf)
  have HD := Lib.hid (fun W' (hb : Below W.heap.size W W') => hd.below hb)
  have HFW := Lib.hid (show ∀ b, F b → b < W.heap.size by obtain ⟨_, _, _, _, hh⟩ := hd; exact fun b hb => hh.lt b (.inl hb))
  have HN := Lib.hid hn
  have HF := Lib.hid hf
  have HE := Lib.hid he
  have HS := Lib.hid (show pieceSt st c x i p = writeSt st (logOf c (x.tail + i)) (sealBytes (sealOf x i p)) from rfl)
  obtain ⟨Ap, cp, rfl, hc1, hc2, hA⟩ := Rep.val_list hp
  have HPV := Lib.hid (show ∀ W', Below W.heap.size W W' → Rep.byte.Sl (fun b => b < W.heap.size) W' Ap cp p from fun W' hb => ⟨hc1, hc2, (Rep.At.keep (w := W) (fun _ _ hl => ⟨hl.lt, hb.block _ hl.lt⟩) hA)⟩)
  clear h hd hn hf he hp hA
  obtain ⟨ep, hh, tl, sq⟩ := x
  dsimp only at *
  have i1 : IntKind.i64.wrap (tl + i) = tl + i := IntWalk.i64_in _ ⟨by omega, by omega⟩
  have HWF := Lib.hid (show (Lit.int .i64 (tl + i)).wf = true from wf_i64 (by omega) (by omega))
  have HLW := Lib.hid (logOf_wf2 (c := c) (tl + i))
  generalize hlg : logOf c (tl + i) = lg at *
  have HLG := Lib.hid hlg
  have KA := Lib.hid (show ∀ W', LogW W' L P A cap G c ⟨ep, hh, tl, sq⟩ → W'.cell? ⟨L, 0, none⟩ = some (.pointer (some ⟨P, 0, none⟩)) ∧ W'.cell? ⟨L, 1, none⟩ = some (.int .i64 c.log) ∧ W'.cell? ⟨L, 2, none⟩ = some (.int .i64 c.pages) ∧ W'.cell? ⟨L, 3, none⟩ = some (.int .i64 c.entities) ∧ W'.cell? ⟨L, 4, none⟩ = some (.int .i64 c.gens) ∧ W'.cell? ⟨L, 5, none⟩ = some (.slice A c.comps.length cap) ∧ W'.cell? ⟨L, 6, none⟩ = some (.int .i64 ep) ∧ W'.cell? ⟨L, 8, none⟩ = some (.int .i64 tl) from fun W' hw => ⟨hw.cells.c0, hw.cells.c1, hw.cells.c2, hw.cells.c3, hw.cells.c4, hw.cells.c5, hw.cells.c6, hw.cells.c8⟩)
  have KS := Lib.hid (fun W' (hb : Below W.heap.size W W') => KA.out W' (HL.out W' hb))
  obtain ⟨s0, s1, s2, s3, s4, s5, s6, s8⟩ := KS.out _ (Below.refl _ _).drew
  clear hlg
  go_enter Try.func141, Try.ntmps141
  go_wp2_with fail
  go_region_held3 (fun W' => W'.cell? ⟨L, 0, none⟩ = some (.pointer (some ⟨P, 0, none⟩)) ∧ W'.cell? ⟨L, 1, none⟩ = some (.int .i64 c.log) ∧ W'.cell? ⟨L, 2, none⟩ = some (.int .i64 c.pages) ∧ W'.cell? ⟨L, 3, none⟩ = some (.int .i64 c.entities) ∧ W'.cell? ⟨L, 4, none⟩ = some (.int .i64 c.gens) ∧ W'.cell? ⟨L, 5, none⟩ = some (.slice A c.comps.length cap) ∧ W'.cell? ⟨L, 6, none⟩ = some (.int .i64 ep) ∧ W'.cell? ⟨L, 8, none⟩ = some (.int .i64 tl))
    (first
      | exact KS.out _ (Below.refl _ _).drew
      | exact KS.out _ D2.out)
    (first | (go_at_call 124; refine (sealPut_calls (x := ⟨ep, tl + i, 1, p⟩) (rSeal_agg HE.out HWF.out rfl (HPV.out _ (Below.refl _ _).drew))).mono ?_; rintro e w2 ⟨u2, rfl, hu2, hb2⟩; have D2 := Lib.hid ((Below.refl W.heap.size W).drew.trans hb2); have HU2 := Lib.hid hu2; clear hb2 hu2))
  clear s0 s1 s2 s3 s4 s5 s6 s8
  obtain ⟨s0, s1, s2, s3, s4, s5, s6, s8⟩ := KS.out _ D2.out.drew
  obtain ⟨A2, c2, rfl, hc2, hm2, _⟩ := Rep.val_list HU2.out
  have HNQ := Lib.hid (show ∀ k, W.heap.size ≤ k → ¬ F k from fun k hk hf => by have := HFW.out k hf; omega)
  generalize hyl : (sealBytes ⟨ep, tl + i, 1, p⟩).length = yl at *
  clear hyl
  go_wp2_with fail
  go_region_held3 (fun W' => W'.cell? ⟨L, 0, none⟩ = some (.pointer (some ⟨P, 0, none⟩)) ∧ W'.cell? ⟨L, 1, none⟩ = some (.int .i64 c.log) ∧ W'.cell? ⟨L, 2, none⟩ = some (.int .i64 c.pages) ∧ W'.cell? ⟨L, 3, none⟩ = some (.int .i64 c.entities) ∧ W'.cell? ⟨L, 4, none⟩ = some (.int .i64 c.gens) ∧ W'.cell? ⟨L, 5, none⟩ = some (.slice A c.comps.length cap) ∧ W'.cell? ⟨L, 6, none⟩ = some (.int .i64 ep) ∧ W'.cell? ⟨L, 8, none⟩ = some (.int .i64 tl))
    (first
      | exact KS.out _ D2.out.drew
      | exact KS.out _ D3.out
      | exact KA.out _ (HLO.out _ O4.out))
    (first
      | (go_at_call 135; refine (geomLog_calls (HL.out _ D2.out.drew).conf).mono ?_; rintro e w3 ⟨rfl, hb3⟩; rw [HLG.out]; have B3 := Lib.hid (show Below w2.heap.size w2 w3 from (Below.refl w2.heap.size w2).drew.trans hb3); have D3 := Lib.hid (D2.out.drew.trans (hb3.mono D2.out.drew.size)); clear hb3)
      | (go_at_call 152; refine (dwrite_calls (HD.out _ D3.out) HLW.out HN.out (Rep.val_below HU2.out B3.out (fun _ _ hl => hl.lt)) HNQ.out).mono ?_; rintro e w4 ⟨rfl, ho4, hr4⟩; have O4 := Lib.hid ((Only.of_below (F := F) D3.out).trans ho4); have R4 := Lib.hid hr4; clear ho4 hr4))
  go_wp2_with fail
  go_ret
  obtain ⟨F', B', h1, h2, h3, h4⟩ := R4.out
  have hs3 := D3.out.size
  exact ⟨by rw [HS.out]; rfl, O4.out, F', B', by rw [HS.out]; exact h1, fun b hb => (h2 b hb).imp id fun e => by omega, fun b hb => (h3 b hb).imp id fun e => by omega, h4⟩
end Go.Proofs.Ytecdbfbaclgejaa
/- Walk of wal.each with a log's write. -/
namespace Go.Proofs.Ytecdbfbaclgejaa
open Go.RowKit

def eachSt (c : DConf) (x : LogSt) : DiskSt → Nat → List (List UInt8) → DiskSt × Int
  | st, _, [] => (st, 0)
  | st, i, p :: ps => if (pieceSt st c x i p).2 = 0 then eachSt c x (pieceSt st c x i p).1 (i + 1) ps else pieceSt st c x i p
def EachPost (F B : Nat → Prop) (P n : Nat) (W : World) (r : DiskSt × Int) (e : Ending) (W' : World) : Prop :=
  e = .returned (.int .i64 r.2) ∧ Only F W W' ∧ ∃ F' B' : Nat → Prop, DiskAt W' P F' B' n r.1 ∧ (∀ b, F' b → F b ∨ W.heap.size ≤ b) ∧ (∀ b, B' b → B b ∨ W.heap.size ≤ b) ∧ (∀ b, F b → F' b)
theorem eachSt_step {c : DConf} {x : LogSt} {s : DiskSt} {k : Nat} {ls : List (List UInt8)} {p : List UInt8} (hp : ls[k]? = some p) :
    eachSt c x s k (ls.drop k) = if (pieceSt s c x k p).2 = 0 then eachSt c x (pieceSt s c x k p).1 (k + 1) (ls.drop (k + 1)) else pieceSt s c x k p := by
  obtain ⟨hk, he⟩ := List.getElem?_eq_some_iff.1 hp
  rw [List.drop_eq_getElem_cons hk, he]
  rfl
theorem DiskAt.more {W : World} {P n n' : Nat} {F B : Nat → Prop} {st : DiskSt} (h : DiskAt W P F B n st) (hn : n ≤ n') : DiskAt W P F B n' st := by
  obtain ⟨_, _, _, _, h⟩ := h
  exact ⟨_, _, _, _, h.more hn⟩
theorem Only.widen {F G : Nat → Prop} {X Y Z : World} (h : Only F X Y) (k : Only G Y Z) (hg : ∀ b, G b → F b ∨ X.heap.size ≤ b) : Only F X Z :=
  ⟨k.os.trans h.os, k.tape.trans h.tape, k.output.trans h.output, Nat.le_trans h.size k.size, fun b hb hf => (k.block b (Nat.lt_of_lt_of_le hb h.size) (fun e => (hg b e).elim hf (fun e => by omega))).trans (h.block b hb hf)⟩

set_option maxRecDepth 100000 in
set_option maxHeartbeats 4000000 in
/-- wal.each -/
theorem weach_calls {Q : Nat → Prop} {W : World} {L P : Nat} {A : Option Addr} {cap : Nat} {G : Nat → Prop} {c : DConf} {x : LogSt} {F B : Nat → Prop} {n : Nat} {st : DiskSt} {v : Value} {ls : List (List UInt8)}
    (h : LogW W L P A cap G c x) (hd : DiskAt W P F B n st) (hn : n ≤ 900000000) (hl : ls.length ≤ 1024) (hf : ∀ b, b = L ∨ G b → ¬ F b) (he : (Lit.int .i64 x.epoch).wf = true) (ht : 0 ≤ x.tail ∧ x.tail ≤ 500000000000000)
    (hx : Rep.byte.list.list.val Q W v ls) (hQ : ∀ b, Q b → ¬ F b) :
    Calls Try.prog 140 #[v, .func (.func 141) #[.pointer (some ⟨L, 0, none⟩)] #[]] W (EachPost F B P (n + ls.length) W (eachSt c x st 0 ls)) := by
  obtain ⟨Av, cv, rfl, hc1, hc2, hA⟩ := Rep.val_list hx
  have HX := Lib.hid (show ∀ W', Only F W W' → Rep.byte.list.At Q W' Av ls from fun W' ho => Rep.At.keep (w := W) (fun b hb hl => ⟨hb, ho.block b hl.lt (hQ b hb)⟩) hA)
  have HLO := Lib.hid (fun W' (ho : Only F W W') => h.only ho hf)
  have HLT := Lib.hid h.lt
  have HD := Lib.hid hd
  have HFF := Lib.hid hf
  have HE := Lib.hid he
  have HT := Lib.hid ht
  have HN := Lib.hid hn
  unfold maxLen at hc2
  clear h hd hf he ht hx hA hn
  generalize hlen : ls.length = len at *
  have HLEN := Lib.hid hlen
  clear hlen
  go_enter Try.func140, Try.ntmps140
  go_wp2_with fail
  go_loopw [10] (fun i wr => ∃ (k : Nat) (s : DiskSt) (Fk Bk : Nat → Prop), i = .int .i64 k ∧ k ≤ len ∧ DiskAt wr P Fk Bk (n + k) s ∧ Only F W wr ∧ Hid (∀ b, Fk b → F b ∨ W.heap.size ≤ b) ∧ Hid (∀ b, Bk b → B b ∨ W.heap.size ≤ b) ∧ Hid (∀ b, F b → Fk b) ∧ Hid (eachSt c x st 0 ls = eachSt c x s k (ls.drop k))) (fun i _ => len - (intOf i).toNat)
  case atStart => exact ⟨0, st, F, B, rfl, Nat.zero_le _, HD.out, Only.refl _ _, fun b hb => .inl hb, fun b hb => .inl hb, fun b hb => hb, rfl⟩
  case round =>
    obtain ⟨k, s, Fk, Bk, rfl, hk, hds, hos, hF1, hB1, hF2, heq⟩ := hrel
    have HDS := Lib.hid hds
    have HOS := Lib.hid hos
    by_cases hlt : (k : Int) < len
    · have hkl : k < ls.length := by have := HLEN.out; omega
      obtain ⟨p, hp⟩ : ∃ p, p = ls[k] := ⟨_, rfl⟩
      have hget : ls[k]? = some p := by rw [hp]; exact List.getElem?_eq_getElem hkl
      have HST := Lib.hid (heq.out.trans (eachSt_step hget))
      obtain ⟨bb, off, B5, c5, rfl, hcell, hc5, hm5, hat⟩ := Rep.At.list (HX.out wr hos) hget
      have HP := Lib.hid (show Rep.byte.list.val Q wr (.slice B5 p.length c5) p from Rep.list_val rfl hc5 hm5 hat)
      have HLW := Lib.hid (HLO.out wr hos)
      have HFK := Lib.hid (show ∀ b, b = L ∨ G b → ¬ Fk b from fun b hb hfk => (hF1.out b hfk).elim (HFF.out b hb) (fun e => by have := HLT.out b hb; omega))
      have HI := Lib.hid (show 0 ≤ x.tail + (k : Int) ∧ x.tail + (k : Int) ≤ 1000000000000000 by have := HT.out; omega)
      clear hds hos heq hp hget hat
      go_wp2_with fail
      refine (wwrite_calls HLW.out HDS.out (by have := HN.out; omega) HFK.out HE.out HI.out HP.out).mono ?_
      rintro e w4 ⟨rfl, ho4, F4, B4, hd4, hF4, hB4, hF5⟩
      generalize pieceSt s c x k p = r at *
      obtain ⟨s4, er⟩ := r
      dsimp only at *
      have HO4 := Lib.hid (HOS.out.widen ho4 hF1.out)
      have HD4 := Lib.hid hd4
      have hs0 := HOS.out.size
      have HF4 := Lib.hid (show ∀ b, F4 b → F b ∨ W.heap.size ≤ b from fun b hb => (hF4 b hb).elim (hF1.out b) (fun e => .inr (Nat.le_trans hs0 e)))
      have HB4 := Lib.hid (show ∀ b, B4 b → B b ∨ W.heap.size ≤ b from fun b hb => (hB4 b hb).elim (hB1.out b) (fun e => .inr (Nat.le_trans hs0 e)))
      have HF5 := Lib.hid (show ∀ b, F b → F4 b from fun b hb => hF5 b (hF2.out b hb))
      clear ho4 hd4 hF4 hB4 hF5 hF1 hB1 hF2
      by_cases he0 : er = 0
      · subst he0
        have HST2 := Lib.hid (show eachSt c x st 0 ls = eachSt c x s4 (k + 1) (ls.drop (k + 1)) by rw [HST.out, if_pos rfl])
        go_wp2_with fail
        exact ⟨⟨k + 1, s4, F4, B4, rfl, by omega, HD4.out, HO4.out, HF4.out, HB4.out, HF5.out, HST2.out⟩, by show len - ((k : Int) + 1).toNat < len - (k : Int).toNat; omega⟩
      · have g0 : (er == 0) = false := by simpa using he0
        have HST2 := Lib.hid (show eachSt c x st 0 ls = (s4, er) by rw [HST.out, if_neg he0])
        clear he0
        go_wp2_with fail
        go_ret
        exact ⟨by rw [HST2.out]; rfl, HO4.out, F4, B4, by rw [HST2.out]; exact HD4.out.more (by omega), HF4.out, HB4.out, HF5.out⟩
    · have HKE := Lib.hid (show eachSt c x st 0 ls = (s, 0) by rw [heq.out, List.drop_of_length_le (by have := HLEN.out; omega)]; rfl)
      clear hds hos heq
      go_wp2_with fail
      go_ret
      exact ⟨by rw [HKE.out]; rfl, HOS.out, Fk, Bk, by rw [HKE.out]; exact HDS.out.more (by omega), hF1.out, hB1.out, hF2.out⟩
end Go.Proofs.Ytecdbfbaclgejaa
/- Walk of a record appended to a log. -/
namespace Go.Proofs.Ytecdbfbaclgejaa
open Go.RowKit

def appendOk (c : DConf) (x : LogSt) (b : List UInt8) : Bool :=
  decide (splitOf x.seq b ≠ []) && (decide (((splitOf x.seq b).length : Int) ≤ roomOf c x.head x.tail) && (placeB (x.tail + (splitOf x.seq b).length) && placeB (x.seq + 1)))
def appendSt (st : DiskSt) (c : DConf) (x : LogSt) (b : List UInt8) : DiskSt × LogSt × Int :=
  if appendOk c x b then
    (if (eachSt c x st 0 (splitOf x.seq b)).2 = 0 then ((eachSt c x st 0 (splitOf x.seq b)).1, { x with tail := x.tail + (splitOf x.seq b).length, seq := x.seq + 1 }, 0)
     else ((eachSt c x st 0 (splitOf x.seq b)).1, x, (eachSt c x st 0 (splitOf x.seq b)).2))
  else (st, x, 14)
/-- A log and its device, and what they are in. -/
structure WalAt (W : World) (L P : Nat) (A : Option Addr) (cap : Nat) (G F B : Nat → Prop) (n : Nat) (c : DConf) (st : DiskSt) (x : LogSt) : Prop where
  log : LogW W L P A cap G c x
  dev : DiskAt W P F B n st
  nf : ∀ b, b = L ∨ G b → ¬ F b
  nb : ¬ B L
def AppendPost (L P : Nat) (A : Option Addr) (cap : Nat) (G F B : Nat → Prop) (n : Nat) (W : World) (c : DConf) (r : DiskSt × LogSt × Int) (e : Ending) (W' : World) : Prop :=
  e = .returned (.int .i64 r.2.2) ∧ Only (fun b => F b ∨ b = L) W W' ∧ ∃ F' B' : Nat → Prop, WalAt W' L P A cap G F' B' n c r.1 r.2.1 ∧ (∀ b, F' b → F b ∨ W.heap.size ≤ b) ∧ (∀ b, B' b → B b ∨ W.heap.size ≤ b) ∧ (∀ b, F b → F' b)
theorem split_length {seq : Int} {b : List UInt8} : (splitOf seq b).length ≤ 1024 := by
  unfold splitOf; split
  · simp
  · rw [List.length_map, List.length_range]; omega

set_option maxRecDepth 100000 in
set_option maxHeartbeats 4000000 in
/-- (*wal.Log).Append -/
theorem wappend_calls {Q : Nat → Prop} {W : World} {L P : Nat} {A : Option Addr} {cap : Nat} {G : Nat → Prop} {c : DConf} {x : LogSt} {F B : Nat → Prop} {n : Nat} {st : DiskSt} {v : Value} {b : List UInt8}
    (h : WalAt W L P A cap G F B n c st x) (hn : n ≤ 900000000) (he : (Lit.int .i64 x.epoch).wf = true) (ht : 0 ≤ x.tail ∧ x.tail ≤ 281474976710656) (hs : 0 ≤ x.seq ∧ x.seq ≤ 281474976710656)
    (hx : Rep.byte.list.val Q W v b) (hl : b.length ≤ 10000000) :
    Calls Try.prog 76 #[.pointer (some ⟨L, 0, none⟩), v] W (AppendPost L P A cap G F B (n + 1024) W c (appendSt st c x b)) := by
  have HLW := Lib.hid h.log
  have HD := Lib.hid h.dev
  have HNF := Lib.hid h.nf
  have HNB := Lib.hid h.nb
  have HLT := Lib.hid h.log.lt
  have HFW := Lib.hid (show ∀ b, F b ∨ B b → b < W.heap.size by obtain ⟨_, _, _, _, hh⟩ := h.dev; exact hh.lt)
  have HN := Lib.hid hn
  have HE := Lib.hid he
  have HT := Lib.hid ht
  have HSQ := Lib.hid hs
  have HV := Lib.hid hx
  have HSW := Lib.hid (show (Lit.int .i64 x.seq).wf = true from wf_i64 (by omega) (by omega))
  have e9 := h.log.cells.c9
  have HSAME := Lib.hid (show ∀ W', Below W.heap.size W W' → ∃ F' B' : Nat → Prop, WalAt W' L P A cap G F' B' (n + 1024) c st x ∧ (∀ b, F' b → F b ∨ W.heap.size ≤ b) ∧ (∀ b, B' b → B b ∨ W.heap.size ≤ b) ∧ (∀ b, F b → F' b) from fun W' hb => ⟨F, B, ⟨h.log.below hb, (h.dev.below hb).more (by omega), h.nf, h.nb⟩, fun b hb => .inl hb, fun b hb => .inl hb, fun b hb => hb⟩)
  clear h hn he hx
  have HA := Lib.hid (show appendSt st c x b = if appendOk c x b then (if (eachSt c x st 0 (splitOf x.seq b)).2 = 0 then ((eachSt c x st 0 (splitOf x.seq b)).1, { x with tail := x.tail + (splitOf x.seq b).length, seq := x.seq + 1 }, 0) else ((eachSt c x st 0 (splitOf x.seq b)).1, x, (eachSt c x st 0 (splitOf x.seq b)).2)) else (st, x, 14) from rfl)
  have HOK := Lib.hid (show appendOk c x b = (decide (splitOf x.seq b ≠ []) && (decide (((splitOf x.seq b).length : Int) ≤ roomOf c x.head x.tail) && (placeB (x.tail + (splitOf x.seq b).length) && placeB (x.seq + 1)))) from rfl)
  have hlen0 : (splitOf x.seq b).length ≤ 1024 := split_length
  have HSP := Lib.hid (show ∀ w' v', Below W.heap.size W w' → Rep.byte.list.val Q W v' b → Calls Try.prog 138 #[.int .i64 x.seq, v'] w' (Res Rep.byte.list.list (fun b => w'.heap.size ≤ b) w' (splitOf x.seq b)) from fun w' v' hb hv => split_calls (Rep.val_below hv hb (fun _ _ hl => hl.lt)) HSW.out hl)
  generalize hls : splitOf x.seq b = ls at *
  clear hls
  generalize hlen : ls.length = len at *
  have HLEN := Lib.hid hlen
  obtain ⟨rm, hrm⟩ : ∃ rm, roomOf c x.head x.tail = rm := ⟨_, rfl⟩
  have HRM := Lib.hid hrm
  obtain ⟨p1, hp1⟩ : ∃ p, placeB (x.tail + len) = p := ⟨_, rfl⟩
  have HP1 := Lib.hid hp1
  obtain ⟨p2, hp2⟩ : ∃ p, placeB (x.seq + 1) = p := ⟨_, rfl⟩
  have HP2 := Lib.hid hp2
  rw [hrm, hp1, hp2] at HOK
  have i1 : IntKind.i64.wrap (x.tail + len) = x.tail + len := IntWalk.i64_in _ ⟨by omega, by omega⟩
  have i2 : IntKind.i64.wrap (x.seq + 1) = x.seq + 1 := IntWalk.i64_in _ ⟨by omega, by omega⟩
  obtain ⟨ep, hh, tl, sq⟩ := x
  dsimp only at *
  clear hlen hrm hp1 hp2
  by_cases h0 : len = 0
  · have HF := Lib.hid (show appendSt st c ⟨ep, hh, tl, sq⟩ b = (st, ⟨ep, hh, tl, sq⟩, 14) by rw [HA.out, HOK.out, if_neg]; rw [List.eq_nil_of_length_eq_zero (HLEN.out.trans h0)]; simp)
    subst h0
    go_enter Try.func76, Try.ntmps76
    go_wp2_with fail
    refine (HSP.out _ _ (Below.refl _ _) HV.out).mono ?_
    rintro e w2 ⟨u, rfl, hu, hb2⟩
    have B2 := Lib.hid hb2
    have HU := Lib.hid hu
    obtain ⟨A2, c2, hu2, hc2, hm2, _⟩ := Rep.val_list hu
    rw [HLEN.out] at hu2 hc2
    subst hu2
    unfold maxLen at hm2
    clear hb2 hu e9
    go_wp2_with fail
    go_ret
    exact ⟨by rw [HF.out]; rfl, Only.of_below B2.out, by rw [HF.out]; exact HSAME.out _ B2.out⟩
  · have HNE := Lib.hid (show decide (ls ≠ []) = true from decide_eq_true (fun e => h0 (by rw [← HLEN.out, e]; rfl)))
    have hpos : 0 < len := by omega
    by_cases h1 : rm < (len : Int)
    · have HF := Lib.hid (show appendSt st c ⟨ep, hh, tl, sq⟩ b = (st, ⟨ep, hh, tl, sq⟩, 14) by rw [HA.out, HOK.out, if_neg]; rw [decide_eq_false (show ¬ (len : Int) ≤ rm by omega)]; simp)
      go_enter Try.func76, Try.ntmps76
      go_wp2_with fail
      refine (HSP.out _ _ (Below.refl _ _) HV.out).mono ?_
      rintro e w2 ⟨u, rfl, hu, hb2⟩
      have B2 := Lib.hid hb2
      have HU := Lib.hid hu
      obtain ⟨A2, c2, hu2, hc2, hm2, _⟩ := Rep.val_list hu
      rw [HLEN.out] at hu2 hc2
      subst hu2
      unfold maxLen at hm2
      clear hb2 hu e9
      go_wp2_with fail
      refine (wroom_calls (HLW.out.below B2.out)).mono ?_
      rintro e w3 ⟨rfl, hb3⟩
      rw [HRM.out]
      have B3 := Lib.hid (B2.out.trans (hb3.mono B2.out.size))
      have BB3 := Lib.hid hb3
      have e8 := (HLW.out.below B3.out).cells.c8
      have e9 := (HLW.out.below B3.out).cells.c9
      clear hb3
      go_wp2_with fail
      go_ret
      exact ⟨by rw [HF.out]; rfl, Only.of_below B3.out, by rw [HF.out]; exact HSAME.out _ B3.out⟩
    · have h1' : decide ((len : Int) ≤ rm) = true := decide_eq_true (by omega)
      cases p1 with
      | false =>
        have HF := Lib.hid (show appendSt st c ⟨ep, hh, tl, sq⟩ b = (st, ⟨ep, hh, tl, sq⟩, 14) by rw [HA.out, HOK.out, if_neg]; simp)
        clear h1'
        go_enter Try.func76, Try.ntmps76
        go_wp2_with fail
        refine (HSP.out _ _ (Below.refl _ _) HV.out).mono ?_
        rintro e w2 ⟨u, rfl, hu, hb2⟩
        have B2 := Lib.hid hb2
        have HU := Lib.hid hu
        obtain ⟨A2, c2, hu2, hc2, hm2, _⟩ := Rep.val_list hu
        rw [HLEN.out] at hu2 hc2
        subst hu2
        unfold maxLen at hm2
        clear hb2 hu e9
        go_wp2_with fail
        refine (wroom_calls (HLW.out.below B2.out)).mono ?_
        rintro e w3 ⟨rfl, hb3⟩
        rw [HRM.out]
        have B3 := Lib.hid (B2.out.trans (hb3.mono B2.out.size))
        have BB3 := Lib.hid hb3
        have e8 := (HLW.out.below B3.out).cells.c8
        have e9 := (HLW.out.below B3.out).cells.c9
        clear hb3
        go_wp2_with fail
        refine (walPlace_calls (tl + len) _).mono ?_
        rintro e w4 ⟨rfl, hw⟩
        have hw4 := hw.symm
        subst hw4
        clear hw
        rw [HP1.out]
        go_wp2_with fail
        go_ret
        exact ⟨by rw [HF.out]; rfl, Only.of_below B3.out, by rw [HF.out]; exact HSAME.out _ B3.out⟩
      | true =>
        cases p2 with
        | false =>
          have HF := Lib.hid (show appendSt st c ⟨ep, hh, tl, sq⟩ b = (st, ⟨ep, hh, tl, sq⟩, 14) by rw [HA.out, HOK.out, if_neg]; simp)
          clear h1'
          go_enter Try.func76, Try.ntmps76
          go_wp2_with fail
          refine (HSP.out _ _ (Below.refl _ _) HV.out).mono ?_
          rintro e w2 ⟨u, rfl, hu, hb2⟩
          have B2 := Lib.hid hb2
          have HU := Lib.hid hu
          obtain ⟨A2, c2, hu2, hc2, hm2, _⟩ := Rep.val_list hu
          rw [HLEN.out] at hu2 hc2
          subst hu2
          unfold maxLen at hm2
          clear hb2 hu e9
          go_wp2_with fail
          refine (wroom_calls (HLW.out.below B2.out)).mono ?_
          rintro e w3 ⟨rfl, hb3⟩
          rw [HRM.out]
          have B3 := Lib.hid (B2.out.trans (hb3.mono B2.out.size))
          have BB3 := Lib.hid hb3
          have e8 := (HLW.out.below B3.out).cells.c8
          have e9 := (HLW.out.below B3.out).cells.c9
          clear hb3
          go_wp2_with fail
          refine (walPlace_calls (tl + len) _).mono ?_
          rintro e w4 ⟨rfl, hw⟩
          have hw4 := hw.symm
          subst hw4
          clear hw
          rw [HP1.out]
          go_wp2_with fail
          refine (walPlace_calls (sq + 1) _).mono ?_
          rintro e w5 ⟨rfl, hw⟩
          have hw5 := hw.symm
          subst hw5
          clear hw
          rw [HP2.out]
          go_wp2_with fail
          go_ret
          exact ⟨by rw [HF.out]; rfl, Only.of_below B3.out, by rw [HF.out]; exact HSAME.out _ B3.out⟩
        | true =>
          have HF := Lib.hid (HA.out.trans (if_pos (by rw [HOK.out, HNE.out, h1']; rfl)))
          have HL1024 := Lib.hid hlen0
          have q0 : ((len : Int) == 0) = false := beq_eq_false_iff_ne.2 (by omega)
          have q1 : decide (rm < (len : Int)) = false := decide_eq_false h1
          clear h1'
          go_enter Try.func76, Try.ntmps76
          go_wp2_with fail
          refine (HSP.out _ _ (Below.refl _ _) HV.out).mono ?_
          rintro e w2 ⟨u, rfl, hu, hb2⟩
          have B2 := Lib.hid hb2
          have HU := Lib.hid hu
          obtain ⟨A2, c2, hu2, hc2, hm2, _⟩ := Rep.val_list hu
          rw [HLEN.out] at hu2 hc2
          subst hu2
          unfold maxLen at hm2
          clear hb2 hu e9
          go_wp2_with fail
          refine (wroom_calls (HLW.out.below B2.out)).mono ?_
          rintro e w3 ⟨rfl, hb3⟩
          rw [HRM.out]
          have B3 := Lib.hid (B2.out.trans (hb3.mono B2.out.size))
          have BB3 := Lib.hid hb3
          have e8 := (HLW.out.below B3.out).cells.c8
          have e9 := (HLW.out.below B3.out).cells.c9
          clear hb3
          go_wp2_with fail
          refine (walPlace_calls (tl + len) _).mono ?_
          rintro e w4 ⟨rfl, hw⟩
          have hw4 := hw.symm
          subst hw4
          clear hw
          rw [HP1.out]
          go_wp2_with fail
          refine (walPlace_calls (sq + 1) _).mono ?_
          rintro e w5 ⟨rfl, hw⟩
          have hw5 := hw.symm
          subst hw5
          clear hw
          rw [HP2.out]
          go_wp2_with fail
          refine (weach_calls (HLW.out.below B3.out) (HD.out.below B3.out) HN.out (by rw [HLEN.out]; exact HL1024.out) HNF.out HE.out (by have := HT.out; dsimp only; omega) (Q := fun b => W.heap.size ≤ b) (Rep.val_mono (fun b hb _ => hb) (Rep.val_below HU.out BB3.out (fun _ _ hl => hl.lt))) (fun b hb hf => by have := HFW.out b (.inl hf); omega)).mono ?_
          rintro e w6 ⟨rfl, ho6, F6, B6, hd6, hF6, hB6, hF7⟩
          generalize eachSt c ⟨ep, hh, tl, sq⟩ st 0 ls = r at *
          obtain ⟨s6, er⟩ := r
          dsimp only at *
          have HO6 := Lib.hid ((Only.of_below (F := F) B3.out).trans ho6)
          have HL6 := Lib.hid (HLW.out.only HO6.out HNF.out)
          have hs3 := B3.out.size
          have HF6 := Lib.hid (show ∀ b, F6 b → F b ∨ W.heap.size ≤ b from fun b hb => (hF6 b hb).imp id fun e => by omega)
          have HB6 := Lib.hid (show ∀ b, B6 b → B b ∨ W.heap.size ≤ b from fun b hb => (hB6 b hb).imp id fun e => by omega)
          have HD6 := Lib.hid (show DiskAt w6 P F6 B6 (n + 1024) s6 from hd6.more (by have := HL1024.out; have := HLEN.out; omega))
          have HF7 := Lib.hid hF7
          have HNF6 := Lib.hid (show ∀ b, b = L ∨ G b → ¬ F6 b from fun b hb hf => (HF6.out b hf).elim (HNF.out b hb) (fun e => by have := HLT.out b hb; omega))
          have HNB6 := Lib.hid (show ¬ B6 L from fun hb => (HB6.out L hb).elim HNB.out (fun e => by have := HLT.out L (.inl rfl); omega))
          have e8 := HL6.out.cells.c8
          have e9 := HL6.out.cells.c9
          have z8 := frozen_row HL6.out.blk 8
          have z9 := frozen_row HL6.out.blk 9
          clear ho6 hd6 hF6 hB6 hF7
          by_cases he0 : er = 0
          · subst he0
            have HF2 := Lib.hid (HF.out.trans (if_pos rfl))
            go_wp2_with fail
            go_ret
            refine ⟨by rw [HF2.out]; rfl, ?_, F6, B6, ?_, HF6.out, HB6.out, HF7.out⟩
            · exact ((HO6.out.sub (fun b hb => .inl hb)).trans (Only.set (.inr rfl))).trans (Only.set (.inr rfl))
            · rw [HF2.out]
              dsimp only
              have hbl : ∀ (b : Nat) u1 u2, b ≠ L → ((w6.setCell ⟨L, 8, none⟩ u1).setCell ⟨L, 9, none⟩ u2).heap[b]? = w6.heap[b]? := fun b u1 u2 hb => by rw [Below.heap_setCell _ _ _ _ hb, Below.heap_setCell _ _ _ _ hb]
              refine ⟨⟨heap_setRow (heap_setRow HL6.out.blk), Rep.val_keep (fun b hb _ => ⟨hb, hbl b _ _ (fun e => HL6.out.ne (e ▸ hb))⟩) HL6.out.conf, fun b hb => by have := HL6.out.lt b hb; simpa using this, HL6.out.ne⟩, HD6.out.keep (by simp) (fun b hb => hbl b _ _ (fun e => ?_)), HNF6.out, HNB6.out⟩
              rcases hb with hb | hb
              · exact HNF6.out L (.inl rfl) (e ▸ hb)
              · exact HNB6.out (e ▸ hb)
          · have g0 : (er == 0) = false := by simpa using he0
            have HF2 := Lib.hid (HF.out.trans (if_neg he0))
            clear he0
            go_wp2_with fail
            go_ret
            exact ⟨by rw [HF2.out]; rfl, HO6.out.sub (fun b hb => .inl hb), F6, B6, by rw [HF2.out]; exact ⟨HL6.out, HD6.out, HNF6.out, HNB6.out⟩, HF6.out, HB6.out, HF7.out⟩
end Go.Proofs.Ytecdbfbaclgejaa
/- The page's example of a log: the plain law. -/
namespace Go.Proofs.Ytecdbfbaclgejaa
open Go.RowKit

def exConf : DConf := ⟨4, 4, 1, 1, []⟩
def ex1000 : List UInt8 := List.replicate 1000 0
def exSt : DiskSt := newSt (List.replicate 10 (zeros 512))
theorem exConf_right : confRight exConf = true := by decide +kernel
theorem ex_right : rightLog exSt exConf ⟨1, 0, 0, 0⟩ = true := by decide +kernel
/-- The power does not fail. -/
def Calm (s : DiskSt) (k : Nat) : Prop := s.off = false ∧ s.fuse = -1 ∧ s.safe.length = k
theorem atSt_calm {s : DiskSt} {k : Nat} {i : Int} (h : Calm s k) (h0 : 0 ≤ i) (h1 : i < k) : atSt s i = (s, 0) := by
  obtain ⟨g1, g2, g3⟩ := h
  unfold atSt
  rw [if_neg (by omega)]
  unfold burnSt
  rw [g1, g2]; rfl
theorem pieceSt_calm {s : DiskSt} {c : DConf} {x : LogSt} {i : Int} {p : List UInt8} {k : Nat} (h : Calm s k) (hr : confRight c = true) (hk : c.log + 2 ≤ k) (hp : placeB (x.tail + i) = true) : (pieceSt s c x i p).2 = 0 ∧ Calm (pieceSt s c x i p).1 k := by
  have hf := (right_facts hr).1
  obtain ⟨g1, g2, _⟩ := hf
  have m1 : 0 ≤ (x.tail + i) % c.log := Int.emod_nonneg _ (by omega)
  have m2 : (x.tail + i) % c.log < c.log := Int.emod_lt_of_pos _ (by omega)
  have hl : logOf c (x.tail + i) = 2 + (x.tail + i) % c.log := by unfold logOf; rw [hr, hp]; rfl
  unfold pieceSt writeSt
  rw [atSt_calm h (by omega) (by omega)]
  exact ⟨rfl, h⟩
theorem eachSt_calm {c : DConf} {x : LogSt} {k : Nat} (hr : confRight c = true) (hk : c.log + 2 ≤ k) : ∀ {ls : List (List UInt8)} {s : DiskSt} {j : Nat} (_ : Calm s k) (_ : ∀ i : Nat, i < j + ls.length → placeB (x.tail + i) = true), (eachSt c x s j ls).2 = 0 ∧ Calm (eachSt c x s j ls).1 k
  | [], s, j, h, _ => ⟨rfl, h⟩
  | p :: ps, s, j, h, hp => by
    have h1 := pieceSt_calm (i := (j : Int)) (p := p) h hr hk (hp j (by simp))
    unfold eachSt
    rw [if_pos h1.1]
    exact eachSt_calm hr hk h1.2 (fun i hi => hp i (by simp only [List.length_cons]; omega))
theorem ex_split (seq : Int) : (splitOf seq ex1000).length = 3 := by
  have h : needOf (ex1000.length : Int) = 3 := by unfold ex1000; rw [List.length_replicate]; rfl
  unfold splitOf
  rw [h, if_neg (by decide), List.length_map, List.length_range]; rfl
theorem ex_first : (appendSt exSt exConf ⟨1, 0, 0, 0⟩ ex1000).2 = (⟨1, 0, 3, 1⟩, 0) := by
  have hok : appendOk exConf ⟨1, 0, 0, 0⟩ ex1000 = true := by
    unfold appendOk
    dsimp only
    have hne : splitOf 0 ex1000 ≠ [] := fun e => by have := ex_split 0; rw [e] at this; cases this
    rw [ex_split, decide_eq_true hne]; decide +kernel
  have hc : Calm exSt 10 := ⟨rfl, rfl, by unfold exSt newSt; rw [List.length_replicate]⟩
  have he := eachSt_calm (x := ⟨1, 0, 0, 0⟩) (k := 10) exConf_right (by decide) (ls := splitOf 0 ex1000) (j := 0) hc (fun i hi => by
    rw [ex_split] at hi
    unfold placeB
    rw [decide_eq_true (by dsimp only; omega), decide_eq_true (by dsimp only; omega)]; rfl)
  unfold appendSt
  rw [if_pos hok, if_pos he.1, ex_split]; rfl
theorem ex_second (st : DiskSt) : appendSt st exConf ⟨1, 0, 3, 1⟩ ex1000 = (st, ⟨1, 0, 3, 1⟩, 14) := by
  have hok : appendOk exConf ⟨1, 0, 3, 1⟩ ex1000 = false := by
    unfold appendOk
    dsimp only
    rw [ex_split, decide_eq_false (show ¬ ((3 : Nat) : Int) ≤ roomOf exConf 0 3 by decide +kernel)]
    simp
  unfold appendSt
  rw [hok]; rfl
theorem ex_room : roomOf exConf 0 3 = 1 := by decide +kernel
end Go.Proofs.Ytecdbfbaclgejaa
/- Walk of the page's example of a log. -/
namespace Go.Proofs.Ytecdbfbaclgejaa
open Go.RowKit

def FirstPost (L P : Nat) (A : Option Addr) (cap : Nat) (G F : Nat → Prop) (n : Nat) (W : World) (k : Int) (e : Ending) (W' : World) : Prop :=
  e = .returned (.int .i64 k) ∧ Only (fun b => F b ∨ b = L) W W' ∧ ∃ (F' B' : Nat → Prop) (s : DiskSt), WalAt W' L P A cap G F' B' n exConf s ⟨1, 0, 3, 1⟩ ∧ (∀ b, F' b → F b ∨ W.heap.size ≤ b)
theorem live_first {Q : Nat → Prop} {W : World} {L P : Nat} {A : Option Addr} {cap : Nat} {G F B : Nat → Prop} {n : Nat} {v : Value} (h : WalAt W L P A cap G F B n exConf exSt ⟨1, 0, 0, 0⟩) (hn : n ≤ 900000000) (hx : Rep.byte.list.val Q W v ex1000) :
    Calls Try.prog 76 #[.pointer (some ⟨L, 0, none⟩), v] W (FirstPost L P A cap G F (n + 1024) W 0) := by
  refine (wappend_calls h hn rfl (by decide) (by decide) hx (by decide +kernel)).mono ?_
  rintro e w' ⟨rfl, ho, F', B', hw, hF, _, _⟩
  rw [ex_first] at hw
  exact ⟨by rw [ex_first], ho, F', B', _, hw, hF⟩
theorem live_second {Q : Nat → Prop} {W : World} {L P : Nat} {A : Option Addr} {cap : Nat} {G F B : Nat → Prop} {n : Nat} {v : Value} {s : DiskSt} (h : WalAt W L P A cap G F B n exConf s ⟨1, 0, 3, 1⟩) (hn : n ≤ 900000000) (hx : Rep.byte.list.val Q W v ex1000) :
    Calls Try.prog 76 #[.pointer (some ⟨L, 0, none⟩), v] W (FirstPost L P A cap G F (n + 1024) W 14) := by
  refine (wappend_calls h hn rfl (by decide) (by decide) hx (by decide +kernel)).mono ?_
  rintro e w' ⟨rfl, ho, F', B', hw, hF, _, _⟩
  rw [ex_second] at hw
  exact ⟨by rw [ex_second], ho, F', B', _, hw, hF⟩
theorem WalAt.below {W W' : World} {L P : Nat} {A : Option Addr} {cap : Nat} {G F B : Nat → Prop} {n : Nat} {c : DConf} {st : DiskSt} {x : LogSt} (h : WalAt W L P A cap G F B n c st x) (hb : Below W.heap.size W W') : WalAt W' L P A cap G F B n c st x := ⟨h.log.below hb, h.dev.below hb, h.nf, h.nb⟩
theorem new_ten {xs : List (List UInt8 × Nat)} (hl : xs.length = newN 10) (hz : ∀ x ∈ xs, x.1 = zeros 512) : newSt (xs.map (·.1)) = exSt := by
  unfold exSt
  congr 1
  have h10 : xs.length = 10 := hl
  rw [List.eq_replicate_iff]
  exact ⟨by rw [List.length_map, h10], fun b hb => by obtain ⟨x, hx, rfl⟩ := List.mem_map.1 hb; exact hz x hx⟩
theorem code19 (k : Int) (w : World) : Calls Try.prog 74 #[.int .i64 k] w fun e w' => e = .returned (.int .i64 k) ∧ w' = w := by
  go_enter Try.func74, Try.ntmps74
  go_wp2_with fail
  go_ret
  exact ⟨rfl, rfl⟩

set_option maxRecDepth 100000 in
set_option maxHeartbeats 4000000 in
/-- live -/
theorem live19_calls (w : World) : Calls Try.prog 69 #[] w fun e w' => e = .returned (.bool true) ∧ Below w.heap.size w w' := by
  have hmk : ∀ w, (Instr.makeSlice 22 (.int .i64 1000) (.int .i64 1000)).run Try.prog w = .ok (.slice (some ⟨w.heap.size, 0, none⟩) 1000 1000) (w.alloc (.cells (zeroBytes 1000) 5)) :=
    fun w => run_make_bytes Try.underlying22 info5 1000 (by omega) w
  have HMB := Lib.hid (show ∀ w : World, Rep.byte.list.val (fun b => w.heap.size ≤ b) (w.alloc (.cells (zeroBytes 1000) 5)) (.slice (some ⟨w.heap.size, 0, none⟩) 1000 1000) ex1000 from fun w => Rep.made_bytes w 1000 (by simp [maxLen]))
  generalize zeroBytes 1000 = Z at *
  have hb0 := heap_alloc_new w (.cells #[.int .i64 4, .int .i64 4, .int .i64 1, .int .i64 1, .slice none 0 0] 88)
  have hbel0 : Below w.heap.size w (w.alloc (.cells #[.int .i64 4, .int .i64 4, .int .i64 1, .int .i64 1, .slice none 0 0] 88)) := (Below.refl _ _).alloc (Nat.le_refl _) _
  have hsz0 : (w.alloc (.cells #[.int .i64 4, .int .i64 4, .int .i64 1, .int .i64 1, .slice none 0 0] 88)).heap.size = w.heap.size + 1 := by simp
  have HS0 := Lib.hid hsz0
  have KS := Lib.hid (show ∀ W', Below (w.heap.size + 1) (w.alloc (.cells #[.int .i64 4, .int .i64 4, .int .i64 1, .int .i64 1, .slice none 0 0] 88)) W' → W'.cell? ⟨w.heap.size, 0, none⟩ = some (.int .i64 4) ∧ W'.cell? ⟨w.heap.size, 1, none⟩ = some (.int .i64 4) ∧ W'.cell? ⟨w.heap.size, 2, none⟩ = some (.int .i64 1) ∧ W'.cell? ⟨w.heap.size, 3, none⟩ = some (.int .i64 1) ∧ W'.cell? ⟨w.heap.size, 4, none⟩ = some (.slice none 0 0) from fun W' hb => by
    have h2 := (hb.block w.heap.size (Nat.lt_succ_self _)).trans hb0
    exact ⟨cell_row h2 0, cell_row h2 1, cell_row h2 2, cell_row h2 3, cell_row h2 4⟩)
  have HC := Lib.hid (show ∀ W' : World, rConf.val (fun _ => False) W' (.agg #[.int .i64 4, .int .i64 4, .int .i64 1, .int .i64 1, .slice none 0 0]) exConf from fun W' => rConf_agg (x := exConf) rfl rfl rfl rfl ⟨Nat.zero_le _, by simp [maxLen], ⟨[], rfl, fun h => absurd h (by simp [exConf])⟩⟩)
  have HB0 := Lib.hid hbel0
  clear hb0 hsz0 hbel0
  go_enter Try.func69, Try.ntmps69
  go_wp2_with fail
  generalize w.alloc (.cells #[.int .i64 4, .int .i64 4, .int .i64 1, .int .i64 1, .slice none 0 0] 88) = W1 at *
  have D1 := Lib.hid (show Below (w.heap.size + 1) W1 W1.drew from (Below.refl _ _).drew)
  obtain ⟨s0, s1, s2, s3, s4⟩ := KS.out _ D1.out
  go_region_held3 (fun W' => W'.cell? ⟨w.heap.size, 0, none⟩ = some (.int .i64 4) ∧ W'.cell? ⟨w.heap.size, 1, none⟩ = some (.int .i64 4) ∧ W'.cell? ⟨w.heap.size, 2, none⟩ = some (.int .i64 1) ∧ W'.cell? ⟨w.heap.size, 3, none⟩ = some (.int .i64 1) ∧ W'.cell? ⟨w.heap.size, 4, none⟩ = some (.slice none 0 0))
    (first
      | exact KS.out _ D1.out
      | exact KS.out _ D2.out
      | exact KS.out _ D3.out)
    (first
      | (go_at_call 90; refine (dnew_calls (n := 10) (by decide) (by decide) _).mono ?_; rintro e w2 ⟨P, M, Sf, cs, xs, rfl, hnew, hz⟩; have D2 := Lib.hid (D1.out.trans (hnew.bel.mono (show w.heap.size + 1 ≤ W1.drew.heap.size from Nat.le_of_eq HS0.out.symm))); have HD2 := Lib.hid hnew.disk; have HGE := Lib.hid hnew.old; have HST := Lib.hid (new_ten hnew.len hz); rw [HST.out] at HD2; clear hnew hz HST)
      | (go_at_call 83; refine (wnew_calls (x := ⟨1, 0, 0, 0⟩) HD2.out (HC.out _) (fun _ h _ => h)).mono ?_; rintro e w3 ⟨hb3, hcase⟩; obtain ⟨L, A, cap, G, rfl, hlog, hge⟩ := (hcase.resolve_left (fun h => Bool.noConfusion (ex_right.symm.trans h.1))).2; have D3 := Lib.hid (D2.out.trans (hb3.mono (Nat.le_trans (Nat.le_of_eq HS0.out.symm) D2.out.size))); have HW3 := Lib.hid (WalAt.mk hlog (HD2.out.below hb3) (fun b hb hf => by have h1 := hge b hb; obtain ⟨_, _, _, _, hh⟩ := HD2.out; have := hh.lt b (.inl hf); omega) (fun hb => by have h1 := hge L (.inl rfl); obtain ⟨_, _, _, _, hh⟩ := HD2.out; have := hh.lt L (.inr hb); omega)); have HGL := Lib.hid (show ∀ b, b = L ∨ G b → w.heap.size ≤ b from fun b hb => Nat.le_trans (Nat.le_trans (Nat.le_of_lt (Nat.lt_succ_self _)) (Nat.le_trans (Nat.le_of_eq HS0.out.symm) D2.out.size)) (hge b hb)); clear hb3 hcase hlog hge))
  obtain ⟨F, B, hw3, hF3⟩ : ∃ F B : Nat → Prop, WalAt w3 L P A cap G F B 0 exConf exSt ⟨1, 0, 0, 0⟩ ∧ (∀ b, F b → w.heap.size ≤ b) := ⟨_, _, HW3.out, fun b hb => by have := HGE.out b (.inl hb); have h2 : W1.drew.heap.size = W1.heap.size := rfl; have := HS0.out; omega⟩
  have HFG := Lib.hid hF3
  have HWAL := Lib.hid (fun W' (hb : Below w3.heap.size w3 W') => hw3.below hb)
  have HBW := Lib.hid (show Below w.heap.size w w3 from HB0.out.trans (D3.out.mono (Nat.le_succ _)))
  have HFL := Lib.hid (show ∀ b, F b ∨ b = L → b < w3.heap.size from fun b hb => by
    obtain ⟨_, _, _, _, hh⟩ := hw3.dev
    rcases hb with hb | rfl
    · exact hh.lt b (.inl hb)
    · exact hw3.log.lt b (.inl rfl))
  have HLG := Lib.hid (HGL.out L (.inl rfl))
  clear hw3 hF3 s0 s1 s2 s3 s4 HD2 HGE HW3 HGL
  go_wp2_with fail
  refine wp_region_any (by kernel_rfl) ?_
  try (change wpAny _ _ _ _ _ _ _ (World.drew _))
  refine wpAny_take (i := 0) (v := .pointer (some ⟨L, 0, none⟩)) rfl (by kernel_rfl) (by kernel_rfl) (by kernel_rfl) (fun _ _ _ h => h) (Or.inl ⟨by rfl, fun w' => by go_simp⟩) ?_
  go_simp
  refine wpAny_take (i := 3) (v := .pointer (some ⟨L, 0, none⟩)) rfl (by kernel_rfl) (by kernel_rfl) (by kernel_rfl) (fun _ _ _ h => h) (Or.inl ⟨by rfl, fun w' => by go_simp⟩) ?_
  go_simp
  refine any_step [1, 4] (by kernel_rfl) (by simp) ?_
  intro j hj
  rcases (by simpa using hj : j = 1 ∨ j = 4) with rfl | rfl
  · refine wpOp_step rfl (fun K hK => ?_)
    go_simp
    refine hK _ _ ?_
    clear hK K
    have Nwm := Lib.hid (show Below w3.heap.size w3 ((w3.alloc (.cells Z 5)).drew) from ((Below.refl _ _).alloc (Nat.le_refl _) _).drew)
    have Vwm := Lib.hid (show Rep.byte.list.val (fun b => w3.heap.size ≤ b) ((w3.alloc (.cells Z 5)).drew) (.slice (some ⟨w3.heap.size, 0, none⟩) 1000 1000) ex1000 from Rep.val_drewN (HMB.out w3) 1)
    generalize (w3.alloc (.cells Z 5)).drew = wm at *
    refine any_step [2, 4] (by kernel_rfl) (by simp) ?_
    intro j hj
    rcases (by simpa using hj : j = 2 ∨ j = 4) with rfl | rfl
    · refine wpOp_step rfl (fun K hK => ?_)
      go_simp
      have HWc := Lib.hid (HWAL.out wm Nwm.out)
      refine (live_first HWc.out (by decide) Vwm.out).mono ?_
      rintro e wa ⟨rfl, howa, F1, B1, st1, hwwa, hFwa⟩
      have Owa := Lib.hid howa
      have Wwa := Lib.hid hwwa
      have Gwa := Lib.hid (show ∀ b, F1 b → w.heap.size ≤ b from fun b hb => (hFwa b hb).elim (HFG.out b) (fun e => Nat.le_trans HBW.out.size (Nat.le_trans (Nwm.out).size e)))
      have Bwa := Lib.hid (show Below w.heap.size w wa from (HBW.out.trans ((Nwm.out).mono HBW.out.size)).trans (howa.below (Nat.le_trans HBW.out.size (Nwm.out).size) (fun b hb => hb.elim (HFG.out b) (fun e => by rw [e]; exact HLG.out))))
      clear howa hwwa hFwa
      refine hK _ _ ?_
      clear hK K
      refine any_step [4] (by kernel_rfl) (by simp) ?_
      intro j hj
      obtain rfl : j = 4 := by simpa using hj
      refine wpOp_step rfl (fun K hK => ?_)
      go_simp
      refine hK _ _ ?_
      clear hK K
      have Nwn := Lib.hid (show Below wa.heap.size wa (wa.alloc (.cells Z 5)) from ((Below.refl _ _).alloc (Nat.le_refl _) _))
      have Vwn := Lib.hid (show Rep.byte.list.val (fun b => wa.heap.size ≤ b) (wa.alloc (.cells Z 5)) (.slice (some ⟨wa.heap.size, 0, none⟩) 1000 1000) ex1000 from HMB.out wa)
      generalize wa.alloc (.cells Z 5) = wn at *
      refine any_step [5] (by kernel_rfl) (by simp) ?_
      intro j hj
      obtain rfl : j = 5 := by simpa using hj
      refine wpOp_step rfl (fun K hK => ?_)
      go_simp
      refine (live_second (Wwa.out.below Nwn.out) (by decide) Vwn.out).mono ?_
      rintro e wz ⟨rfl, hoz, Fz, Bz, stz, hwz, hFz⟩
      have BZ := Lib.hid (show Below w.heap.size w wz from ((Bwa.out.trans (Nwn.out.mono Bwa.out.size))).trans (hoz.below ((Bwa.out.trans (Nwn.out.mono Bwa.out.size))).size (fun b hb => hb.elim (Gwa.out b) (fun e => by rw [e]; exact HLG.out))))
      have WZ := Lib.hid hwz
      clear hoz hwz hFz
      refine hK _ _ ?_
      clear hK K
      refine wpAny_take (i := 6) (v := .int .i64 0) rfl (by kernel_rfl) (by kernel_rfl) (by kernel_rfl) (fun _ _ _ h => h) (Or.inl ⟨by rfl, fun w' => by go_simp⟩) ?_
      go_simp
      refine wpAny_take (i := 7) (v := .int .i64 14) rfl (by kernel_rfl) (by kernel_rfl) (by kernel_rfl) (fun _ _ _ h => h) (Or.inl ⟨by rfl, fun w' => by go_simp⟩) ?_
      go_simp
      refine wpAny_done (by kernel_rfl) ?_ _
      go_wp2_with fail
      refine (code19 0 _).mono ?_
      rintro e w8 ⟨rfl, hw8⟩
      have hw9 := hw8.symm
      subst hw9
      clear hw8
      go_wp2_with fail
      refine (code19 14 _).mono ?_
      rintro e w8 ⟨rfl, hw8⟩
      have hw9 := hw8.symm
      subst hw9
      clear hw8
      go_wp2_with fail
      refine (wroom_calls WZ.out.log).mono ?_
      rintro e w8 ⟨rfl, hb8⟩
      rw [show roomOf exConf (LogSt.head ⟨1, 0, 3, 1⟩) (LogSt.tail ⟨1, 0, 3, 1⟩) = 1 from ex_room]
      have B8 := Lib.hid (BZ.out.trans (hb8.mono BZ.out.size))
      have L8 := Lib.hid (WZ.out.log.below hb8)
      clear hb8
      go_wp2_with fail
      refine (wseq_calls L8.out).mono ?_
      rintro e w9 ⟨rfl, hb9⟩
      have B9 := Lib.hid (B8.out.trans (hb9.mono B8.out.size))
      clear hb9
      dsimp only
      go_wp2_with fail
      go_ret
      exact ⟨rfl, B9.out⟩
    · refine wpOp_step rfl (fun K hK => ?_)
      go_simp
      refine hK _ _ ?_
      clear hK K
      have Nwn := Lib.hid (show Below wm.heap.size wm (wm.alloc (.cells Z 5)) from ((Below.refl _ _).alloc (Nat.le_refl _) _))
      have Vwn := Lib.hid (show Rep.byte.list.val (fun b => wm.heap.size ≤ b) (wm.alloc (.cells Z 5)) (.slice (some ⟨wm.heap.size, 0, none⟩) 1000 1000) ex1000 from HMB.out wm)
      generalize wm.alloc (.cells Z 5) = wn at *
      refine any_step [2] (by kernel_rfl) (by simp) ?_
      intro j hj
      obtain rfl : j = 2 := by simpa using hj
      refine wpOp_step rfl (fun K hK => ?_)
      go_simp
      have HWc := Lib.hid (HWAL.out wn (Nwm.out.trans (Nwn.out.mono Nwm.out.size)))
      refine (live_first HWc.out (by decide) (Rep.val_below Vwm.out Nwn.out (fun _ _ hl => hl.lt))).mono ?_
      rintro e wa ⟨rfl, howa, F1, B1, st1, hwwa, hFwa⟩
      have Owa := Lib.hid howa
      have Wwa := Lib.hid hwwa
      have Gwa := Lib.hid (show ∀ b, F1 b → w.heap.size ≤ b from fun b hb => (hFwa b hb).elim (HFG.out b) (fun e => Nat.le_trans HBW.out.size (Nat.le_trans ((Nwm.out.trans (Nwn.out.mono Nwm.out.size))).size e)))
      have Bwa := Lib.hid (show Below w.heap.size w wa from (HBW.out.trans (((Nwm.out.trans (Nwn.out.mono Nwm.out.size))).mono HBW.out.size)).trans (howa.below (Nat.le_trans HBW.out.size ((Nwm.out.trans (Nwn.out.mono Nwm.out.size))).size) (fun b hb => hb.elim (HFG.out b) (fun e => by rw [e]; exact HLG.out))))
      clear howa hwwa hFwa
      refine hK _ _ ?_
      clear hK K
      refine any_step [5] (by kernel_rfl) (by simp) ?_
      intro j hj
      obtain rfl : j = 5 := by simpa using hj
      refine wpOp_step rfl (fun K hK => ?_)
      go_simp
      refine (live_second Wwa.out (by decide) (Rep.val_keep (fun b hb hl => ⟨hb, Owa.out.block b hl.lt (fun hf => by have := HFL.out b hf; have := Nwm.out.size; have hb2 : wm.heap.size ≤ b := hb; omega)⟩) Vwn.out)).mono ?_
      rintro e wz ⟨rfl, hoz, Fz, Bz, stz, hwz, hFz⟩
      have BZ := Lib.hid (show Below w.heap.size w wz from (Bwa.out).trans (hoz.below (Bwa.out).size (fun b hb => hb.elim (Gwa.out b) (fun e => by rw [e]; exact HLG.out))))
      have WZ := Lib.hid hwz
      clear hoz hwz hFz
      refine hK _ _ ?_
      clear hK K
      refine wpAny_take (i := 6) (v := .int .i64 0) rfl (by kernel_rfl) (by kernel_rfl) (by kernel_rfl) (fun _ _ _ h => h) (Or.inl ⟨by rfl, fun w' => by go_simp⟩) ?_
      go_simp
      refine wpAny_take (i := 7) (v := .int .i64 14) rfl (by kernel_rfl) (by kernel_rfl) (by kernel_rfl) (fun _ _ _ h => h) (Or.inl ⟨by rfl, fun w' => by go_simp⟩) ?_
      go_simp
      refine wpAny_done (by kernel_rfl) ?_ _
      go_wp2_with fail
      refine (code19 0 _).mono ?_
      rintro e w8 ⟨rfl, hw8⟩
      have hw9 := hw8.symm
      subst hw9
      clear hw8
      go_wp2_with fail
      refine (code19 14 _).mono ?_
      rintro e w8 ⟨rfl, hw8⟩
      have hw9 := hw8.symm
      subst hw9
      clear hw8
      go_wp2_with fail
      refine (wroom_calls WZ.out.log).mono ?_
      rintro e w8 ⟨rfl, hb8⟩
      rw [show roomOf exConf (LogSt.head ⟨1, 0, 3, 1⟩) (LogSt.tail ⟨1, 0, 3, 1⟩) = 1 from ex_room]
      have B8 := Lib.hid (BZ.out.trans (hb8.mono BZ.out.size))
      have L8 := Lib.hid (WZ.out.log.below hb8)
      clear hb8
      go_wp2_with fail
      refine (wseq_calls L8.out).mono ?_
      rintro e w9 ⟨rfl, hb9⟩
      have B9 := Lib.hid (B8.out.trans (hb9.mono B8.out.size))
      clear hb9
      dsimp only
      go_wp2_with fail
      go_ret
      exact ⟨rfl, B9.out⟩
  · refine wpOp_step rfl (fun K hK => ?_)
    go_simp
    refine hK _ _ ?_
    clear hK K
    have Nwn := Lib.hid (show Below w3.heap.size w3 ((w3.alloc (.cells Z 5)).drew) from ((Below.refl _ _).alloc (Nat.le_refl _) _).drew)
    have Vwn := Lib.hid (show Rep.byte.list.val (fun b => w3.heap.size ≤ b) ((w3.alloc (.cells Z 5)).drew) (.slice (some ⟨w3.heap.size, 0, none⟩) 1000 1000) ex1000 from Rep.val_drewN (HMB.out w3) 1)
    generalize (w3.alloc (.cells Z 5)).drew = wn at *
    refine any_step [1] (by kernel_rfl) (by simp) ?_
    intro j hj
    obtain rfl : j = 1 := by simpa using hj
    refine wpOp_step rfl (fun K hK => ?_)
    go_simp
    refine hK _ _ ?_
    clear hK K
    have Nwm := Lib.hid (show Below wn.heap.size wn (wn.alloc (.cells Z 5)) from ((Below.refl _ _).alloc (Nat.le_refl _) _))
    have Vwm := Lib.hid (show Rep.byte.list.val (fun b => wn.heap.size ≤ b) (wn.alloc (.cells Z 5)) (.slice (some ⟨wn.heap.size, 0, none⟩) 1000 1000) ex1000 from HMB.out wn)
    generalize wn.alloc (.cells Z 5) = wm at *
    refine any_step [2] (by kernel_rfl) (by simp) ?_
    intro j hj
    obtain rfl : j = 2 := by simpa using hj
    refine wpOp_step rfl (fun K hK => ?_)
    go_simp
    have HWc := Lib.hid (HWAL.out wm (Nwn.out.trans (Nwm.out.mono Nwn.out.size)))
    refine (live_first HWc.out (by decide) Vwm.out).mono ?_
    rintro e wa ⟨rfl, howa, F1, B1, st1, hwwa, hFwa⟩
    have Owa := Lib.hid howa
    have Wwa := Lib.hid hwwa
    have Gwa := Lib.hid (show ∀ b, F1 b → w.heap.size ≤ b from fun b hb => (hFwa b hb).elim (HFG.out b) (fun e => Nat.le_trans HBW.out.size (Nat.le_trans ((Nwn.out.trans (Nwm.out.mono Nwn.out.size))).size e)))
    have Bwa := Lib.hid (show Below w.heap.size w wa from (HBW.out.trans (((Nwn.out.trans (Nwm.out.mono Nwn.out.size))).mono HBW.out.size)).trans (howa.below (Nat.le_trans HBW.out.size ((Nwn.out.trans (Nwm.out.mono Nwn.out.size))).size) (fun b hb => hb.elim (HFG.out b) (fun e => by rw [e]; exact HLG.out))))
    clear howa hwwa hFwa
    refine hK _ _ ?_
    clear hK K
    refine any_step [5] (by kernel_rfl) (by simp) ?_
    intro j hj
    obtain rfl : j = 5 := by simpa using hj
    refine wpOp_step rfl (fun K hK => ?_)
    go_simp
    refine (live_second Wwa.out (by decide) (Rep.val_keep (fun b hb hl => ⟨hb, Owa.out.block b hl.lt (fun hf => by have := HFL.out b hf; have := hb; omega)⟩) (Rep.val_below Vwn.out Nwm.out (fun _ _ hl => hl.lt)))).mono ?_
    rintro e wz ⟨rfl, hoz, Fz, Bz, stz, hwz, hFz⟩
    have BZ := Lib.hid (show Below w.heap.size w wz from (Bwa.out).trans (hoz.below (Bwa.out).size (fun b hb => hb.elim (Gwa.out b) (fun e => by rw [e]; exact HLG.out))))
    have WZ := Lib.hid hwz
    clear hoz hwz hFz
    refine hK _ _ ?_
    clear hK K
    refine wpAny_take (i := 6) (v := .int .i64 0) rfl (by kernel_rfl) (by kernel_rfl) (by kernel_rfl) (fun _ _ _ h => h) (Or.inl ⟨by rfl, fun w' => by go_simp⟩) ?_
    go_simp
    refine wpAny_take (i := 7) (v := .int .i64 14) rfl (by kernel_rfl) (by kernel_rfl) (by kernel_rfl) (fun _ _ _ h => h) (Or.inl ⟨by rfl, fun w' => by go_simp⟩) ?_
    go_simp
    refine wpAny_done (by kernel_rfl) ?_ _
    go_wp2_with fail
    refine (code19 0 _).mono ?_
    rintro e w8 ⟨rfl, hw8⟩
    have hw9 := hw8.symm
    subst hw9
    clear hw8
    go_wp2_with fail
    refine (code19 14 _).mono ?_
    rintro e w8 ⟨rfl, hw8⟩
    have hw9 := hw8.symm
    subst hw9
    clear hw8
    go_wp2_with fail
    refine (wroom_calls WZ.out.log).mono ?_
    rintro e w8 ⟨rfl, hb8⟩
    rw [show roomOf exConf (LogSt.head ⟨1, 0, 3, 1⟩) (LogSt.tail ⟨1, 0, 3, 1⟩) = 1 from ex_room]
    have B8 := Lib.hid (BZ.out.trans (hb8.mono BZ.out.size))
    have L8 := Lib.hid (WZ.out.log.below hb8)
    clear hb8
    go_wp2_with fail
    refine (wseq_calls L8.out).mono ?_
    rintro e w9 ⟨rfl, hb9⟩
    have B9 := Lib.hid (B8.out.trans (hb9.mono B8.out.size))
    clear hb9
    dsimp only
    go_wp2_with fail
    go_ret
    exact ⟨rfl, B9.out⟩
end Go.Proofs.Ytecdbfbaclgejaa
/- What wal.Load tells of a device of given bytes: the plain law. -/
namespace Go.Proofs.Ytecdbfbaclgejaa
open Go.RowKit

def wantOf (c : DConf) (len : Nat) (fuse : Int) : Int :=
  if confRight c = false ∨ ((len / 512 : Nat) : Int) ≠ 2 + c.log + c.pages then 1 else if 0 ≤ fuse ∧ fuse < c.log then 3 else 0
def logChunks (c : DConf) (b : List UInt8) : List (List UInt8) := (List.range c.log.toNat).map fun k => chunk b (2 + k)
theorem chunks_length (b : List UInt8) : (chunks b).length = b.length / 512 := by unfold chunks; rw [List.length_map, List.length_range]

theorem readAll_dry {s : DiskSt} {is : List Int} (hoff : s.off = false) (hf : -1 ≤ s.fuse) (hin : ∀ i ∈ is, 0 ≤ i ∧ i < s.safe.length) (hw : ∀ j, s.wait j = []) :
    (readAll s is).2.2 = (if 0 ≤ s.fuse ∧ s.fuse < is.length then 3 else 0) ∧ ((readAll s is).2.2 = 0 → (readAll s is).2.1 = is.map fun i => s.safe.getD i.toNat []) := by
  induction is generalizing s with
  | nil => exact ⟨by rw [if_neg (by simp)]; rfl, fun _ => rfl⟩
  | cons i is ih =>
    have hi := hin i (by simp)
    have hat : atSt s i = burnSt s := by unfold atSt; rw [if_neg (by omega)]
    by_cases h0 : s.fuse = 0
    · have hb : burnSt s = ({ s with off := true }, 3) := by unfold burnSt; rw [hoff, h0]; rfl
      have hr : (readSt s i).2.2 = 3 := by unfold readSt; rw [hat, hb]; rfl
      have hra : (readAll s (i :: is)).2.2 = 3 := by unfold readAll; rw [if_neg (by rw [hr]; decide), hr]
      rw [hra, if_pos ⟨by omega, by simp; omega⟩]
      exact ⟨rfl, fun h => by cases h⟩
    · obtain ⟨s', hb, hs1, hs2, hs3, hs4⟩ : ∃ s', burnSt s = (s', 0) ∧ s'.safe = s.safe ∧ s'.wait = s.wait ∧ s'.off = false ∧ s'.fuse = (if 0 < s.fuse then s.fuse - 1 else s.fuse) := by
        unfold burnSt
        rw [hoff]
        by_cases h1 : 0 < s.fuse
        · exact ⟨{ s with fuse := s.fuse - 1, off := false }, by simp [h0, h1, hoff], rfl, rfl, by first | exact hoff | rfl, by simp [h1]⟩
        · exact ⟨s, by simp [h0, h1], rfl, rfl, by first | exact hoff | rfl, by simp [h1]⟩
      have hr : readSt s i = ({ s' with reads := wrap64 (s'.reads + 1) }, lastSt s i, 0) := by unfold readSt; rw [hat, hb]; rfl
      have hlast : lastSt s i = s.safe.getD i.toNat [] := by unfold lastSt; rw [hw i]; rfl
      have IH := ih (s := { s' with reads := wrap64 (s'.reads + 1) }) hs3 (by dsimp only; rw [hs4]; split <;> omega) (fun j hj => by dsimp only; rw [hs1]; exact hin j (by simp [hj])) (fun j => by dsimp only; rw [hs2]; exact hw j)
      have hra : readAll s (i :: is) = ((readAll { s' with reads := wrap64 (s'.reads + 1) } is).1, lastSt s i :: (readAll { s' with reads := wrap64 (s'.reads + 1) } is).2.1, (readAll { s' with reads := wrap64 (s'.reads + 1) } is).2.2) := by
        rw [readAll, hr]; rfl
      rw [hra]
      dsimp only at IH ⊢
      refine ⟨?_, fun h => ?_⟩
      · rw [IH.1, hs4]
        simp only [List.length_cons]
        by_cases h1 : 0 < s.fuse
        · rw [if_pos h1]
          by_cases h2 : s.fuse < (is.length + 1 : Nat)
          · rw [if_pos ⟨by omega, by omega⟩, if_pos ⟨by omega, h2⟩]
          · rw [if_neg (by omega), if_neg (by omega)]
        · rw [if_neg h1, if_neg (by omega), if_neg (by omega)]
      · rw [IH.2 h, hlast, hs1]; rfl

theorem fits_chunks {c : DConf} {b : List UInt8} {f : Int} : fitsB (fuseSt (newSt (chunks b)) f) c = (confRight c && decide (((b.length / 512 : Nat) : Int) = 2 + c.log + c.pages)) := by
  show (confRight c && decide (((chunks b).length : Int) = 2 + c.log + c.pages)) = _
  rw [chunks_length]
theorem load_want (c : DConf) (b : List UInt8) (f : Int) : (loadSt (fuseSt (newSt (chunks b)) f) c).2 = (if wantOf c b.length f = 0 then logChunks c b else [], wantOf c b.length f) := by
  cases hr : confRight c with
  | false =>
    have hw : wantOf c b.length f = 1 := by unfold wantOf; rw [if_pos (Or.inl hr)]
    rw [hw]
    unfold loadSt
    rw [fits_chunks, hr]; rfl
  | true =>
    by_cases hn : ((b.length / 512 : Nat) : Int) = 2 + c.log + c.pages
    · have hw : wantOf c b.length f = if 0 ≤ f ∧ f < c.log then 3 else 0 := by
        unfold wantOf; rw [if_neg]; rintro (h | h)
        · rw [hr] at h; cases h
        · exact h hn
      rw [hw]
      unfold loadSt
      rw [fits_chunks, hr, decide_eq_true hn, if_pos (show (true && true) = true from rfl)]
      have hf := (right_facts hr).1
      obtain ⟨g1, g2, g3, _⟩ := hf
      have hidx : ∀ k : Nat, (k : Int) < c.log → logOf c k = 2 + k := fun k hk => by
        have hp : placeB (k : Int) = true := by unfold placeB; rw [decide_eq_true (by omega), decide_eq_true (by omega)]; rfl
        unfold logOf; rw [hr, hp]
        show 2 + (k : Int) % c.log = 2 + k
        rw [Int.emod_eq_of_lt (by omega) hk]
      have hin : ∀ i ∈ logIdx c, 0 ≤ i ∧ i < (fuseSt (newSt (chunks b)) f).safe.length := fun i hi => by
        unfold logIdx at hi
        obtain ⟨k, hk, rfl⟩ := List.mem_map.1 hi
        have hk2 := List.mem_range.1 hk
        rw [hidx k (by omega)]
        show 0 ≤ _ ∧ _ < ((chunks b).length : Int)
        rw [chunks_length]; omega
      have hd := readAll_dry (s := fuseSt (newSt (chunks b)) f) (is := logIdx c) rfl (by unfold fuseSt; dsimp only; split <;> omega) hin (fun _ => rfl)
      have hlen : (logIdx c).length = c.log.toNat := by unfold logIdx; rw [List.length_map, List.length_range]
      have hfz : (fuseSt (newSt (chunks b)) f).fuse = if f < -1 then -1 else f := rfl
      have hcond : (0 ≤ (fuseSt (newSt (chunks b)) f).fuse ∧ (fuseSt (newSt (chunks b)) f).fuse < ((logIdx c).length : Int)) ↔ (0 ≤ f ∧ f < c.log) := by
        rw [hfz, hlen]
        by_cases h1 : f < -1
        · rw [if_pos h1]; omega
        · rw [if_neg h1]; omega
      dsimp only
      by_cases hc : 0 ≤ f ∧ f < c.log
      · rw [if_pos (hcond.2 hc)] at hd
        rw [hd.1, if_pos hc]; rfl
      · rw [if_neg (fun h => hc (hcond.1 h))] at hd
        rw [hd.1, if_neg hc, if_pos rfl, if_pos rfl, hd.2 hd.1]
        refine Prod.ext ?_ rfl
        dsimp only
        unfold logIdx logChunks
        rw [List.map_map]
        apply List.map_congr_left
        intro k hk
        have hk2 := List.mem_range.1 hk
        show (chunks b).getD (logOf c (k : Nat)).toNat [] = chunk b (2 + k)
        rw [hidx k (by omega), show (2 + (k : Int)).toNat = 2 + k by omega, List.getD_eq_getElem?_getD]
        unfold chunks
        rw [List.getElem?_map, List.getElem?_range (by omega)]; rfl
    · have hw : wantOf c b.length f = 1 := by unfold wantOf; rw [if_pos (Or.inr hn)]
      rw [hw]
      unfold loadSt
      rw [fits_chunks, hr, decide_eq_false hn]; rfl
end Go.Proofs.Ytecdbfbaclgejaa
