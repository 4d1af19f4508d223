/- Texts on which the proofs stand: DiskRead. No condition is laid on any input. -/
import Derived.Test.YtghbfbohnoebiaaGreatSnG27
import Derived.Maps.OwnOps
namespace Go.Proofs.YtghbfbohnoebiaaGreat
open Go.RowKit

theorem DiskW.len_safe {W : World} {P : Nat} {Sf : Option Addr} {cs M : Nat} {D : DataW Value} {F B : Nat → Prop} {n : Nat} {st : DiskSt} (h : DiskW W P Sf cs M D F B n st) : st.safe.length ≤ cs ∧ cs ≤ maxLen := by
  obtain ⟨A, c, he, h1, h2⟩ := Rep.acc_form h.safe
  cases he; exact ⟨h1, h2⟩

set_option maxRecDepth 100000 in
set_option maxHeartbeats 1000000 in
/-- (*disk.Disk).Size -/
theorem dsize_disk {W : World} {P : Nat} {F B : Nat → Prop} {n : Nat} {st : DiskSt} (h : DiskAt W P F B n st) :
    Calls Tryz.prog 44 #[.pointer (some ⟨P, 0, none⟩)] W fun e W' => e = .returned (.int .i64 st.safe.length) ∧ W' = W := by
  obtain ⟨Sf, cs, M, D, hd⟩ := h
  have e0 := cell_row hd.blk 0
  clear hd
  generalize st.safe.length = k at *
  go_enter Tryz.func44, Tryz.ntmps44
  go_wp2_with fail
  go_ret
  exact ⟨rfl, rfl⟩

def fuseSt (st : DiskSt) (k : Int) : DiskSt := { st with fuse := if k < -1 then -1 else k }
set_option maxRecDepth 100000 in
set_option maxHeartbeats 1000000 in
/-- (*disk.Disk).at -/
theorem dat_calls {W : World} {P : Nat} {F B : Nat → Prop} {n : Nat} {st : DiskSt} {i : Int} (h : DiskAt W P F B n st) :
    Calls Tryz.prog 156 #[.pointer (some ⟨P, 0, none⟩), .int .i64 i] W (StepPost F B P n W (atSt st i)) := by
  have HA := Lib.hid h
  obtain ⟨Sf, cs, M, D, hd⟩ := h
  have e0 := cell_row hd.blk 0
  clear hd
  by_cases h0 : i < 0
  · have HF := Lib.hid (show atSt st i = (st, 2) by unfold atSt; rw [if_pos (.inl h0)])
    go_enter Tryz.func156, Tryz.ntmps156
    go_wp2_with fail
    go_ret
    exact ⟨by rw [HF.out]; rfl, by rw [HF.out]; exact HA.out, Only.refl _ _⟩
  · by_cases h1 : (st.safe.length : Int) ≤ i
    · have HF := Lib.hid (show atSt st i = (st, 2) by unfold atSt; rw [if_pos (.inr h1)])
      go_enter Tryz.func156, Tryz.ntmps156
      go_wp2_with fail
      go_ret
      exact ⟨by rw [HF.out]; rfl, by rw [HF.out]; exact HA.out, Only.refl _ _⟩
    · have HF := Lib.hid (show atSt st i = burnSt st by unfold atSt; rw [if_neg (by omega)])
      go_enter Tryz.func156, Tryz.ntmps156
      go_wp2_with fail
      refine (burn_calls HA.out).mono ?_
      rintro e w1 ⟨rfl, hd1, ho⟩
      have HD1 := Lib.hid hd1
      have HO := Lib.hid ho
      clear hd1 ho
      go_wp2_with fail
      go_ret
      exact ⟨by rw [HF.out]; rfl, by rw [HF.out]; exact HD1.out, HO.out⟩

theorem wpList_lookup_held {w : World} {ops : Array Oper} {rest : List Oper} {o : Oper} {a : Act} {R : Exit → Act → World → Prop} (hg : o.guard = none) (m x : Operand) (hop : o.op = Op.lookup 93 m x false)
    {M n : Nat} {D : DataW Value} {i : Int} (hm : a.eval m = .map (some M)) (hx : a.eval x = .int .i64 i) (h : w.ownsMap Tryz.prog 3 heldElem M n D) (hi : (Lit.int .i64 i).wf = true)
    (hK : wpList Tryz.prog ops R rest (a.put o.dst (valAt D i)) w) : wpList Tryz.prog ops R (o :: rest) a w := by
  refine wpList_plain hg fun K' hK' => ?_
  have hrun := lookup_held h hi
  unfold Oper.wp
  simp [execOp, hop, hm, hx, hrun, Result.andThen]
  exact hK' _ _ hK
theorem last_nil {l : List (List UInt8)} {d : List UInt8} (h : l = []) : (l.getLast?).getD d = d := by subst h; rfl
theorem last_get {l : List (List UInt8)} {d : List UInt8} (h : 0 < l.length) : (l.getLast?).getD d = l[l.length - 1] := by
  rw [List.getLast?_eq_getElem?, List.getElem?_eq_getElem (by omega)]; rfl

/-- What a sector was written last. -/
def lastSt (st : DiskSt) (i : Int) : List UInt8 := ((st.wait i).getLast?).getD (st.safe.getD i.toNat [])
def readSt (st : DiskSt) (i : Int) : DiskSt × List UInt8 × Int :=
  if (atSt st i).2 = 0 then ({ (atSt st i).1 with reads := wrap64 ((atSt st i).1.reads + 1) }, lastSt st i, 0) else ((atSt st i).1, [], (atSt st i).2)
def ReadPost (F B : Nat → Prop) (P n : Nat) (W : World) (r : DiskSt × List UInt8 × Int) (e : Ending) (W' : World) : Prop :=
  ∃ u, e = .returned (.tuple #[u, .int .i64 r.2.2]) ∧ Rep.byte.list.val (fun b => W.heap.size ≤ b) W' u r.2.1 ∧ DiskAt W' P F B n r.1 ∧ Only F W W'

theorem burnSt_same (st : DiskSt) : (burnSt st).1.safe = st.safe ∧ (burnSt st).1.wait = st.wait := by
  unfold burnSt; split
  · exact ⟨rfl, rfl⟩
  · split
    · exact ⟨rfl, rfl⟩
    · split <;> exact ⟨rfl, rfl⟩
theorem atSt_same (st : DiskSt) (i : Int) : (atSt st i).1.safe = st.safe ∧ (atSt st i).1.wait = st.wait := by
  unfold atSt; split
  · exact ⟨rfl, rfl⟩
  · exact burnSt_same st
theorem atSt_range {st : DiskSt} {i : Int} (h : (atSt st i).2 = 0) : 0 ≤ i ∧ i < st.safe.length := by
  unfold atSt at h
  split at h
  · exact absurd (show (2 : Int) = 0 from h) (by decide)
  · omega

set_option maxRecDepth 100000 in
set_option maxHeartbeats 2000000 in
/-- (*disk.Disk).Read -/
theorem dread_calls {W : World} {P : Nat} {F B : Nat → Prop} {n : Nat} {st : DiskSt} {i : Int} (h : DiskAt W P F B n st) (hi : (Lit.int .i64 i).wf = true) (hl : ∀ x ∈ st.safe, x.length ≤ 100000) (hw : ∀ j, ∀ x ∈ st.wait j, x.length ≤ 100000) :
    Calls Tryz.prog 104 #[.pointer (some ⟨P, 0, none⟩), .int .i64 i] W (ReadPost F B P n W (readSt st i)) := by
  have HA := Lib.hid h
  have HI := Lib.hid hi
  have HZ := Lib.hid (show ∀ w' : World, Rep.byte.list.val (fun x => W.heap.size ≤ x) w' (.slice none 0 0) ([] : List UInt8) from fun w => Rep.val_nil (by simp [maxLen]))
  by_cases hc : (atSt st i).2 = 0
  case neg =>
    have HF := Lib.hid (show readSt st i = ((atSt st i).1, [], (atSt st i).2) by unfold readSt; rw [if_neg hc])
    have g0 : ((atSt st i).2 == 0) = false := by simpa using hc
    have HN := Lib.hid hc
    clear h hc
    go_enter Tryz.func104, Tryz.ntmps104
    go_wp2_with fail
    refine (dat_calls HA.out).mono ?_
    rintro e w1 ⟨rfl, hd1, ho⟩
    have HD1 := Lib.hid hd1
    have HO := Lib.hid ho
    clear hd1 ho
    go_wp2_with fail
    go_ret2
    exact ⟨_, by rw [HF.out]; rfl, by rw [HF.out]; exact HZ.out _, by rw [HF.out]; exact HD1.out, HO.out⟩
  case pos =>
    have HF := Lib.hid (show readSt st i = ({ (atSt st i).1 with reads := wrap64 ((atSt st i).1.reads + 1) }, lastSt st i, 0) by unfold readSt; rw [if_pos hc])
    have HC := Lib.hid hc
    have hr := atSt_range hc
    have hs := atSt_same st i
    have HL := Lib.hid (show ∀ x ∈ (atSt st i).1.safe, x.length ≤ 100000 by rw [hs.1]; exact hl)
    have HW := Lib.hid (show ∀ j, ∀ x ∈ (atSt st i).1.wait j, x.length ≤ 100000 by rw [hs.2]; exact hw)
    have HLS := Lib.hid (show lastSt st i = lastSt (atSt st i).1 i by unfold lastSt; rw [hs.1, hs.2])
    have HR := Lib.hid (show 0 ≤ i ∧ i < (atSt st i).1.safe.length by rw [hs.1]; exact hr)
    clear h hc hl hw hr hs
    go_enter Tryz.func104, Tryz.ntmps104
    go_wp2_with fail
    refine (dat_calls HA.out).mono ?_
    rintro e w1 ⟨rfl, hd1, ho⟩
    rw [HC.out]
    generalize (atSt st i).1 = s1 at *
    obtain ⟨k, rfl⟩ : ∃ k : Nat, i = k := ⟨i.toNat, by have := HR.out; omega⟩
    have hk : k < s1.safe.length := by have := HR.out; omega
    obtain ⟨Sf, cs, M, D, hd1⟩ := hd1
    have HD1 := Lib.hid hd1
    have HO1 := Lib.hid ho
    have e0 := cell_row hd1.blk 0
    have e1 := cell_row hd1.blk 1
    have e4 := cell_row hd1.blk 4
    have z4 := frozen_row hd1.blk 4
    obtain ⟨W2, hW2⟩ : ∃ W2, w1.setCell ⟨P, 4, none⟩ (.int .i64 (wrap64 (s1.reads + 1))) = W2 := ⟨_, rfl⟩
    have hd2 : DiskW W2 P Sf cs M D F B n { s1 with reads := wrap64 (s1.reads + 1) } := by
      rw [← hW2]; exact hd1.scal rfl rfl hd1.wf (heap_setRow hd1.blk) (by simp) fun b hb _ => Below.heap_setCell _ _ _ _ hb
    have HO2 := Lib.hid (show Only F W W2 from HO1.out.trans (by rw [← hW2]; exact Only.set hd1.fP))
    have HD2 := Lib.hid hd2
    have HW2 := Lib.hid hW2
    obtain ⟨AL, cL, hva, hcl, hcm⟩ := Rep.acc_form (hd2.wt k)
    have HVA := Lib.hid hva
    have hsl := hd1.len_safe
    clear hd1 ho hva hcl hcm hW2
    dsimp only at hd2 HVA HF
    by_cases hw0 : s1.wait k = []
    · have hl0 : (s1.wait k).length = 0 := by rw [hw0]; rfl
      rw [hl0] at HVA
      obtain ⟨bb, off, B5, c5, hSf, hcell, hc5, hm5, hat⟩ := Rep.At.list (by
        obtain ⟨A', c', he, h1, h2, h3⟩ := Rep.val_list (Rep.acc_val hd2.safe)
        cases he; exact h3) (List.getElem?_eq_getElem hk)
      subst hSf
      have HX := Lib.hid (show Rep.byte.list.val (fun _ => True) W2 (.slice B5 (s1.safe[k]).length c5) s1.safe[k] from Rep.val_mono (fun _ _ _ => trivial) (Rep.list_val rfl hc5 hm5 hat))
      have HXL := Lib.hid (HL.out _ (List.getElem_mem hk))
      have HLast := Lib.hid (show lastSt s1 k = s1.safe[k] by unfold lastSt; rw [last_nil hw0, List.getD_eq_getElem?_getD, Int.toNat_natCast, List.getElem?_eq_getElem hk]; rfl)
      generalize s1.safe[k] = x at *
      clear hat hd2
      rw [← HW2.out] at hcell
      go_wp2_with (at_lookup; refine wpList_lookup_held rfl (.tmp 24) (.tmp 25) rfl (M := M) (n := n) (D := D) (i := (k : Int)) (by exact rfl) (by exact rfl) (by rw [HW2.out]; exact HD2.out.map) HI.out ?_; rw [HVA.out])
      rw [HW2.out]
      refine (sliceClone HX.out (by have := HXL.out; omega)).mono ?_
      rintro e w3 ⟨u, rfl, hu, hb3⟩
      have HU := Lib.hid (Rep.acc_fresh hu)
      have HD3 := Lib.hid (show DiskAt w3 P F B n { s1 with reads := wrap64 (s1.reads + 1) } from DiskAt.below ⟨_, _, _, _, HD2.out⟩ hb3)
      have HO3 := Lib.hid (HO2.out.trans (Only.of_below hb3))
      have HSZ := Lib.hid HO2.out.size
      clear hu hb3
      go_wp2_with fail
      go_ret2
      exact ⟨_, by rw [HF.out]; rfl, by rw [HF.out]; show Rep.byte.list.val _ _ _ (lastSt st k); rw [HLS.out, HLast.out]; exact Rep.val_mono (fun b hb _ => Nat.le_trans HSZ.out hb) HU.out, by rw [HF.out]; exact HD3.out, HO3.out⟩
    · have hpos : 0 < (s1.wait k).length := by
        cases hq : s1.wait k with
        | nil => exact absurd hq hw0
        | cons _ _ => simp
      obtain ⟨m, hm⟩ : ∃ m, (s1.wait k).length = m + 1 := ⟨(s1.wait k).length - 1, by omega⟩
      have hlast : (s1.wait k).length - 1 = m := by omega
      have hmk : m < (s1.wait k).length := by omega
      obtain ⟨bb, off, B5, c5, hAL, hcell, hc5, hm5, hat⟩ := Rep.At.list (by
        obtain ⟨A', c', he, h1, h2, h3⟩ := Rep.val_list (Rep.acc_val (hd2.wt k))
        rw [HVA.out] at he
        cases he; exact h3) (List.getElem?_eq_getElem hmk)
      subst hAL
      have HX := Lib.hid (show Rep.byte.list.val (fun _ => True) W2 (.slice B5 ((s1.wait k)[m]).length c5) (s1.wait k)[m] from Rep.val_mono (fun _ _ _ => trivial) (Rep.list_val rfl hc5 hm5 hat))
      have HXL := Lib.hid (HW.out k _ (List.getElem_mem hmk))
      have HLast := Lib.hid (show lastSt s1 k = (s1.wait k)[m] by unfold lastSt; rw [last_get hpos]; congr 1)
      rw [hm] at HVA
      have hmx : (m : Int) + 1 ≤ 9223372036854775807 := by
        obtain ⟨A', c', he, h1, h2, _⟩ := Rep.val_list (Rep.acc_val (hd2.wt k))
        have h3 : (s1.wait k).length = m + 1 := hm
        have h1' : (s1.wait k).length ≤ c' := h1
        unfold maxLen at h2; omega
      generalize (s1.wait k)[m] = x at *
      clear hat hd2 hw0 hpos hm hlast hmk
      rw [← HW2.out] at hcell
      go_wp2_with (at_lookup; refine wpList_lookup_held rfl (.tmp 24) (.tmp 25) rfl (M := M) (n := n) (D := D) (i := (k : Int)) (by exact rfl) (by exact rfl) (by rw [HW2.out]; exact HD2.out.map) HI.out ?_; rw [HVA.out])
      rw [HW2.out]
      refine (sliceClone HX.out (by have := HXL.out; omega)).mono ?_
      rintro e w3 ⟨u, rfl, hu, hb3⟩
      have HU := Lib.hid (Rep.acc_fresh hu)
      have HD3 := Lib.hid (show DiskAt w3 P F B n { s1 with reads := wrap64 (s1.reads + 1) } from DiskAt.below ⟨_, _, _, _, HD2.out⟩ hb3)
      have HO3 := Lib.hid (HO2.out.trans (Only.of_below hb3))
      have HSZ := Lib.hid HO2.out.size
      clear hu hb3
      go_wp2_with fail
      go_ret2
      exact ⟨_, by rw [HF.out]; rfl, by rw [HF.out]; show Rep.byte.list.val _ _ _ (lastSt st k); rw [HLS.out, HLast.out]; exact Rep.val_mono (fun b hb _ => Nat.le_trans HSZ.out hb) HU.out, by rw [HF.out]; exact HD3.out, HO3.out⟩
end Go.Proofs.YtghbfbohnoebiaaGreat
