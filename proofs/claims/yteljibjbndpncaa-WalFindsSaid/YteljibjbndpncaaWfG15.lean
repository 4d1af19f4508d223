/- Texts on which the proofs stand: DiskRead, Ample, Fits. No condition is laid on any input. -/
import Derived.Test.YteljibjbndpncaaWfG12
import Derived.Test.YteljibjbndpncaaWfG14
import Derived.Test.YteljibjbndpncaaWfG8
import Derived.Maps.OwnOps
/- Walks of the device's small functions and of a read. -/
namespace Go.Proofs.Yteljibjbndpncaa
open Go.RowKit

theorem DiskW.len_safe {W : World} {P : Nat} {Sf : Option Addr} {cs M : Nat} {D : DataW Value} {F B : Nat → Prop} {n : Nat} {st : DiskSt} (h : DiskW W P Sf cs M D F B n st) : st.safe.length ≤ cs ∧ cs ≤ maxLen := by
  obtain ⟨A, c, he, h1, h2⟩ := Rep.acc_form h.safe
  cases he; exact ⟨h1, h2⟩

set_option maxRecDepth 100000 in
set_option maxHeartbeats 1000000 in
/-- (*disk.Disk).Size -/
theorem dsize_disk {W : World} {P : Nat} {F B : Nat → Prop} {n : Nat} {st : DiskSt} (h : DiskAt W P F B n st) :
    Calls Try.prog 86 #[.pointer (some ⟨P, 0, none⟩)] W fun e W' => e = .returned (.int .i64 st.safe.length) ∧ W' = W := by
  obtain ⟨Sf, cs, M, D, hd⟩ := h
  have e0 := cell_row hd.blk 0
  clear hd
  generalize st.safe.length = k at *
  go_enter Try.func86, Try.ntmps86
  go_wp2_with fail
  go_ret
  exact ⟨rfl, rfl⟩

def fuseSt (st : DiskSt) (k : Int) : DiskSt := { st with fuse := if k < -1 then -1 else k }
def VoidPost (F B : Nat → Prop) (P n : Nat) (W : World) (st : DiskSt) (e : Ending) (W' : World) : Prop := e = .returned (.tuple #[]) ∧ DiskAt W' P F B n st ∧ Only F W W'
set_option maxRecDepth 100000 in
set_option maxHeartbeats 1000000 in
/-- (*disk.Disk).at -/
theorem dat_calls {W : World} {P : Nat} {F B : Nat → Prop} {n : Nat} {st : DiskSt} {i : Int} (h : DiskAt W P F B n st) :
    Calls Try.prog 96 #[.pointer (some ⟨P, 0, none⟩), .int .i64 i] W (StepPost F B P n W (atSt st i)) := by
  have HA := Lib.hid h
  obtain ⟨Sf, cs, M, D, hd⟩ := h
  have e0 := cell_row hd.blk 0
  clear hd
  by_cases h0 : i < 0
  · have HF := Lib.hid (show atSt st i = (st, 2) by unfold atSt; rw [if_pos (.inl h0)])
    go_enter Try.func96, Try.ntmps96
    go_wp2_with fail
    go_ret
    exact ⟨by rw [HF.out]; rfl, by rw [HF.out]; exact HA.out, Only.refl _ _⟩
  · by_cases h1 : (st.safe.length : Int) ≤ i
    · have HF := Lib.hid (show atSt st i = (st, 2) by unfold atSt; rw [if_pos (.inr h1)])
      go_enter Try.func96, Try.ntmps96
      go_wp2_with fail
      go_ret
      exact ⟨by rw [HF.out]; rfl, by rw [HF.out]; exact HA.out, Only.refl _ _⟩
    · have HF := Lib.hid (show atSt st i = burnSt st by unfold atSt; rw [if_neg (by omega)])
      go_enter Try.func96, Try.ntmps96
      go_wp2_with fail
      refine (burn_calls HA.out).mono ?_
      rintro e w1 ⟨rfl, hd1, ho⟩
      have HD1 := Lib.hid hd1
      have HO := Lib.hid ho
      clear hd1 ho
      go_wp2_with fail
      go_ret
      exact ⟨by rw [HF.out]; rfl, by rw [HF.out]; exact HD1.out, HO.out⟩

theorem wpList_lookup_held {w : World} {ops : Array Oper} {rest : List Oper} {o : Oper} {a : Act} {R : Exit → Act → World → Prop} (hg : o.guard = none) (m x : Operand) (hop : o.op = Op.lookup 103 m x false)
    {M n : Nat} {D : DataW Value} {i : Int} (hm : a.eval m = .map (some M)) (hx : a.eval x = .int .i64 i) (h : w.ownsMap Try.prog 3 heldElem M n D) (hi : (Lit.int .i64 i).wf = true)
    (hK : wpList Try.prog ops R rest (a.put o.dst (valAt D i)) w) : wpList Try.prog ops R (o :: rest) a w := by
  refine wpList_plain hg fun K' hK' => ?_
  have hrun := lookup_held h hi
  unfold Oper.wp
  simp [execOp, hop, hm, hx, hrun, Result.andThen]
  exact hK' _ _ hK
theorem last_nil {l : List (List UInt8)} {d : List UInt8} (h : l = []) : (l.getLast?).getD d = d := by subst h; rfl
theorem last_get {l : List (List UInt8)} {d : List UInt8} (h : 0 < l.length) : (l.getLast?).getD d = l[l.length - 1] := by
  rw [List.getLast?_eq_getElem?, List.getElem?_eq_getElem (by omega)]; rfl

/-- What a sector was written last. -/
def lastSt (st : DiskSt) (i : Int) : List UInt8 := ((st.wait i).getLast?).getD (st.safe.getD i.toNat [])
def readSt (st : DiskSt) (i : Int) : DiskSt × List UInt8 × Int :=
  if (atSt st i).2 = 0 then ({ (atSt st i).1 with reads := wrap64 ((atSt st i).1.reads + 1) }, lastSt st i, 0) else ((atSt st i).1, [], (atSt st i).2)
def ReadPost (F B : Nat → Prop) (P n : Nat) (W : World) (r : DiskSt × List UInt8 × Int) (e : Ending) (W' : World) : Prop :=
  ∃ u, e = .returned (.tuple #[u, .int .i64 r.2.2]) ∧ Rep.byte.list.val (fun b => W.heap.size ≤ b) W' u r.2.1 ∧ DiskAt W' P F B n r.1 ∧ Only F W W'

theorem burnSt_same (st : DiskSt) : (burnSt st).1.safe = st.safe ∧ (burnSt st).1.wait = st.wait := by
  unfold burnSt; split
  · exact ⟨rfl, rfl⟩
  · split
    · exact ⟨rfl, rfl⟩
    · split <;> exact ⟨rfl, rfl⟩
theorem atSt_same (st : DiskSt) (i : Int) : (atSt st i).1.safe = st.safe ∧ (atSt st i).1.wait = st.wait := by
  unfold atSt; split
  · exact ⟨rfl, rfl⟩
  · exact burnSt_same st
theorem atSt_range {st : DiskSt} {i : Int} (h : (atSt st i).2 = 0) : 0 ≤ i ∧ i < st.safe.length := by
  unfold atSt at h
  split at h
  · exact absurd (show (2 : Int) = 0 from h) (by decide)
  · omega

set_option maxRecDepth 100000 in
set_option maxHeartbeats 2000000 in
/-- (*disk.Disk).Read -/
theorem dread_calls {W : World} {P : Nat} {F B : Nat → Prop} {n : Nat} {st : DiskSt} {i : Int} (h : DiskAt W P F B n st) (hi : (Lit.int .i64 i).wf = true) (hl : ∀ x ∈ st.safe, x.length ≤ 100000) (hw : ∀ j, ∀ x ∈ st.wait j, x.length ≤ 100000) :
    Calls Try.prog 69 #[.pointer (some ⟨P, 0, none⟩), .int .i64 i] W (ReadPost F B P n W (readSt st i)) := by
  have HA := Lib.hid h
  have HI := Lib.hid hi
  have HZ := Lib.hid (show ∀ w' : World, Rep.byte.list.val (fun x => W.heap.size ≤ x) w' (.slice none 0 0) ([] : List UInt8) from fun w => Rep.val_nil (by simp [maxLen]))
  by_cases hc : (atSt st i).2 = 0
  case neg =>
    have HF := Lib.hid (show readSt st i = ((atSt st i).1, [], (atSt st i).2) by unfold readSt; rw [if_neg hc])
    have g0 : ((atSt st i).2 == 0) = false := by simpa using hc
    have HN := Lib.hid hc
    clear h hc
    go_enter Try.func69, Try.ntmps69
    go_wp2_with fail
    refine (dat_calls HA.out).mono ?_
    rintro e w1 ⟨rfl, hd1, ho⟩
    have HD1 := Lib.hid hd1
    have HO := Lib.hid ho
    clear hd1 ho
    go_wp2_with fail
    go_ret2
    exact ⟨_, by rw [HF.out]; rfl, by rw [HF.out]; exact HZ.out _, by rw [HF.out]; exact HD1.out, HO.out⟩
  case pos =>
    have HF := Lib.hid (show readSt st i = ({ (atSt st i).1 with reads := wrap64 ((atSt st i).1.reads + 1) }, lastSt st i, 0) by unfold readSt; rw [if_pos hc])
    have HC := Lib.hid hc
    have hr := atSt_range hc
    have hs := atSt_same st i
    have HL := Lib.hid (show ∀ x ∈ (atSt st i).1.safe, x.length ≤ 100000 by rw [hs.1]; exact hl)
    have HW := Lib.hid (show ∀ j, ∀ x ∈ (atSt st i).1.wait j, x.length ≤ 100000 by rw [hs.2]; exact hw)
    have HLS := Lib.hid (show lastSt st i = lastSt (atSt st i).1 i by unfold lastSt; rw [hs.1, hs.2])
    have HR := Lib.hid (show 0 ≤ i ∧ i < (atSt st i).1.safe.length by rw [hs.1]; exact hr)
    clear h hc hl hw hr hs
    go_enter Try.func69, Try.ntmps69
    go_wp2_with fail
    refine (dat_calls HA.out).mono ?_
    rintro e w1 ⟨rfl, hd1, ho⟩
    rw [HC.out]
    generalize (atSt st i).1 = s1 at *
    obtain ⟨k, rfl⟩ : ∃ k : Nat, i = k := ⟨i.toNat, by have := HR.out; omega⟩
    have hk : k < s1.safe.length := by have := HR.out; omega
    obtain ⟨Sf, cs, M, D, hd1⟩ := hd1
    have HD1 := Lib.hid hd1
    have HO1 := Lib.hid ho
    have e0 := cell_row hd1.blk 0
    have e1 := cell_row hd1.blk 1
    have e4 := cell_row hd1.blk 4
    have z4 := frozen_row hd1.blk 4
    obtain ⟨W2, hW2⟩ : ∃ W2, w1.setCell ⟨P, 4, none⟩ (.int .i64 (wrap64 (s1.reads + 1))) = W2 := ⟨_, rfl⟩
    have hd2 : DiskW W2 P Sf cs M D F B n { s1 with reads := wrap64 (s1.reads + 1) } := by
      rw [← hW2]; exact hd1.scal rfl rfl hd1.wf (heap_setRow hd1.blk) (by simp) fun b hb _ => Below.heap_setCell _ _ _ _ hb
    have HO2 := Lib.hid (show Only F W W2 from HO1.out.trans (by rw [← hW2]; exact Only.set hd1.fP))
    have HD2 := Lib.hid hd2
    have HW2 := Lib.hid hW2
    obtain ⟨AL, cL, hva, hcl, hcm⟩ := Rep.acc_form (hd2.wt k)
    have HVA := Lib.hid hva
    have hsl := hd1.len_safe
    clear hd1 ho hva hcl hcm hW2
    dsimp only at hd2 HVA HF
    by_cases hw0 : s1.wait k = []
    · have hl0 : (s1.wait k).length = 0 := by rw [hw0]; rfl
      rw [hl0] at HVA
      obtain ⟨bb, off, B5, c5, hSf, hcell, hc5, hm5, hat⟩ := Rep.At.list (by
        obtain ⟨A', c', he, h1, h2, h3⟩ := Rep.val_list (Rep.acc_val hd2.safe)
        cases he; exact h3) (List.getElem?_eq_getElem hk)
      subst hSf
      have HX := Lib.hid (show Rep.byte.list.val (fun _ => True) W2 (.slice B5 (s1.safe[k]).length c5) s1.safe[k] from Rep.val_mono (fun _ _ _ => trivial) (Rep.list_val rfl hc5 hm5 hat))
      have HXL := Lib.hid (HL.out _ (List.getElem_mem hk))
      have HLast := Lib.hid (show lastSt s1 k = s1.safe[k] by unfold lastSt; rw [last_nil hw0, List.getD_eq_getElem?_getD, Int.toNat_natCast, List.getElem?_eq_getElem hk]; rfl)
      generalize s1.safe[k] = x at *
      clear hat hd2
      rw [← HW2.out] at hcell
      go_wp2_with (at_lookup; refine wpList_lookup_held rfl (.tmp 24) (.tmp 25) rfl (M := M) (n := n) (D := D) (i := (k : Int)) (by exact rfl) (by exact rfl) (by rw [HW2.out]; exact HD2.out.map) HI.out ?_; rw [HVA.out])
      rw [HW2.out]
      refine (sliceClone HX.out (by have := HXL.out; omega)).mono ?_
      rintro e w3 ⟨u, rfl, hu, hb3⟩
      have HU := Lib.hid (Rep.acc_fresh hu)
      have HD3 := Lib.hid (show DiskAt w3 P F B n { s1 with reads := wrap64 (s1.reads + 1) } from DiskAt.below ⟨_, _, _, _, HD2.out⟩ hb3)
      have HO3 := Lib.hid (HO2.out.trans (Only.of_below hb3))
      have HSZ := Lib.hid HO2.out.size
      clear hu hb3
      go_wp2_with fail
      go_ret2
      exact ⟨_, by rw [HF.out]; rfl, by rw [HF.out]; show Rep.byte.list.val _ _ _ (lastSt st k); rw [HLS.out, HLast.out]; exact Rep.val_mono (fun b hb _ => Nat.le_trans HSZ.out hb) HU.out, by rw [HF.out]; exact HD3.out, HO3.out⟩
    · have hpos : 0 < (s1.wait k).length := by
        cases hq : s1.wait k with
        | nil => exact absurd hq hw0
        | cons _ _ => simp
      obtain ⟨m, hm⟩ : ∃ m, (s1.wait k).length = m + 1 := ⟨(s1.wait k).length - 1, by omega⟩
      have hlast : (s1.wait k).length - 1 = m := by omega
      have hmk : m < (s1.wait k).length := by omega
      obtain ⟨bb, off, B5, c5, hAL, hcell, hc5, hm5, hat⟩ := Rep.At.list (by
        obtain ⟨A', c', he, h1, h2, h3⟩ := Rep.val_list (Rep.acc_val (hd2.wt k))
        rw [HVA.out] at he
        cases he; exact h3) (List.getElem?_eq_getElem hmk)
      subst hAL
      have HX := Lib.hid (show Rep.byte.list.val (fun _ => True) W2 (.slice B5 ((s1.wait k)[m]).length c5) (s1.wait k)[m] from Rep.val_mono (fun _ _ _ => trivial) (Rep.list_val rfl hc5 hm5 hat))
      have HXL := Lib.hid (HW.out k _ (List.getElem_mem hmk))
      have HLast := Lib.hid (show lastSt s1 k = (s1.wait k)[m] by unfold lastSt; rw [last_get hpos]; congr 1)
      rw [hm] at HVA
      have hmx : (m : Int) + 1 ≤ 9223372036854775807 := by
        obtain ⟨A', c', he, h1, h2, _⟩ := Rep.val_list (Rep.acc_val (hd2.wt k))
        have h3 : (s1.wait k).length = m + 1 := hm
        have h1' : (s1.wait k).length ≤ c' := h1
        unfold maxLen at h2; omega
      generalize (s1.wait k)[m] = x at *
      clear hat hd2 hw0 hpos hm hlast hmk
      rw [← HW2.out] at hcell
      go_wp2_with (at_lookup; refine wpList_lookup_held rfl (.tmp 24) (.tmp 25) rfl (M := M) (n := n) (D := D) (i := (k : Int)) (by exact rfl) (by exact rfl) (by rw [HW2.out]; exact HD2.out.map) HI.out ?_; rw [HVA.out])
      rw [HW2.out]
      refine (sliceClone HX.out (by have := HXL.out; omega)).mono ?_
      rintro e w3 ⟨u, rfl, hu, hb3⟩
      have HU := Lib.hid (Rep.acc_fresh hu)
      have HD3 := Lib.hid (show DiskAt w3 P F B n { s1 with reads := wrap64 (s1.reads + 1) } from DiskAt.below ⟨_, _, _, _, HD2.out⟩ hb3)
      have HO3 := Lib.hid (HO2.out.trans (Only.of_below hb3))
      have HSZ := Lib.hid HO2.out.size
      clear hu hb3
      go_wp2_with fail
      go_ret2
      exact ⟨_, by rw [HF.out]; rfl, by rw [HF.out]; show Rep.byte.list.val _ _ _ (lastSt st k); rw [HLS.out, HLast.out]; exact Rep.val_mono (fun b hb _ => Nat.le_trans HSZ.out hb) HU.out, by rw [HF.out]; exact HD3.out, HO3.out⟩
end Go.Proofs.Yteljibjbndpncaa
/- Walk of policy.Ample: a region that draws its order, guarded, with calls. -/
namespace Go.Proofs.Yteljibjbndpncaa
open Go.RowKit

end Go.Proofs.Yteljibjbndpncaa
/- Walk of wal.fits: a region that draws its order, guarded, with calls. -/
namespace Go.Proofs.Yteljibjbndpncaa
open Go.RowKit

def fitsB (st : DiskSt) (c : DConf) : Bool := confRight c && decide ((st.safe.length : Int) = sectorsOf c)
set_option maxRecDepth 100000 in
set_option maxHeartbeats 8000000 in
/-- wal.fits -/
theorem fits_calls {Q : Nat → Prop} {w : World} {v : Value} {c : DConf} {P : Nat} {F B : Nat → Prop} {n : Nat} {st : DiskSt} (hd : DiskAt w P F B n st) (hx : rConf.val Q w v c) :
    Calls Try.prog 58 #[.pointer (some ⟨P, 0, none⟩), v] w fun e w' => e = .returned (.bool (fitsB st c)) ∧ Below w.heap.size w w' := by
  obtain ⟨A, cap, rfl, _⟩ := rConf_val hx
  have hm := InBox.made hx 49
  have hbel : Below w.heap.size w (w.alloc (.cells #[.int .i64 c.log, .int .i64 c.pages, .int .i64 c.entities, .int .i64 c.gens, .slice A c.comps.length cap] 49)) := (Below.refl _ _).alloc (Nat.le_refl _) _
  have hsz : (w.alloc (.cells #[.int .i64 c.log, .int .i64 c.pages, .int .i64 c.entities, .int .i64 c.gens, .slice A c.comps.length cap] 49)).heap.size = w.heap.size + 1 := by simp
  generalize hW1 : w.alloc (.cells #[.int .i64 c.log, .int .i64 c.pages, .int .i64 c.entities, .int .i64 c.gens, .slice A c.comps.length cap] 49) = W1 at *
  have HM := Lib.hid hm
  have HB := Lib.hid hbel
  have HS := Lib.hid hsz
  obtain ⟨a0, a1, a2, a3, a4, _⟩ := hm
  clear hx hbel hsz
  have s1 : InBox W1.drew w.heap.size c A cap := HM.out.later ((Below.refl _ _).drew)
  have hB1 : Below w.heap.size w W1.drew := HB.out.drew
  have HD := Lib.hid (fun w' (h : Below w.heap.size w w') => hd.below h)
  clear hd
  cases hr : confRight c with
  | false =>
    have HR := Lib.hid hr
    have HF := Lib.hid (show fitsB st c = false by unfold fitsB; rw [hr]; rfl)
    have HK := Lib.hid (show checkOf false = 1 from rfl)
    clear hr
    go_enter Try.func58, Try.ntmps58
    go_wp2_with fail
    refine wp_region_held (S := fun w' => InBox w' w.heap.size c A cap) (by kernel_rfl) ?_
    refine wpAnyH_take (i := 0) (v := .agg #[.int .i64 c.log, .int .i64 c.pages, .int .i64 c.entities, .int .i64 c.gens, .slice A c.comps.length cap]) rfl (by kernel_rfl) (by kernel_rfl) (by kernel_rfl) (fun _ _ _ h => h) (Or.inl ⟨by rfl, fun w' h => by obtain ⟨x0, x1, x2, x3, x4, _⟩ := (h : InBox w' w.heap.size c A cap); go_simp⟩) s1 ?_
    go_simp
    refine wpAnyH_all (rs := [1]) (by kernel_rfl) (by simp) ?_
    intro i hi
    obtain rfl : i = 1 := by simpa using hi
    refine wpOp_step rfl (fun K hK => ?_)
    go_simp
    refine (check_calls s1.val).mono ?_
    rintro e w2 ⟨rfl, hb2⟩
    rw [HR.out, HK.out]
    have s2 := s1.later (hb2.mono (show w.heap.size + 1 ≤ W1.heap.size by have := HS.out; omega))
    refine hK _ _ ⟨s2, ?_⟩
    clear hK K
    refine wpAnyH_take (i := 2) (v := .bool false) rfl (by kernel_rfl) (by kernel_rfl) (by kernel_rfl) (fun _ _ _ h => h) (Or.inl ⟨by rfl, fun w' _ => by go_simp⟩) s2 ?_
    go_simp
    refine wpAnyH_take (i := 3) (v := .bool false) rfl (by kernel_rfl) (by kernel_rfl) (by kernel_rfl) (fun _ _ _ h => h) (Or.inl ⟨by rfl, fun w' _ => by go_simp⟩) s2 ?_
    go_simp
    refine wpAnyH_take (i := 4) (v := undef) rfl (by kernel_rfl) (by kernel_rfl) (by kernel_rfl) (fun _ _ _ h => h) (Or.inr ⟨by rfl, rfl⟩) s2 ?_
    go_simp
    refine wpAnyH_take (i := 5) (v := undef) rfl (by kernel_rfl) (by kernel_rfl) (by kernel_rfl) (fun _ _ _ h => h) (Or.inr ⟨by rfl, rfl⟩) s2 ?_
    go_simp
    refine wpAnyH_take (i := 6) (v := undef) rfl (by kernel_rfl) (by kernel_rfl) (by kernel_rfl) (fun _ _ _ h => h) (Or.inr ⟨by rfl, rfl⟩) s2 ?_
    go_simp
    refine wpAnyH_take (i := 7) (v := undef) rfl (by kernel_rfl) (by kernel_rfl) (by kernel_rfl) (fun _ _ _ h => h) (Or.inr ⟨by rfl, rfl⟩) s2 ?_
    go_simp
    refine wpAnyH_take (i := 8) (v := undef) rfl (by kernel_rfl) (by kernel_rfl) (by kernel_rfl) (fun _ _ _ h => h) (Or.inr ⟨by rfl, rfl⟩) s2 ?_
    go_simp
    refine wpAnyH_take (i := 9) (v := .bool false) rfl (by kernel_rfl) (by kernel_rfl) (by kernel_rfl) (fun _ _ _ h => h) (Or.inl ⟨by rfl, fun w' _ => by go_simp⟩) s2 ?_
    go_simp
    refine wpAnyH_take (i := 10) (v := .bool false) rfl (by kernel_rfl) (by kernel_rfl) (by kernel_rfl) (fun _ _ _ h => h) (Or.inl ⟨by rfl, fun w' _ => by go_simp⟩) s2 ?_
    go_simp
    refine wpAnyH_done (by kernel_rfl) ?_ _
    go_wp2_with fail
    go_ret
    exact ⟨by rw [HF.out]; rfl, hB1.trans (hb2.mono hB1.size)⟩
  | true =>
    have HR := Lib.hid hr
    have HK := Lib.hid (show checkOf true = 0 from rfl)
    have HF := Lib.hid (show fitsB st c = decide ((st.safe.length : Int) = sectorsOf c) by unfold fitsB; rw [hr, Bool.true_and])
    generalize hfit : decide ((st.safe.length : Int) = sectorsOf c) = fit at HF
    have HFIT := Lib.hid hfit
    generalize hlen : st.safe.length = len at *
    have HLEN := Lib.hid hlen
    generalize hsec : sectorsOf c = sec at *
    have HSEC := Lib.hid hsec
    clear hr hfit hlen hsec
    go_enter Try.func58, Try.ntmps58
    go_wp2_with fail
    refine wp_region_held (S := fun w' => InBox w' w.heap.size c A cap) (by kernel_rfl) ?_
    refine wpAnyH_take (i := 0) (v := .agg #[.int .i64 c.log, .int .i64 c.pages, .int .i64 c.entities, .int .i64 c.gens, .slice A c.comps.length cap]) rfl (by kernel_rfl) (by kernel_rfl) (by kernel_rfl) (fun _ _ _ h => h) (Or.inl ⟨by rfl, fun w' h => by obtain ⟨x0, x1, x2, x3, x4, _⟩ := (h : InBox w' w.heap.size c A cap); go_simp⟩) s1 ?_
    go_simp
    refine wpAnyH_all (rs := [1]) (by kernel_rfl) (by simp) ?_
    intro i hi
    obtain rfl : i = 1 := by simpa using hi
    refine wpOp_step rfl (fun K hK => ?_)
    go_simp
    refine (check_calls s1.val).mono ?_
    rintro e w2 ⟨rfl, hb2⟩
    rw [HR.out, HK.out]
    have s2 := s1.later (hb2.mono (show w.heap.size + 1 ≤ W1.heap.size by have := HS.out; omega))
    have hB2 := hB1.trans (hb2.mono hB1.size)
    refine hK _ _ ⟨s2, ?_⟩
    clear hK K
    refine wpAnyH_take (i := 2) (v := .bool true) rfl (by kernel_rfl) (by kernel_rfl) (by kernel_rfl) (fun _ _ _ h => h) (Or.inl ⟨by rfl, fun w' _ => by go_simp⟩) s2 ?_
    go_simp
    refine wpAnyH_take (i := 3) (v := .bool true) rfl (by kernel_rfl) (by kernel_rfl) (by kernel_rfl) (fun _ _ _ h => h) (Or.inl ⟨by rfl, fun w' _ => by go_simp⟩) s2 ?_
    go_simp
    refine wpAnyH_take (i := 4) (v := .pointer (some ⟨P, 0, none⟩)) rfl (by kernel_rfl) (by kernel_rfl) (by kernel_rfl) (fun _ _ _ h => h) (Or.inl ⟨by rfl, fun w' _ => by go_simp⟩) s2 ?_
    go_simp
    refine wpAnyH_take (i := 6) (v := .agg #[.int .i64 c.log, .int .i64 c.pages, .int .i64 c.entities, .int .i64 c.gens, .slice A c.comps.length cap]) rfl (by kernel_rfl) (by kernel_rfl) (by kernel_rfl) (fun _ _ _ h => h) (Or.inl ⟨by rfl, fun w' h => by obtain ⟨x0, x1, x2, x3, x4, _⟩ := (h : InBox w' w.heap.size c A cap); go_simp⟩) s2 ?_
    go_simp
    refine wpAnyH_all (rs := [5]) (by kernel_rfl) (by simp) ?_
    intro i hi
    obtain rfl : i = 5 := by simpa using hi
    refine wpOp_step rfl (fun K hK => ?_)
    go_simp
    refine (dsize_disk (HD.out _ hB2)).mono ?_
    rintro e w3 ⟨rfl, hw3⟩
    have hw3' := hw3.symm
    subst hw3'
    clear hw3
    rw [HLEN.out]
    refine hK _ _ ⟨s2, ?_⟩
    clear hK K
    refine wpAnyH_all (rs := [7]) (by kernel_rfl) (by simp) ?_
    intro i hi
    obtain rfl : i = 7 := by simpa using hi
    refine wpOp_step rfl (fun K hK => ?_)
    go_simp
    refine (sectors_calls s2.val HR.out).mono ?_
    rintro e w4 ⟨rfl, hb4⟩
    rw [HSEC.out]
    have s4 := s2.later (hb4.mono (show w.heap.size + 1 ≤ w2.heap.size by have := HS.out; have h2 : W1.heap.size ≤ w2.heap.size := hb2.size; omega))
    have hB4 := hB2.trans (hb4.mono hB2.size)
    refine hK _ _ ⟨s4, ?_⟩
    clear hK K
    have hde : ((len : Int) == sec) = fit := by rw [← HFIT.out]; by_cases h : (len : Int) = sec <;> simp [h]
    refine wpAnyH_take (i := 8) (v := .bool fit) rfl (by kernel_rfl) (by kernel_rfl) (by kernel_rfl) (fun _ _ _ h => h) (Or.inl ⟨by rfl, fun w' _ => by go_simp⟩) s4 ?_
    go_simp
    refine wpAnyH_take (i := 9) (v := .bool fit) rfl (by kernel_rfl) (by kernel_rfl) (by kernel_rfl) (fun _ _ _ h => h) (Or.inl ⟨by rfl, fun w' _ => by go_simp⟩) s4 ?_
    go_simp
    refine wpAnyH_take (i := 10) (v := .bool fit) rfl (by kernel_rfl) (by kernel_rfl) (by kernel_rfl) (fun _ _ _ h => h) (Or.inl ⟨by rfl, fun w' _ => by go_simp⟩) s4 ?_
    go_simp
    refine wpAnyH_done (by kernel_rfl) ?_ _
    go_wp2_with fail
    go_ret
    exact ⟨by rw [HF.out]; rfl, hB4⟩
end Go.Proofs.Yteljibjbndpncaa
