/- Walk of wal.Load. -/
import Derived.Test.YteljibjbndpncaaWfCut
import Derived.Test.YteljibjbndpncaaWfG15
namespace Go.Proofs.Yteljibjbndpncaa
open Go.RowKit

theorem Only.grow {F : Nat → Prop} {X Y Z : World} (h : Only F X Y) (hb : Below X.heap.size Y Z) : Only F X Z :=
  ⟨hb.os.trans h.os, hb.tape.trans h.tape, hb.output.trans h.output, Nat.le_trans h.size hb.size, fun b hl hf => (hb.block b hl).trans (h.block b hl hf)⟩
theorem Only.sub {F G : Nat → Prop} {X Y : World} (h : Only F X Y) (hf : ∀ b, F b → G b) : Only G X Y := ⟨h.os, h.tape, h.output, h.size, fun b hl hg => h.block b hl fun e => hg (hf b e)⟩

/-- Sectors read one behind the other, up to the first error. -/
def readAll (st : DiskSt) : List Int → DiskSt × List (List UInt8) × Int
  | [] => (st, [], 0)
  | i :: is => if (readSt st i).2.2 = 0 then ((readAll (readSt st i).1 is).1, (readSt st i).2.1 :: (readAll (readSt st i).1 is).2.1, (readAll (readSt st i).1 is).2.2) else ((readSt st i).1, [], (readSt st i).2.2)
def logIdx (c : DConf) : List Int := (List.range c.log.toNat).map fun k => logOf c (k : Nat)
def loadSt (st : DiskSt) (c : DConf) : DiskSt × List (List UInt8) × Int :=
  if fitsB st c then ((readAll st (logIdx c)).1, if (readAll st (logIdx c)).2.2 = 0 then (readAll st (logIdx c)).2.1 else [], (readAll st (logIdx c)).2.2) else (st, [], 1)
def LoadPost (F B : Nat → Prop) (P n : Nat) (W : World) (r : DiskSt × List (List UInt8) × Int) (e : Ending) (W' : World) : Prop :=
  ∃ u, e = .returned (.tuple #[u, .int .i64 r.2.2]) ∧ Rep.byte.list.list.val (fun b => W.heap.size ≤ b) W' u r.2.1 ∧ DiskAt W' P F B n r.1 ∧ Only F W W'
/-- Where a reading is: what is read already, and what is left. -/
def Upto (st : DiskSt) (is : List Int) (s : DiskSt) (ls : List (List UInt8)) (k : Nat) : Prop :=
  s.safe = st.safe ∧ s.wait = st.wait ∧ ls.length = k ∧ readAll st is = ((readAll s (is.drop k)).1, ls ++ (readAll s (is.drop k)).2.1, (readAll s (is.drop k)).2.2)
theorem readSt_same (st : DiskSt) (i : Int) : (readSt st i).1.safe = st.safe ∧ (readSt st i).1.wait = st.wait := by
  have h := atSt_same st i
  unfold readSt; split
  · exact h
  · exact h
theorem Upto.start (st : DiskSt) (is : List Int) : Upto st is st [] 0 := ⟨rfl, rfl, rfl, by simp⟩
theorem Upto.next {st : DiskSt} {is : List Int} {s : DiskSt} {ls : List (List UInt8)} {k : Nat} {i : Int} (h : Upto st is s ls k) (hi : is[k]? = some i) (h0 : (readSt s i).2.2 = 0) : Upto st is (readSt s i).1 (ls ++ [(readSt s i).2.1]) (k + 1) := by
  obtain ⟨h1, h2, h3, h4⟩ := h
  obtain ⟨g1, g2⟩ := readSt_same s i
  obtain ⟨hk, he⟩ := List.getElem?_eq_some_iff.1 hi
  refine ⟨g1.trans h1, g2.trans h2, by simp [h3], ?_⟩
  rw [h4, List.drop_eq_getElem_cons hk, he]
  simp [readAll, h0]
theorem Upto.stop {st : DiskSt} {is : List Int} {s : DiskSt} {ls : List (List UInt8)} {k : Nat} {i : Int} (h : Upto st is s ls k) (hi : is[k]? = some i) (h0 : (readSt s i).2.2 ≠ 0) : (readAll st is).1 = (readSt s i).1 ∧ (readAll st is).2.2 = (readSt s i).2.2 := by
  obtain ⟨h1, h2, h3, h4⟩ := h
  obtain ⟨hk, he⟩ := List.getElem?_eq_some_iff.1 hi
  rw [h4, List.drop_eq_getElem_cons hk, he]
  simp [readAll, h0]
theorem Upto.all {st : DiskSt} {is : List Int} {s : DiskSt} {ls : List (List UInt8)} {k : Nat} (h : Upto st is s ls k) (hk : is.length ≤ k) : readAll st is = (s, ls, 0) := by
  obtain ⟨h1, h2, h3, h4⟩ := h
  rw [h4, List.drop_of_length_le hk]
  simp [readAll]
theorem logIdx_get {c : DConf} {k : Nat} (h : (k : Int) < c.log) : (logIdx c)[k]? = some (logOf c k) := by
  unfold logIdx
  rw [List.getElem?_map, List.getElem?_range (by omega)]; rfl
theorem logOf_wf {c : DConf} (hr : confRight c = true) (k : Nat) : (Lit.int .i64 (logOf c k)).wf = true := by
  have hf := (right_facts hr).1
  obtain ⟨g1, g2, _⟩ := hf
  have m1 : 0 ≤ (k : Int) % c.log := Int.emod_nonneg _ (by omega)
  have m2 : (k : Int) % c.log < c.log := Int.emod_lt_of_pos _ (by omega)
  unfold logOf; split
  · exact wf_i64 (by omega) (by omega)
  · decide

set_option maxRecDepth 100000 in
set_option maxHeartbeats 1000000 in
/-- wal.Load of no device -/
theorem wload_nil {Q : Nat → Prop} {w : World} {v : Value} {c : DConf} (hx : rConf.val Q w v c) :
    Calls Try.prog 32 #[.pointer none, v] w fun e w' => e = .returned (.tuple #[.slice none 0 0, .int .i64 4]) ∧ Below w.heap.size w w' := by
  obtain ⟨A, cap, rfl, _⟩ := rConf_val hx
  have hbel : Below w.heap.size w (w.alloc (.cells #[.int .i64 c.log, .int .i64 c.pages, .int .i64 c.entities, .int .i64 c.gens, .slice A c.comps.length cap] 49)) := (Below.refl _ _).alloc (Nat.le_refl _) _
  generalize hW1 : w.alloc (.cells #[.int .i64 c.log, .int .i64 c.pages, .int .i64 c.entities, .int .i64 c.gens, .slice A c.comps.length cap] 49) = W1 at *
  have HB := Lib.hid hbel
  clear hx hbel
  go_enter Try.func32, Try.ntmps32
  go_wp2_with fail
  go_ret2
  exact ⟨rfl, HB.out⟩

set_option maxRecDepth 100000 in
set_option maxHeartbeats 4000000 in
/-- wal.Load -/
theorem wload_calls {Q : Nat → Prop} {W : World} {P : Nat} {F B : Nat → Prop} {n : Nat} {st : DiskSt} {v : Value} {c : DConf} (h : DiskAt W P F B n st) (hx : rConf.val Q W v c) (hQ : ∀ k, Q k → ¬ F k)
    (hl : ∀ x ∈ st.safe, x.length ≤ 100000) (hw : ∀ j, ∀ x ∈ st.wait j, x.length ≤ 100000) :
    Calls Try.prog 32 #[.pointer (some ⟨P, 0, none⟩), v] W (LoadPost F B P n W (loadSt st c)) := by
  obtain ⟨A, cap, rfl, _⟩ := rConf_val hx
  have HV := Lib.hid (show ∀ W', Only F W W' → rConf.val Q W' (.agg #[.int .i64 c.log, .int .i64 c.pages, .int .i64 c.entities, .int .i64 c.gens, .slice A c.comps.length cap]) c from fun W' ho => Rep.val_keep (fun k hk hl => ⟨hk, ho.block k hl.lt (hQ k hk)⟩) hx)
  have hbel : Below W.heap.size W (W.alloc (.cells #[.int .i64 c.log, .int .i64 c.pages, .int .i64 c.entities, .int .i64 c.gens, .slice A c.comps.length cap] 49)) := (Below.refl _ _).alloc (Nat.le_refl _) _
  have hbx : (W.alloc (.cells #[.int .i64 c.log, .int .i64 c.pages, .int .i64 c.entities, .int .i64 c.gens, .slice A c.comps.length cap] 49)).heap[W.heap.size]? = some (.cells #[.int .i64 c.log, .int .i64 c.pages, .int .i64 c.entities, .int .i64 c.gens, .slice A c.comps.length cap] 49 (0, 0)) := heap_alloc_new W _
  have hsz : (W.alloc (.cells #[.int .i64 c.log, .int .i64 c.pages, .int .i64 c.entities, .int .i64 c.gens, .slice A c.comps.length cap] 49)).heap.size = W.heap.size + 1 := by simp
  generalize hW1 : W.alloc (.cells #[.int .i64 c.log, .int .i64 c.pages, .int .i64 c.entities, .int .i64 c.gens, .slice A c.comps.length cap] 49) = W1 at *
  have HS := Lib.hid hsz
  have HLT := Lib.hid (show ∀ b, F b ∨ B b → b < W.heap.size by obtain ⟨_, _, _, _, hh⟩ := h; exact hh.lt)
  have HO1 := Lib.hid (Only.of_below (F := F) hbel)
  have HD1 := Lib.hid (h.below hbel)
  have HBX := Lib.hid (show ∀ W', Only F W1 W' → W'.heap[W.heap.size]? = some (.cells #[.int .i64 c.log, .int .i64 c.pages, .int .i64 c.entities, .int .i64 c.gens, .slice A c.comps.length cap] 49 (0, 0)) from fun W' ho => (ho.block _ (by omega) (fun hf => by have := HLT.out _ (.inl hf); omega)).trans hbx)
  have HZ := Lib.hid (show ∀ w' : World, Rep.byte.list.list.val (fun x => W.heap.size ≤ x) w' (.slice none 0 0) ([] : List (List UInt8)) from fun w => Rep.val_nil (by simp [maxLen]))
  have HL := Lib.hid hl
  have HW := Lib.hid hw
  have a0 := cell_row hbx 0
  have a1 := cell_row hbx 1
  have a2 := cell_row hbx 2
  have a3 := cell_row hbx 3
  have a4 := cell_row hbx 4
  clear h hx hbel hbx hsz hl hw
  cases hf : fitsB st c with
  | false =>
    have HF := Lib.hid (show loadSt st c = (st, [], 1) by unfold loadSt; rw [hf]; rfl)
    have HFB := Lib.hid hf
    clear hf
    go_enter Try.func32, Try.ntmps32
    go_wp2_with fail
    refine (fits_calls HD1.out (HV.out _ HO1.out)).mono ?_
    rintro e w2 ⟨rfl, hb2⟩
    rw [HFB.out]
    go_wp2_with fail
    go_ret2
    exact ⟨_, by rw [HF.out]; rfl, by rw [HF.out]; exact HZ.out _, by rw [HF.out]; exact HD1.out.below hb2, HO1.out.trans (Only.of_below hb2)⟩
  | true =>
    have hr : confRight c = true := by unfold fitsB at hf; cases hc : confRight c <;> simp_all
    have HF := Lib.hid (show loadSt st c = ((readAll st (logIdx c)).1, if (readAll st (logIdx c)).2.2 = 0 then (readAll st (logIdx c)).2.1 else [], (readAll st (logIdx c)).2.2) by unfold loadSt; rw [hf]; rfl)
    have HFB := Lib.hid hf
    have HR := Lib.hid hr
    have hff := (right_facts hr).1
    obtain ⟨g1, g2, _⟩ := hff
    clear hf hr
    go_enter Try.func32, Try.ntmps32
    go_wp2_with fail
    refine (fits_calls HD1.out (HV.out _ HO1.out)).mono ?_
    rintro e w2 ⟨rfl, hb2⟩
    rw [HFB.out]
    have HO2 := Lib.hid (show Only F W1 w2 from Only.of_below hb2)
    have HD2 := Lib.hid (HD1.out.below hb2)
    have c0 := cell_row (HBX.out _ HO2.out) 0
    clear a0 a1 a2 a3 a4 hb2
    go_wp2_with fail
    clear c0
    go_loopw [6, 20] (fun u i wr => ∃ (k : Nat) (s : DiskSt) (ls : List (List UInt8)), i = .int .i64 k ∧ k ≤ c.log.toNat ∧ Rep.byte.list.acc 33 W1.heap.size (fun b => W1.heap.size ≤ b) wr u ls ∧ DiskAt wr P F B n s ∧ Only F W1 wr ∧ Hid (Upto st (logIdx c) s ls k)) (fun _ i _ => c.log.toNat - (intOf i).toNat)
    case atStart => exact ⟨0, st, [], rfl, Nat.zero_le _, Rep.acc_nil, HD2.out, HO2.out, Upto.start _ _⟩
    case round =>
      obtain ⟨k, s, ls, rfl, hk, hacc, hd, ho, hup⟩ := hrel
      have HACC := Lib.hid hacc
      have HD := Lib.hid hd
      have HO := Lib.hid ho
      have hform := Rep.acc_form hacc
      obtain ⟨A6, c6, rfl, hc6, hm6⟩ := hform
      have b0 := cell_row (HBX.out _ ho) 0
      have b1 := cell_row (HBX.out _ ho) 1
      have b2 := cell_row (HBX.out _ ho) 2
      have b3 := cell_row (HBX.out _ ho) 3
      have b4 := cell_row (HBX.out _ ho) 4
      have HUP := Lib.hid hup.out
      have HLL := Lib.hid hup.out.2.2.1
      generalize hll : ls.length = len at *
      have HLEN := Lib.hid hll
      clear hacc hd ho hup hll
      by_cases hlt : (k : Int) < c.log
      · have HGET := Lib.hid (logIdx_get hlt)
        go_wp2_with fail
        refine (geomLog_calls (HV.out _ (HO1.out.trans HO.out))).mono ?_
        rintro e w3 ⟨rfl, hb3⟩
        have HD3 := Lib.hid (HD.out.below hb3)
        have HO3 := Lib.hid (HO.out.trans (Only.of_below hb3))
        have HB3 := Lib.hid hb3
        have HWF := Lib.hid (logOf_wf HR.out k)
        clear hb3
        generalize logOf c k = at_ at *
        go_wp2_with fail
        refine (dread_calls HD3.out HWF.out (by rw [HUP.out.1]; exact HL.out) (by rw [HUP.out.2.1]; exact HW.out)).mono ?_
        rintro e w4 ⟨u, rfl, hu, hd4, ho4⟩
        have HNEXT := Lib.hid (fun h0 => HUP.out.next HGET.out h0)
        have HSTOP := Lib.hid (fun h0 => HUP.out.stop HGET.out h0)
        generalize readSt s at_ = r at *
        obtain ⟨s4, y, er⟩ := r
        dsimp only at *
        have HO4 := Lib.hid (HO3.out.trans ho4)
        have HD4 := Lib.hid hd4
        obtain ⟨A7, c7, rfl, hc7, hm7, _⟩ := Rep.val_list hu
        have HY := Lib.hid (show Rep.byte.list.val (fun b => W1.heap.size ≤ b ∧ (Value.slice A6 len c6).ownBlock ≠ some b) w4 (.slice A7 y.length c7) y from Rep.val_mono (fun b hb _ => ⟨Nat.le_trans HO3.out.size hb, fun he => by have := (Rep.acc_own HACC.out b he).2; have := HB3.out.size; omega⟩) hu)
        have HACC4 := Lib.hid (show Rep.byte.list.acc 33 W1.heap.size (fun b => W1.heap.size ≤ b) w4 (.slice A6 len c6) ls from by
          refine Rep.acc_keep (fun b hb hl => ?_) (fun _ hb _ => hb) HACC.out
          have hge : W1.heap.size ≤ b := hb.elim id fun e => (Rep.acc_own HACC.out b e).1
          rw [ho4.block b (Nat.lt_of_lt_of_le hl.lt HB3.out.size) (fun hf => by have := HLT.out _ (.inl hf); have := HS.out; omega), HB3.out.block b hl.lt])
        have HSZ4 := Lib.hid HO4.out.size
        clear hu hd4 ho4
        by_cases he0 : er = 0
        · subst he0
          have HL1 := Lib.hid (show ls.length + 1 ≤ maxLen ∧ (ls.length + 1) * 24 ≤ 140737488355328 by have := HLEN.out; have := HLL.out; unfold maxLen; omega)
          go_wp2_with (refine wpList_snoc (e := 33) (base := W1.heap.size) (Q := fun b => W1.heap.size ≤ b) (r := Rep.byte.list) rfl rfl _ _ 39 _ rfl rfl rfl (.slice none 0 0) 1 24 Try.underlying39 info22 rfl (by decide) rfl _ ls HACC4.out y _ (by exact rfl) HY.out (by exact rfl) (by exact rfl) HL1.out.1 HL1.out.2 HSZ4.out ?_; intro s' w' hacc' hgr hat)
          have hgb : Below W1.heap.size w4 w' := (Below.refl _ _).grown hgr HSZ4.out (fun b hb => (Rep.acc_own HACC4.out b hb).1)
          refine ⟨⟨k + 1, s4, ls ++ [y], rfl, by omega, hacc', HD4.out.keep hgb.size (fun b hb => hgb.block b (by have := HLT.out b hb; have := HS.out; omega)), HO4.out.grow hgb, HNEXT.out rfl⟩, ?_⟩
          show c.log.toNat - ((k : Int) + 1).toNat < c.log.toNat - (k : Int).toNat
          omega
        · have g0 : (er == 0) = false := by simpa using he0
          have HST := Lib.hid (HSTOP.out he0)
          have HNE := Lib.hid he0
          clear he0
          go_wp2_with fail
          go_ret2
          refine ⟨_, by rw [HF.out]; dsimp only; rw [HST.out.2]; rfl, by rw [HF.out]; dsimp only; rw [HST.out.2, if_neg HNE.out]; exact HZ.out _, by rw [HF.out]; dsimp only; rw [HST.out.1]; exact HD4.out, HO1.out.trans HO4.out⟩
      · have HALL := Lib.hid (HUP.out.all (by unfold logIdx; rw [List.length_map, List.length_range]; omega))
        have HV6 := Lib.hid (show Rep.byte.list.list.val (fun b => W.heap.size ≤ b) wr (.slice A6 len c6) ls from by
          refine Rep.val_mono (fun b hb _ => ?_) (Rep.acc_val HACC.out)
          have := HS.out
          rcases hb with hb | hb
          · omega
          · have := (Rep.acc_own HACC.out b hb).1; omega)
        go_wp2_with fail
        go_ret2
        exact ⟨_, by rw [HF.out, HALL.out]; rfl, by rw [HF.out, HALL.out]; exact HV6.out, by rw [HF.out, HALL.out]; exact HD.out, HO1.out.trans HO.out⟩
end Go.Proofs.Yteljibjbndpncaa
