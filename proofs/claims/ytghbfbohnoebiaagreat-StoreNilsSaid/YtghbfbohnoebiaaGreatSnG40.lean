/- Texts on which the proofs stand: Alloc, Take, StoreTake, CountMath, AllocNew, StoreBlank. No condition is laid on any input. -/
import Derived.Test.YtghbfbohnoebiaaGreatSnG30
import Derived.Test.YtghbfbohnoebiaaGreatSnG35
namespace Go.Proofs.YtghbfbohnoebiaaGreat
open Go.RowKit

theorem acc_int {e base : Nat} {Q : Nat → Prop} {w : World} {v : Value} {xs : List Int} (h : (Rep.int .i64).acc e base Q w v xs) {i : Nat} {x : Int} (hx : xs[i]? = some x) :
    ∃ g cap, v = .slice (some ⟨g, 0, none⟩) xs.length cap ∧ w.cell? ⟨g, i, none⟩ = some (.int .i64 x) ∧ w.frozen? ⟨g, i, none⟩ = false ∧ g < w.heap.size ∧ base ≤ g ∧ xs.length ≤ cap ∧ cap ≤ maxLen := by
  have hi := (List.getElem?_eq_some_iff.1 hx).1
  obtain ⟨g, cap, cur, cells, rfl, hb, hg, h3, h4, h5, h6, h7⟩ := acc_row h (by omega)
  obtain ⟨es, hrd, hcell⟩ := Rep.row_get h7 hx
  obtain ⟨rfl, _⟩ := hrd
  refine ⟨g, cap, rfl, ?_, frozen_row hg i, (Array.getElem?_eq_some_iff.1 hg).1, hb, h3, h4⟩
  have h8 := hcell 0 _ rfl
  rw [show i * (Rep.int .i64).size + 0 = i from Nat.mul_one i, ← h6, List.getElem?_take] at h8
  split at h8
  · exact (cell_row hg i).trans (by simpa using h8)
  · cases h8
theorem acc_int_put {e base : Nat} {Q : Nat → Prop} {w : World} {v : Value} {xs : List Int} (h : (Rep.int .i64).acc e base Q w v xs) {i : Nat} {x y : Int} (hx : xs[i]? = some x) (hy : (Lit.int .i64 y).wf = true) {g cap : Nat} (hv : v = .slice (some ⟨g, 0, none⟩) xs.length cap) :
    (Rep.int .i64).acc e base Q (w.setCell ⟨g, i, none⟩ (.int .i64 y)) v (xs.set i y) := by
  obtain ⟨g2, cap2, he, _, hacc⟩ := Rep.acc_put (r := Rep.int .i64) (u := .int .i64 y) (y := y) rfl h (List.getElem?_eq_some_iff.1 hx).1 ⟨rfl, hy⟩ rfl
  rw [hv] at he
  cases he
  exact hacc

/-- How often pages are held, in memory: the block A, and a block of its own. -/
structure AllocAt (W : World) (A base : Nat) (refs : List Int) (v : Value) : Prop where
  blk : W.heap[A]? = some (.cells #[v] 211 (0, 0))
  acc : (Rep.int .i64).acc 3 base (fun _ => False) W v refs
  ne : v.ownBlock ≠ some A
theorem AllocAt.keep {W W' : World} {A base : Nat} {refs : List Int} {v : Value} (h : AllocAt W A base refs v) (hA : W'.heap[A]? = W.heap[A]?) (hv : ∀ b, v.ownBlock = some b → W'.heap[b]? = W.heap[b]?) : AllocAt W' A base refs v :=
  ⟨hA.trans h.blk, Rep.acc_keep (fun b hb _ => hb.elim (fun e => e.elim) (fun e => hv b e)) (fun _ hb _ => hb) h.acc, h.ne⟩
theorem AllocAt.lt {W : World} {A base : Nat} {refs : List Int} {v : Value} (h : AllocAt W A base refs v) : A < W.heap.size := (Array.getElem?_eq_some_iff.1 h.blk).1
theorem AllocAt.call {W W' : World} {A base : Nat} {refs : List Int} {v : Value} (h : AllocAt W A base refs v) (hb : Below W.heap.size W W') : AllocAt W' A base refs v :=
  h.keep (hb.block _ h.lt) (fun b e => hb.block _ (Rep.acc_own h.acc b e).2)

/-- One more, or one less, of a page. -/
def addStep (by_ : Int) (o : Option (List Int)) (p : Int) : Option (List Int) := o.bind fun r => if 0 ≤ p ∧ p < r.length ∧ 0 ≤ r.getD p.toNat 0 + by_ then some (r.set p.toNat (r.getD p.toNat 0 + by_)) else none
def addS (by_ : Int) (refs l : List Int) : Option (List Int) := l.foldl (addStep by_) (some refs)
theorem addStep_none (by_ : Int) : ∀ l : List Int, l.foldl (addStep by_) none = none
  | [] => rfl
  | _ :: r => addStep_none by_ r
theorem addS_take {by_ : Int} {refs l : List Int} {k : Nat} {p : Int} (h : l[k]? = some p) : addS by_ refs (l.take (k + 1)) = addStep by_ (addS by_ refs (l.take k)) p := by
  unfold addS
  rw [List.take_add_one, h, List.foldl_append]; rfl
theorem addS_stop {by_ : Int} {refs l : List Int} {k : Nat} (h : addS by_ refs (l.take k) = none) : addS by_ refs l = none := by
  have e : l = l.take k ++ l.drop k := (List.take_append_drop k l).symm
  unfold addS at h ⊢
  rw [e, List.foldl_append, h, addStep_none]
/-- The numbers are small. -/
def SmallRefs (B : Int) (refs : List Int) : Prop := ∀ (j : Nat) x, refs[j]? = some x → 0 ≤ x ∧ x ≤ B
theorem SmallRefs.getD {B : Int} {refs : List Int} (h : SmallRefs B refs) {j : Nat} (hj : j < refs.length) : 0 ≤ refs.getD j 0 ∧ refs.getD j 0 ≤ B := by
  have := h j _ (List.getElem?_eq_getElem hj)
  rwa [List.getD_eq_getElem?_getD, List.getElem?_eq_getElem hj]
theorem SmallRefs.set {B : Int} {refs : List Int} (h : SmallRefs B refs) {j : Nat} {x : Int} (h0 : 0 ≤ x) (h1 : x ≤ B + 1) : SmallRefs (B + 1) (refs.set j x) := fun i y hy => by
  rw [List.getElem?_set] at hy
  split at hy
  · split at hy
    · rw [← Option.some.inj hy]; exact ⟨h0, h1⟩
    · cases hy
  · have := h i y hy; omega
theorem addStep_len {by_ : Int} {r r' : List Int} {p : Int} (h : addStep by_ (some r) p = some r') : r'.length = r.length := by
  unfold addStep at h
  simp only [Option.bind_some] at h
  split at h
  · rw [← Option.some.inj h, List.length_set]
  · cases h

set_option maxRecDepth 100000 in
/-- alloc.Size -/
theorem asize_calls {W : World} {A base : Nat} {refs : List Int} {v : Value} (h : AllocAt W A base refs v) :
    Calls Tryz.prog 154 #[.pointer (some ⟨A, 0, none⟩)] W fun e W' => e = .returned (.int .i64 refs.length) ∧ W' = W := by
  obtain ⟨A6, c6, rfl, hc6, hm6⟩ := Rep.acc_form h.acc
  have e0 := cell_row h.blk 0
  clear h
  go_enter Tryz.func154, Tryz.ntmps154
  go_wp2_with fail
  go_ret
  exact ⟨rfl, rfl⟩

set_option maxRecDepth 100000 in
/-- alloc.there -/
theorem athere_calls {W : World} {A base : Nat} {refs : List Int} {v : Value} {p : Int} (h : AllocAt W A base refs v) :
    Calls Tryz.prog 170 #[.pointer (some ⟨A, 0, none⟩), .int .i64 p] W fun e W' => e = .returned (.bool (decide (0 ≤ p ∧ p < refs.length))) ∧ W' = W := by
  have H := Lib.hid h
  clear h
  obtain ⟨d, hd⟩ : ∃ d, decide (0 ≤ p ∧ p < refs.length) = d := ⟨_, rfl⟩
  rw [hd]
  have HD := Lib.hid hd
  clear hd
  by_cases h0 : 0 ≤ p
  · go_enter Tryz.func170, Tryz.ntmps170
    go_wp2_with fail
    refine (asize_calls H.out).mono ?_
    rintro e w1 ⟨rfl, hw⟩
    obtain rfl := hw.symm
    clear hw
    by_cases h1 : p < refs.length
    · go_wp2_with fail
      go_ret
      exact ⟨by rw [← HD.out, decide_eq_true (show 0 ≤ p ∧ p < refs.length by omega)]; rfl, rfl⟩
    · go_wp2_with fail
      go_ret
      exact ⟨by rw [← HD.out, decide_eq_false (show ¬ (0 ≤ p ∧ p < refs.length) by omega), decide_eq_false (show ¬ (p < refs.length) by omega)]; rfl, rfl⟩
  · go_enter Tryz.func170, Tryz.ntmps170
    go_wp2_with fail
    go_ret
    exact ⟨by rw [← HD.out, decide_eq_false (show ¬ (0 ≤ p ∧ p < refs.length) by omega)]; rfl, rfl⟩

/-- Behind an adding. -/
def AllocAdd (W : World) (A base : Nat) (refs : List Int) (v : Value) (r : Option (List Int)) (e : Ending) (W' : World) : Prop :=
  e = .returned (.bool r.isSome) ∧ (∃ v', AllocAt W' A base (r.getD refs) v' ∧ (v' = v ∨ ∀ b, v'.ownBlock = some b → W.heap.size ≤ b)) ∧ Only (fun b => b = A) W W'

set_option maxRecDepth 100000 in
set_option maxHeartbeats 2000000 in
/-- alloc.add -/
theorem aadd_calls {Q : Nat → Prop} {W : World} {A base : Nat} {refs l : List Int} {v u : Value} {B by_ : Int} (h : AllocAt W A base refs v) (hx : (Rep.int .i64).list.val Q W u l) (hl : l.length ≤ 1000000) (hr : refs.length ≤ 1000000)
    (hbase : base ≤ W.heap.size) (hB : 0 ≤ B ∧ B ≤ 1000000000) (hs : SmallRefs B refs) (hby : -1 ≤ by_ ∧ by_ ≤ 1) :
    Calls Tryz.prog 121 #[.pointer (some ⟨A, 0, none⟩), .int .i64 by_, u] W (AllocAdd W A base refs v (addS by_ refs l)) := by
  obtain ⟨A6, c6, rfl, hc6, hm6⟩ := Rep.acc_form h.acc
  obtain ⟨A2, c2, rfl, hc1, hc2, hAt⟩ := Rep.val_list hx
  have HA := Lib.hid h
  have HAT := Lib.hid hAt
  have HV := Lib.hid (Rep.acc_val h.acc)
  have HSM := Lib.hid hs
  have HBZ := Lib.hid hbase
  have e0 := cell_row h.blk 0
  unfold maxLen at hc2
  clear h hx hAt hs hbase
  go_enter Tryz.func121, Tryz.ntmps121
  go_wp2_with fail
  refine (cloneInts_calls HV.out hr).mono ?_
  rintro e w1 ⟨v1, rfl, hacc1, hb1⟩
  have HC1 := Lib.hid hacc1
  have HB1 := Lib.hid hb1
  obtain ⟨A7, c7, rfl, hc7, hm7⟩ := Rep.acc_form hacc1
  clear hacc1 hb1 e0
  go_wp2_with fail
  go_loopw [19] (fun i wr => ∃ (k : Nat) (cur : List Int), i = .int .i64 k ∧ k ≤ l.length ∧ cur.length = refs.length ∧ Hid ((Rep.int .i64).acc 3 W.heap.size (fun _ => False) wr (.slice A7 refs.length c7) cur) ∧ Hid (Below W.heap.size W wr) ∧ Hid (addS by_ refs (l.take k) = some cur) ∧ Hid (SmallRefs (B + k) cur)) (fun i _ => l.length - (intOf i).toNat)
  case atStart => exact ⟨0, refs, rfl, Nat.zero_le _, rfl, HC1, HB1, Lib.hid rfl, Lib.hid (by simpa using HSM.out)⟩
  case round =>
    obtain ⟨k, cur, rfl, hk, hcl, HC, HBR, HUP, HSK⟩ := hrel
    by_cases hlt : (k : Int) < l.length
    · obtain ⟨p, hp⟩ : ∃ p, l[k]? = some p := ⟨_, List.getElem?_eq_getElem (by omega)⟩
      have HP := Lib.hid hp
      obtain ⟨lb, lo, rfl, hcell, hwf⟩ : ∃ lb lo, A2 = some ⟨lb, lo, none⟩ ∧ W.cell? ⟨lb, lo + k, none⟩ = some (.int .i64 p) ∧ (Lit.int .i64 p).wf = true := by
        obtain ⟨lb, lo, h1, _, h2, h3⟩ := int_at HAT.out hp
        exact ⟨lb, lo, h1, h2, h3⟩
      have cp := cell_call (HBR.out.mono (Nat.le_refl _)) hcell
      have HAR := Lib.hid (HA.out.call HBR.out)
      have HSTEP := Lib.hid (addS_take (by_ := by_) (refs := refs) hp)
      have HWFP := Lib.hid hwf
      clear hp hcell hwf
      go_wp2_with fail
      refine (athere_calls (p := p) HAR.out).mono ?_
      rintro e w3 ⟨rfl, hw⟩
      obtain rfl := hw.symm
      clear hw
      by_cases hin : 0 ≤ p ∧ p < refs.length
      · obtain ⟨q, rfl⟩ : ∃ q : Nat, p = (q : Int) := ⟨p.toNat, by omega⟩
        have hqr : q < refs.length := by omega
        obtain ⟨x, hx⟩ : ∃ x, cur[q]? = some x := ⟨_, List.getElem?_eq_getElem (by omega)⟩
        have HX := Lib.hid hx
        obtain ⟨g, cap, hv, hcx, hzx, hgl, hgb, _, _⟩ := acc_int HC.out hx
        have hgd : cur.getD q 0 = x := by rw [List.getD_eq_getElem?_getD, hx]; rfl
        obtain ⟨hx0, hx1⟩ := HSK.out q x hx
        have HST := Lib.hid (show addStep by_ (some cur) (q : Int) = if 0 ≤ x + by_ then some (cur.set q (x + by_)) else none by
          unfold addStep
          simp only [Option.bind_some, Int.toNat_natCast, hgd]
          by_cases hz : 0 ≤ x + by_
          · rw [if_pos ⟨by omega, by omega, hz⟩, if_pos hz]
          · rw [if_neg (fun h => hz h.2.2), if_neg hz])
        rw [decide_eq_true hin]
        have hA7 : A7 = some ⟨g, 0, none⟩ ∧ c7 = cap := by injection hv with e1 e2 e3; exact ⟨e1, e3⟩
        obtain ⟨rfl, rfl⟩ := hA7
        have HVE := Lib.hid hv
        have HGB := Lib.hid hgb
        have iw : IntKind.i64.wrap (x + by_) = x + by_ := IntWalk.i64_in _ ⟨by omega, by omega⟩
        clear hx hgd hv hgb
        by_cases hz : 0 ≤ x + by_
        · have HADD := Lib.hid (show addS by_ refs (l.take (k + 1)) = some (cur.set q (x + by_)) by rw [HSTEP.out, HUP.out, HST.out, if_pos hz])
          have HNB := Lib.hid (show SmallRefs (B + (k + 1 : Nat)) (cur.set q (x + by_)) by have := HSK.out.set (j := q) (x := x + by_) hz (by omega); rwa [show (B + (k : Int) + 1) = B + ((k + 1 : Nat) : Int) by omega] at this)
          have HNA := Lib.hid (show (Rep.int .i64).acc 3 W.heap.size (fun _ => False) (wr.setCell ⟨g, q, none⟩ (.int .i64 (x + by_))) (.slice (some ⟨g, 0, none⟩) refs.length c7) (cur.set q (x + by_)) from acc_int_put HC.out HX.out (wf_i64 (by omega) (by omega)) (by rw [hcl]))
          have HNW := Lib.hid (show Below W.heap.size W (wr.setCell ⟨g, q, none⟩ (.int .i64 (x + by_))) from below_put HBR.out HGB.out)
          have iw2 : IntKind.i64.wrap ((k : Int) + 1) = (k : Int) + 1 := IntWalk.i64_in _ ⟨by omega, by omega⟩
          go_wp2_with fail
          exact ⟨⟨k + 1, cur.set q (x + by_), by go_num, by omega, by rw [List.length_set]; exact hcl, HNA, HNW, HADD, HNB⟩, by simp [intOf]; omega⟩
        · have HNO := Lib.hid (show addS by_ refs l = none from addS_stop (k := k + 1) (by rw [HSTEP.out, HUP.out, HST.out, if_neg hz]))
          go_wp2_with fail
          go_ret
          exact ⟨by rw [HNO.out]; rfl, ⟨_, by rw [HNO.out]; exact HAR.out, .inl rfl⟩, Only.of_below HBR.out⟩
      · have HNO := Lib.hid (show addS by_ refs l = none from addS_stop (k := k + 1) (by rw [HSTEP.out, HUP.out]; unfold addStep; simp only [Option.bind_some]; rw [if_neg (fun h => hin ⟨h.1, by rw [← hcl]; exact h.2.1⟩)]))
        rw [decide_eq_false hin]
        go_wp2_with fail
        go_ret
        exact ⟨by rw [HNO.out]; rfl, ⟨_, by rw [HNO.out]; exact HAR.out, .inl rfl⟩, Only.of_below HBR.out⟩
    · obtain rfl : k = l.length := by omega
      have HALL := Lib.hid (show addS by_ refs l = some cur by have := HUP.out; rwa [List.take_length] at this)
      have HR := Lib.hid ((HA.out.call HBR.out).blk)
      obtain ⟨b0, z0⟩ := rw1 HR.out
      go_wp2_with fail
      go_ret
      have hown := Rep.acc_own HC.out
      have hlt := HA.out.lt
      refine ⟨by rw [HALL.out]; rfl, ⟨.slice A7 refs.length c7, ?_, .inr fun b hb => (hown b hb).1⟩, (show Only (fun b => b = A) W wr from Only.of_below HBR.out).put rfl⟩
      rw [HALL.out]
      refine ⟨heap_setRow HR.out, ?_, fun e => by have := (hown A e).1; omega⟩
      refine Rep.acc_base ?_ (Rep.acc_keep (fun b hb _ => Below.heap_setCell _ _ _ _ (fun (e : b = A) => ?_)) (fun _ hb _ => hb) HC.out)
      · exact HBZ.out
      · rcases hb with hb | hb
        · exact hb.elim
        · have := (hown b hb).1
          rw [e] at this
          omega

set_option maxRecDepth 100000 in
/-- alloc.Hold -/
theorem ahold_calls {Q : Nat → Prop} {W : World} {A base : Nat} {refs l : List Int} {v u : Value} {B : Int} (h : AllocAt W A base refs v) (hx : (Rep.int .i64).list.val Q W u l) (hl : l.length ≤ 1000000) (hr : refs.length ≤ 1000000)
    (hbase : base ≤ W.heap.size) (hB : 0 ≤ B ∧ B ≤ 1000000000) (hs : SmallRefs B refs) :
    Calls Tryz.prog 58 #[.pointer (some ⟨A, 0, none⟩), u] W (AllocAdd W A base refs v (addS 1 refs l)) := by
  have HC := Lib.hid (aadd_calls (by_ := 1) h hx hl hr hbase hB hs (by omega))
  obtain ⟨A2, c2, rfl, _, _, _⟩ := Rep.val_list hx
  clear h hx hl hr hbase hB hs
  go_enter Tryz.func58, Tryz.ntmps58
  go_wp2_with fail
  refine HC.out.mono ?_
  rintro e w1 ⟨rfl, h1, h2⟩
  have H1 := Lib.hid h1
  have H2 := Lib.hid h2
  clear h1 h2
  go_wp2_with fail
  go_ret
  exact ⟨rfl, H1.out, H2.out⟩
end Go.Proofs.YtghbfbohnoebiaaGreat
namespace Go.Proofs.YtghbfbohnoebiaaGreat
open Go.RowKit

theorem findIdx_none {l : List Int} {x : Int} (h : ∀ (j : Nat) y, l[j]? = some y → y ≠ x) : l.findIdx? (fun r => decide (r = x)) = none := by
  rw [List.findIdx?_eq_none_iff]
  intro y hy
  obtain ⟨j, hj⟩ := List.getElem?_of_mem hy
  simpa using h j y hj
theorem findIdx_some {l : List Int} {x : Int} {k : Nat} (hk : l[k]? = some x) (h : ∀ (j : Nat) y, j < k → l[j]? = some y → y ≠ x) : l.findIdx? (fun r => decide (r = x)) = some k := by
  rw [List.findIdx?_eq_some_iff_getElem]
  obtain ⟨h1, h2⟩ := List.getElem?_eq_some_iff.1 hk
  refine ⟨h1, by simpa using h2, fun j hj => ?_⟩
  simpa using h j _ hj (List.getElem?_eq_getElem (by omega))
def indexI (l : List Int) (x : Int) : Int := match l.findIdx? (fun r => decide (r = x)) with
  | none => -1
  | some i => i

set_option maxRecDepth 100000 in
set_option maxHeartbeats 1000000 in
/-- slices.Index at numbers -/
theorem index_calls {Q : Nat → Prop} {w : World} {v : Value} {l : List Int} {x : Int} (hx : (Rep.int .i64).list.val Q w v l) :
    Calls Tryz.prog 162 #[v, .int .i64 x] w fun e w' => e = .returned (.int .i64 (indexI l x)) ∧ w' = w := by
  obtain ⟨A, c, rfl, hc1, hc2, hA⟩ := Rep.val_list hx
  unfold maxLen at hc2
  have HA := Lib.hid hA
  clear hx hA
  go_enter Tryz.func162, Tryz.ntmps162
  go_wp2_with fail
  go_loop [8] (fun i => ∃ k : Nat, i = .int .i64 k ∧ k ≤ l.length ∧ Hid (∀ (j : Nat) y, j < k → l[j]? = some y → y ≠ x)) (fun i => l.length - (intOf i).toNat)
  case atStart => exact ⟨0, rfl, Nat.zero_le _, Lib.hid fun j _ hj => absurd hj (Nat.not_lt_zero _)⟩
  case round =>
    obtain ⟨k, rfl, hk, HJ⟩ := hrel
    by_cases hlt : (k : Int) < l.length
    · obtain ⟨y, hy⟩ : ∃ y, l[k]? = some y := ⟨_, List.getElem?_eq_getElem (by omega)⟩
      obtain ⟨b, off, rfl, _, hcell, _⟩ := int_at HA.out hy
      have HY := Lib.hid hy
      clear hy
      by_cases he : x = y
      · subst he
        have HE := Lib.hid (show indexI l x = k by unfold indexI; rw [findIdx_some HY.out HJ.out])
        go_wp2_with fail
        go_ret
        exact ⟨by rw [HE.out]; rfl, rfl⟩
      · have HJ2 := Lib.hid (show ∀ (j : Nat) z, j < k + 1 → l[j]? = some z → z ≠ x from fun j z hj hz => by
          rcases Nat.lt_or_ge j k with h | h
          · exact HJ.out j z h hz
          · obtain rfl : j = k := by omega
            rw [HY.out] at hz
            rw [← Option.some.inj hz]
            exact fun e => he e.symm)
        have iw : IntKind.i64.wrap ((k : Int) + 1) = (k : Int) + 1 := IntWalk.i64_in _ ⟨by omega, by omega⟩
        have bxy : (x == y) = false := beq_eq_false_iff_ne.2 he
        clear he
        go_wp2_with fail
        go_round
        case rel => exact ⟨k + 1, by go_num, by omega, HJ2⟩
        case measure => simp [intOf]; omega
    · have HE := Lib.hid (show indexI l x = -1 by unfold indexI; rw [findIdx_none (fun j y hj => HJ.out j y (by have := (List.getElem?_eq_some_iff.1 hj).1; omega) hj)])
      go_wp2_with fail
      go_ret
      exact ⟨by rw [HE.out]; rfl, rfl⟩

def TakePost27 (W : World) (A base : Nat) (refs : List Int) (v : Value) (e : Ending) (W' : World) : Prop :=
  (∃ b, e = .returned (.tuple #[.int .i64 (takeOne refs).2, .bool b])) ∧ AllocAt W' A base (takeOne refs).1 v ∧ Only (fun b => v.ownBlock = some b) W W'

set_option maxRecDepth 100000 in
set_option maxHeartbeats 1000000 in
/-- alloc.Take -/
theorem atake_calls {W : World} {A base : Nat} {refs : List Int} {v : Value} (h : AllocAt W A base refs v) :
    Calls Tryz.prog 113 #[.pointer (some ⟨A, 0, none⟩)] W (TakePost27 W A base refs v) := by
  obtain ⟨A6, c6, rfl, hc6, hm6⟩ := Rep.acc_form h.acc
  have e0 := cell_row h.blk 0
  have H := Lib.hid h
  have HV := Lib.hid (Rep.acc_val h.acc)
  clear h
  go_enter Tryz.func113, Tryz.ntmps113
  go_wp2_with fail
  refine (index_calls HV.out).mono ?_
  rintro e w1 ⟨rfl, hw⟩
  obtain rfl := hw.symm
  clear hw
  cases hf : refs.findIdx? (fun r => decide (r = 0)) with
  | none =>
    have HI := Lib.hid (show indexI refs 0 = -1 by unfold indexI; rw [hf])
    have HT := Lib.hid (show takeOne refs = (refs, 0) by unfold takeOne; rw [hf])
    rw [HI.out]
    clear hf
    go_wp2_with fail
    go_ret2
    exact ⟨⟨false, by rw [HT.out]; rfl⟩, by rw [HT.out]; exact H.out, Only.refl _ _⟩
  | some i =>
    have HI := Lib.hid (show indexI refs 0 = i by unfold indexI; rw [hf])
    have HT := Lib.hid (show takeOne refs = (refs.set i 1, (i : Int)) by unfold takeOne; rw [hf])
    rw [HI.out]
    obtain ⟨hi, hz, _⟩ := List.findIdx?_eq_some_iff_getElem.1 hf
    have hgi : refs[i]? = some 0 := by rw [List.getElem?_eq_getElem hi]; simpa using hz
    obtain ⟨g, cap, hv, hcx, hzx, hgl, hgb, _, _⟩ := acc_int H.out.acc hgi
    obtain ⟨rfl, rfl⟩ : A6 = some ⟨g, 0, none⟩ ∧ c6 = cap := by injection hv with e1 e2 e3; exact ⟨e1, e3⟩
    have hne : g ≠ A := fun e => H.out.ne (by rw [← e]; rfl)
    have HN := Lib.hid (show AllocAt (W.setCell ⟨g, i, none⟩ (.int .i64 1)) A base (refs.set i 1) (.slice (some ⟨g, 0, none⟩) refs.length c6) from
      ⟨(Below.heap_setCell _ _ _ _ (fun e => hne e.symm)).trans H.out.blk, acc_int_put H.out.acc hgi (by decide) rfl, H.out.ne⟩)
    have HO := Lib.hid (show Only (fun b => (Value.slice (some ⟨g, 0, none⟩) refs.length c6).ownBlock = some b) W (W.setCell ⟨g, i, none⟩ (.int .i64 1)) from (Only.refl _ _).put rfl)
    have hil : (i : Int) < refs.length := by omega
    clear hf hz hgi hv hgb
    go_wp2_with fail
    go_ret2
    exact ⟨⟨true, by rw [HT.out]; rfl⟩, by rw [HT.out]; exact HN.out, HO.out⟩

/-- The pages that are held, rising. -/
def heldTo (refs : List Int) (k : Nat) : List Int := ((List.range k).filter fun j => decide (0 < refs.getD j 0)).map fun j : Nat => (j : Int)
theorem heldTo_next {refs : List Int} {k : Nat} {x : Int} (h : refs[k]? = some x) : heldTo refs (k + 1) = heldTo refs k ++ (if 0 < x then [(k : Int)] else []) := by
  unfold heldTo
  have e : refs.getD k 0 = x := by rw [List.getD_eq_getElem?_getD, h]; rfl
  rw [List.range_succ, List.filter_append, List.map_append]
  congr 1
  by_cases hx : 0 < x
  · simp only [List.filter_cons, List.filter_nil, e, decide_eq_true hx, if_pos hx]; rfl
  · simp only [List.filter_cons, List.filter_nil, e, decide_eq_false hx, if_neg hx]; rfl
theorem heldTo_len (refs : List Int) (k : Nat) : (heldTo refs k).length ≤ k := by
  unfold heldTo
  rw [List.length_map]
  exact Nat.le_trans (List.length_filter_le _ _) (by simp)
theorem held_free : ∀ (refs : List Int), (heldTo refs refs.length).length + freeN refs = refs.length := by
  intro refs
  have key : ∀ k, k ≤ refs.length → (heldTo refs k).length + freeN (refs.take k) = k := by
    intro k
    induction k with
    | zero => intro _; rfl
    | succ k ih =>
      intro hk
      obtain ⟨x, hx⟩ : ∃ x, refs[k]? = some x := ⟨_, List.getElem?_eq_getElem (by omega)⟩
      have h1 := ih (by omega)
      rw [heldTo_next hx, List.take_add_one, hx]
      unfold freeN at h1 ⊢
      rw [List.length_append, List.countP_append]
      by_cases h0 : 0 < x
      · rw [if_pos h0]
        simp [show ¬ x ≤ 0 by omega]
        omega
      · rw [if_neg h0]
        simp [show x ≤ 0 by omega]
        omega
  have := key refs.length (Nat.le_refl _)
  rwa [List.take_length] at this

set_option maxRecDepth 100000 in
set_option maxHeartbeats 1000000 in
/-- alloc.Held -/
theorem aheld_calls {W : World} {A base : Nat} {refs : List Int} {v : Value} (h : AllocAt W A base refs v) (hr : refs.length ≤ 1000000) :
    Calls Tryz.prog 155 #[.pointer (some ⟨A, 0, none⟩)] W (ResA (Rep.int .i64) 3 W (heldTo refs refs.length)) := by
  obtain ⟨A6, c6, rfl, hc6, hm6⟩ := Rep.acc_form h.acc
  have e0 := cell_row h.blk 0
  have H := Lib.hid h
  clear h
  go_enter Tryz.func155, Tryz.ntmps155
  go_wp2_with fail
  clear e0
  go_loopw [3, 13] (fun u i wr => ∃ k : Nat, i = .int .i64 k ∧ k ≤ refs.length ∧ Hid ((Rep.int .i64).acc 3 W.heap.size (fun _ => False) wr u (heldTo refs k)) ∧ Hid (Below W.heap.size W wr)) (fun _ i _ => refs.length - (intOf i).toNat)
  case atStart => exact ⟨0, rfl, Nat.zero_le _, Lib.hid Rep.acc_nil, Lib.hid (Below.refl _ _)⟩
  case round =>
    obtain ⟨k, rfl, hk, HC, HB⟩ := hrel
    obtain ⟨A7, c7, rfl, hc7, hm7⟩ := Rep.acc_form HC.out
    have hq := heldTo_len refs k
    have iw : IntKind.i64.wrap ((k : Int) + 1) = (k : Int) + 1 := IntWalk.i64_in _ ⟨by omega, by omega⟩
    by_cases hlt : (k : Int) < refs.length
    · obtain ⟨x, hx⟩ : ∃ x, refs[k]? = some x := ⟨_, List.getElem?_eq_getElem (by omega)⟩
      obtain ⟨g, cap, hv, hcx, _⟩ := acc_int (H.out.call HB.out).acc hx
      obtain ⟨rfl, rfl⟩ : A6 = some ⟨g, 0, none⟩ ∧ c6 = cap := by injection hv with e1 e2 e3; exact ⟨e1, e3⟩
      have HN := Lib.hid (heldTo_next hx)
      have HL := Lib.hid (show (heldTo refs k).length + 1 ≤ maxLen ∧ ((heldTo refs k).length + 1) * 8 ≤ 140737488355328 by unfold maxLen; omega)
      have HSZ := Lib.hid HB.out.size
      clear hx hv
      generalize hqq : heldTo refs k = q at *
      clear hqq
      by_cases h0 : 0 < x
      · rw [if_pos h0] at HN
        go_wp2_with (refine wpList_snoc (e := 3) (base := W.heap.size) (Q := fun _ => False) (r := Rep.int .i64) rfl rfl _ _ 35 _ rfl rfl rfl (.int .i64 0) 1 8 Tryz.underlying35 infoI3 rfl (by decide) rfl _ q HC.out (k : Int) _ (by exact rfl) (⟨_, rfl, rfl, wf_i64 (by omega) (by omega)⟩) (by exact rfl) (by exact rfl) HL.out.1 HL.out.2 HSZ.out ?_; intro s' w' hacc' hgr hat)
        have hgb : Below W.heap.size wr w' := (Below.refl _ _).grown hgr HSZ.out (fun b hb => (Rep.acc_own HC.out b hb).1)
        exact ⟨⟨k + 1, by go_num, by omega, Lib.hid (by rw [HN.out]; exact hacc'), Lib.hid (HB.out.trans hgb)⟩, by simp [intOf]; omega⟩
      · rw [if_neg h0, List.append_nil] at HN
        go_wp2_with fail
        exact ⟨⟨k + 1, by go_num, by omega, Lib.hid (by rw [HN.out]; exact HC.out), HB⟩, by simp [intOf]; omega⟩
    · obtain rfl : k = refs.length := by omega
      generalize hqq : heldTo refs refs.length = q at *
      go_wp2_with fail
      go_ret
      exact ⟨_, rfl, HC.out, HB.out⟩

set_option maxRecDepth 100000 in
/-- alloc.Free -/
theorem afree_calls {W : World} {A base : Nat} {refs : List Int} {v : Value} (h : AllocAt W A base refs v) (hr : refs.length ≤ 1000000) :
    Calls Tryz.prog 101 #[.pointer (some ⟨A, 0, none⟩)] W fun e W' => e = .returned (.int .i64 (freeN refs)) ∧ Below W.heap.size W W' := by
  have H := Lib.hid h
  have HR := Lib.hid hr
  have hf := held_free refs
  obtain ⟨n, hn⟩ : ∃ n, freeN refs = n := ⟨_, rfl⟩
  rw [hn] at hf ⊢
  obtain ⟨m, hm⟩ : ∃ m, (heldTo refs refs.length).length = m := ⟨_, rfl⟩
  rw [hm] at hf
  have HM := Lib.hid hm
  have iw : IntKind.i64.wrap ((refs.length : Int) - m) = n := by rw [show (refs.length : Int) - m = n by omega]; exact IntWalk.i64_in _ ⟨by omega, by omega⟩
  clear h hr hf hn hm
  go_enter Tryz.func101, Tryz.ntmps101
  go_wp2_with fail
  refine (asize_calls H.out).mono ?_
  rintro e w1 ⟨rfl, hw⟩
  obtain rfl := hw.symm
  clear hw
  go_wp2_with fail
  refine (aheld_calls H.out HR.out).mono ?_
  rintro e w2 ⟨u, rfl, hacc, hb⟩
  have HB := Lib.hid hb
  obtain ⟨A7, c7, rfl, _, _⟩ := Rep.acc_form hacc
  rw [HM.out]
  clear hacc hb
  go_wp2_with fail
  go_ret
  exact ⟨rfl, HB.out⟩

set_option maxRecDepth 100000 in
/-- alloc.Drop -/
theorem adrop_calls {Q : Nat → Prop} {W : World} {A base : Nat} {refs l : List Int} {v u : Value} {B : Int} (h : AllocAt W A base refs v) (hx : (Rep.int .i64).list.val Q W u l) (hl : l.length ≤ 1000000) (hr : refs.length ≤ 1000000)
    (hbase : base ≤ W.heap.size) (hB : 0 ≤ B ∧ B ≤ 1000000000) (hs : SmallRefs B refs) :
    Calls Tryz.prog 56 #[.pointer (some ⟨A, 0, none⟩), u] W (AllocAdd W A base refs v (addS (-1) refs l)) := by
  have HC := Lib.hid (aadd_calls (by_ := -1) h hx hl hr hbase hB hs (by omega))
  obtain ⟨A2, c2, rfl, _, _, _⟩ := Rep.val_list hx
  clear h hx hl hr hbase hB hs
  go_enter Tryz.func56, Tryz.ntmps56
  go_wp2_with fail
  refine HC.out.mono ?_
  rintro e w1 ⟨rfl, h1, h2⟩
  have H1 := Lib.hid h1
  have H2 := Lib.hid h2
  clear h1 h2
  go_wp2_with fail
  go_ret
  exact ⟨rfl, H1.out, H2.out⟩
end Go.Proofs.YtghbfbohnoebiaaGreat
namespace Go.Proofs.YtghbfbohnoebiaaGreat
open Go.RowKit

theorem takeOne_len (refs : List Int) : (takeOne refs).1.length = refs.length := by
  unfold takeOne
  split
  · rfl
  · simp
theorem takeOne_range (refs : List Int) : 0 ≤ (takeOne refs).2 ∧ (takeOne refs).2 ≤ refs.length := by
  unfold takeOne
  split
  · exact ⟨Int.le_refl _, by simp⟩
  · rename_i i hi
    have := (List.findIdx?_eq_some_iff_getElem.1 hi).1
    exact ⟨by simp, by simp; omega⟩

set_option maxRecDepth 100000 in
set_option maxHeartbeats 1000000 in
/-- store.lay, its closure -/
theorem lay1_calls {W : World} {X S A base : Nat} {refs : List Int} {v : Value} {k : Nat} (hX : W.cell? ⟨X, 0, none⟩ = some (.pointer (some ⟨S, 0, none⟩))) (hS : W.cell? ⟨S, 18, none⟩ = some (.pointer (some ⟨A, 0, none⟩))) (h : AllocAt W A base refs v) :
    Calls Tryz.prog 112 #[.int .i64 k, .pointer (some ⟨X, 0, none⟩)] W fun e W' => e = .returned (.tuple #[.int .i64 (takeOne refs).2, .int .i64 0]) ∧ AllocAt W' A base (takeOne refs).1 v ∧ Only (fun b => v.ownBlock = some b) W W' := by
  have H := Lib.hid h
  clear h
  go_enter Tryz.func112, Tryz.ntmps112
  go_wp2_with fail
  refine (atake_calls H.out).mono ?_
  rintro e w1 ⟨⟨b, rfl⟩, h1, h2⟩
  have H1 := Lib.hid h1
  have H2 := Lib.hid h2
  clear h1 h2
  go_wp2_with fail
  go_ret2
  exact ⟨rfl, H1.out, H2.out⟩

/-- So many pages are taken. -/
def takeFn (r : List Int) (_ : Nat) : List Int × Int × Int := ((takeOne r).1, (takeOne r).2, 0)
theorem takeFn_ok (refs : List Int) : ∀ n, (allTo takeFn refs n).2.2 = 0
  | 0 => rfl
  | n + 1 => by rw [allTo_next (takeFn_ok refs n) rfl]
theorem takeFn_len (refs : List Int) : ∀ n, (allTo takeFn refs n).1.length = refs.length
  | 0 => rfl
  | n + 1 => by rw [allTo_next (takeFn_ok refs n) rfl]; exact (takeOne_len _).trans (takeFn_len refs n)
def TakenPost (W : World) (A base : Nat) (refs : List Int) (v : Value) (n : Nat) (e : Ending) (W' : World) : Prop :=
  ∃ u, e = .returned (.tuple #[u, .int .i64 0]) ∧ (Rep.int .i64).acc 3 W.heap.size (fun b => W.heap.size ≤ b) W' u (allTo takeFn refs n).2.1 ∧ AllocAt W' A base (allTo takeFn refs n).1 v ∧ Only (fun b => v.ownBlock = some b) W W'
/-- store.all, where pages are taken -/
theorem taken_calls {W : World} {X S A base n : Nat} {refs : List Int} {v : Value} (hn : n ≤ 100000) (hX : W.cell? ⟨X, 0, none⟩ = some (.pointer (some ⟨S, 0, none⟩))) (hS : W.cell? ⟨S, 18, none⟩ = some (.pointer (some ⟨A, 0, none⟩))) (h : AllocAt W A base refs v) (hr : refs.length ≤ 1000000)
    (hvX : v.ownBlock ≠ some X) (hvS : v.ownBlock ≠ some S) :
    Calls Tryz.prog 111 #[.int .i64 n, .func (.func 112) #[] #[.pointer (some ⟨X, 0, none⟩)]] W (TakenPost W A base refs v n) := by
  refine (allInt_calls (I := fun V r => AllocAt V A base r v ∧ r.length = refs.length) (F := fun b => v.ownBlock = some b) takeFn (st := refs) hn (enters_of Tryz.func112 (by kernel_rfl) rfl) (fun b hb => (Rep.acc_own h.acc b hb).2)
    (fun V V' s hi ho hs hk => ⟨hi.1.keep (hk A h.lt) (fun b e => hk b (Rep.acc_own h.acc b e).2), hi.2⟩) ⟨h, rfl⟩ (fun k V r _ hi ho => ?_)).mono ?_
  · refine (lay1_calls (k := k) (cell_only ho hvX hX) (cell_only ho hvS hS) hi.1).mono ?_
    rintro e w' ⟨rfl, h1, h2⟩
    have hrg := takeOne_range r
    have hl := hi.2
    exact ⟨_, rfl, ⟨_, rfl, rfl, wf_i64 (by show -9223372036854775808 ≤ (takeOne r).2; omega) (by show (takeOne r).2 ≤ 9223372036854775807; omega)⟩, ⟨h1, (takeOne_len r).trans hl⟩, h2⟩
  · rintro e w' ⟨u, rfl, hacc, hi, ho⟩
    exact ⟨u, by rw [takeFn_ok], hacc, hi.1, ho⟩
end Go.Proofs.YtghbfbohnoebiaaGreat
namespace Go.Proofs.YtghbfbohnoebiaaGreat
open Go.RowKit

/-- How often each of so many pages stands in a list. -/
def countsOf (n : Nat) (l : List Int) : List Int := (List.range n).map fun p : Nat => ((l.count (p : Int) : Nat) : Int)
/-- Those that stand nowhere, rising. -/
def freePages (n : Nat) (l : List Int) : List Int := ((List.range n).filter fun p : Nat => decide ((p : Int) ∉ l)).map fun p : Nat => (p : Int)
theorem countsOf_len (n : Nat) (l : List Int) : (countsOf n l).length = n := by simp [countsOf]
theorem countsOf_get {n : Nat} {l : List Int} {p : Nat} (h : p < n) : (countsOf n l)[p]? = some ((l.count (p : Int) : Nat) : Int) := by
  unfold countsOf
  rw [List.getElem?_map, List.getElem?_range h]; rfl
theorem countsOf_getD {n : Nat} {l : List Int} {p : Nat} (h : p < n) : (countsOf n l).getD p 0 = ((l.count (p : Int) : Nat) : Int) := by
  rw [List.getD_eq_getElem?_getD, countsOf_get h]; rfl
theorem countsOf_perm {n : Nat} {l m : List Int} (h : l.Perm m) : countsOf n l = countsOf n m := by
  unfold countsOf
  refine List.map_congr_left fun p _ => ?_
  rw [h.count_eq]
theorem countsOf_set {n : Nat} {l m : List Int} {p : Nat} (_hp : p < n) {y : Int} (hy : y = ((m.count (p : Int) : Nat) : Int)) (ho : ∀ q : Nat, q ≠ p → m.count (q : Int) = l.count (q : Int)) : (countsOf n l).set p y = countsOf n m := by
  apply List.ext_getElem?
  intro j
  rw [List.getElem?_set, countsOf_len]
  by_cases hj : p = j
  · subst hj
    by_cases hl : p < n
    · rw [if_pos rfl, if_pos hl, countsOf_get hl, hy]
    · omega
  · rw [if_neg hj]
    by_cases hl : j < n
    · rw [countsOf_get hl, countsOf_get hl, ho j (Ne.symm hj)]
    · rw [List.getElem?_eq_none (by rw [countsOf_len]; omega), List.getElem?_eq_none (by rw [countsOf_len]; omega)]
theorem addStep_up {n : Nat} {l : List Int} {p : Int} (h : 0 ≤ p ∧ p < n) : addStep 1 (some (countsOf n l)) p = some (countsOf n (p :: l)) := by
  obtain ⟨q, rfl⟩ : ∃ q : Nat, p = q := ⟨p.toNat, by omega⟩
  have hq : q < n := by omega
  show (if 0 ≤ (q : Int) ∧ (q : Int) < (countsOf n l).length ∧ 0 ≤ (countsOf n l).getD (q : Int).toNat 0 + 1 then some ((countsOf n l).set (q : Int).toNat ((countsOf n l).getD (q : Int).toNat 0 + 1)) else none) = _
  rw [Int.toNat_natCast, countsOf_getD hq, countsOf_len, if_pos ⟨by omega, by omega, by omega⟩]
  congr 1
  refine countsOf_set hq (by rw [List.count_cons_self]; omega) fun j hj => ?_
  rw [List.count_cons_of_ne (by omega)]
theorem addStep_down {n : Nat} {l : List Int} {p : Int} (h : 0 ≤ p ∧ p < n) : addStep (-1) (some (countsOf n (p :: l))) p = some (countsOf n l) := by
  obtain ⟨q, rfl⟩ : ∃ q : Nat, p = q := ⟨p.toNat, by omega⟩
  have hq : q < n := by omega
  show (if 0 ≤ (q : Int) ∧ (q : Int) < (countsOf n ((q : Int) :: l)).length ∧ 0 ≤ (countsOf n ((q : Int) :: l)).getD (q : Int).toNat 0 + -1 then some ((countsOf n ((q : Int) :: l)).set (q : Int).toNat ((countsOf n ((q : Int) :: l)).getD (q : Int).toNat 0 + -1)) else none) = _
  have e : ((q : Int) :: l).count (q : Int) = l.count (q : Int) + 1 := List.count_cons_self
  rw [Int.toNat_natCast, countsOf_getD hq, countsOf_len, e, if_pos ⟨by omega, by omega, by omega⟩]
  congr 1
  refine countsOf_set hq (by omega) fun j hj => ?_
  rw [List.count_cons_of_ne (by omega)]
theorem addS_up {n : Nat} : ∀ {m l : List Int}, (∀ p ∈ m, 0 ≤ p ∧ p < n) → addS 1 (countsOf n l) m = some (countsOf n (l ++ m))
  | [], l, _ => by rw [List.append_nil]; rfl
  | p :: m, l, h => by
    show m.foldl (addStep 1) (addStep 1 (some (countsOf n l)) p) = _
    rw [addStep_up (h p (by simp))]
    have ih := addS_up (n := n) (m := m) (l := p :: l) (fun q hq => h q (by simp [hq]))
    unfold addS at ih
    rw [ih]
    congr 1
    refine countsOf_perm ?_
    rw [List.cons_append]
    exact List.perm_middle.symm
theorem addS_down {n : Nat} : ∀ {m l k : List Int}, (∀ p ∈ m, 0 ≤ p ∧ p < n) → k.Perm (l ++ m) → addS (-1) (countsOf n k) m = some (countsOf n l)
  | [], l, k, _, hk => by rw [List.append_nil] at hk; rw [countsOf_perm hk]; rfl
  | p :: m, l, k, h, hk => by
    have hk2 : k.Perm (p :: (l ++ m)) := hk.trans List.perm_middle
    show m.foldl (addStep (-1)) (addStep (-1) (some (countsOf n k)) p) = _
    rw [countsOf_perm hk2, addStep_down (h p (by simp))]
    exact addS_down (fun q hq => h q (by simp [hq])) (List.Perm.refl _)
/-- The least one that is free. -/
theorem freePages_head {n : Nat} {l r : List Int} {p : Int} (h : freePages n l = p :: r) : ∃ q : Nat, p = q ∧ q < n ∧ p ∉ l ∧ (∀ j : Nat, j < q → (j : Int) ∈ l) ∧ freePages n (l ++ [p]) = r := by
  unfold freePages at h
  obtain ⟨q, r', hf, hq, hr⟩ := List.map_eq_cons_iff.1 h
  obtain ⟨a, b, hab, ha, hb, hr2⟩ := List.filter_eq_cons_iff.1 hf
  have hql : a.length < n := by have := congrArg List.length hab; simp at this; omega
  have hqe : q = a.length := by
    have e : (List.range n)[a.length]? = some q := by rw [hab, List.getElem?_append_right (Nat.le_refl _)]; simp
    rw [List.getElem?_range hql] at e
    exact (Option.some.inj e).symm
  have hnl : ((q : Nat) : Int) ∉ l := by simpa using hb
  have hlow : ∀ j : Nat, j < q → (j : Int) ∈ l := fun j hj => by
    have e : (List.range n)[j]? = some j := List.getElem?_range (by omega)
    rw [hab, List.getElem?_append_left (by omega)] at e
    have := ha j (List.mem_of_getElem? e)
    simpa using this
  have hbq : ∀ j ∈ b, q < j := fun j hj => by
    obtain ⟨i, hi⟩ := List.mem_iff_getElem?.1 hj
    have e : (List.range n)[a.length + 1 + i]? = some j := by rw [hab, List.getElem?_append_right (by omega)]; simpa [show a.length + 1 + i - a.length = i + 1 by omega] using hi
    have hlt := (List.getElem?_eq_some_iff.1 e).1
    rw [List.length_range] at hlt
    rw [List.getElem?_range hlt] at e
    have := Option.some.inj e
    omega
  refine ⟨q, hq.symm, by omega, by rw [← hq]; exact hnl, hlow, ?_⟩
  unfold freePages
  rw [hab, List.filter_append, List.filter_cons, ← hr, ← hr2, ← hq]
  have e1 : a.filter (fun p : Nat => decide ((p : Int) ∉ l ++ [(q : Int)])) = [] := List.filter_eq_nil_iff.2 fun j hj => by have := ha j hj; simp at this ⊢; intro hh; exact absurd this hh
  rw [e1, if_neg (by simp), List.nil_append]
  congr 1
  refine List.filter_congr fun j hj => ?_
  have := hbq j hj
  simp
  intro _
  omega
theorem takeOne_counts {n : Nat} {l r : List Int} {p : Int} (h : freePages n l = p :: r) : takeOne (countsOf n l) = (countsOf n (l ++ [p]), p) := by
  obtain ⟨q, rfl, hq, hn, hlow, _⟩ := freePages_head h
  have e : (countsOf n l).findIdx? (fun r => decide (r = 0)) = some q := by
    refine findIdx_some (by rw [countsOf_get hq, List.count_eq_zero.2 hn]; rfl) fun j y hj hy => ?_
    rw [countsOf_get (by omega)] at hy
    rw [← Option.some.inj hy]
    have := List.count_pos_iff.2 (hlow j hj)
    omega
  unfold takeOne
  rw [e]
  simp only
  congr 1
  refine countsOf_set hq ?_ fun j hj => ?_
  · rw [List.count_append, List.count_eq_zero.2 hn]; simp
  · rw [List.count_append, List.count_cons_of_ne (by omega)]; simp
theorem take_counts {n : Nat} {l : List Int} : ∀ {k : Nat}, k ≤ (freePages n l).length →
    allTo takeFn (countsOf n l) k = (countsOf n (l ++ (freePages n l).take k), (freePages n l).take k, 0) ∧ freePages n (l ++ (freePages n l).take k) = (freePages n l).drop k
  | 0, _ => by simp [allTo]
  | k + 1, hk => by
    obtain ⟨ih, hf⟩ := take_counts (n := n) (l := l) (k := k) (by omega)
    have hd : (freePages n l).drop k = (freePages n l)[k] :: (freePages n l).drop (k + 1) := List.drop_eq_getElem_cons (by omega)
    have h1 := takeOne_counts (hf.trans hd)
    have ht : (freePages n l).take (k + 1) = (freePages n l).take k ++ [(freePages n l)[k]] := List.take_succ_eq_append_getElem (by omega)
    refine ⟨?_, ?_⟩
    · rw [allTo_next (by rw [ih]) rfl, ih]
      show ((takeOne _).1, _ ++ [(takeOne _).2], _) = _
      rw [h1, ht, List.append_assoc]
    · obtain ⟨_, _, _, _, _, h2⟩ := freePages_head (hf.trans hd)
      rw [ht, ← List.append_assoc]
      exact h2
theorem freeN_counts (n : Nat) (l : List Int) : freeN (countsOf n l) = (freePages n l).length := by
  unfold freeN countsOf freePages
  rw [List.countP_map, List.length_map, List.countP_eq_length_filter]
  congr 1
  refine List.filter_congr fun p _ => ?_
  show decide (((l.count (p : Int) : Nat) : Int) ≤ 0) = _
  rw [Bool.eq_iff_iff, decide_eq_true_iff, decide_eq_true_iff, ← List.count_eq_zero]
  omega
theorem mem_freePages {n : Nat} {l : List Int} {p : Int} : p ∈ freePages n l ↔ 0 ≤ p ∧ p < n ∧ p ∉ l := by
  unfold freePages
  rw [List.mem_map]
  constructor
  · rintro ⟨q, hq, rfl⟩
    have h := List.mem_filter.1 hq
    have := List.mem_range.1 h.1
    exact ⟨by omega, by omega, by simpa using h.2⟩
  · rintro ⟨h1, h2, h3⟩
    refine ⟨p.toNat, List.mem_filter.2 ⟨List.mem_range.2 (by omega), ?_⟩, by omega⟩
    have e : ((p.toNat : Nat) : Int) = p := by omega
    rw [e]; simpa using h3
theorem freePages_nodup (n : Nat) (l : List Int) : (freePages n l).Nodup := by
  unfold freePages
  refine List.Pairwise.map _ (fun a b (h : a ≠ b) => by omega) ?_
  exact List.nodup_range.filter _
theorem countsOf_nil (n : Nat) : countsOf n [] = List.replicate n 0 := by
  apply List.ext_getElem?
  intro j
  by_cases h : j < n
  · rw [countsOf_get h, List.getElem?_replicate, if_pos h]; rfl
  · rw [List.getElem?_eq_none (by rw [countsOf_len]; omega), List.getElem?_eq_none (by simp; omega)]
end Go.Proofs.YtghbfbohnoebiaaGreat
namespace Go.Proofs.YtghbfbohnoebiaaGreat
open Go.RowKit

theorem ints_row {Q : Nat → Prop} {w : World} : ∀ n : Nat, (Rep.int .i64).row Q w (List.replicate n (.int .i64 0)) (List.replicate n (0 : Int))
  | 0 => rfl
  | n + 1 => ⟨[.int .i64 0], List.replicate n (.int .i64 0), rfl, ⟨rfl, by decide⟩, ints_row n⟩

set_option maxRecDepth 100000 in
set_option maxHeartbeats 1000000 in
/-- alloc.New -/
theorem anew_calls {n : Int} (h0 : 0 ≤ n) (h1 : n ≤ 1024) (w : World) :
    Calls Tryz.prog 100 #[.int .i64 n] w fun e w' => ∃ A v, e = .returned (.pointer (some ⟨A, 0, none⟩)) ∧ AllocAt w' A w.heap.size (List.replicate n.toNat 0) v ∧ w.heap.size ≤ A ∧ Below w.heap.size w w' := by
  obtain ⟨N, rfl⟩ : ∃ N : Nat, n = N := ⟨n.toNat, by omega⟩
  have hmk : ∀ w, (Instr.makeSlice 35 (.int .i64 (N : Int)) (.int .i64 (N : Int))).run Tryz.prog w = .ok (.slice (some ⟨w.heap.size, 0, none⟩) N N) (w.alloc (.cells (madeCells #[.int .i64 0] N) 3)) := fun w =>
    run_make_row' 35 3 (.int .i64 0) 8 Tryz.underlying35 (by kernel_rfl) rfl .i64 .i64 N (by omega) (by omega) w
  obtain ⟨W1, hW1⟩ : ∃ W1, w.alloc (.cells (madeCells #[.int .i64 0] N) 3) = W1 := ⟨_, rfl⟩
  have hr1 : W1.heap[w.heap.size]? = some (.cells (madeCells #[.int .i64 0] N) 3 (0, 0)) := by rw [← hW1]; exact heap_alloc_new _ _
  have hz1 : W1.heap.size = w.heap.size + 1 := by rw [← hW1]; simp
  have hb1 : Below w.heap.size w W1 := by rw [← hW1]; exact (Below.refl _ _).alloc (Nat.le_refl _) _
  have HR1 := Lib.hid hr1
  have HZ1 := Lib.hid hz1
  have HB1 := Lib.hid hb1
  clear hr1 hz1 hb1
  go_enter Tryz.func100, Tryz.ntmps100
  go_wp2_with fail
  all_goals (try rw [hW1])
  all_goals (try go_wp2_with fail)
  all_goals go_ret
  all_goals first
    | (exfalso; omega)
    | (refine ⟨W1.heap.size, _, rfl, ⟨heap_alloc_new _ _, ?_, ?_⟩, by rw [HZ1.out]; omega, HB1.out.alloc HB1.out.size _⟩
       · rw [Int.toNat_natCast]
         have h2 : (W1.alloc (.cells #[.slice (some ⟨w.heap.size, 0, none⟩) N N] 211)).heap[w.heap.size]? = some (.cells (madeCells #[.int .i64 0] N) 3 (0, 0)) := alloc_old HR1.out
         have := acc_of (r := Rep.int .i64) (Q := fun _ => False) (base := w.heap.size) (xs := List.replicate N (0 : Int)) (cap := N) (cells := List.replicate N (.int .i64 0)) (Nat.le_refl _) h2 (by simp) (by unfold maxLen; omega) (by simp [madeCells, Rep.int]) (by rw [toList_madeCells_one]; simp [Rep.int]) (ints_row N)
         rwa [List.length_replicate] at this
       · intro e
         have e2 : w.heap.size = W1.heap.size := Option.some.inj e
         rw [HZ1.out] at e2
         omega)
end Go.Proofs.YtghbfbohnoebiaaGreat
namespace Go.Proofs.YtghbfbohnoebiaaGreat
open Go.RowKit

set_option maxRecDepth 100000 in
set_option maxHeartbeats 1000000 in
/-- store.layout -/
theorem layout_calls (log pages : Int) (w : World) : Calls Tryz.prog 42 #[.int .i64 log, .int .i64 pages] w fun e w' => e = .returned (.agg #[.int .i64 log, .int .i64 pages, .int .i64 1, .int .i64 1, .slice none 0 0]) ∧ Below w.heap.size w w' := by
  have hfr : Tryz.f42.results = #[.cell 4 34] := rfl
  go_enter Tryz.func42, Tryz.ntmps42
  go_wp2_with fail
  refine ⟨rfl, .agg #[.int .i64 log, .int .i64 pages, .int .i64 1, .int .i64 1, .slice none 0 0], ?_, rfl, (Below.refl _ _).alloc (Nat.le_refl _) _⟩
  simp only [results, hfr]
  go_simp

/-- What a store is in memory: its block. -/
def StoreRow (W : World) (S : Nat) (d : Value) (x : StSt) (A : Nat) (Ad : Option Addr) (cd : Nat) (Af : Option Addr) (cf : Nat) (Ao : Option Addr) (co : Nat) : Prop :=
  W.heap[S]? = some (.cells #[d, .int .i64 x.log, .int .i64 x.pages, .int .i64 1, .int .i64 1, .slice none 0 0, .int .i64 x.epoch, .int .i64 x.slot,
    .int .i64 x.cur.epoch, .int .i64 x.cur.gen, .int .i64 x.cur.log, .int .i64 x.cur.pages, .int .i64 x.cur.head, .int .i64 x.cur.seq, .int .i64 x.cur.long, .slice Ad x.cur.dir.length cd,
    .slice Af x.flows.length cf, .slice Ao x.other.length co, .pointer (some ⟨A, 0, none⟩), .bool x.dead] 106 (0, 0))
def BlankPost (w : World) (d : Value) (log pages : Int) (e : Ending) (w' : World) : Prop :=
  ∃ S A v, e = .returned (.pointer (some ⟨S, 0, none⟩)) ∧ StoreRow w' S d (blankS log pages) A none 0 none 0 none 0 ∧ AllocAt w' A w.heap.size (List.replicate pages.toNat 0) v ∧ w.heap.size ≤ A ∧ A < S ∧ (∀ b, v.ownBlock = some b → b < S) ∧ Below w.heap.size w w'

set_option maxRecDepth 100000 in
set_option maxHeartbeats 1000000 in
/-- store.blank -/
theorem blank_calls {log pages : Int} {d : Value} {a : Option Addr} (hd : d = .pointer a) (h0 : 0 ≤ pages) (h1 : pages ≤ 1024) (w : World) :
    Calls Tryz.prog 47 #[d, .agg #[.int .i64 log, .int .i64 pages, .int .i64 1, .int .i64 1, .slice none 0 0]] w (BlankPost w d log pages) := by
  subst hd
  obtain ⟨W1, hW1⟩ : ∃ W1, w.alloc (.cells #[.int .i64 log, .int .i64 pages, .int .i64 1, .int .i64 1, .slice none 0 0] 34) = W1 := ⟨_, rfl⟩
  have hb1 : Below w.heap.size w W1 := by rw [← hW1]; exact (Below.refl _ _).alloc (Nat.le_refl _) _
  have hr1 : W1.heap[w.heap.size]? = some (.cells #[.int .i64 log, .int .i64 pages, .int .i64 1, .int .i64 1, .slice none 0 0] 34 (0, 0)) := by rw [← hW1]; exact heap_alloc_new _ _
  have HB1 := Lib.hid hb1
  have HR1 := Lib.hid hr1
  have HP0 := Lib.hid h0
  have HP1 := Lib.hid h1
  clear hb1 hr1 h0 h1
  go_enter Tryz.func47, Tryz.ntmps47
  go_wp2_with fail
  try rw [hW1]
  clear hW1
  refine wp_region_held_drew (S := fun V => Below W1.heap.size W1 V) (by kernel_rfl) ((Below.refl _ _).drew) (fun s0 => ?_)
  obtain ⟨v1, hv1⟩ : ∃ V, V = W1.drew := ⟨_, rfl⟩
  rw [← hv1] at s0 ⊢
  have t1 : Below W1.heap.size W1 v1 := s0
  clear hv1 s0
  refine tkHV (i := 0) (v := .pointer a) rfl t1 ?_
  go_simp
  refine tkH (i := 1) (v := .agg #[.int .i64 log, .int .i64 pages, .int .i64 1, .int .i64 1, .slice none 0 0]) rfl (Or.inl ⟨by rfl, fun w' h => by have e := row_call (h : Below W1.heap.size W1 w') HR1.out; have e0 := cell_row e 0; have e1 := cell_row e 1; have e2 := cell_row e 2; have e3 := cell_row e 3; have e4 := cell_row e 4; go_simp⟩) t1 ?_
  go_simp
  refine tkHV (i := 2) (v := .pointer (some ⟨w.heap.size, 1, none⟩)) rfl t1 ?_
  go_simp
  refine tkH (i := 3) (v := .int .i64 pages) rfl (Or.inl ⟨by rfl, fun w' h => by have e := row_call (h : Below W1.heap.size W1 w') HR1.out; have e1 := cell_row e 1; go_simp⟩) t1 ?_
  go_simp
  refine wpAnyH_all (rs := [4]) (by kernel_rfl) (by simp) ?_
  intro i2 hi2
  obtain rfl : i2 = 4 := by simpa using hi2
  clear hi2
  refine wpOp_step rfl (fun K hK => ?_)
  go_simp
  refine (anew_calls HP0.out HP1.out _).mono ?_
  rintro e v2 ⟨A, v, rfl, hal, hA, hb2⟩
  have HAL := Lib.hid hal
  have t2 : Below W1.heap.size W1 v2 := t1.trans (hb2.mono t1.size)
  have HA := Lib.hid (show W1.heap.size ≤ A from Nat.le_trans t1.size hA)
  refine hK _ _ ⟨t2, ?_⟩
  clear hK K hb2 hal hA
  refine tkHV (i := 5) (v := .agg #[.pointer a, .int .i64 log, .int .i64 pages, .int .i64 1, .int .i64 1, .slice none 0 0, .int .i64 0, .int .i64 1, .int .i64 0, .int .i64 0, .int .i64 0, .int .i64 0, .int .i64 0, .int .i64 0, .int .i64 0, .slice none 0 0, .slice none 0 0, .slice none 0 0, .pointer (some ⟨A, 0, none⟩), .bool false]) rfl t2 ?_
  go_simp
  refine wpAnyH_all (rs := [6]) (by kernel_rfl) (by simp) ?_
  intro i2 hi2
  obtain rfl : i2 = 6 := by simpa using hi2
  clear hi2
  refine wpOp_step rfl (fun K hK => ?_)
  go_simp
  obtain ⟨v3, hv3⟩ : ∃ v3, v2.alloc (.cells #[.pointer a, .int .i64 log, .int .i64 pages, .int .i64 1, .int .i64 1, .slice none 0 0, .int .i64 0, .int .i64 1, .int .i64 0, .int .i64 0, .int .i64 0, .int .i64 0, .int .i64 0, .int .i64 0, .int .i64 0, .slice none 0 0, .slice none 0 0, .slice none 0 0, .pointer (some ⟨A, 0, none⟩), .bool false] 106) = v3 := ⟨_, rfl⟩
  have t3 : Below W1.heap.size W1 v3 := by rw [← hv3]; exact t2.alloc t2.size _
  have HR3 := Lib.hid (show v3.heap[v2.heap.size]? = some (.cells #[.pointer a, .int .i64 log, .int .i64 pages, .int .i64 1, .int .i64 1, .slice none 0 0, .int .i64 0, .int .i64 1, .int .i64 0, .int .i64 0, .int .i64 0, .int .i64 0, .int .i64 0, .int .i64 0, .int .i64 0, .slice none 0 0, .slice none 0 0, .slice none 0 0, .pointer (some ⟨A, 0, none⟩), .bool false] 106 (0, 0)) by rw [← hv3]; exact heap_alloc_new _ _)
  have HAL3 := Lib.hid (show AllocAt v3 A v1.heap.size (List.replicate pages.toNat 0) v from by rw [← hv3]; exact HAL.out.call ((Below.refl _ _).alloc (Nat.le_refl _) _))
  rw [hv3]
  clear hv3
  refine hK _ _ ⟨t3, ?_⟩
  clear hK K
  refine tkHV (i := 7) (v := .pointer (some ⟨v2.heap.size, 0, none⟩)) rfl t3 ?_
  go_simp
  refine wpAnyH_done (by kernel_rfl) ?_ _
  go_wp2_with fail
  go_ret
  have hsz := HB1.out.size
  have ha := HA.out
  have hl := HAL.out.lt
  refine ⟨v2.heap.size, A, v, rfl, HR3.out, ⟨HAL3.out.blk, Rep.acc_base (by have := t1.size; omega) HAL3.out.acc, HAL3.out.ne⟩, by omega, hl, fun b hb => (Rep.acc_own HAL.out.acc b hb).2, HB1.out.trans (t3.mono hsz)⟩
end Go.Proofs.YtghbfbohnoebiaaGreat
