/- Texts on which the proof of DiskSafe stands, part 7: DiskSync, SortInts, Dirty, DiskCrash, DiskBytes, Dev, DiskMath, Do04, SafeMath, Live04, Much04, DiskSafe. No condition is laid on any input. -/
import Derived.Test.YtecdbfbaclgejaaDiskSafeJ6
import Derived.Test.YtecdbfbaclgejaaShelf
import Derived.Sort.OwnSortedInts
/- Walk of a sync. -/
namespace Go.Proofs.Ytecdbfbaclgejaa
open Go.RowKit

theorem Only.drew {F : Nat → Prop} {X Y : World} (h : Only F X Y) : Only F X Y.drew := ⟨h.os, h.tape, h.output, h.size, h.block⟩
/-- The sectors where those that are not left are written. -/
def syncTo (s : DiskSt) (left : Lit → Bool) : List (List UInt8) := (List.range s.safe.length).map fun i => if left (.int .i64 (i : Nat)) then s.safe.getD i [] else lastSt s (i : Nat)
def syncSt (s : DiskSt) : DiskSt := { s with safe := (List.range s.safe.length).map fun i => lastSt s (i : Nat), wait := fun _ => [] }
def syncRes (st : DiskSt) : DiskSt × Int := if (burnSt st).2 = 0 then (syncSt (burnSt st).1, 0) else burnSt st
theorem syncTo_length (s : DiskSt) (left : Lit → Bool) : (syncTo s left).length = s.safe.length := by unfold syncTo; rw [List.length_map, List.length_range]
theorem syncTo_all (s : DiskSt) {left : Lit → Bool} (h : ∀ i : Nat, left (.int .i64 (i : Int)) = false → s.wait i = []) : syncTo s left = s.safe := by
  unfold syncTo
  apply List.ext_getElem
  · simp
  · intro i h1 h2
    rw [List.getElem_map, List.getElem_range]
    split
    · rw [List.getD_eq_getElem?_getD, List.getElem?_eq_getElem h2]; rfl
    · rename_i hl
      unfold lastSt
      rw [h i (by simpa using hl), List.getD_eq_getElem?_getD, Int.toNat_natCast, List.getElem?_eq_getElem h2]; rfl
theorem syncTo_none (s : DiskSt) {left : Lit → Bool} (h : ∀ z, left z = false) : syncTo s left = (syncSt s).safe := by
  unfold syncTo syncSt
  dsimp only
  apply List.map_congr_left
  intro i _
  rw [h]; rfl
theorem sameKey_int (i j : Int) : (Lit.int .i64 i).sameKey (.int .i64 j) = decide (i = j) := by
  by_cases h : i = j
  · subst h; rw [decide_eq_true rfl]; exact WideAt.sameKey_self (key_lit i)
  · rw [decide_eq_false h]
    cases hs : (Lit.int .i64 i).sameKey (.int .i64 j) with
    | false => rfl
    | true => exact absurd (by have := WideAt.sameKey_eq hs; cases this; rfl) h
theorem syncTo_step (s : DiskSt) (left : Lit → Bool) {k : Nat} : syncTo s (fun z => left z && !z.sameKey (.int .i64 (k : Int))) = (syncTo s left).set k (lastSt s k) := by
  unfold syncTo
  apply List.ext_getElem
  · simp
  · intro i h1 h2
    rw [List.getElem_set]
    simp only [List.getElem_map, List.getElem_range, sameKey_int]
    by_cases hk : k = i
    · subst hk; simp
    · have : ¬ (i : Int) = (k : Int) := by omega
      rw [if_neg hk]; simp [this]

set_option maxRecDepth 100000 in
set_option maxHeartbeats 4000000 in
/-- (*disk.Disk).Sync -/
theorem dsync_calls {W : World} {P : Nat} {F B : Nat → Prop} {n : Nat} {st : DiskSt} (h : DiskAt W P F B n st) :
    Calls Try.prog 96 #[.pointer (some ⟨P, 0, none⟩)] W (StepPost F B P n W (syncRes st)) := by
  have HA := Lib.hid h
  by_cases hc : (burnSt st).2 = 0
  case neg =>
    have HF := Lib.hid (show syncRes st = burnSt st by unfold syncRes; rw [if_neg hc])
    have g0 : ((burnSt st).2 == 0) = false := by simpa using hc
    clear h hc
    go_enter Try.func96, Try.ntmps96
    go_wp2_with fail
    refine (burn_calls HA.out).mono ?_
    rintro e w1 ⟨rfl, hd1, ho⟩
    have HD1 := Lib.hid hd1
    have HO := Lib.hid ho
    clear hd1 ho
    go_wp2_with fail
    go_ret
    exact ⟨by rw [HF.out]; rfl, by rw [HF.out]; exact HD1.out, HO.out⟩
  case pos =>
    have HF := Lib.hid (show syncRes st = (syncSt (burnSt st).1, 0) by unfold syncRes; rw [if_pos hc])
    have HC := Lib.hid hc
    clear h hc
    go_enter Try.func96, Try.ntmps96
    go_wp2_with fail
    refine (burn_calls HA.out).mono ?_
    rintro e w1 ⟨rfl, hd1, ho⟩
    rw [HC.out]
    generalize (burnSt st).1 = s1 at *
    obtain ⟨Sf, cs, M, D, hd1⟩ := hd1
    have HD1 := Lib.hid hd1
    have HO1 := Lib.hid ho
    have e1 := cell_row hd1.blk 1
    have hr1 := ho.size
    clear ho
    go_wp2_with (at_range; refine wpList_range_own _ rfl _ 182 rfl 3 24 int_law Try.underlying182 heldElem M n D (by exact rfl) HD1.out.map ?_; intro w2 hrg2 hg2 hs2)
    go_frame
    generalize hr : w1.heap.size = r at *
    have HR := Lib.hid hr
    have hst2 : syncTo s1 (Go.Maps.has D) = s1.safe := syncTo_all s1 (fun i hi => by
      cases hw : s1.wait i with
      | nil => rfl
      | cons y ys => have := HD1.out.of_wait (i := (i : Int)) (by rw [hw]; simp); rw [hi] at this; cases this)
    have HD2 := Lib.hid (show DiskW w2 P Sf cs M D F B n { s1 with safe := syncTo s1 (Go.Maps.has D) } by rw [hst2]; exact HD1.out.keep hg2.size (fun b hb => hg2.block b (HD1.out.lt b hb) (by simp)))
    have HG2 := Lib.hid (show Only F W w2 from HO1.out.trans ⟨hg2.os, hg2.tape, hg2.output, hg2.size, fun b hb _ => hg2.block b hb (by simp)⟩)
    clear hr hd1 e1 hst2 hg2 hs2
    have HRW := Lib.hid (show W.heap.size ≤ r by have := HR.out; omega)
    have HRB := Lib.hid (show ∀ b, F b ∨ B b → b < r from fun b hb => by have := HD1.out.lt b hb; have := HR.out; omega)
    go_loopw [] (fun wr => ∃ left cnt, wr.ranges Try.prog 3 heldElem M r n D left cnt ∧ DiskW wr P Sf cs M D F B n { s1 with safe := syncTo s1 left } ∧ Only F W wr) (fun wr => wr.rangeLeft M r)
    case atStart => exact ⟨_, _, hrg2, HD2.out, HG2.out⟩
    case round =>
      obtain ⟨left, cnt, hrg, hdw, ho⟩ := hrel
      have HRG := Lib.hid hrg
      have HDW := Lib.hid hdw
      have HO := Lib.hid ho
      have hN := syncTo_length s1 left
      clear hrg ho hrg2
      go_wp2_with (at_next; refine wpList_next_ranges _ rfl _ rfl 3 int_law heldElem (Value.int .i64) (fun v : Value => v) (fun key kl hkey => by obtain ⟨x, rfl, _⟩ := Go.Maps.keyOf_int_inv Try.underlying3 hkey; exact ⟨x, rfl⟩) (fun v y hv => ⟨v, rfl⟩) M r n D left cnt (by exact rfl) HRG.out ?_ ?_)
      · intro hc0 hl0
        have e1 := cell_row hdw.blk 1
        have HFIN := Lib.hid (syncTo_none s1 hl0)
        obtain ⟨es, clock, hmb, _⟩ := HRG.out.owns
        obtain ⟨w9, c9, hrun, hm9, hs9, hk9, ho9⟩ := clear_map (ty := 0) hmb
        have H9 := Lib.hid (HDW.out.struck hm9 hs9 hk9)
        have O9 := Lib.hid (show Only F W w9 from HO.out.trans ⟨ho9.1, ho9.2.1, ho9.2.2, Nat.le_of_eq hs9.symm, fun b _ hf => hk9 b (fun e => hf (e ▸ HDW.out.fM))⟩)
        clear hl0 hc0 hm9 hs9 hk9 ho9 hdw
        go_wp2_with fail
        go_ret
        refine ⟨by rw [HF.out]; rfl, ?_, O9.out⟩
        rw [HF.out]
        have := H9.out
        rw [HFIN.out] at this
        exact ⟨_, _, _, _, this⟩
      · intro x c kl ya yb w3 cnt3 hkey hlk hv hat hrg3 hlt3 hg3 hs3 hen
        obtain ⟨x', ex, rfl, hwx⟩ := Go.Maps.keyOf_int_inv Try.underlying3 hkey
        cases ex
        obtain ⟨rfl, rfl⟩ : ya = .held c ∧ yb = [] := by unfold heldElem at hv; have := Option.some.inj hv; exact ⟨(congrArg Prod.fst this).symm, (congrArg Prod.snd this).symm⟩
        have hc : valAt D x = c := by unfold valAt; rw [hat]
        have hw : s1.wait x ≠ [] := hdw.has x (Go.Maps.has_true_of_atKey hat)
        have hxk := HD1.out.keys x hw
        obtain ⟨k, rfl⟩ : ∃ k : Nat, x = k := ⟨x.toNat, by omega⟩
        have hkN : k < s1.safe.length := by omega
        have hg3' := hg3
        have hdw3 : DiskW w3 P Sf cs M D F B n { s1 with safe := syncTo s1 left } := HDW.out.keep hg3.size (fun b hb => hg3.block b (HDW.out.lt b hb) (fun e => by have := HRB.out b hb; have := Option.some.inj e; omega))
        obtain ⟨z, zs, hz⟩ : ∃ z zs, s1.wait k = z :: zs := by cases hq : s1.wait k with
          | nil => exact absurd hq hw
          | cons a b => exact ⟨a, b, rfl⟩
        obtain ⟨m, hm⟩ : ∃ m, (s1.wait k).length = m + 1 := ⟨zs.length, by rw [hz]; rfl⟩
        obtain ⟨yb, hyb⟩ : ∃ yb, (s1.wait k)[m]? = some yb := ⟨_, List.getElem?_eq_getElem (by omega)⟩
        have hlast : lastSt s1 k = yb := by
          unfold lastSt
          rw [List.getLast?_eq_getElem?, hm, Nat.add_sub_cancel, hyb]; rfl
        obtain ⟨gw, B7, c7, capw, hvw, hcw, _, hgw, hval⟩ := Rep.acc_elem (hdw3.wt k) hyb
        have hvl : Rep.byte.list.val B w3 (.slice B7 yb.length c7) yb := Rep.val_mono (fun b hb _ => hb.1) hval
        obtain ⟨g, rfl, hFg, hset⟩ := hdw3.setSafe (i := k) (by show k < (syncTo s1 left).length; rw [hN]; exact hkN) hvl
        obtain ⟨ys, hys⟩ : ∃ ys, (syncTo s1 left)[k]? = some ys := ⟨_, List.getElem?_eq_getElem (by rw [hN]; exact hkN)⟩
        obtain ⟨g', B8, c8, cap8, hv8, hc8, hz8, hg8, _⟩ := Rep.acc_elem hdw3.safe hys
        cases hv8
        have hne : gw ≠ g := fun e => hdw3.dSW k gw (by rw [hvw]; rfl) (by rw [e]; rfl)
        have hPg : P ≠ g := fun e => hdw3.sP (b := g) rfl e.symm
        have hMg : M ≠ g := fun e => hdw3.sM (b := g) rfl e.symm
        rw [hc, hm] at hvw
        subst hvw
        have hb0 : w3.cell? ⟨P, 0, none⟩ = some (.slice (some ⟨g, 0, none⟩) s1.safe.length cs) := (cell_row hdw3.blk 0).trans (show some (Value.slice (some ⟨g, 0, none⟩) (syncTo s1 left).length cs) = _ by rw [hN])
        have hmx : (m : Int) + 1 ≤ 9223372036854775807 := by
          obtain ⟨A', c', he, h1, h2⟩ := Rep.acc_form (hdw3.wt k)
          have h3 : (s1.wait k).length = m + 1 := hm
          have h1' : (s1.wait k).length ≤ c' := h1
          unfold maxLen at h2; omega
        have KS := Lib.hid (show ∀ W' : World, (∀ b, b ≠ g → W'.heap[b]? = w3.heap[b]?) → W'.cell? ⟨P, 0, none⟩ = some (.slice (some ⟨g, 0, none⟩) s1.safe.length cs) ∧ W'.cell? ⟨gw, m, none⟩ = some (.slice B7 yb.length c7) from fun W' hk => ⟨(show W'.cell? ⟨P, 0, none⟩ = w3.cell? ⟨P, 0, none⟩ by simp only [World.cell?, hk P hPg]).trans hb0, (show W'.cell? ⟨gw, m, none⟩ = w3.cell? ⟨gw, m, none⟩ by simp only [World.cell?, hk gw hne]).trans hcw⟩)
        have HSET := Lib.hid hset
        have HG3 := Lib.hid hg3
        have HRG3 := Lib.hid hrg3
        have HFG := Lib.hid hFg
        have HLK := Lib.hid hlast
        have HMG := Lib.hid hMg
        have HLT3 := Lib.hid hlt3
        have hkI : (k : Int) < (s1.safe.length : Int) := by omega
        have i1 : IntKind.i64.wrap (m : Int) = m := IntWalk.i64_in _ ⟨by omega, by omega⟩
        have i2 : IntKind.i64.wrap ((m : Int) + 1 - 1) = m := by rw [Int.add_sub_cancel]; exact i1
        have i4 : (m : Int) < (m : Int) + 1 := by omega
        generalize s1.safe.length = N at *
        generalize yb.length = yl at *
        clear hb0 hcw hdw hdw3 hset hg3 hrg3 hFg hlast hval hvl hyb hz hw hxk hys hv hat hkey hlk hlt3 hs3 hc hne hPg hMg hm hg3'
        go_wp2_with fail
        go_region_held3 (fun W' => W'.cell? ⟨P, 0, none⟩ = some (.slice (some ⟨g, 0, none⟩) N cs) ∧ W'.cell? ⟨gw, m, none⟩ = some (.slice B7 yl c7))
          (first
            | exact KS.out _ (fun _ _ => rfl)
            | exact KS.out _ (fun b hb => Below.heap_setCell _ _ _ _ hb))
          (first | fail)
        go_wp2_with fail
        have hgr : g < r := HRB.out g (.inl HFG.out)
        have hrs := HO.out.size
        have HR9 := Lib.hid (show (w3.setCell ⟨g, k, none⟩ (.slice B7 yl c7)).drew.ranges Try.prog 3 heldElem M r n D (fun z => left z && !z.sameKey (.int .i64 (k : Int))) cnt3 from
          HRG3.out.kept (row := some g) ⟨rfl, rfl, rfl, by simp, fun b _ hb => Below.heap_setCell _ _ _ _ (fun e => hb (by rw [e]))⟩ (fun e => HMG.out (Option.some.inj e)) (fun e => by have := Option.some.inj e; omega))
        have HO9 : Only F W (w3.setCell ⟨g, k, none⟩ (.slice B7 yl c7)).drew := Only.drew <| (show Only F W w3 from ⟨HG3.out.os.trans HO.out.os, HG3.out.tape.trans HO.out.tape, HG3.out.output.trans HO.out.output, Nat.le_trans hrs HG3.out.size, fun b hb hf => (HG3.out.block b (by omega) (fun e => by have := Option.some.inj e; omega)).trans (HO.out.block b hb hf)⟩).trans (Only.set HFG.out)
        refine ⟨⟨_, cnt3, HR9.out, ?_, HO9⟩, ?_⟩
        · have := HSET.out
          rw [syncTo_step, HLK.out]
          exact this.keep (Nat.le_refl _) (fun _ _ => rfl)
        · rw [HR9.out.left_eq, HRG.out.left_eq]
          exact HLT3.out
end Go.Proofs.Ytecdbfbaclgejaa
/- The library's slices.Sort of a slice of the call's own. -/
namespace Go.Proofs.Ytecdbfbaclgejaa
open Go.RowKit

theorem int_row {Q : Nat → Prop} {w : World} : ∀ {xs : List Int} {cs : List Value}, (Rep.int .i64).row Q w cs xs ↔ cs = xs.map (Value.int .i64) ∧ ∀ x ∈ xs, (Lit.int .i64 x).wf = true
  | [], cs => ⟨fun h => ⟨h, fun x hx => by cases hx⟩, fun h => h.1⟩
  | x :: xs, cs => by
    constructor
    · rintro ⟨es, rest, rfl, ⟨rfl, hw⟩, h⟩
      obtain ⟨rfl, hr⟩ := int_row.1 h
      exact ⟨rfl, fun y hy => (List.mem_cons.1 hy).elim (fun e => e ▸ hw) (hr y)⟩
    · rintro ⟨rfl, h⟩
      exact ⟨[_], _, rfl, ⟨rfl, h x (by simp)⟩, int_row.2 ⟨rfl, fun y hy => h y (by simp [hy])⟩⟩

theorem sortInts_calls {base : Nat} {Q : Nat → Prop} {w : World} {v : Value} {ks : List Int} (h : (Rep.int .i64).acc 3 base Q w v ks) (hl : ks.length ≤ 1000000000000) :
    Calls Try.prog 156 #[v] w fun e w' => e = .returned (.tuple #[]) ∧ (Rep.int .i64).acc 3 base Q w' v (ks.mergeSort fun x y => decide (x ≤ y)) ∧ w.grownBy w' v.ownBlock := by
  obtain ⟨cells, h1, h2⟩ := h
  obtain ⟨rfl, hwf⟩ := int_row.1 h2
  rcases h1.2 with ⟨rfl, h0⟩ | ⟨g, cap, cur, rfl, hb, hg, g1, g2, g3, g4⟩
  · have : ks = [] := List.eq_nil_of_length_eq_zero (by omega)
    subst this
    refine (Try.slices_Sort_int_none none 0 w).mono ?_
    rintro e w' ⟨rfl, rfl⟩
    exact ⟨rfl, by rw [List.mergeSort_nil]; exact Rep.acc_nil, ⟨rfl, rfl, rfl, Nat.le_refl _, fun _ _ _ => rfl⟩⟩
  · refine (Try.slices_Sort_int g 0 cap ks w (holds_of_blockI hg (by simpa [Rep.int] using g4)) (Array.getElem?_eq_some_iff.1 hg).1 (by omega)).mono ?_
    rintro e w' ⟨rfl, n, os, rfl⟩
    refine ⟨rfl, ⟨(ks.mergeSort fun x y => decide (x ≤ y)).map (Value.int .i64), ?_, int_row.2 ⟨rfl, fun x hx => hwf x (List.mem_mergeSort.1 hx)⟩⟩, grownBy_sortedI _⟩
    rw [List.length_mergeSort]
    exact ownsRow_sortedI (ts := ks.mergeSort fun x y => decide (x ≤ y)) (List.length_mergeSort ..) hb hg g1 g2 g3
end Go.Proofs.Ytecdbfbaclgejaa
/- Walk of the list of sectors that have waiting writes. -/
namespace Go.Proofs.Ytecdbfbaclgejaa
open Go.RowKit

def dirtyOf (s : DiskSt) : List Int := ((List.range s.safe.length).filter fun i => !(s.wait (i : Nat)).isEmpty).map fun i : Nat => (i : Int)
theorem dirty_mem {s : DiskSt} {z : Int} (hk : ∀ i, s.wait i ≠ [] → 0 ≤ i ∧ i < s.safe.length) : z ∈ dirtyOf s ↔ s.wait z ≠ [] := by
  unfold dirtyOf
  rw [List.mem_map]
  constructor
  · rintro ⟨i, hi, rfl⟩
    have := (List.mem_filter.1 hi).2
    intro e; rw [e] at this; cases this
  · intro hz
    obtain ⟨h0, h1⟩ := hk z hz
    refine ⟨z.toNat, List.mem_filter.2 ⟨List.mem_range.2 (by omega), ?_⟩, by omega⟩
    rw [show ((z.toNat : Nat) : Int) = z by omega]
    cases hw : s.wait z with
    | nil => exact absurd hw hz
    | cons _ _ => rfl
theorem dirty_sorted (s : DiskSt) : (dirtyOf s).Pairwise (· < ·) := by
  unfold dirtyOf
  rw [List.pairwise_map]
  exact (List.pairwise_lt_range.filter _).imp (fun h => Int.ofNat_lt.2 h)
theorem sorted_unique : ∀ {xs ys : List Int}, xs.Pairwise (· ≤ ·) → ys.Pairwise (· ≤ ·) → xs.Perm ys → xs = ys
  | [], ys, _, _, h => by rw [List.nil_perm.1 h]
  | x :: xs, [], _, _, h => by have := h.length_eq; simp at this
  | x :: xs, y :: ys, hx, hy, h => by
    obtain ⟨hx1, hx2⟩ := List.pairwise_cons.1 hx
    obtain ⟨hy1, hy2⟩ := List.pairwise_cons.1 hy
    have e : x = y := by
      have m1 : x ∈ y :: ys := h.mem_iff.1 (by simp)
      have m2 : y ∈ x :: xs := h.mem_iff.2 (by simp)
      rcases List.mem_cons.1 m1 with r | m1
      · exact r
      · rcases List.mem_cons.1 m2 with r | m2
        · exact r.symm
        · have := hx1 y m2; have := hy1 x m1; omega
    subst e
    rw [sorted_unique hx2 hy2 ((List.perm_cons x).1 h)]
theorem sort_dirty {s : DiskSt} {ks : List Int} (hn : ks.Nodup) (hm : ∀ z, z ∈ ks ↔ z ∈ dirtyOf s) : ks.mergeSort (fun x y => decide (x ≤ y)) = dirtyOf s := by
  have h1 : (ks.mergeSort (fun x y => decide (x ≤ y))).Pairwise (fun x y => decide (x ≤ y) = true) := List.pairwise_mergeSort (by simp; omega) (by simp; omega) ks
  refine sorted_unique (h1.imp (fun h => by simpa using h)) ((dirty_sorted s).imp (fun h => by omega)) ((List.mergeSort_perm ks _).trans ?_)
  exact (List.perm_ext_iff_of_nodup hn ((dirty_sorted s).imp (fun h => by omega))).2 hm

set_option maxRecDepth 100000 in
set_option maxHeartbeats 4000000 in
/-- (*disk.Disk).Dirty -/
theorem ddirty_calls {W : World} {P : Nat} {F B : Nat → Prop} {n : Nat} {st : DiskSt} (h : DiskAt W P F B n st) (hn : n ≤ 1000000000) :
    Calls Try.prog 97 #[.pointer (some ⟨P, 0, none⟩)] W (ResA (Rep.int .i64) 3 W (dirtyOf st)) := by
  obtain ⟨Sf, cs, M, D, hd⟩ := h
  have HD := Lib.hid hd
  have e1 := cell_row hd.blk 1
  have HSZ := Lib.hid (Nat.le_trans hd.map.size_le hn)
  clear hd hn
  go_enter Try.func97, Try.ntmps97
  go_wp2_with (at_range; refine wpList_range_own _ rfl _ 182 rfl 3 24 int_law Try.underlying182 heldElem M n D (by exact rfl) HD.out.map ?_; intro w2 hrg2 hg2 hs2)
  go_frame
  generalize hr : W.heap.size = r at *
  have HR := Lib.hid hr
  have HB2 := Lib.hid (show Below r W w2 from ⟨hg2.os, hg2.tape, hg2.output, hg2.size, fun b hb => hg2.block b (by omega) (by simp)⟩)
  have HLT := Lib.hid (show M < r by have := HD.out.lt M (.inl HD.out.fM); omega)
  have HS2 := Lib.hid (show w2.heap.size = r + 1 by omega)
  clear hr e1 hg2 hs2
  go_loopw [3] (fun u wr => ∃ left cnt ks, wr.ranges Try.prog 3 heldElem M r n D left cnt ∧ (Rep.int .i64).acc 3 (r + 1) (fun _ => False) wr u ks ∧ Below r W wr ∧ r + 1 ≤ wr.heap.size ∧ Hid (ks.length + cnt ≤ Go.Maps.size D) ∧ Hid (ks.Nodup) ∧ Hid (∀ z : Int, z ∈ ks ↔ (Go.Maps.has D (.int .i64 z) = true ∧ left (.int .i64 z) = false))) (fun _ wr => wr.rangeLeft M r)
  case atStart => exact ⟨Go.Maps.has D, _, [], hrg2, Rep.acc_nil, HB2.out, Nat.le_of_eq HS2.out.symm, by unfold Hid; simp, List.nodup_nil, fun z => by simp⟩
  case round =>
    obtain ⟨left, cnt, ks, hrg, hacc, hbel, hsz, hlen, hnd, hmem⟩ := hrel
    have HRG := Lib.hid hrg
    have HACC := Lib.hid hacc
    have HBEL := Lib.hid hbel
    have HSW := Lib.hid hsz
    obtain ⟨A3, c3, rfl, _, _⟩ := Rep.acc_form hacc
    clear hrg hacc hbel hsz
    go_wp2_with (at_next; refine wpList_next_ranges _ rfl _ rfl 3 int_law heldElem (Value.int .i64) (fun v : Value => v) (fun key kl hkey => by obtain ⟨x, rfl, _⟩ := Go.Maps.keyOf_int_inv Try.underlying3 hkey; exact ⟨x, rfl⟩) (fun v y hv => ⟨v, rfl⟩) M r n D left cnt (by exact rfl) HRG.out ?_ ?_)
    · intro hc0 hl0
      have HKS := Lib.hid (show ks.mergeSort (fun x y => decide (x ≤ y)) = dirtyOf st from sort_dirty hnd.out (fun z => by rw [hmem.out, dirty_mem HD.out.keys]; exact ⟨fun h => HD.out.has z h.1, fun h => ⟨HD.out.of_wait h, hl0 _⟩⟩))
      clear hc0 hl0
      go_wp2_with fail
      refine (sortInts_calls HACC.out (by have := hlen.out; have := HSZ.out; omega)).mono ?_
      rintro e w4 ⟨rfl, hacc4, hg4⟩
      rw [HKS.out] at hacc4
      have HA4 := Lib.hid hacc4
      have HB4 := Lib.hid (HBEL.out.grown hg4 (by have := HSW.out; omega) (fun k hk => by have := (Rep.acc_own HACC.out k hk).1; omega))
      clear hacc4 hg4
      go_wp2_with fail
      go_ret
      exact ⟨_, rfl, by rw [HR.out]; exact Rep.acc_base (Nat.le_succ r) HA4.out, by rw [HR.out]; exact HB4.out⟩
    · intro x c kl ya yb w3 cnt3 hkey hlk hv hat hrg3 hlt3 hg3 hs3 hen
      obtain ⟨x', ex, rfl, hwx⟩ := Go.Maps.keyOf_int_inv Try.underlying3 hkey
      cases ex
      obtain ⟨rfl, rfl⟩ : ya = .held c ∧ yb = [] := by unfold heldElem at hv; have := Option.some.inj hv; exact ⟨(congrArg Prod.fst this).symm, (congrArg Prod.snd this).symm⟩
      have HHX := Lib.hid (show Go.Maps.has D (.int .i64 x) = true from Go.Maps.has_true_of_atKey hat)
      have hown := Rep.acc_own HACC.out
      have HA3 := Lib.hid (Rep.acc_keep (w' := w3) (fun b hb hl => hg3.block b hl.lt (fun e => by rcases hb with hb | hb; exact hb.elim; have := (hown b hb).1; have := Option.some.inj e; omega)) (fun _ h _ => h) HACC.out)
      have HB3 := Lib.hid (HBEL.out.grown hg3 (by have := HSW.out; omega) (fun k hk => by have := Option.some.inj hk; omega))
      have L := Lib.hid (show ks.length + 1 ≤ maxLen ∧ (ks.length + 1) * 8 ≤ 140737488355328 by have := hlen.out; have := HSZ.out; unfold maxLen; omega)
      have HX := Lib.hid hwx
      have HS3 := Lib.hid (show r + 1 ≤ w3.heap.size by have := HSW.out; omega)
      have HLK := Lib.hid hlk
      have HRG3 := Lib.hid hrg3
      have HLT3 := Lib.hid hlt3
      clear hkey hlk hv hat hrg3 hlt3 hg3 hs3 hown hwx
      go_wp2_with (refine wpList_snoc (e := 3) (base := r + 1) (Q := fun _ => False) (r := Rep.int .i64) rfl rfl _ _ 30 _ rfl rfl rfl (.int .i64 0) 1 8 Try.underlying30 info3 rfl (by decide) rfl _ ks HA3.out x _ (by exact rfl) ⟨_, rfl, rfl, HX.out⟩ (by exact rfl) (by exact rfl) L.out.1 L.out.2 HS3.out ?_; intro v5 w5 hacc5 hgr5 hat5)
      have hown3 := Rep.acc_own HA3.out
      have hrg5 := HRG3.out.kept hgr5 (fun e => by have := (hown3 M e.symm).1; have := HLT.out; omega) (fun e => by have := (hown3 r e.symm).1; omega)
      refine ⟨⟨_, cnt3, ks ++ [x], hrg5, hacc5, HB3.out.grown hgr5 (by have := HS3.out; omega) (fun k hk => by have := (hown3 k hk).1; omega), Nat.le_trans HS3.out hgr5.size, ?_, ?_, ?_⟩, ?_⟩
      · show (ks ++ [x]).length + cnt3 ≤ Go.Maps.size D
        have := hlen.out; have := HLT3.out; rw [List.length_append]; simp; omega
      · refine List.nodup_append.2 ⟨hnd.out, by simp, fun a ha b hb => ?_⟩
        have hb' := List.mem_singleton.1 hb
        subst hb'
        rintro rfl
        have h1 := ((hmem.out a).1 ha).2
        rw [HLK.out] at h1; cases h1
      · intro z
        rw [List.mem_append, hmem.out z, List.mem_singleton, sameKey_int]
        constructor
        · rintro (⟨h1, h2⟩ | rfl)
          · exact ⟨h1, by rw [h2]; rfl⟩
          · exact ⟨HHX.out, by simp⟩
        · rintro ⟨h1, h2⟩
          by_cases hz : z = x
          · exact .inr hz
          · exact .inl ⟨h1, by simpa [hz] using h2⟩
      · rw [hrg5.left_eq, HRG.out.left_eq]
        exact HLT3.out
end Go.Proofs.Ytecdbfbaclgejaa
/- Walk of a failure of the power. -/
namespace Go.Proofs.Ytecdbfbaclgejaa
open Go.RowKit

/-- The sectors behind the first k that had waiting writes. -/
def crashTo (s : DiskSt) (fates : List DFate) : Nat → List (List UInt8)
  | 0 => s.safe
  | k + 1 => (crashTo s fates k).set ((dirtyOf s).getD k 0).toNat (settleOf ((crashTo s fates k).getD ((dirtyOf s).getD k 0).toNat []) (s.wait ((dirtyOf s).getD k 0)) (fates.getD k ⟨0, 0⟩))
def crashSt (s : DiskSt) (fates : List DFate) : DiskSt := ⟨crashTo s fates (dirtyOf s).length, fun _ => [], -1, false, s.reads, s.writes⟩
theorem crashTo_length (s : DiskSt) (fates : List DFate) : ∀ k, (crashTo s fates k).length = s.safe.length
  | 0 => rfl
  | k + 1 => by unfold crashTo; rw [List.length_set]; exact crashTo_length s fates k
theorem dirty_bounds {s : DiskSt} {z : Int} (hz : z ∈ dirtyOf s) : 0 ≤ z ∧ z < s.safe.length := by
  unfold dirtyOf at hz
  obtain ⟨i, hi, rfl⟩ := List.mem_map.1 hz
  have := List.mem_range.1 (List.mem_filter.1 hi).1
  omega
def CrashPost (F B : Nat → Prop) (P n : Nat) (W : World) (st : DiskSt) (e : Ending) (W' : World) : Prop :=
  e = .returned (.tuple #[]) ∧ Only F W W' ∧ ∃ B' : Nat → Prop, DiskAt W' P F B' n st ∧ (∀ b, B' b → B b ∨ W.heap.size ≤ b)

set_option maxRecDepth 100000 in
set_option maxHeartbeats 1000000 in
/-- (*disk.Disk).Crash of no device -/
theorem dcrash_nil (w : World) (v : Value) : Calls Try.prog 92 #[.pointer none, v] w fun e w' => e = .returned (.tuple #[]) ∧ w' = w := by
  go_enter Try.func92, Try.ntmps92
  go_wp2_with fail
  exact ⟨rfl, .tuple #[], by simp [results], rfl, rfl⟩

set_option maxRecDepth 100000 in
set_option maxHeartbeats 3000000 in
/-- (*disk.Disk).Crash -/
theorem dcrash_calls {Q : Nat → Prop} {W : World} {P : Nat} {F B : Nat → Prop} {n : Nat} {st : DiskSt} {v : Value} {fates : List DFate} (h : DiskAt W P F B n st) (hn : n ≤ 1000000000) (hx : rFate.list.val Q W v fates) (hQ : ∀ b, Q b → ¬ F b) :
    Calls Try.prog 92 #[.pointer (some ⟨P, 0, none⟩), v] W (CrashPost F B P n W (crashSt st fates)) := by
  have HH := Lib.hid h
  obtain ⟨Af, cf, rfl, hcf, hmf, hAf⟩ := Rep.val_list hx
  unfold maxLen at hmf
  have HX := Lib.hid (show ∀ W', Only F W W' → rFate.At Q W' Af fates from fun W' ho => Rep.At.keep (w := W) (fun b hb hl => ⟨hb, ho.block b hl.lt (hQ b hb)⟩) hAf)
  obtain ⟨Sf, cs, M, D, hd⟩ := h
  have HD := Lib.hid hd
  have HFW := Lib.hid (show ∀ b, F b ∨ B b → b < W.heap.size from hd.lt)
  have HN := Lib.hid hn
  clear hd hx hAf hn hQ
  generalize hfl : fates.length = fl at *
  have HFL := Lib.hid hfl
  clear hfl
  go_enter Try.func92, Try.ntmps92
  go_wp2_with fail
  refine (ddirty_calls HH.out HN.out).mono ?_
  rintro e w2 ⟨u2, rfl, hu2, hb2⟩
  obtain ⟨A2, c2, rfl, hc2, hm2⟩ := Rep.acc_form hu2
  have HU2 := Lib.hid (Rep.acc_fresh hu2)
  have HB2 := Lib.hid hb2
  have HDD := Lib.hid (fun z (hz : z ∈ dirtyOf st) => dirty_bounds hz)
  generalize hdl : (dirtyOf st).length = dl at *
  have HDL := Lib.hid hdl
  have HD2 := Lib.hid (HD.out.keep hb2.size (fun b hb => hb2.block b (HFW.out b hb)))
  clear hu2 hb2 hdl
  unfold maxLen at hm2
  go_wp2_with fail
  go_loopw [12] (fun i wr => ∃ (k : Nat) (Bk : Nat → Prop), i = .int .i64 k ∧ k ≤ dl ∧ DiskW wr P Sf cs M D F Bk n { st with safe := crashTo st fates k } ∧ Only F W wr ∧ Below W.heap.size w2 w2 ∧ Only F w2 wr ∧ Hid (∀ b, Bk b → B b ∨ W.heap.size ≤ b)) (fun i _ => dl - (intOf i).toNat)
  case atStart => exact ⟨0, B, rfl, Nat.zero_le _, HD2.out, Only.of_below HB2.out, Below.refl _ _, Only.refl _ _, fun b hb => .inl hb⟩
  case round =>
    obtain ⟨k, Bk, rfl, hk, hdw, ho, _, ho2, hB⟩ := hrel
    have HDW := Lib.hid hdw
    have HO := Lib.hid ho
    have HO2 := Lib.hid ho2
    by_cases hlt : (k : Int) < dl
    · have hkd : k < (dirtyOf st).length := by have := HDL.out; omega
      obtain ⟨x0, hx0⟩ : ∃ x, (dirtyOf st)[k]? = some x := ⟨_, List.getElem?_eq_getElem hkd⟩
      have hxb := HDD.out x0 (List.mem_of_getElem? hx0)
      obtain ⟨x, rfl⟩ : ∃ x : Nat, x0 = x := ⟨x0.toNat, by omega⟩
      have hxD : (dirtyOf st).getD k 0 = (x : Int) := by rw [List.getD_eq_getElem?_getD, hx0]; rfl
      have hat2 : (Rep.int .i64).At (fun b => W.heap.size ≤ b) wr A2 (dirtyOf st) := by
        obtain ⟨A', c', he, _, _, hat⟩ := Rep.val_list HU2.out
        cases he
        exact Rep.At.keep (w := w2) (fun b hb hl => ⟨hb, ho2.block b hl.lt (fun hf => by have := HFW.out b (.inl hf); have hb' : W.heap.size ≤ b := hb; omega)⟩) hat
      obtain ⟨b2, o2, rfl, _, hcx⟩ := Rep.At.int hat2 hx0
      have hN := crashTo_length st fates k
      obtain ⟨ys, hys⟩ : ∃ ys, (crashTo st fates k)[x]? = some ys := ⟨_, List.getElem?_eq_getElem (by rw [hN]; omega)⟩
      have HSTEP := Lib.hid (show crashTo st fates (k + 1) = (crashTo st fates k).set x (settleOf ys (st.wait x) (fates.getD k ⟨0, 0⟩)) by
        show (crashTo st fates k).set ((dirtyOf st).getD k 0).toNat (settleOf ((crashTo st fates k).getD ((dirtyOf st).getD k 0).toNat []) (st.wait ((dirtyOf st).getD k 0)) (fates.getD k ⟨0, 0⟩)) = _
        rw [hxD, Int.toNat_natCast, List.getD_eq_getElem?_getD, hys]; rfl)
      have HXN := Lib.hid (show x < (crashTo st fates k).length by rw [hN]; omega)
      generalize crashTo st fates k = sk at *
      have HWX := Lib.hid (show (Lit.int .i64 (x : Int)).wf = true from wf_i64 (by omega) (by have := hdw.len_safe; have h2 : sk.length ≤ cs := this.1; have h3 := this.2; unfold maxLen at h3; omega))
      have hxN : (x : Int) < (st.safe.length : Int) := hxb.2
      have hrs := ho.size
      clear hdw ho ho2 hx0 hxb hxD hat2 hkd
      by_cases hf : (k : Int) < fl
      · obtain ⟨f, hff⟩ : ∃ f, fates[k]? = some f := ⟨_, List.getElem?_eq_getElem (by have := HFL.out; omega)⟩
        have hfd : fates.getD k ⟨0, 0⟩ = f := by rw [List.getD_eq_getElem?_getD, hff]; rfl
        obtain ⟨b3, o3, rfl, hic3, hk3, ht3, hw0, hw1⟩ := rFate_at (HX.out wr HO.out) hff
        have HWF := Lib.hid (And.intro hw0 hw1)
        rw [hfd] at HSTEP
        clear hff hfd hw0 hw1
        have hb3 : b3 < wr.heap.size := hic3.lt
        have hne3 : ¬ b3 = wr.heap.size := by omega
        have hW1a : wr.heap.size < (wr.alloc (.cells #[.int .i64 (f.kept), .int .i64 (f.torn)] 213)).heap.size := by simp
        have hd1 : DiskW (wr.alloc (.cells #[.int .i64 (f.kept), .int .i64 (f.torn)] 213)) P Sf cs M D F Bk n { st with safe := sk } := HDW.out.keep (Nat.le_of_lt hW1a) (fun b hb => Below.heap_alloc _ _ _ (HDW.out.lt b hb))
        have hbx := heap_alloc_new wr (.cells #[.int .i64 (f.kept), .int .i64 (f.torn)] 213)
        have HO1 := Lib.hid (show Only F wr (wr.alloc (.cells #[.int .i64 (f.kept), .int .i64 (f.torn)] 213)) from ⟨rfl, rfl, rfl, Nat.le_of_lt hW1a, fun b hb _ => Below.heap_alloc _ _ _ hb⟩)
        have hPl := HDW.out.lt P (.inl HDW.out.fP)
        go_wp2_with fail
        generalize wr.alloc (.cells #[.int .i64 (f.kept), .int .i64 (f.torn)] 213) = W1 at *
        generalize hrr : wr.heap.size = r at *
        have HRR := Lib.hid hrr
        obtain ⟨g, B8, c8, cap8, hv8, hc8, hz8, hg8, hval8⟩ := Rep.acc_elem hd1.safe hys
        cases hv8
        have HD1 := Lib.hid hd1
        have hFg : F g := hd1.fS g rfl
        have HY8 := Lib.hid (Rep.val_mono (Q' := Bk) (fun b hb _ => hb.1) hval8)
        have hPg : P ≠ g := fun e => hd1.sP (b := g) rfl e.symm
        have hMg : M ≠ g := fun e => hd1.sM (b := g) rfl e.symm
        have hgr : g < r := by rw [← hrr]; exact HDW.out.lt g (.inl hFg)
        have hrg : r ≠ g := by omega
        have hb0 : W1.cell? ⟨P, 0, none⟩ = some (.slice (some ⟨g, 0, none⟩) st.safe.length cs) := (cell_row hd1.blk 0).trans (show some (Value.slice (some ⟨g, 0, none⟩) sk.length cs) = _ by rw [hN])
        have hb1 := cell_row hd1.blk 1
        have hr0 := cell_row hbx 0
        have hr1 := cell_row hbx 1
        have hMl := hd1.lt M (.inl hd1.fM)
        have KS := Lib.hid (show ∀ W' : World, (∀ b, b < W1.heap.size → b ≠ g → W'.heap[b]? = W1.heap[b]?) → (W'.cell? ⟨P, 0, none⟩ = some (.slice (some ⟨g, 0, none⟩) st.safe.length cs) ∧ W'.cell? ⟨P, 1, none⟩ = some (.map (some M)) ∧ W'.cell? ⟨r, 0, none⟩ = some (.int .i64 (f.kept)) ∧ W'.cell? ⟨r, 1, none⟩ = some (.int .i64 (f.torn))) ∧ W'.ownsMap Try.prog 3 heldElem M n D from fun W' hk => by
          have hP := hk P (by omega) hPg
          have hR := hk r hW1a hrg
          refine ⟨⟨?_, ?_, ?_, ?_⟩, HD1.out.map_keep (hk M hMl hMg)⟩
          · exact (show W'.cell? ⟨P, 0, none⟩ = W1.cell? ⟨P, 0, none⟩ by simp only [World.cell?, hP]).trans hb0
          · exact (show W'.cell? ⟨P, 1, none⟩ = W1.cell? ⟨P, 1, none⟩ by simp only [World.cell?, hP]).trans hb1
          · exact (show W'.cell? ⟨r, 0, none⟩ = W1.cell? ⟨r, 0, none⟩ by simp only [World.cell?, hR]).trans hr0
          · exact (show W'.cell? ⟨r, 1, none⟩ = W1.cell? ⟨r, 1, none⟩ by simp only [World.cell?, hR]).trans hr1)
        have KN := Lib.hid hN
        generalize hNN : st.safe.length = N at *
        generalize hysl : ys.length = yl at *
        have s1 := KS.out W1.drew (fun _ _ _ => rfl)
        clear hd1 hbx hb0 hb1 hr0 hr1 hval8
        refine wp_region_held (S := fun W' : World => (W'.cell? ⟨P, 0, none⟩ = some (.slice (some ⟨g, 0, none⟩) N cs) ∧ W'.cell? ⟨P, 1, none⟩ = some (.map (some M)) ∧ W'.cell? ⟨r, 0, none⟩ = some (.int .i64 (f.kept)) ∧ W'.cell? ⟨r, 1, none⟩ = some (.int .i64 (f.torn))) ∧ W'.ownsMap Try.prog 3 heldElem M n D) (by kernel_rfl) ?_
        refine wpAnyH_take (i := 0) (v := .pointer (some ⟨P, 0, none⟩)) rfl (by kernel_rfl) (by kernel_rfl) (by kernel_rfl) (fun _ _ _ h => h) (Or.inl ⟨by rfl, fun w' _ => by go_simp⟩) s1 ?_
        go_simp
        refine wpAnyH_take (i := 1) (v := .pointer (some ⟨P, 0, none⟩)) rfl (by kernel_rfl) (by kernel_rfl) (by kernel_rfl) (fun _ _ _ h => h) (Or.inl ⟨by rfl, fun w' _ => by go_simp⟩) s1 ?_
        go_simp
        refine wpAnyH_take (i := 2) (v := .pointer (some ⟨P, 0, none⟩)) rfl (by kernel_rfl) (by kernel_rfl) (by kernel_rfl) (fun _ _ _ h => h) (Or.inl ⟨by rfl, fun w' _ => by go_simp⟩) s1 ?_
        go_simp
        refine wpAnyH_take (i := 3) (v := .slice (some ⟨g, 0, none⟩) N cs) rfl (by kernel_rfl) (by kernel_rfl) (by kernel_rfl) (fun _ _ _ h => h) (Or.inl ⟨by rfl, fun w' h => by obtain ⟨⟨x0, x1, x2, x3⟩, _⟩ := h; go_simp⟩) s1 ?_
        go_simp
        refine wpAnyH_take (i := 4) (v := .int .i64 (x : Int)) rfl (by kernel_rfl) (by kernel_rfl) (by kernel_rfl) (fun _ _ _ h => h) (Or.inl ⟨by rfl, fun w' _ => by go_simp⟩) s1 ?_
        go_simp
        refine wpAnyH_take (i := 5) (v := .pointer (some ⟨P, 0, none⟩)) rfl (by kernel_rfl) (by kernel_rfl) (by kernel_rfl) (fun _ _ _ h => h) (Or.inl ⟨by rfl, fun w' _ => by go_simp⟩) s1 ?_
        go_simp
        refine wpAnyH_take (i := 6) (v := .pointer (some ⟨P, 0, none⟩)) rfl (by kernel_rfl) (by kernel_rfl) (by kernel_rfl) (fun _ _ _ h => h) (Or.inl ⟨by rfl, fun w' _ => by go_simp⟩) s1 ?_
        go_simp
        refine wpAnyH_take (i := 7) (v := .pointer (some ⟨P, 0, none⟩)) rfl (by kernel_rfl) (by kernel_rfl) (by kernel_rfl) (fun _ _ _ h => h) (Or.inl ⟨by rfl, fun w' _ => by go_simp⟩) s1 ?_
        go_simp
        refine wpAnyH_take (i := 8) (v := .slice (some ⟨g, 0, none⟩) N cs) rfl (by kernel_rfl) (by kernel_rfl) (by kernel_rfl) (fun _ _ _ h => h) (Or.inl ⟨by rfl, fun w' h => by obtain ⟨⟨x0, x1, x2, x3⟩, _⟩ := h; go_simp⟩) s1 ?_
        go_simp
        refine wpAnyH_take (i := 9) (v := .int .i64 (x : Int)) rfl (by kernel_rfl) (by kernel_rfl) (by kernel_rfl) (fun _ _ _ h => h) (Or.inl ⟨by rfl, fun w' _ => by go_simp⟩) s1 ?_
        go_simp
        refine wpAnyH_take (i := 10) (v := .pointer (some ⟨g, x, none⟩)) rfl (by kernel_rfl) (by kernel_rfl) (by kernel_rfl) (fun _ _ _ h => h) (Or.inl ⟨by rfl, fun w' _ => by go_simp⟩) s1 ?_
        go_simp
        refine wpAnyH_take (i := 12) (v := .pointer (some ⟨P, 0, none⟩)) rfl (by kernel_rfl) (by kernel_rfl) (by kernel_rfl) (fun _ _ _ h => h) (Or.inl ⟨by rfl, fun w' _ => by go_simp⟩) s1 ?_
        go_simp
        refine wpAnyH_take (i := 13) (v := .pointer (some ⟨P, 0, none⟩)) rfl (by kernel_rfl) (by kernel_rfl) (by kernel_rfl) (fun _ _ _ h => h) (Or.inl ⟨by rfl, fun w' _ => by go_simp⟩) s1 ?_
        go_simp
        refine wpAnyH_take (i := 14) (v := .pointer (some ⟨P, 1, none⟩)) rfl (by kernel_rfl) (by kernel_rfl) (by kernel_rfl) (fun _ _ _ h => h) (Or.inl ⟨by rfl, fun w' _ => by go_simp⟩) s1 ?_
        go_simp
        refine wpAnyH_take (i := 15) (v := .map (some M)) rfl (by kernel_rfl) (by kernel_rfl) (by kernel_rfl) (fun _ _ _ h => h) (Or.inl ⟨by rfl, fun w' h => by obtain ⟨⟨x0, x1, x2, x3⟩, _⟩ := h; go_simp⟩) s1 ?_
        go_simp
        refine wpAnyH_take (i := 16) (v := .int .i64 (x : Int)) rfl (by kernel_rfl) (by kernel_rfl) (by kernel_rfl) (fun _ _ _ h => h) (Or.inl ⟨by rfl, fun w' _ => by go_simp⟩) s1 ?_
        go_simp
        refine wpAnyH_take (i := 17) (v := valAt D x) rfl (by kernel_rfl) (by kernel_rfl) (by kernel_rfl) (fun _ _ _ h => h) (Or.inl ⟨by rfl, fun w' h => exec_lookup (M := M) (n := n) (D := D) (i := (x : Int)) rfl (by rfl) (by rfl) h.2 HWX.out⟩) s1 ?_
        go_simp
        refine wpAnyH_take (i := 18) (v := .agg #[.int .i64 (f.kept), .int .i64 (f.torn)]) rfl (by kernel_rfl) (by kernel_rfl) (by kernel_rfl) (fun _ _ _ h => h) (Or.inl ⟨by rfl, fun w' h => by obtain ⟨⟨x0, x1, x2, x3⟩, _⟩ := h; go_simp⟩) s1 ?_
        go_simp
        refine wpAnyH_all (rs := [11]) (by kernel_rfl) (by simp) ?_
        intro j hj
        obtain rfl : j = 11 := by simpa using hj
        refine wpOp_step rfl (fun K hK => ?_)
        go_simp
        refine hK _ _ ⟨s1, ?_⟩
        clear hK K
        refine wpAnyH_all (rs := [19]) (by kernel_rfl) (by simp) ?_
        intro j hj
        obtain rfl : j = 19 := by simpa using hj
        refine wpOp_step rfl (fun K hK => ?_)
        go_simp
        refine (settle_calls (Q := Bk) (base := 0) (f := ⟨f.kept, f.torn⟩) (Rep.val_drewN HY8.out 1) (Rep.acc_keep (w := W1) (w' := W1.drew) (fun _ _ _ => rfl) (fun _ hb _ => hb) (HD1.out.wt x)) (rFate_agg HWF.out.1 HWF.out.2) (Nat.le_trans (HD1.out.len x) HN.out)).mono ?_
        rintro e w9 ⟨u9, rfl, hu9, hb9⟩
        have B9 := Lib.hid (show Below W1.heap.size W1 w9 from (Below.refl _ _).drew.trans hb9)
        obtain ⟨A9, c9, rfl, _, _, _⟩ := Rep.val_list hu9
        have HU9 := Lib.hid (Rep.val_mono (Q' := fun c => Bk c ∨ (W1.heap.size ≤ c ∧ c < w9.heap.size)) (fun b hb hl => hb.imp id fun e => ⟨e, hl.lt⟩) hu9)
        have HST9 := Lib.hid (show settleOf ys (st.wait x) ⟨f.kept, f.torn⟩ = settleOf ys (st.wait x) ⟨f.kept, f.torn⟩ from rfl)
        clear hu9 hb9
        refine hK _ _ ⟨KS.out _ (fun b hb _ => B9.out.block b hb), ?_⟩
        clear hK K
        have hc9 := (B9.out.cell (p := ⟨g, x, none⟩) hg8).trans hc8
        have hz9 : w9.frozen? ⟨g, x, none⟩ = false := (show w9.frozen? ⟨g, x, none⟩ = W1.frozen? ⟨g, x, none⟩ by simp only [World.frozen?, B9.out.block g hg8]).trans hz8
        have s9 := KS.out w9 (fun b hb _ => B9.out.block b hb)
        have hd9 : DiskW w9 P (some ⟨g, 0, none⟩) cs M D F (fun c => Bk c ∨ (W1.heap.size ≤ c ∧ c < w9.heap.size)) n { st with safe := sk } :=
          (HD1.out.keep B9.out.size (fun b hb => B9.out.block b (HD1.out.lt b hb))).wide (fun b hb => .inl hb) (fun b hf hb => hb.elim (HD1.out.apart b hf) (fun e => by have := HD1.out.lt b (.inl hf); omega)) (fun b hb => hb.elim (fun e => Nat.lt_of_lt_of_le (HD1.out.lt b (.inr e)) B9.out.size) (fun e => e.2))
        obtain ⟨g', hgg, _, hset⟩ := hd9.setSafe (i := x) HXN.out HU9.out
        cases hgg
        have HSET := Lib.hid hset
        clear hd9 hset
        refine wpAnyH_take (i := 20) (v := .pointer (some ⟨g, x, none⟩)) rfl (by kernel_rfl) (by kernel_rfl) (by kernel_rfl) (fun _ _ _ h => h) (Or.inl ⟨by rfl, fun w' _ => by go_simp⟩) s9 ?_
        go_simp
        refine wpAnyH_all (rs := [21]) (by kernel_rfl) (by simp) ?_
        intro j hj
        obtain rfl : j = 21 := by simpa using hj
        refine wpOp_step rfl (fun K hK => ?_)
        go_simp
        refine hK _ _ ⟨KS.out _ (fun b hb hbg => (Below.heap_setCell _ _ _ _ hbg).trans (B9.out.block b hb)), ?_⟩
        clear hK K
        refine wpAnyH_done (by kernel_rfl) ?_ _
        go_wp2_with fail
        have O10 : Only F wr (w9.setCell ⟨g, x, none⟩ (.slice A9 (settleOf ys (st.wait x) ⟨f.kept, f.torn⟩).length c9)) := (HO1.out.trans (Only.of_below B9.out)).trans (Only.set hFg)
        refine ⟨⟨k + 1, _, rfl, by omega, by rw [HSTEP.out]; exact HSET.out, HO.out.trans O10, Below.refl _ _, HO2.out.trans O10, (show ∀ b, (Bk b ∨ (W1.heap.size ≤ b ∧ b < w9.heap.size)) → B b ∨ W.heap.size ≤ b from fun b hb => hb.elim (hB.out b) (fun e => .inr (by have := HO1.out.size; omega)))⟩, by show dl - ((k : Int) + 1).toNat < dl - (k : Int).toNat; omega⟩
      · have hfd : fates.getD k ⟨0, 0⟩ = ⟨0, 0⟩ := by rw [List.getD_eq_getElem?_getD, List.getElem?_eq_none (by have := HFL.out; omega)]; rfl
        have HWF := Lib.hid (show (Lit.int .i64 (0 : Int)).wf = true ∧ (Lit.int .i64 (0 : Int)).wf = true from ⟨rfl, rfl⟩)
        rw [hfd] at HSTEP
        clear hfd
        have hW1a : wr.heap.size < (wr.alloc (.cells #[.int .i64 (0), .int .i64 (0)] 213)).heap.size := by simp
        have hd1 : DiskW (wr.alloc (.cells #[.int .i64 (0), .int .i64 (0)] 213)) P Sf cs M D F Bk n { st with safe := sk } := HDW.out.keep (Nat.le_of_lt hW1a) (fun b hb => Below.heap_alloc _ _ _ (HDW.out.lt b hb))
        have hbx := heap_alloc_new wr (.cells #[.int .i64 (0), .int .i64 (0)] 213)
        have HO1 := Lib.hid (show Only F wr (wr.alloc (.cells #[.int .i64 (0), .int .i64 (0)] 213)) from ⟨rfl, rfl, rfl, Nat.le_of_lt hW1a, fun b hb _ => Below.heap_alloc _ _ _ hb⟩)
        have hPl := HDW.out.lt P (.inl HDW.out.fP)
        go_wp2_with fail
        generalize wr.alloc (.cells #[.int .i64 (0), .int .i64 (0)] 213) = W1 at *
        generalize hrr : wr.heap.size = r at *
        have HRR := Lib.hid hrr
        obtain ⟨g, B8, c8, cap8, hv8, hc8, hz8, hg8, hval8⟩ := Rep.acc_elem hd1.safe hys
        cases hv8
        have HD1 := Lib.hid hd1
        have hFg : F g := hd1.fS g rfl
        have HY8 := Lib.hid (Rep.val_mono (Q' := Bk) (fun b hb _ => hb.1) hval8)
        have hPg : P ≠ g := fun e => hd1.sP (b := g) rfl e.symm
        have hMg : M ≠ g := fun e => hd1.sM (b := g) rfl e.symm
        have hgr : g < r := by rw [← hrr]; exact HDW.out.lt g (.inl hFg)
        have hrg : r ≠ g := by omega
        have hb0 : W1.cell? ⟨P, 0, none⟩ = some (.slice (some ⟨g, 0, none⟩) st.safe.length cs) := (cell_row hd1.blk 0).trans (show some (Value.slice (some ⟨g, 0, none⟩) sk.length cs) = _ by rw [hN])
        have hb1 := cell_row hd1.blk 1
        have hr0 := cell_row hbx 0
        have hr1 := cell_row hbx 1
        have hMl := hd1.lt M (.inl hd1.fM)
        have KS := Lib.hid (show ∀ W' : World, (∀ b, b < W1.heap.size → b ≠ g → W'.heap[b]? = W1.heap[b]?) → (W'.cell? ⟨P, 0, none⟩ = some (.slice (some ⟨g, 0, none⟩) st.safe.length cs) ∧ W'.cell? ⟨P, 1, none⟩ = some (.map (some M)) ∧ W'.cell? ⟨r, 0, none⟩ = some (.int .i64 (0)) ∧ W'.cell? ⟨r, 1, none⟩ = some (.int .i64 (0))) ∧ W'.ownsMap Try.prog 3 heldElem M n D from fun W' hk => by
          have hP := hk P (by omega) hPg
          have hR := hk r hW1a hrg
          refine ⟨⟨?_, ?_, ?_, ?_⟩, HD1.out.map_keep (hk M hMl hMg)⟩
          · exact (show W'.cell? ⟨P, 0, none⟩ = W1.cell? ⟨P, 0, none⟩ by simp only [World.cell?, hP]).trans hb0
          · exact (show W'.cell? ⟨P, 1, none⟩ = W1.cell? ⟨P, 1, none⟩ by simp only [World.cell?, hP]).trans hb1
          · exact (show W'.cell? ⟨r, 0, none⟩ = W1.cell? ⟨r, 0, none⟩ by simp only [World.cell?, hR]).trans hr0
          · exact (show W'.cell? ⟨r, 1, none⟩ = W1.cell? ⟨r, 1, none⟩ by simp only [World.cell?, hR]).trans hr1)
        have KN := Lib.hid hN
        generalize hNN : st.safe.length = N at *
        generalize hysl : ys.length = yl at *
        have s1 := KS.out W1.drew (fun _ _ _ => rfl)
        clear hd1 hbx hb0 hb1 hr0 hr1 hval8
        refine wp_region_held (S := fun W' : World => (W'.cell? ⟨P, 0, none⟩ = some (.slice (some ⟨g, 0, none⟩) N cs) ∧ W'.cell? ⟨P, 1, none⟩ = some (.map (some M)) ∧ W'.cell? ⟨r, 0, none⟩ = some (.int .i64 (0)) ∧ W'.cell? ⟨r, 1, none⟩ = some (.int .i64 (0))) ∧ W'.ownsMap Try.prog 3 heldElem M n D) (by kernel_rfl) ?_
        refine wpAnyH_take (i := 0) (v := .pointer (some ⟨P, 0, none⟩)) rfl (by kernel_rfl) (by kernel_rfl) (by kernel_rfl) (fun _ _ _ h => h) (Or.inl ⟨by rfl, fun w' _ => by go_simp⟩) s1 ?_
        go_simp
        refine wpAnyH_take (i := 1) (v := .pointer (some ⟨P, 0, none⟩)) rfl (by kernel_rfl) (by kernel_rfl) (by kernel_rfl) (fun _ _ _ h => h) (Or.inl ⟨by rfl, fun w' _ => by go_simp⟩) s1 ?_
        go_simp
        refine wpAnyH_take (i := 2) (v := .pointer (some ⟨P, 0, none⟩)) rfl (by kernel_rfl) (by kernel_rfl) (by kernel_rfl) (fun _ _ _ h => h) (Or.inl ⟨by rfl, fun w' _ => by go_simp⟩) s1 ?_
        go_simp
        refine wpAnyH_take (i := 3) (v := .slice (some ⟨g, 0, none⟩) N cs) rfl (by kernel_rfl) (by kernel_rfl) (by kernel_rfl) (fun _ _ _ h => h) (Or.inl ⟨by rfl, fun w' h => by obtain ⟨⟨x0, x1, x2, x3⟩, _⟩ := h; go_simp⟩) s1 ?_
        go_simp
        refine wpAnyH_take (i := 4) (v := .int .i64 (x : Int)) rfl (by kernel_rfl) (by kernel_rfl) (by kernel_rfl) (fun _ _ _ h => h) (Or.inl ⟨by rfl, fun w' _ => by go_simp⟩) s1 ?_
        go_simp
        refine wpAnyH_take (i := 5) (v := .pointer (some ⟨P, 0, none⟩)) rfl (by kernel_rfl) (by kernel_rfl) (by kernel_rfl) (fun _ _ _ h => h) (Or.inl ⟨by rfl, fun w' _ => by go_simp⟩) s1 ?_
        go_simp
        refine wpAnyH_take (i := 6) (v := .pointer (some ⟨P, 0, none⟩)) rfl (by kernel_rfl) (by kernel_rfl) (by kernel_rfl) (fun _ _ _ h => h) (Or.inl ⟨by rfl, fun w' _ => by go_simp⟩) s1 ?_
        go_simp
        refine wpAnyH_take (i := 7) (v := .pointer (some ⟨P, 0, none⟩)) rfl (by kernel_rfl) (by kernel_rfl) (by kernel_rfl) (fun _ _ _ h => h) (Or.inl ⟨by rfl, fun w' _ => by go_simp⟩) s1 ?_
        go_simp
        refine wpAnyH_take (i := 8) (v := .slice (some ⟨g, 0, none⟩) N cs) rfl (by kernel_rfl) (by kernel_rfl) (by kernel_rfl) (fun _ _ _ h => h) (Or.inl ⟨by rfl, fun w' h => by obtain ⟨⟨x0, x1, x2, x3⟩, _⟩ := h; go_simp⟩) s1 ?_
        go_simp
        refine wpAnyH_take (i := 9) (v := .int .i64 (x : Int)) rfl (by kernel_rfl) (by kernel_rfl) (by kernel_rfl) (fun _ _ _ h => h) (Or.inl ⟨by rfl, fun w' _ => by go_simp⟩) s1 ?_
        go_simp
        refine wpAnyH_take (i := 10) (v := .pointer (some ⟨g, x, none⟩)) rfl (by kernel_rfl) (by kernel_rfl) (by kernel_rfl) (fun _ _ _ h => h) (Or.inl ⟨by rfl, fun w' _ => by go_simp⟩) s1 ?_
        go_simp
        refine wpAnyH_take (i := 12) (v := .pointer (some ⟨P, 0, none⟩)) rfl (by kernel_rfl) (by kernel_rfl) (by kernel_rfl) (fun _ _ _ h => h) (Or.inl ⟨by rfl, fun w' _ => by go_simp⟩) s1 ?_
        go_simp
        refine wpAnyH_take (i := 13) (v := .pointer (some ⟨P, 0, none⟩)) rfl (by kernel_rfl) (by kernel_rfl) (by kernel_rfl) (fun _ _ _ h => h) (Or.inl ⟨by rfl, fun w' _ => by go_simp⟩) s1 ?_
        go_simp
        refine wpAnyH_take (i := 14) (v := .pointer (some ⟨P, 1, none⟩)) rfl (by kernel_rfl) (by kernel_rfl) (by kernel_rfl) (fun _ _ _ h => h) (Or.inl ⟨by rfl, fun w' _ => by go_simp⟩) s1 ?_
        go_simp
        refine wpAnyH_take (i := 15) (v := .map (some M)) rfl (by kernel_rfl) (by kernel_rfl) (by kernel_rfl) (fun _ _ _ h => h) (Or.inl ⟨by rfl, fun w' h => by obtain ⟨⟨x0, x1, x2, x3⟩, _⟩ := h; go_simp⟩) s1 ?_
        go_simp
        refine wpAnyH_take (i := 16) (v := .int .i64 (x : Int)) rfl (by kernel_rfl) (by kernel_rfl) (by kernel_rfl) (fun _ _ _ h => h) (Or.inl ⟨by rfl, fun w' _ => by go_simp⟩) s1 ?_
        go_simp
        refine wpAnyH_take (i := 17) (v := valAt D x) rfl (by kernel_rfl) (by kernel_rfl) (by kernel_rfl) (fun _ _ _ h => h) (Or.inl ⟨by rfl, fun w' h => exec_lookup (M := M) (n := n) (D := D) (i := (x : Int)) rfl (by rfl) (by rfl) h.2 HWX.out⟩) s1 ?_
        go_simp
        refine wpAnyH_take (i := 18) (v := .agg #[.int .i64 (0), .int .i64 (0)]) rfl (by kernel_rfl) (by kernel_rfl) (by kernel_rfl) (fun _ _ _ h => h) (Or.inl ⟨by rfl, fun w' h => by obtain ⟨⟨x0, x1, x2, x3⟩, _⟩ := h; go_simp⟩) s1 ?_
        go_simp
        refine wpAnyH_all (rs := [11]) (by kernel_rfl) (by simp) ?_
        intro j hj
        obtain rfl : j = 11 := by simpa using hj
        refine wpOp_step rfl (fun K hK => ?_)
        go_simp
        refine hK _ _ ⟨s1, ?_⟩
        clear hK K
        refine wpAnyH_all (rs := [19]) (by kernel_rfl) (by simp) ?_
        intro j hj
        obtain rfl : j = 19 := by simpa using hj
        refine wpOp_step rfl (fun K hK => ?_)
        go_simp
        refine (settle_calls (Q := Bk) (base := 0) (f := ⟨0, 0⟩) (Rep.val_drewN HY8.out 1) (Rep.acc_keep (w := W1) (w' := W1.drew) (fun _ _ _ => rfl) (fun _ hb _ => hb) (HD1.out.wt x)) (rFate_agg HWF.out.1 HWF.out.2) (Nat.le_trans (HD1.out.len x) HN.out)).mono ?_
        rintro e w9 ⟨u9, rfl, hu9, hb9⟩
        have B9 := Lib.hid (show Below W1.heap.size W1 w9 from (Below.refl _ _).drew.trans hb9)
        obtain ⟨A9, c9, rfl, _, _, _⟩ := Rep.val_list hu9
        have HU9 := Lib.hid (Rep.val_mono (Q' := fun c => Bk c ∨ (W1.heap.size ≤ c ∧ c < w9.heap.size)) (fun b hb hl => hb.imp id fun e => ⟨e, hl.lt⟩) hu9)
        have HST9 := Lib.hid (show settleOf ys (st.wait x) ⟨0, 0⟩ = settleOf ys (st.wait x) ⟨0, 0⟩ from rfl)
        clear hu9 hb9
        refine hK _ _ ⟨KS.out _ (fun b hb _ => B9.out.block b hb), ?_⟩
        clear hK K
        have hc9 := (B9.out.cell (p := ⟨g, x, none⟩) hg8).trans hc8
        have hz9 : w9.frozen? ⟨g, x, none⟩ = false := (show w9.frozen? ⟨g, x, none⟩ = W1.frozen? ⟨g, x, none⟩ by simp only [World.frozen?, B9.out.block g hg8]).trans hz8
        have s9 := KS.out w9 (fun b hb _ => B9.out.block b hb)
        have hd9 : DiskW w9 P (some ⟨g, 0, none⟩) cs M D F (fun c => Bk c ∨ (W1.heap.size ≤ c ∧ c < w9.heap.size)) n { st with safe := sk } :=
          (HD1.out.keep B9.out.size (fun b hb => B9.out.block b (HD1.out.lt b hb))).wide (fun b hb => .inl hb) (fun b hf hb => hb.elim (HD1.out.apart b hf) (fun e => by have := HD1.out.lt b (.inl hf); omega)) (fun b hb => hb.elim (fun e => Nat.lt_of_lt_of_le (HD1.out.lt b (.inr e)) B9.out.size) (fun e => e.2))
        obtain ⟨g', hgg, _, hset⟩ := hd9.setSafe (i := x) HXN.out HU9.out
        cases hgg
        have HSET := Lib.hid hset
        clear hd9 hset
        refine wpAnyH_take (i := 20) (v := .pointer (some ⟨g, x, none⟩)) rfl (by kernel_rfl) (by kernel_rfl) (by kernel_rfl) (fun _ _ _ h => h) (Or.inl ⟨by rfl, fun w' _ => by go_simp⟩) s9 ?_
        go_simp
        refine wpAnyH_all (rs := [21]) (by kernel_rfl) (by simp) ?_
        intro j hj
        obtain rfl : j = 21 := by simpa using hj
        refine wpOp_step rfl (fun K hK => ?_)
        go_simp
        refine hK _ _ ⟨KS.out _ (fun b hb hbg => (Below.heap_setCell _ _ _ _ hbg).trans (B9.out.block b hb)), ?_⟩
        clear hK K
        refine wpAnyH_done (by kernel_rfl) ?_ _
        go_wp2_with fail
        have O10 : Only F wr (w9.setCell ⟨g, x, none⟩ (.slice A9 (settleOf ys (st.wait x) ⟨0, 0⟩).length c9)) := (HO1.out.trans (Only.of_below B9.out)).trans (Only.set hFg)
        refine ⟨⟨k + 1, _, rfl, by omega, by rw [HSTEP.out]; exact HSET.out, HO.out.trans O10, Below.refl _ _, HO2.out.trans O10, (show ∀ b, (Bk b ∨ (W1.heap.size ≤ b ∧ b < w9.heap.size)) → B b ∨ W.heap.size ≤ b from fun b hb => hb.elim (hB.out b) (fun e => .inr (by have := HO1.out.size; omega)))⟩, by show dl - ((k : Int) + 1).toNat < dl - (k : Int).toNat; omega⟩
    · obtain rfl : k = dl := by omega
      have e1 := cell_row hdw.blk 1
      obtain ⟨es, clock, hmb, _⟩ := hdw.map
      obtain ⟨w9, c9, hrun, hm9, hs9, hk9, ho9⟩ := clear_map (ty := 0) hmb
      have h9 := HDW.out.struck hm9 hs9 hk9
      have e2 := cell_row h9.blk 2
      have e3 := cell_row h9.blk 3
      have z2 := frozen_row h9.blk 2
      have z3 := frozen_row h9.blk 3
      have H9 := Lib.hid h9
      have O9 := Lib.hid (show Only F W w9 from HO.out.trans ⟨ho9.1, ho9.2.1, ho9.2.2, Nat.le_of_eq hs9.symm, fun b _ hf => hk9 b (fun e => hf (e ▸ HDW.out.fM))⟩)
      have HCR := Lib.hid (show crashSt st fates = ⟨crashTo st fates k, fun _ => [], -1, false, st.reads, st.writes⟩ by unfold crashSt; rw [HDL.out])
      clear hm9 hs9 hk9 ho9 hdw ho ho2 h9
      go_wp2_with fail
      refine ⟨rfl, .tuple #[], by simp [results], rfl, (O9.out.trans (Only.set H9.out.fP)).trans (Only.set H9.out.fP), Bk, ?_, hB.out⟩
      rw [HCR.out]
      exact ⟨_, _, _, _, H9.out.scal (st' := ⟨crashTo st fates k, fun _ => [], -1, false, st.reads, st.writes⟩) rfl rfl rfl (heap_setRow (heap_setRow H9.out.blk)) (by simp) fun b hb _ => by rw [Below.heap_setCell _ _ _ _ hb, Below.heap_setCell _ _ _ _ hb]⟩
end Go.Proofs.Ytecdbfbaclgejaa
/- Walks of the library's slices.Grow of nil and slices.Concat at bytes, and of a device's bytes. -/
namespace Go.Proofs.Ytecdbfbaclgejaa
open Go.RowKit

/-- 'append([]T(nil), make([]T, n)...)'. -/
theorem run_append_zeros {P : Program} (w : World) (t u ty e : TypeId) (i : TypeInfo) (z : Value) (ht : P.underlying t = some (.slice e)) (hu : P.underlying u = some (.int .i64)) (hi : P.info? e = some i) (hz : i.zero = some z) (hz1 : i.size = 1)
    (n : Nat) (h0 : 0 < n) (h63 : (n : Int) ≤ 9223372036854775807) (h48 : n * i.bytes ≤ 281474976710656) :
    (Builtin.append_ #[t, u] ty #[.slice none 0 0, .int .i64 (n : Int)]).run P w =
      .ok (.slice (some ⟨w.heap.size, 0, none⟩) n (grownCap w n 0 e)) (w.drew.alloc (.cells (Builtin.zeroCells z.cells n ++ Builtin.zeroCells z.cells (grownCap w n 0 e - n)) e)) := by
  have hn : n ≠ 0 := by omega
  have h63' : ¬ (9223372036854775807 < (n : Int)) := by omega
  have hw : IntKind.i64.wrap (n : Int) = n := IntWalk.i64_in _ ⟨by omega, by omega⟩
  have hb : ¬ (281474976710656 < (n : Int) * (i.bytes : Int)) := by
    have : ((n * i.bytes : Nat) : Int) ≤ 281474976710656 := Int.ofNat_le.2 h48
    rw [Int.natCast_mul] at this; omega
  have h48' : ¬ (281474976710656 < Builtin.nextslicecap n 0 * i.bytes) := by rw [nextslicecap_zero h0]; omega
  have hneg : ¬ (n : Int) < 0 := by omega
  simp [Builtin.append_, asInt, asIntOf, hneg, run_underlying ht, run_underlying hu, sizeOf, typeInfo, zeroValue, hi, hz, hz1, hn, hw, hb, h63', h48', Question.forced, run_firstCells_none, newRow, grownCap]

theorem wpList_run_append {P : Program} {w w' : World} {ops : Array Oper} {rest : List Oper} {o : Oper} {a : Act} {R : Exit → Act → World → Prop} (hg : o.guard = none) (s x : Operand) (t u : TypeId)
    (ho : o.op = .call { callee := .builtin .append, args := #[s, x], argTypes := #[t, u] }) (vs vx v' : Value) (hs : a.eval s = vs) (hx : a.eval x = vx)
    (hrun : (Builtin.append_ #[t, u] o.type #[vs, vx]).run P w = .ok v' w') (K : wpList P ops R rest (a.put o.dst v') w') : wpList P ops R (o :: rest) a w := by
  refine wpList_plain hg fun K2 hK2 => ?_
  unfold Oper.wp execOp
  simp only [ho, resolve, invoke, builtin, Sem.run_bind, Sem.run_pure, Result.andThen_ok, List.map_toArray, List.map_cons, List.map_nil, hs, hx, hrun]
  exact hK2 _ _ K
theorem grown_nil {w : World} {n : Nat} (h0 : 0 < n) (hn : n ≤ 100000000000000) :
    ∃ cap w', (Builtin.append_ #[22, 3] 22 #[.slice none 0 0, .int .i64 (n : Int)]).run Try.prog w = .ok (.slice (some ⟨w.heap.size, 0, none⟩) n cap) w' ∧ n ≤ cap ∧ cap ≤ maxLen ∧ Rep.byte.acc 5 w.heap.size (fun _ => False) w' (.slice (some ⟨w.heap.size, 0, none⟩) 0 cap) [] ∧ Below w.heap.size w w' := by
  obtain ⟨i, hi, hh⟩ := Option.map_eq_some_iff.1 info5
  simp only [Prod.mk.injEq] at hh
  obtain ⟨hz, hs, hby⟩ := hh
  have hr := run_append_zeros (P := Try.prog) w 22 3 22 5 i (.int .u8 0) Try.underlying22 Try.underlying3 hi hz hs n h0 (by omega) (by rw [hby]; omega)
  have hge := grownCap_ge w n 0 5
  have hcm : grownCap w n 0 5 ≤ maxLen := grownCap_le_maxLen w n 0 5 (by unfold maxLen; omega)
  refine ⟨_, _, hr, hge, hcm, ?_, (((Below.refl w.heap.size w).drew).alloc (Nat.le_refl _) _)⟩
  have := Rep.acc_made (r := Rep.byte) (e := 5) (base := w.heap.size) (Q := fun _ => False) w.drew (Builtin.zeroCells (Value.int .u8 0).cells n ++ Builtin.zeroCells (Value.int .u8 0).cells (grownCap w n 0 5 - n)) (grownCap w n 0 5) (Nat.le_refl _) hcm (by
    simp only [Array.size_append, size_zeroCells]
    show n * 1 + (grownCap w n 0 5 - n) * 1 = grownCap w n 0 5 * 1
    omega)
  exact this

def NilPost {α : Type} (r : Rep α) (e : Nat) (w : World) (en : Ending) (w' : World) : Prop := ∃ u, en = .returned u ∧ r.acc e w.heap.size (fun _ => False) w' u [] ∧ Below w.heap.size w w'
set_option maxRecDepth 100000 in
set_option maxHeartbeats 1000000 in
/-- slices.Grow of nil -/
theorem grow_nil (n : Nat) (hn : n ≤ 100000000000000) (w : World) : Calls Try.prog 205 #[.slice none 0 0, .int .i64 (n : Int)] w (NilPost Rep.byte 5 w) := by
  by_cases h0 : n = 0
  · subst h0
    go_enter Try.func205, Try.ntmps205
    go_wp2_with fail
    go_ret
    exact ⟨_, rfl, Rep.acc_nil, Below.refl _ _⟩
  · have hpos : 0 < n := by omega
    obtain ⟨cap, w2, hrun, hc1, hc2, hacc, hb⟩ := grown_nil (w := w) hpos hn
    have hp2 : (0 : Int) < n := by omega
    have HA := Lib.hid hacc
    have HB := Lib.hid hb
    have HR := Lib.hid hrun
    unfold maxLen at hc2
    clear hacc hb hrun
    go_enter Try.func205, Try.ntmps205
    go_wp2_with (refine wpList_run_append rfl _ _ 22 3 rfl (.slice none 0 0) (.int .i64 (n : Int)) _ (by exact rfl) (by exact rfl) HR.out ?_)
    go_ret
    exact ⟨_, rfl, HA.out, HB.out⟩

/-- How long the first k are together. -/
def flatLen (ls : List (List UInt8)) (k : Nat) : Nat := ((ls.take k).flatten).length
theorem flatten_take_le (ls : List (List UInt8)) (k : Nat) : ((ls.take k).flatten).length ≤ ls.flatten.length := by
  have h : ls.flatten = (ls.take k).flatten ++ (ls.drop k).flatten := by rw [← List.flatten_append, List.take_append_drop]
  rw [h, List.length_append]; omega
theorem flatten_take_succ {ls : List (List UInt8)} {k : Nat} {y : List UInt8} (h : ls[k]? = some y) : (ls.take (k + 1)).flatten = (ls.take k).flatten ++ y := by
  obtain ⟨hk, he⟩ := List.getElem?_eq_some_iff.1 h
  rw [List.take_succ_eq_append_getElem hk, List.flatten_append, he]; simp

set_option maxRecDepth 100000 in
set_option maxHeartbeats 2000000 in
/-- slices.Concat of bytes -/
theorem concat_calls {Q : Nat → Prop} {w : World} {v : Value} {ls : List (List UInt8)} (hx : Rep.byte.list.list.val Q w v ls) (hl : ls.flatten.length ≤ 1000000000) :
    Calls Try.prog 154 #[v] w (ResA Rep.byte 5 w ls.flatten) := by
  obtain ⟨A0, c0, rfl, hc1, hc2, hA⟩ := Rep.val_list hx
  unfold maxLen at hc2
  have HX := Lib.hid (show ∀ W', Below w.heap.size w W' → Rep.byte.list.At (fun b => b < w.heap.size) W' A0 ls from fun W' hb => Rep.At.keep (w := w) (fun b _ hl => ⟨hl.lt, hb.block b hl.lt⟩) hA)
  have HL := Lib.hid (fun k => Nat.le_trans (flatten_take_le ls k) hl)
  have HL0 := Lib.hid hl
  clear hx hA hl
  go_enter Try.func154, Try.ntmps154
  go_wp2_with fail
  generalize hlen : ls.length = len at *
  have HLEN := Lib.hid hlen
  clear hlen
  go_loopw [3, 11] (fun s i wr => ∃ k : Nat, i = .int .i64 k ∧ k ≤ len ∧ s = .int .i64 (flatLen ls k : Nat) ∧ wr = w) (fun _ i _ => len - (intOf i).toNat)
  case atStart => exact ⟨0, rfl, Nat.zero_le _, rfl, rfl⟩
  case round =>
    obtain ⟨k, rfl, hk, rfl, hwr⟩ := hrel
    have hwr2 := hwr.symm
    subst hwr2
    clear hwr
    by_cases hlt : (k : Int) < len
    · obtain ⟨y, hy⟩ : ∃ y, ls[k]? = some y := ⟨_, List.getElem?_eq_getElem (by have := HLEN.out; omega)⟩
      obtain ⟨bb, off, B5, c5, rfl, hcell, hc5, hm5, hat⟩ := Rep.At.list (HX.out _ (Below.refl _ _)) hy
      have hs := flatten_take_succ hy
      have hn1 : flatLen ls k ≤ 1000000000 := HL.out k
      have hn2 : flatLen ls (k + 1) ≤ 1000000000 := HL.out (k + 1)
      have hn3 : flatLen ls (k + 1) = flatLen ls k + y.length := by unfold flatLen; rw [hs, List.length_append]
      generalize flatLen ls k = a at *
      have HN3 := Lib.hid hn3
      have i1 : IntKind.i64.wrap ((a : Int) + (y.length : Int)) = (a : Int) + (y.length : Int) := IntWalk.i64_in _ ⟨by omega, by omega⟩
      have i2 : ¬ (a : Int) + (y.length : Int) < 0 := by omega
      clear hy hat hs
      rw [hn3] at hn2
      clear hn3
      go_wp2_with fail
      exact ⟨⟨k + 1, rfl, by omega, by rw [HN3.out, Int.natCast_add], trivial⟩, by show len - ((k : Int) + 1).toNat < len - (k : Int).toNat; omega⟩
    · obtain rfl : k = len := by omega
      have HT := Lib.hid (show flatLen ls k = ls.flatten.length by unfold flatLen; rw [List.take_of_length_le (by have := HLEN.out; omega)])
      go_wp2_with fail
      refine (grow_nil _ (by have := HT.out; have := HL0.out; omega) _).mono ?_
      rintro e w2 ⟨u2, rfl, hu2, hb2⟩
      have HU2 := Lib.hid hu2
      have HB2 := Lib.hid hb2
      clear hu2 hb2
      generalize flatLen ls k = tot at *
      go_wp2_with fail
      go_loopw [6, 27] (fun s i wr => ∃ j : Nat, i = .int .i64 j ∧ j ≤ k ∧ Rep.byte.acc 5 w.heap.size (fun _ => False) wr s ((ls.take j).flatten) ∧ Below w.heap.size w wr) (fun _ i _ => k - (intOf i).toNat)
      case atStart => exact ⟨0, rfl, Nat.zero_le _, by simpa using HU2.out, HB2.out⟩
      case round =>
        obtain ⟨j, rfl, hj, hacc, hbel⟩ := hrel
        have HACC := Lib.hid hacc
        have HBEL := Lib.hid hbel
        by_cases hlt : (j : Int) < k
        · obtain ⟨y, hy⟩ : ∃ y, ls[j]? = some y := ⟨_, List.getElem?_eq_getElem (by have := HLEN.out; omega)⟩
          obtain ⟨bb, off, B5, c5, rfl, hcell, hc5, hm5, hat⟩ := Rep.At.list (HX.out _ hbel) hy
          have HY := Lib.hid (Rep.list_val rfl hc5 hm5 hat)
          have HS := Lib.hid (flatten_take_succ hy)
          have hn2 := HL.out (j + 1)
          rw [HS.out, List.length_append] at hn2
          have L63 := Lib.hid (show ((ls.take j).flatten).length + y.length ≤ maxLen ∧ (((ls.take j).flatten).length + y.length) * 1 ≤ 140737488355328 by unfold maxLen; omega)
          have HSZ := Lib.hid hbel.size
          clear hacc hbel hn2
          go_wp2_with (refine wpList_spread_leaf (e := 5) (base := w.heap.size) (Q := fun _ => False) (r := Rep.byte) Rep.leaf_byte rfl _ _ 22 rfl (.int .u8 0) 1 1 Try.underlying22 info5 rfl (by decide) rfl _ _ (by exact rfl) HACC.out _ y (by exact rfl) HY.out L63.out.1 L63.out.2 HSZ.out ?_; intro v7 w7 hacc7 hgr7 hat7)
          refine ⟨⟨j + 1, rfl, by omega, ?_, Rep.acc_below HACC.out HBEL.out hgr7 HSZ.out⟩, by show k - ((j : Int) + 1).toNat < k - (j : Int).toNat; omega⟩
          rw [HS.out]; exact hacc7
        · obtain rfl : j = k := by omega
          have HE := Lib.hid (show (ls.take j).flatten = ls.flatten by rw [List.take_of_length_le (by have := HLEN.out; omega)])
          clear hacc hbel
          go_wp2_with fail
          go_ret
          exact ⟨_, rfl, by rw [← HE.out]; exact HACC.out, HBEL.out⟩

set_option maxRecDepth 100000 in
set_option maxHeartbeats 1000000 in
/-- (*disk.Disk).Bytes -/
theorem dbytes_calls {W : World} {P : Nat} {F B : Nat → Prop} {n : Nat} {st : DiskSt} (h : DiskAt W P F B n st) (hl : st.safe.flatten.length ≤ 1000000000) :
    Calls Try.prog 93 #[.pointer (some ⟨P, 0, none⟩)] W (ResA Rep.byte 5 W st.safe.flatten) := by
  obtain ⟨Sf, cs, M, D, hd⟩ := h
  have e0 := cell_row hd.blk 0
  have HC := Lib.hid (concat_calls (Rep.acc_val hd.safe) hl)
  generalize st.safe.length = k at *
  clear hd hl
  go_enter Try.func93, Try.ntmps93
  go_wp2_with fail
  refine HC.out.mono ?_
  rintro e w2 ⟨u, rfl, hu, hb⟩
  go_wp2_with fail
  go_ret
  exact ⟨u, rfl, hu, hb⟩
end Go.Proofs.Ytecdbfbaclgejaa
/- A device among blocks that are not its own: the walks of its functions, said of it. -/
namespace Go.Proofs.Ytecdbfbaclgejaa
open Go.RowKit

/-- A device lies at P, and writes no block of K. -/
def DevAt (K : Nat → Prop) (W : World) (P n : Nat) (st : DiskSt) : Prop := (∀ b, K b → b < W.heap.size) ∧ ∃ F B, DiskAt W P F B n st ∧ ∀ b, F b ∨ B b → ¬ K b
/-- Blocks of K are as0 they were. -/
structure Kept (K : Nat → Prop) (W W' : World) : Prop where
  os : W'.os = W.os
  tape : W'.tape = W.tape
  output : W'.output = W.output
  size : W.heap.size ≤ W'.heap.size
  block : ∀ b, K b → W'.heap[b]? = W.heap[b]?
theorem Kept.refl (K : Nat → Prop) (W : World) : Kept K W W := ⟨rfl, rfl, rfl, Nat.le_refl _, fun _ _ => rfl⟩
theorem Kept.trans {K : Nat → Prop} {X Y Z : World} (h : Kept K X Y) (k : Kept K Y Z) : Kept K X Z :=
  ⟨k.os.trans h.os, k.tape.trans h.tape, k.output.trans h.output, Nat.le_trans h.size k.size, fun b hb => (k.block b hb).trans (h.block b hb)⟩
theorem Kept.less {K K' : Nat → Prop} {X Y : World} (h : Kept K X Y) (hk : ∀ b, K' b → K b) : Kept K' X Y := ⟨h.os, h.tape, h.output, h.size, fun b hb => h.block b (hk b hb)⟩
theorem Kept.of_below {K : Nat → Prop} {X Y : World} (h : Below X.heap.size X Y) (hk : ∀ b, K b → b < X.heap.size) : Kept K X Y := ⟨h.os, h.tape, h.output, h.size, fun b hb => h.block b (hk b hb)⟩
theorem Kept.of_only {K F : Nat → Prop} {X Y : World} (h : Only F X Y) (hk : ∀ b, K b → b < X.heap.size) (hf : ∀ b, F b → ¬ K b) : Kept K X Y := ⟨h.os, h.tape, h.output, h.size, fun b hb => h.block b (hk b hb) (fun e => hf b e hb)⟩
theorem Kept.below {K : Nat → Prop} {X Y : World} {base : Nat} (h : Kept K X Y) (hk : ∀ b, b < base → K b) : Below base X Y := ⟨h.os, h.tape, h.output, h.size, fun b hl => h.block b (hk b hl)⟩
theorem Kept.val {α : Type} {r : Rep α} {K Q : Nat → Prop} {X Y : World} {v : Value} {x : α} (h : Kept K X Y) (hq : ∀ b, Q b → K b) (hv : r.val Q X v x) : r.val Q Y v x := Rep.val_keep (fun b hb _ => ⟨hb, h.block b (hq b hb)⟩) hv
theorem Kept.cell {K : Nat → Prop} {X Y : World} {p : Addr} (h : Kept K X Y) (hk : K p.block) : Y.cell? p = X.cell? p := by
  simp only [World.cell?, h.block _ hk]

namespace DevAt
variable {K : Nat → Prop} {W W' : World} {P n : Nat} {st : DiskSt}
theorem lt (h : DevAt K W P n st) : ∀ b, K b → b < W.heap.size := h.1
/-- New blocks are none of its own. -/
theorem grow (h : DevAt K W P n st) {K' : Nat → Prop} (hb : Below W.heap.size W W') (hk : ∀ b, K' b → K b ∨ (W.heap.size ≤ b ∧ b < W'.heap.size)) : DevAt K' W' P n st := by
  obtain ⟨hl, F, B, hd, hf⟩ := h
  have hlt : ∀ b, F b ∨ B b → b < W.heap.size := fun b hb => by obtain ⟨_, _, _, _, hd⟩ := hd; exact hd.lt b hb
  exact ⟨fun b hb' => (hk b hb').elim (fun e => Nat.lt_of_lt_of_le (hl b e) hb.size) (fun e => e.2), F, B, hd.below hb, fun b hF hK => (hk b hK).elim (hf b hF) (fun e => by have := hlt b hF; omega)⟩
theorem below (h : DevAt K W P n st) (hb : Below W.heap.size W W') : DevAt K W' P n st := h.grow hb fun _ => .inl
theorem less (h : DevAt K W P n st) {K' : Nat → Prop} (hk : ∀ b, K' b → K b) : DevAt K' W P n st := by
  obtain ⟨hl, F, B, hd, hf⟩ := h
  exact ⟨fun b hb => hl b (hk b hb), F, B, hd, fun b hF hK => hf b hF (hk b hK)⟩
theorem more (h : DevAt K W P n st) {n' : Nat} (hn : n ≤ n') : DevAt K W P n' st := by
  obtain ⟨hl, F, B, ⟨_, _, _, _, hd⟩, hf⟩ := h
  exact ⟨hl, F, B, ⟨_, _, _, _, hd.more hn⟩, hf⟩
/-- A block that is none of its own is written. -/
theorem set (h : DevAt K W P n st) {b i : Nat} {v : Value} (hb : K b) : DevAt K (W.setCell ⟨b, i, none⟩ v) P n st := by
  obtain ⟨hl, F, B, hd, hf⟩ := h
  refine ⟨fun x hx => by have := hl x hx; simpa using this, F, B, hd.keep (by simp) (fun x hx => Below.heap_setCell _ _ _ _ ?_), hf⟩
  rintro rfl
  exact hf _ hx hb
end DevAt

def DevNew (w : World) (n : Int) (e : Ending) (W : World) : Prop := ∃ P, e = .returned (.pointer (some ⟨P, 0, none⟩)) ∧ DevAt (fun b => b < w.heap.size) W P 0 (newSt (List.replicate (newN n) (zeros 512))) ∧ Below w.heap.size w W
theorem dev_new {n : Int} (h0 : 0 ≤ n) (h1 : n ≤ 4096) (w : World) : Calls Try.prog 90 #[.int .i64 n] w (DevNew w n) := by
  refine (dnew_calls h0 h1 w).mono ?_
  rintro e w1 ⟨P, M, Sf, cs, xs, rfl, hnew, hz⟩
  have hd := hnew.disk
  have hold := hnew.old
  have he : xs.map (·.1) = List.replicate (newN n) (zeros 512) := by
    rw [List.eq_replicate_iff]
    exact ⟨by rw [List.length_map]; exact hnew.len, fun b hb => by obtain ⟨x, hx, rfl⟩ := List.mem_map.1 hb; exact hz x hx⟩
  rw [he] at hd
  exact ⟨P, rfl, ⟨fun b hb => Nat.lt_of_lt_of_le hb hnew.bel.size, _, _, hd, fun b hF hK => by have := hold b hF; have hK' : b < w.heap.size := hK; omega⟩, hnew.bel⟩

section
variable {K : Nat → Prop} {W : World} {P n : Nat} {st : DiskSt}

def DevStep (K : Nat → Prop) (P n : Nat) (W : World) (k : Int) (st : DiskSt) (e : Ending) (W' : World) : Prop := e = .returned (.int .i64 k) ∧ DevAt K W' P n st ∧ Kept K W W'
def DevVoid (K : Nat → Prop) (P n : Nat) (W : World) (st : DiskSt) (e : Ending) (W' : World) : Prop := e = .returned (.tuple #[]) ∧ DevAt K W' P n st ∧ Kept K W W'
def DevRead (K : Nat → Prop) (P n : Nat) (W : World) (r : DiskSt × List UInt8 × Int) (e : Ending) (W' : World) : Prop :=
  ∃ u, e = .returned (.tuple #[u, .int .i64 r.2.2]) ∧ Rep.byte.list.val (fun b => W.heap.size ≤ b) W' u r.2.1 ∧ DevAt K W' P n r.1 ∧ Kept K W W'

theorem dev_write {Q : Nat → Prop} {i : Int} {v : Value} {b : List UInt8} (h : DevAt K W P n st) (hi : (Lit.int .i64 i).wf = true) (hn : n ≤ 1000000000) (hx : Rep.byte.list.val Q W v b) (hQ : ∀ k, Q k → K k) :
    Calls Try.prog 152 #[.pointer (some ⟨P, 0, none⟩), .int .i64 i, v] W (DevStep K P (n + 1) W (writeSt st i b).2 (writeSt st i b).1) := by
  obtain ⟨hl, F, B, hd, hf⟩ := h
  refine (dwrite_calls hd hi hn hx (fun k hk hF => hf k (.inl hF) (hQ k hk))).mono ?_
  rintro e w1 ⟨rfl, ho, F', B', hd', h1, h2, _⟩
  exact ⟨rfl, ⟨fun b hb => Nat.lt_of_lt_of_le (hl b hb) ho.size, F', B', hd', fun b hF hK => hF.elim (fun hF => (h1 b hF).elim (fun e => hf b (.inl e) hK) (fun e => by have := hl b hK; omega)) (fun hB => (h2 b hB).elim (fun e => hf b (.inr e) hK) (fun e => by have := hl b hK; omega))⟩, Kept.of_only ho hl fun b hb => hf b (.inl hb)⟩
theorem dev_sync (h : DevAt K W P n st) : Calls Try.prog 96 #[.pointer (some ⟨P, 0, none⟩)] W (DevStep K P n W (syncRes st).2 (syncRes st).1) := by
  obtain ⟨hl, F, B, hd, hf⟩ := h
  refine (dsync_calls hd).mono ?_
  rintro e w1 ⟨rfl, hd', ho⟩
  exact ⟨rfl, ⟨fun b hb => Nat.lt_of_lt_of_le (hl b hb) ho.size, F, B, hd', hf⟩, Kept.of_only ho hl fun b hb => hf b (.inl hb)⟩
theorem dev_fuse {k : Int} (h : DevAt K W P n st) (hk : (Lit.int .i64 k).wf = true) : Calls Try.prog 71 #[.pointer (some ⟨P, 0, none⟩), .int .i64 k] W (DevVoid K P n W (fuseSt st k)) := by
  obtain ⟨hl, F, B, hd, hf⟩ := h
  refine (fuse_calls hd hk).mono ?_
  rintro e w1 ⟨rfl, hd', ho⟩
  exact ⟨rfl, ⟨fun b hb => Nat.lt_of_lt_of_le (hl b hb) ho.size, F, B, hd', hf⟩, Kept.of_only ho hl fun b hb => hf b (.inl hb)⟩
theorem dev_crash {Q : Nat → Prop} {v : Value} {fates : List DFate} (h : DevAt K W P n st) (hn : n ≤ 1000000000) (hx : rFate.list.val Q W v fates) (hQ : ∀ k, Q k → K k) :
    Calls Try.prog 92 #[.pointer (some ⟨P, 0, none⟩), v] W (DevVoid K P n W (crashSt st fates)) := by
  obtain ⟨hl, F, B, hd, hf⟩ := h
  refine (dcrash_calls hd hn hx (fun k hk hF => hf k (.inl hF) (hQ k hk))).mono ?_
  rintro e w1 ⟨rfl, ho, B', hd', h2⟩
  exact ⟨rfl, ⟨fun b hb => Nat.lt_of_lt_of_le (hl b hb) ho.size, F, B', hd', fun b hF hK => hF.elim (fun hF => hf b (.inl hF) hK) (fun hB => (h2 b hB).elim (fun e => hf b (.inr e) hK) (fun e => by have := hl b hK; omega))⟩, Kept.of_only ho hl fun b hb => hf b (.inl hb)⟩
theorem dev_read {i : Int} (h : DevAt K W P n st) (hi : (Lit.int .i64 i).wf = true) (hl : ∀ x ∈ st.safe, x.length ≤ 100000) (hw : ∀ j, ∀ x ∈ st.wait j, x.length ≤ 100000) :
    Calls Try.prog 134 #[.pointer (some ⟨P, 0, none⟩), .int .i64 i] W (DevRead K P n W (readSt st i)) := by
  obtain ⟨hlt, F, B, hd, hf⟩ := h
  refine (dread_calls hd hi hl hw).mono ?_
  rintro e w1 ⟨u, rfl, hu, hd', ho⟩
  exact ⟨u, rfl, hu, ⟨fun b hb => Nat.lt_of_lt_of_le (hlt b hb) ho.size, F, B, hd', hf⟩, Kept.of_only ho hlt fun b hb => hf b (.inl hb)⟩
theorem dev_bytes (h : DevAt K W P n st) (hl : st.safe.flatten.length ≤ 1000000000) : Calls Try.prog 93 #[.pointer (some ⟨P, 0, none⟩)] W (ResA Rep.byte 5 W st.safe.flatten) := by
  obtain ⟨_, F, B, hd, _⟩ := h
  exact dbytes_calls hd hl
theorem dev_dirty (h : DevAt K W P n st) (hn : n ≤ 1000000000) : Calls Try.prog 97 #[.pointer (some ⟨P, 0, none⟩)] W (ResA (Rep.int .i64) 3 W (dirtyOf st)) := by
  obtain ⟨_, F, B, hd, _⟩ := h
  exact ddirty_calls hd hn
theorem dev_off (h : DevAt K W P n st) : Calls Try.prog 94 #[.pointer (some ⟨P, 0, none⟩)] W fun e W' => e = .returned (.bool st.off) ∧ W' = W := by
  obtain ⟨_, F, B, hd, _⟩ := h
  exact doff_disk hd
theorem dev_size (h : DevAt K W P n st) : Calls Try.prog 185 #[.pointer (some ⟨P, 0, none⟩)] W fun e W' => e = .returned (.int .i64 st.safe.length) ∧ W' = W := by
  obtain ⟨_, F, B, hd, _⟩ := h
  exact dsize_disk hd
end
end Go.Proofs.Ytecdbfbaclgejaa
/- What is safe stays: the plain law of a device. -/
namespace Go.Proofs.Ytecdbfbaclgejaa
open Go.RowKit

def stepSt (st : DiskSt) (x : DStep) : DiskSt :=
  if x.act = 1 then (writeSt st x.pos x.b).1 else if x.act = 2 then (syncRes st).1 else if x.act = 3 then fuseSt st x.pos else if x.act = 4 then crashSt st x.fates else (readSt st x.pos).1
/-- What a step reads, and its error. -/
def outSt (st : DiskSt) (x : DStep) : List UInt8 × Int :=
  if x.act = 1 then ([], (writeSt st x.pos x.b).2) else if x.act = 2 then ([], (syncRes st).2) else if x.act = 3 then ([], 0) else if x.act = 4 then ([], 0) else (readSt st x.pos).2
def runSt (st : DiskSt) (l : List DStep) : DiskSt := l.foldl stepSt st
/-- All sectors are whole, and so are the writes that wait. -/
structure Sound (st : DiskSt) (k : Nat) : Prop where
  len : st.safe.length = k
  sec : ∀ x ∈ st.safe, x.length = 512
  wt : ∀ i, ∀ x ∈ st.wait i, x.length = 512
  key : ∀ i, st.wait i ≠ [] → 0 ≤ i ∧ i < k
/-- Nothing waits for a sector, and it is what it was. -/
def Still (s0 st : DiskSt) (i : Nat) : Prop := st.wait i = [] ∧ st.safe[i]? = s0.safe[i]?

theorem Sound.of_same {st st' : DiskSt} {k : Nat} (h : Sound st k) (h1 : st'.safe = st.safe) (h2 : st'.wait = st.wait) : Sound st' k := ⟨by rw [h1]; exact h.len, by rw [h1]; exact h.sec, by rw [h2]; exact h.wt, by rw [h2]; exact h.key⟩
theorem Still.of_same {s0 st st' : DiskSt} {i : Nat} (h : Still s0 st i) (h1 : st'.safe = st.safe) (h2 : st'.wait = st.wait) : Still s0 st' i := ⟨by rw [h2]; exact h.1, by rw [h1]; exact h.2⟩
theorem lastSt_length {st : DiskSt} {k : Nat} (h : Sound st k) {i : Nat} (hi : i < k) : (lastSt st (i : Nat)).length = 512 := by
  unfold lastSt
  cases hl : (st.wait (i : Int)).getLast? with
  | none =>
    rw [Option.getD_none, Int.toNat_natCast, List.getD_eq_getElem?_getD, List.getElem?_eq_getElem (by rw [h.len]; exact hi)]
    exact h.sec _ (List.getElem_mem _)
  | some y => exact h.wt _ y (List.mem_of_getLast? hl)
theorem lastSt_still {st : DiskSt} {i : Nat} (hw : st.wait (i : Int) = []) : lastSt st (i : Nat) = st.safe.getD i [] := by
  unfold lastSt; rw [hw]; rfl
theorem settle_length {s : List UInt8} {l : List (List UInt8)} {f : DFate} (hs : s.length = 512) (hl : ∀ x ∈ l, x.length = 512) : (settleOf s l f).length = 512 := by
  have hk := kept_le f l.length
  have hget : ∀ j, j < (s :: l).length → ((s :: l).getD j []).length = 512 := fun j hj => by
    rw [List.getD_eq_getElem?_getD, List.getElem?_eq_getElem hj]
    rcases List.mem_cons.1 (List.getElem_mem hj) with e | e
    · show ((s :: l)[j]).length = 512
      rw [e]; exact hs
    · exact hl _ e
  unfold settleOf
  split
  · exact tear_length _ _ _
  · exact hget _ (by simp only [List.length_cons]; omega)

theorem readSt_alike (st : DiskSt) (i : Int) : (readSt st i).1.safe = st.safe ∧ (readSt st i).1.wait = st.wait := by
  have hs := atSt_same st i
  unfold readSt; split
  · exact hs
  · exact hs
theorem write_sound {st : DiskSt} {k : Nat} (h : Sound st k) (i : Int) (b : List UInt8) : Sound (writeSt st i b).1 k := by
  have hs := atSt_same st i
  unfold writeSt
  split
  · rename_i he
    have hr := atSt_range he
    refine ⟨by show (atSt st i).1.safe.length = k; rw [hs.1]; exact h.len, by show ∀ x ∈ (atSt st i).1.safe, _; rw [hs.1]; exact h.sec, fun j x hx => ?_, fun j hj => ?_⟩
    · change x ∈ (if j = i then (atSt st i).1.wait i ++ [cutTo b 512] else (atSt st i).1.wait j) at hx
      rw [hs.2] at hx
      split at hx
      · rcases List.mem_append.1 hx with hx | hx
        · exact h.wt _ x hx
        · have := List.mem_singleton.1 hx
          subst this
          exact cutTo_length _ _
      · exact h.wt _ x hx
    · change (if j = i then (atSt st i).1.wait i ++ [cutTo b 512] else (atSt st i).1.wait j) ≠ [] at hj
      rw [hs.2] at hj
      split at hj
      · rename_i e; rw [e]; have := h.len; omega
      · exact h.key j hj
  · exact h.of_same hs.1 hs.2
theorem write_still {s0 st : DiskSt} {i : Nat} (h : Still s0 st i) {j : Int} (b : List UInt8) (hj : j ≠ i) : Still s0 (writeSt st j b).1 i := by
  have hs := atSt_same st j
  unfold writeSt
  split
  · refine ⟨?_, by show (atSt st j).1.safe[i]? = _; rw [hs.1]; exact h.2⟩
    show (if (i : Int) = j then (atSt st j).1.wait j ++ [cutTo b 512] else (atSt st j).1.wait i) = []
    rw [if_neg (fun e => hj e.symm), hs.2]; exact h.1
  · exact h.of_same hs.1 hs.2
theorem sync_sound {st : DiskSt} {k : Nat} (h : Sound st k) : Sound (syncSt st) k := by
  refine ⟨by show ((List.range st.safe.length).map _).length = k; rw [List.length_map, List.length_range]; exact h.len, fun x hx => ?_, fun i x hx => (by cases hx), fun i hi => absurd rfl hi⟩
  obtain ⟨i, hi, rfl⟩ := List.mem_map.1 hx
  exact lastSt_length h (by have := List.mem_range.1 hi; have := h.len; omega)
theorem sync_get (st : DiskSt) {i : Nat} (hw : st.wait (i : Int) = []) : (syncSt st).safe[i]? = st.safe[i]? := by
  show ((List.range st.safe.length).map fun i => lastSt st (i : Nat))[i]? = _
  by_cases hi : i < st.safe.length
  · rw [List.getElem?_map, List.getElem?_range hi]
    show some (lastSt st (i : Nat)) = _
    rw [lastSt_still hw, List.getD_eq_getElem?_getD, List.getElem?_eq_getElem hi]; rfl
  · rw [List.getElem?_eq_none (by simpa using hi), List.getElem?_eq_none (by omega)]
theorem sync_still {s0 st : DiskSt} {i : Nat} (h : Still s0 st i) : Still s0 (syncSt st) i := ⟨rfl, (sync_get st h.1).trans h.2⟩
theorem syncRes_sound {st : DiskSt} {k : Nat} (h : Sound st k) : Sound (syncRes st).1 k := by
  have hs := burnSt_same st
  unfold syncRes; split
  · exact sync_sound (h.of_same hs.1 hs.2)
  · exact h.of_same hs.1 hs.2
theorem syncRes_still {s0 st : DiskSt} {i : Nat} (h : Still s0 st i) : Still s0 (syncRes st).1 i := by
  have hs := burnSt_same st
  unfold syncRes; split
  · exact sync_still (h.of_same hs.1 hs.2)
  · exact h.of_same hs.1 hs.2
theorem dirty_nonempty {s : DiskSt} {z : Int} (hz : z ∈ dirtyOf s) : s.wait z ≠ [] := by
  unfold dirtyOf at hz
  obtain ⟨i, hi, rfl⟩ := List.mem_map.1 hz
  have := (List.mem_filter.1 hi).2
  intro e; rw [e] at this; cases this
theorem dirty_getD {s : DiskSt} {k : Nat} (hk : k < (dirtyOf s).length) : (dirtyOf s).getD k 0 ∈ dirtyOf s := by
  rw [List.getD_eq_getElem?_getD, List.getElem?_eq_getElem hk]; exact List.getElem_mem hk
theorem crashTo_sec {s : DiskSt} {n : Nat} (h : Sound s n) (fates : List DFate) : ∀ k, k ≤ (dirtyOf s).length → ∀ x ∈ crashTo s fates k, x.length = 512
  | 0, _ => h.sec
  | k + 1, hk => by
    intro x hx
    have ih := crashTo_sec h fates k (by omega)
    have hb := dirty_bounds (dirty_getD (show k < (dirtyOf s).length by omega))
    unfold crashTo at hx
    rcases List.mem_or_eq_of_mem_set hx with hx | rfl
    · exact ih x hx
    · refine settle_length ?_ (h.wt _)
      rw [List.getD_eq_getElem?_getD, List.getElem?_eq_getElem (by rw [crashTo_length]; omega)]
      exact ih _ (List.getElem_mem _)
theorem crashTo_still {s : DiskSt} {i : Nat} (hw : s.wait (i : Int) = []) (fates : List DFate) : ∀ k, k ≤ (dirtyOf s).length → (crashTo s fates k)[i]? = s.safe[i]?
  | 0, _ => rfl
  | k + 1, hk => by
    have hm := dirty_getD (show k < (dirtyOf s).length by omega)
    have hb := dirty_bounds hm
    have hne := dirty_nonempty hm
    unfold crashTo
    rw [List.getElem?_set_ne (fun e => hne (by rw [show (dirtyOf s).getD k 0 = (i : Int) by omega]; exact hw))]
    exact crashTo_still hw fates k (by omega)
theorem crash_sound {st : DiskSt} {k : Nat} (h : Sound st k) (fates : List DFate) : Sound (crashSt st fates) k :=
  ⟨(crashTo_length st fates _).trans h.len, crashTo_sec h fates _ (Nat.le_refl _), fun i x hx => (by cases hx), fun i hi => absurd rfl hi⟩
theorem crash_still {s0 st : DiskSt} {i : Nat} (h : Still s0 st i) (fates : List DFate) : Still s0 (crashSt st fates) i := ⟨rfl, (crashTo_still h.1 fates _ (Nat.le_refl _)).trans h.2⟩
theorem step_sound {st : DiskSt} {k : Nat} (h : Sound st k) (x : DStep) : Sound (stepSt st x) k := by
  unfold stepSt
  split
  · exact write_sound h _ _
  · split
    · exact syncRes_sound h
    · split
      · exact h.of_same rfl rfl
      · split
        · exact crash_sound h _
        · exact h.of_same (readSt_alike st x.pos).1 (readSt_alike st x.pos).2
theorem step_still {s0 st : DiskSt} {i : Nat} (h : Still s0 st i) {x : DStep} (hx : ¬ (x.act = 1 ∧ x.pos = i)) : Still s0 (stepSt st x) i := by
  unfold stepSt
  split
  · rename_i e
    exact write_still h _ (fun e2 => hx ⟨e, e2⟩)
  · split
    · exact syncRes_still h
    · split
      · exact h.of_same rfl rfl
      · split
        · exact crash_still h _
        · exact h.of_same (readSt_alike st x.pos).1 (readSt_alike st x.pos).2
theorem run_succ (st : DiskSt) {l : List DStep} {k : Nat} {x : DStep} (h : l[k]? = some x) : runSt st (l.take (k + 1)) = stepSt (runSt st (l.take k)) x := by
  obtain ⟨hk, he⟩ := List.getElem?_eq_some_iff.1 h
  unfold runSt
  rw [List.take_succ_eq_append_getElem hk, he, List.foldl_append]; rfl

/-- Behind a failure of the power a sync and one more failure change nothing. -/
theorem quiet_after (s : DiskSt) (f g : List DFate) : (syncRes (crashSt s f)).2 = 0 ∧ (crashSt (syncRes (crashSt s f)).1 g).safe = (crashSt s f).safe ∧ dirtyOf (crashSt (syncRes (crashSt s f)).1 g) = [] := by
  have hb : burnSt (crashSt s f) = (crashSt s f, 0) := rfl
  have hs : syncRes (crashSt s f) = (syncSt (crashSt s f), 0) := by unfold syncRes; rw [hb]; rfl
  have hdirty : ∀ t : DiskSt, (∀ i, t.wait i = []) → dirtyOf t = [] := fun t ht => by
    unfold dirtyOf
    rw [List.map_eq_nil_iff, List.filter_eq_nil_iff]
    intro i _
    rw [ht]; simp
  have hsafe : (syncSt (crashSt s f)).safe = (crashSt s f).safe := List.ext_getElem? fun i => sync_get _ rfl
  rw [hs]
  refine ⟨rfl, ?_, hdirty _ (fun _ => rfl)⟩
  show crashTo (syncSt (crashSt s f)) g (dirtyOf (syncSt (crashSt s f))).length = _
  rw [hdirty (syncSt (crashSt s f)) (fun _ => rfl)]
  exact hsafe
theorem crash_calm (s : DiskSt) (f : List DFate) : (crashSt s f).off = false := rfl
theorem flatten_sec : ∀ {ls : List (List UInt8)} (_ : ∀ x ∈ ls, x.length = 512) {i : Nat} {y : List UInt8} (_ : ls[i]? = some y), (ls.flatten.drop (512 * i)).take 512 = y
  | [], _, i, y, h => by simp at h
  | x :: xs, hx, 0, y, h => by
    have e : x = y := by simpa using h
    have hl := hx x (by simp)
    subst e
    rw [List.flatten_cons, Nat.mul_zero, List.drop_zero, ← hl, List.take_left]
  | x :: xs, hx, i + 1, y, h => by
    have hl := hx x (by simp)
    rw [List.flatten_cons, show 512 * (i + 1) = x.length + 512 * i by rw [hl]; omega, List.drop_length_add_append]
    exact flatten_sec (fun z hz => hx z (by simp [hz])) (by simpa using h)
theorem flatten_length : ∀ {ls : List (List UInt8)} (_ : ∀ x ∈ ls, x.length = 512), ls.flatten.length = 512 * ls.length
  | [], _ => rfl
  | x :: xs, hx => by
    rw [List.flatten_cons, List.length_append, hx x (by simp), flatten_length (fun z hz => hx z (by simp [hz])), List.length_cons]; omega
end Go.Proofs.Ytecdbfbaclgejaa
/- Walk of one step of a device's script. -/
namespace Go.Proofs.Ytecdbfbaclgejaa
open Go.RowKit

def DoPost (K : Nat → Prop) (P n : Nat) (W : World) (r : List UInt8 × Int) (st : DiskSt) (e : Ending) (W' : World) : Prop :=
  ∃ u, e = .returned (.tuple #[u, .int .i64 r.2]) ∧ Rep.byte.list.val (fun b => W.heap.size ≤ b) W' u r.1 ∧ DevAt K W' P (n + 1) st ∧ Kept K W W'
theorem code04 (k : Int) (w : World) : Calls Try.prog 95 #[.int .i64 k] w fun e w' => e = .returned (.int .i64 k) ∧ w' = w := by
  go_enter Try.func95, Try.ntmps95
  go_wp2_with fail
  go_ret
  exact ⟨rfl, rfl⟩

set_option maxRecDepth 100000 in
set_option maxHeartbeats 4000000 in
/-- do -/
theorem do_calls {K Q : Nat → Prop} {W : World} {P n : Nat} {st : DiskSt} {v : Value} {x : DStep} (h : DevAt K W P n st) (hn : n ≤ 900000000) (hs : ∀ y ∈ st.safe, y.length ≤ 100000) (hw : ∀ j, ∀ y ∈ st.wait j, y.length ≤ 100000) (hx : rStep.val Q W v x) (hQ : ∀ k, Q k → K k) :
    Calls Try.prog 91 #[.pointer (some ⟨P, 0, none⟩), v] W (DoPost K P n W (outSt st x) (stepSt st x)) := by
  obtain ⟨A1, c1, A2, c2, rfl, f0, f1, sb, sf⟩ := rStep_val hx
  obtain ⟨act, pos, b, fates⟩ := x
  dsimp only at *
  have hL := h.lt
  have hbel : Below W.heap.size W (W.alloc (.cells #[.int .i64 act, .int .i64 pos, .slice A1 b.length c1, .slice A2 fates.length c2] 125)) := (Below.refl _ _).alloc (Nat.le_refl _) _
  have hsz : (W.alloc (.cells #[.int .i64 act, .int .i64 pos, .slice A1 b.length c1, .slice A2 fates.length c2] 125)).heap.size = W.heap.size + 1 := by simp
  have hbk := heap_alloc_new W (.cells #[.int .i64 act, .int .i64 pos, .slice A1 b.length c1, .slice A2 fates.length c2] 125)
  generalize hW1 : W.alloc (.cells #[.int .i64 act, .int .i64 pos, .slice A1 b.length c1, .slice A2 fates.length c2] 125) = W1 at *
  have HD := Lib.hid (show DevAt (fun b => K b ∨ b = W.heap.size) W1 P n st from h.grow hbel (fun k hk => hk.imp id fun e => ⟨Nat.le_of_eq e.symm, by omega⟩))
  have HB := Lib.hid (Rep.Sl.val (Rep.Sl.keep (w := W) (w' := W1) (Q' := Q) (fun k hk hl => ⟨hk, hbel.block k hl.lt⟩) sb))
  have HF := Lib.hid (Rep.Sl.val (Rep.Sl.keep (w := W) (w' := W1) (Q' := Q) (fun k hk hl => ⟨hk, hbel.block k hl.lt⟩) sf))
  have HK := Lib.hid (show ∀ W', Kept (fun b => K b ∨ b = W.heap.size) W1 W' → Kept K W W' from fun W' hk => (Kept.of_below hbel hL).trans (hk.less fun _ => .inl))
  have HQ := Lib.hid (show ∀ k, Q k → (K k ∨ k = W.heap.size) from fun k hk => .inl (hQ k hk))
  have HZ := Lib.hid (show ∀ w' : World, Rep.byte.list.val (fun x => W.heap.size ≤ x) w' (.slice none 0 0) ([] : List UInt8) from fun w => Rep.val_nil (by simp [maxLen]))
  have HS := Lib.hid hs
  have HW := Lib.hid hw
  have HP := Lib.hid f1
  have HSZ := Lib.hid (show W.heap.size ≤ W1.heap.size by omega)
  have e0 := cell_row hbk 0
  have e1 := cell_row hbk 1
  have e2 := cell_row hbk 2
  have e3 := cell_row hbk 3
  have HN := Lib.hid hn
  clear h hx sb sf hQ hs hw hL hbel hsz hbk hn f0 f1
  by_cases h1 : act = 1
  · subst h1
    go_enter Try.func91, Try.ntmps91
    go_wp2_with fail
    refine (dev_write HD.out HP.out (by have := HN.out; omega) HB.out HQ.out).mono ?_
    rintro e w2 ⟨rfl, hd, hk⟩
    have HD2 := Lib.hid hd
    have HK2 := Lib.hid hk
    clear hd hk e0 e1 e2 e3
    go_wp2_with fail
    refine (code04 _ _).mono ?_
    rintro e w3 ⟨rfl, rfl⟩
    go_wp2_with fail
    go_ret2
    exact ⟨_, rfl, HZ.out _, HD2.out.less fun _ => .inl, HK.out _ HK2.out⟩
  by_cases h2 : act = 2
  · subst h2
    clear h1
    go_enter Try.func91, Try.ntmps91
    go_wp2_with fail
    refine (dev_sync HD.out).mono ?_
    rintro e w2 ⟨rfl, hd, hk⟩
    have HD2 := Lib.hid hd
    have HK2 := Lib.hid hk
    clear hd hk e0 e1 e2 e3
    go_wp2_with fail
    refine (code04 _ _).mono ?_
    rintro e w3 ⟨rfl, rfl⟩
    go_wp2_with fail
    go_ret2
    exact ⟨_, rfl, HZ.out _, (HD2.out.less fun _ => .inl).more (Nat.le_succ n), HK.out _ HK2.out⟩
  by_cases h3 : act = 3
  · subst h3
    clear h1 h2
    go_enter Try.func91, Try.ntmps91
    go_wp2_with fail
    refine (dev_fuse HD.out HP.out).mono ?_
    rintro e w2 ⟨rfl, hd, hk⟩
    have HD2 := Lib.hid hd
    have HK2 := Lib.hid hk
    clear hd hk e0 e1 e2 e3
    go_wp2_with fail
    go_ret2
    exact ⟨_, rfl, HZ.out _, (HD2.out.less fun _ => .inl).more (Nat.le_succ n), HK.out _ HK2.out⟩
  by_cases h4 : act = 4
  · subst h4
    clear h1 h2 h3
    go_enter Try.func91, Try.ntmps91
    go_wp2_with fail
    refine (dev_crash HD.out (by have := HN.out; omega) HF.out HQ.out).mono ?_
    rintro e w2 ⟨rfl, hd, hk⟩
    have HD2 := Lib.hid hd
    have HK2 := Lib.hid hk
    clear hd hk e0 e1 e2 e3
    go_wp2_with fail
    go_ret2
    exact ⟨_, rfl, HZ.out _, (HD2.out.less fun _ => .inl).more (Nat.le_succ n), HK.out _ HK2.out⟩
  have HO := Lib.hid (show outSt st ⟨act, pos, b, fates⟩ = (readSt st pos).2 by unfold outSt; rw [if_neg h1, if_neg h2, if_neg h3, if_neg h4])
  have HT := Lib.hid (show stepSt st ⟨act, pos, b, fates⟩ = (readSt st pos).1 by unfold stepSt; rw [if_neg h1, if_neg h2, if_neg h3, if_neg h4])
  have g1 : (act == 1) = false := by simpa using h1
  have g2 : (act == 2) = false := by simpa using h2
  have g3 : (act == 3) = false := by simpa using h3
  have g4 : (act == 4) = false := by simpa using h4
  clear h1 h2 h3 h4
  go_enter Try.func91, Try.ntmps91
  go_wp2_with fail
  refine (dev_read HD.out HP.out HS.out HW.out).mono ?_
  rintro e w2 ⟨u, rfl, hu, hd, hk⟩
  have HU := Lib.hid hu
  have HD2 := Lib.hid hd
  have HK2 := Lib.hid hk
  clear hu hd hk e0 e1 e2 e3
  go_wp2_with fail
  refine (code04 _ _).mono ?_
  rintro e w3 ⟨rfl, rfl⟩
  go_wp2_with fail
  go_ret2
  exact ⟨_, by rw [HO.out]; rfl, by rw [HO.out]; exact Rep.val_mono (fun b hb _ => Nat.le_trans HSZ.out hb) HU.out, by rw [HT.out]; exact (HD2.out.less fun _ => .inl).more (Nat.le_succ n), HK.out _ HK2.out⟩
end Go.Proofs.Ytecdbfbaclgejaa
/- What is safe stays: the plain law of two scripts, and the page's example. No program is named here. -/
namespace Go.Proofs.Ytecdbfbaclgejaa
open Go.RowKit

/-- Which sectors a script may have written. -/
def touchedOf (k : Nat) (l : List DStep) : List Bool := l.foldl (fun t x => if x.act = 1 ∧ 0 ≤ x.pos ∧ x.pos < (k : Int) then t.set x.pos.toNat true else t) (List.replicate k false)
theorem touched_succ (k : Nat) {l : List DStep} {j : Nat} {x : DStep} (h : l[j]? = some x) :
    touchedOf k (l.take (j + 1)) = if x.act = 1 ∧ 0 ≤ x.pos ∧ x.pos < (k : Int) then (touchedOf k (l.take j)).set x.pos.toNat true else touchedOf k (l.take j) := by
  obtain ⟨hk, he⟩ := List.getElem?_eq_some_iff.1 h
  unfold touchedOf
  rw [List.take_succ_eq_append_getElem hk, he, List.foldl_append]; rfl
theorem touched_length (k : Nat) (l : List DStep) : (touchedOf k l).length = k := by
  have : ∀ (l : List DStep) (t : List Bool), (l.foldl (fun t x => if x.act = 1 ∧ 0 ≤ x.pos ∧ x.pos < (k : Int) then t.set x.pos.toNat true else t) t).length = t.length := by
    intro l
    induction l with
    | nil => intro t; rfl
    | cons x l ih =>
      intro t
      rw [List.foldl_cons, ih]
      split
      · exact List.length_set ..
      · rfl
  unfold touchedOf
  rw [this, List.length_replicate]
theorem untouched_still {s0 : DiskSt} {k : Nat} (h0 : ∀ i, s0.wait i = []) {l : List DStep} {i : Nat} : ∀ j, j ≤ l.length → (touchedOf k (l.take j))[i]? = some false → Still s0 (runSt s0 (l.take j)) i
  | 0, _, _ => ⟨h0 _, rfl⟩
  | j + 1, hj, ht => by
    obtain ⟨x, hx⟩ : ∃ x, l[j]? = some x := ⟨_, List.getElem?_eq_getElem (by omega)⟩
    rw [touched_succ k hx] at ht
    rw [run_succ s0 hx]
    by_cases hc : x.act = 1 ∧ 0 ≤ x.pos ∧ x.pos < (k : Int)
    · rw [if_pos hc] at ht
      by_cases hi : x.pos.toNat = i
      · rw [List.getElem?_set] at ht
        rw [if_pos hi] at ht
        split at ht
        · cases ht
        · cases ht
      · rw [List.getElem?_set_ne hi] at ht
        exact step_still (untouched_still h0 j (by omega) ht) (fun e => hi (by omega))
    · rw [if_neg hc] at ht
      have hlt : i < k := by
        have := (List.getElem?_eq_some_iff.1 ht).1
        rwa [touched_length] at this
      exact step_still (untouched_still h0 j (by omega) ht) (fun e => hc ⟨e.1, by omega, by omega⟩)
theorem run_sound {st : DiskSt} {k : Nat} (h : Sound st k) (l : List DStep) : Sound (runSt st l) k := by
  induction l generalizing st with
  | nil => exact h
  | cons x l ih => exact ih (step_sound h x)
theorem new_sound (k : Nat) : Sound (newSt (List.replicate k (zeros 512))) k :=
  ⟨List.length_replicate, fun x hx => by rw [(List.mem_replicate.1 hx).2]; exact List.length_replicate, fun i x hx => (by cases hx), fun i hi => absurd rfl hi⟩

/-- The page's example. -/
def ones04 : List UInt8 := List.replicate 512 1
def ex04 : DiskSt := newSt (List.replicate 1 (zeros 512))
theorem ex04_write : (writeSt ex04 0 ones04).2 = 0 := by decide +kernel
theorem ex04_sound : Sound (crashSt (writeSt ex04 0 ones04).1 [⟨0, 2⟩]) 1 := crash_sound (write_sound (new_sound 1) _ _) _
theorem ex04_code : (readSt (crashSt (writeSt ex04 0 ones04).1 [⟨0, 2⟩]) 0).2.2 = 0 := by decide +kernel
theorem ex04_len : (readSt (crashSt (writeSt ex04 0 ones04).1 [⟨0, 2⟩]) 0).2.1.length = 512 := by decide +kernel
theorem ex04_one : (readSt (crashSt (writeSt ex04 0 ones04).1 [⟨0, 2⟩]) 0).2.1[15]? = some 1 := by decide +kernel
theorem ex04_zero : (readSt (crashSt (writeSt ex04 0 ones04).1 [⟨0, 2⟩]) 0).2.1[16]? = some 0 := by decide +kernel
end Go.Proofs.Ytecdbfbaclgejaa
/- Walk of the page's example of a device. -/
namespace Go.Proofs.Ytecdbfbaclgejaa
open Go.RowKit

/-- An element of one cell, of a slice of the call's own. -/
theorem Rep.acc_at {α : Type} {r : Rep α} {e base : Nat} {Q : Nat → Prop} {w : World} {v : Value} {xs : List α} (hr : r.size = 1) (h : r.acc e base Q w v xs) {i : Nat} {x : α} (hx : xs[i]? = some x) :
    ∃ g cap u, v = .slice (some ⟨g, 0, none⟩) xs.length cap ∧ w.cell? ⟨g, i, none⟩ = some u ∧ w.frozen? ⟨g, i, none⟩ = false ∧ g < w.heap.size ∧ base ≤ g ∧ r.rd (fun b => Q b ∧ g ≠ b) w [u] x := by
  obtain ⟨cells, g1, g2⟩ := h
  have hi := (List.getElem?_eq_some_iff.1 hx).1
  rcases g1.2 with ⟨rfl, h0⟩ | ⟨g, cap, cur, rfl, hb, hg, h3, h4, h5, h6⟩
  · omega
  · obtain ⟨es, hrd, hcell⟩ := Rep.row_get g2 hx
    have hl := r.len hrd
    rw [hr] at hl
    obtain ⟨u, rfl⟩ : ∃ u, es = [u] := List.length_eq_one_iff.1 hl
    refine ⟨g, cap, u, rfl, ?_, frozen_row hg i, (Array.getElem?_eq_some_iff.1 hg).1, hb, r.mono (fun b hb' _ => ⟨hb'.1, fun e => hb'.2 (by rw [e]; rfl)⟩) hrd⟩
    have := g1.cells (g := g) rfl i u (by have := hcell 0 _ rfl; rw [hr] at this; simpa using this)
    rw [Addr.add_lit, Nat.zero_add] at this
    exact this

def onesTo (k : Nat) : List UInt8 := List.replicate k 1 ++ List.replicate (512 - k) 0
theorem onesTo_zero : onesTo 0 = List.replicate 512 0 := rfl
theorem onesTo_all : onesTo 512 = ones04 := by unfold onesTo ones04; rw [Nat.sub_self, List.replicate_zero, List.append_nil]
theorem onesTo_length {k : Nat} (h : k ≤ 512) : (onesTo k).length = 512 := by unfold onesTo; rw [List.length_append, List.length_replicate, List.length_replicate]; omega
theorem onesTo_get {k : Nat} (h : k < 512) : (onesTo k)[k]? = some 0 := by
  unfold onesTo
  rw [List.getElem?_append_right (by rw [List.length_replicate]; exact Nat.le_refl _), List.length_replicate, Nat.sub_self, List.getElem?_replicate, if_pos (by omega)]
theorem onesTo_set {k : Nat} (h : k < 512) : (onesTo k).set k 1 = onesTo (k + 1) := by
  unfold onesTo
  rw [show 512 - k = (512 - (k + 1)) + 1 by omega, List.set_append_right _ _ (by rw [List.length_replicate]; exact Nat.le_refl _), List.length_replicate, Nat.sub_self, List.replicate_succ, List.set_cons_zero, List.replicate_succ' (n := k), List.append_assoc]
  rfl
theorem one_fate (w : World) : rFate.list.val (fun b => b = w.heap.size) (w.alloc (.cells #[.int .i64 0, .int .i64 2] 213)) (.slice (some ⟨w.heap.size, 0, none⟩) 1 1) [⟨0, 2⟩] := by
  refine Rep.list_val rfl (by decide) (by simp [maxLen]) ⟨[.int .i64 0, .int .i64 2], ?_, fun _ => ⟨w.heap.size, 0, rfl, rfl, ⟨_, _, _, heap_alloc_new w _⟩, fun j u hj => ?_⟩⟩
  · exact Rep.row_one_elem ⟨[.int .i64 0], [.int .i64 2], rfl, ⟨rfl, by decide⟩, ⟨rfl, by decide⟩⟩
  · rw [Nat.zero_add, cell_row (heap_alloc_new w _), ← Array.getElem?_toList]
    exact hj

set_option maxRecDepth 100000 in
set_option maxHeartbeats 4000000 in
/-- live -/
theorem live04_calls (w : World) : Calls Try.prog 89 #[] w fun e w' => e = .returned (.bool true) ∧ Below w.heap.size w w' := by
  have hmk : ∀ w, (Instr.makeSlice 22 (.int .i64 512) (.int .i64 512)).run Try.prog w = .ok (.slice (some ⟨w.heap.size, 0, none⟩) 512 512) (w.alloc (.cells (zeroBytes 512) 5)) :=
    fun w => run_make_bytes Try.underlying22 info5 512 (by omega) w
  have HMB := Lib.hid (show ∀ w : World, (w.alloc (.cells (zeroBytes 512) 5)).heap[w.heap.size]? = some (.cells (zeroBytes 512) 5 (0, 0)) from fun w => heap_alloc_new w _)
  have HZB := Lib.hid (show (zeroBytes 512).toList = (onesTo 0).map (fun b => Value.int .u8 (b.toNat : Int)) by rw [onesTo_zero, zeroBytes, toList_madeCells_one]; simp)
  have HZL := Lib.hid (show (zeroBytes 512).size = 512 by rw [← Array.length_toList, HZB.out, List.length_map, onesTo_length (by omega)])
  generalize zeroBytes 512 = Z at *
  go_enter Try.func89, Try.ntmps89
  go_wp2_with fail
  refine (dev_new (n := 1) (by decide) (by decide) w).mono ?_
  rintro e w1 ⟨P, rfl, hd, hb1⟩
  have HD1 := Lib.hid (show DevAt (fun b => b < w.heap.size) w1 P 0 ex04 from hd)
  have HB1 := Lib.hid hb1
  clear hd hb1
  go_wp2_with fail
  obtain ⟨W2, hW2⟩ : ∃ W2, w1.alloc (.cells Z 5) = W2 := ⟨_, rfl⟩
  have HB2 := Lib.hid (show Below w1.heap.size w1 W2 from hW2 ▸ (Below.refl _ _).alloc (Nat.le_refl _) _)
  have HC2 := Lib.hid (show W2.heap[w1.heap.size]? = some (.cells Z 5 (0, 0)) from hW2 ▸ HMB.out w1)
  have HS2 := Lib.hid (show W2.heap.size = w1.heap.size + 1 from hW2 ▸ by simp)
  simp only [hW2]
  clear hmk hW2
  have HL := Lib.hid (show ∀ k, k < 512 → ∀ (wr : World) (cur : Array Value), wr.heap[w1.heap.size]? = some (.cells cur 5 (0, 0)) → cur.toList = (onesTo k).map (fun b => Value.int .u8 (b.toNat : Int)) → wr.cell? ⟨w1.heap.size, k, none⟩ = some (.int .u8 0) from fun k hk wr cur hc hl => by
    rw [cell_row hc, ← Array.getElem?_toList, hl, List.getElem?_map, onesTo_get hk]; rfl)
  have HT := Lib.hid (show ∀ k, k < 512 → ∀ (cur : Array Value), cur.toList = (onesTo k).map (fun b => Value.int .u8 (b.toNat : Int)) → (cur.setIfInBounds k (.int .u8 1)).toList = (onesTo (k + 1)).map (fun b => Value.int .u8 (b.toNat : Int)) from fun k hk cur hl => by
    rw [Array.toList_setIfInBounds, hl, ← onesTo_set hk, List.map_set]; rfl)
  generalize hg : w1.heap.size = g at *
  go_loopw [3] (fun i wr => ∃ (k : Nat) (cur : Array Value), i = .int .i64 k ∧ k ≤ 512 ∧ wr.heap[g]? = some (.cells cur 5 (0, 0)) ∧ cur.toList = (onesTo k).map (fun b => Value.int .u8 (b.toNat : Int)) ∧ Below g W2 wr ∧ wr.heap.size = g + 1) (fun i _ => 512 - (intOf i).toNat)
  case atStart => exact ⟨0, Z, rfl, by omega, HC2.out, HZB.out, Below.refl _ _, HS2.out⟩
  case round =>
    obtain ⟨k, cur, rfl, hk, hc, hl, hb, hs⟩ := hrel
    have HBR := Lib.hid hb
    have HCR := Lib.hid hc
    have HLR := Lib.hid hl
    by_cases hlt : (k : Int) < 512
    · have hcell := HL.out k (by omega) wr cur hc hl
      have hfr := frozen_row hc k
      clear hc hl hb
      go_wp2_with fail
      refine ⟨⟨k + 1, _, by go_num, by omega, heap_setRow HCR.out, HT.out k (by omega) _ HLR.out, ?_, by simpa using hs⟩, by simp [intOf]; omega⟩
      exact HBR.out.setCell (Nat.le_refl _) _
    · obtain rfl : k = 512 := by omega
      have HV := Lib.hid (show Rep.byte.list.val (fun b => b = g) wr (.slice (some ⟨g, 0, none⟩) 512 512) ones04 from by
        rw [onesTo_all] at hl
        refine Rep.list_val (by unfold ones04; rw [List.length_replicate]) (Nat.le_refl _) (by simp [maxLen]) ⟨_, Rep.byte_row _, fun _ => ⟨g, 0, rfl, rfl, ⟨_, _, _, hc⟩, fun j u hj => ?_⟩⟩
        rw [Nat.zero_add, cell_row hc, ← Array.getElem?_toList, hl]
        exact hj)
      have HD := Lib.hid (show DevAt (fun b => b < w.heap.size ∨ b = g) wr P 0 ex04 from HD1.out.grow (hg ▸ HB2.out.trans HBR.out) fun b hb' => hb'.imp id fun e => by omega)
      have HSW := Lib.hid (show w.heap.size ≤ g by have := HB1.out.size; omega)
      have HBA := Lib.hid (show Below w.heap.size w wr from HB1.out.trans ((HB2.out.trans HBR.out).mono HSW.out))
      clear hc hl hb HL HT HZB HZL HMB HC2 HS2 HBR HCR HLR
      go_wp2_with fail
      refine (dev_write HD.out (by decide) (by decide) HV.out (fun _ h => .inr h)).mono ?_
      rintro e w3 ⟨rfl, hd, hk⟩
      rw [ex04_write]
      have HD3 := Lib.hid hd
      have HK3 := Lib.hid hk
      have HB3 := Lib.hid (HBA.out.trans (hk.below (base := w.heap.size) fun b hb => .inl hb))
      clear hd hk HV HD HBA HB2 HB1 HD1 hs
      have hbs : ∀ w : World, (Instr.buildSlice 119 1 #[(0, .agg #[.int .i64 0, .int .i64 2])]).run Try.prog w = .ok (.slice (some ⟨w.heap.size, 0, none⟩) 1 1) (w.alloc (.cells #[.int .i64 0, .int .i64 2] 213)) :=
        fun w => run_buildSlice_one w _ 213 (.agg #[.int .i64 0, .int .i64 0]) 2 Try.underlying119 (by kernel_rfl) _ rfl (by decide) (by decide)
      go_wp2_with fail
      clear hbs
      have H4 := Lib.hid (one_fate w3)
      have HB4 := Lib.hid (show Below w3.heap.size w3 (w3.alloc (.cells #[.int .i64 0, .int .i64 2] 213)) from (Below.refl _ _).alloc (Nat.le_refl _) _)
      have HS4 := Lib.hid (show (w3.alloc (.cells #[.int .i64 0, .int .i64 2] 213)).heap.size = w3.heap.size + 1 by simp)
      generalize w3.alloc (.cells #[.int .i64 0, .int .i64 2] 213) = w4 at *
      have HD4 := Lib.hid (show DevAt (fun b => b < w.heap.size ∨ b = w3.heap.size) w4 P (0 + 1) _ from HD3.out.grow HB4.out fun b hb' => hb'.elim (fun e => .inl (.inl e)) (fun e => .inr ⟨Nat.le_of_eq e.symm, by have := HS4.out; omega⟩))
      refine (dev_crash HD4.out (by decide) H4.out (fun _ h => .inr h)).mono ?_
      rintro e w5 ⟨rfl, hd, hk⟩
      have HD5 := Lib.hid hd
      have HB5 := Lib.hid ((HB3.out.trans (HB4.out.mono HB3.out.size)).trans (hk.below (base := w.heap.size) fun b hb => .inl hb))
      clear hd hk H4 HB4 HS4 HD4 HB3 HD3 HK3
      go_wp2_with fail
      refine (dev_read HD5.out (by decide) (fun x hx => by have := ex04_sound.sec x hx; omega) (fun j x hx => by have := ex04_sound.wt j x hx; omega)).mono ?_
      rintro e w6 ⟨u6, rfl, hu, hd, hk⟩
      rw [ex04_code]
      have HB6 := Lib.hid (HB5.out.trans (hk.below (base := w.heap.size) fun b hb => .inl hb))
      clear hd hk
      have h15 := ex04_one
      have h16 := ex04_zero
      have hln := ex04_len
      generalize (readSt (crashSt (writeSt ex04 0 ones04).1 [⟨0, 2⟩]) 0).2.1 = bs at *
      obtain ⟨A6, c6, rfl, hc6, hm6, hA6⟩ := Rep.val_list hu
      obtain ⟨b6, o6, es, rfl, _, _, he, hcell⟩ := hA6.get h15
      obtain ⟨b6', o6', es', e6, _, _, he', hcell'⟩ := hA6.get h16
      cases e6
      have g15 : w6.cell? ⟨b6, o6 + 15, none⟩ = some (.int .u8 1) := hcell 0 (.int .u8 1) (by rw [show es = [.int .u8 ((1 : UInt8).toNat : Int)] from he]; rfl)
      have g16 : w6.cell? ⟨b6, o6 + 16, none⟩ = some (.int .u8 0) := hcell' 0 (.int .u8 0) (by rw [show es' = [.int .u8 ((0 : UInt8).toNat : Int)] from he']; rfl)
      clear hcell hcell' he he' hu hA6 h15 h16
      rw [hln] at hc6 ⊢
      clear hln
      unfold maxLen at hm6
      go_wp2_with fail
      refine (code04 0 _).mono ?_
      rintro e w8 ⟨rfl, hw8⟩
      have hw9 := hw8.symm
      subst hw9
      clear hw8
      go_wp2_with fail
      refine (code04 0 _).mono ?_
      rintro e w8 ⟨rfl, hw8⟩
      have hw9 := hw8.symm
      subst hw9
      clear hw8
      go_wp2_with fail
      go_ret
      exact ⟨rfl, HB6.out⟩
end Go.Proofs.Ytecdbfbaclgejaa
/- Walk of what is more than is asked in statements: scripts of a device. -/
namespace Go.Proofs.Ytecdbfbaclgejaa
open Go.RowKit

def MuchSteps (w : World) (l : List DStep) (e : Ending) (w' : World) : Prop := ∃ r : Bool, e = .returned (.bool r) ∧ (r = false → l.length ≤ 60) ∧ w' = w
set_option maxRecDepth 100000 in
/-- ref04.Much -/
theorem muchSteps_calls {Q : Nat → Prop} {w : World} {v : Value} {l : List DStep} (hx : rStep.list.val Q w v l) :
    Calls Try.prog 88 #[v] w (MuchSteps w l) := by
  obtain ⟨A, c, rfl, hc1, hc2, hA⟩ := Rep.val_list hx
  unfold maxLen at hc2
  have HA := Lib.hid hA
  clear hx hA
  go_enter Try.func88, Try.ntmps88
  go_wp2_with fail
  go_loop [3] (fun i => ∃ k : Nat, i = .int .i64 k ∧ k ≤ l.length ∧ k ≤ 100) (fun i => l.length - (intOf i).toNat)
  case atStart => exact ⟨0, rfl, by omega, by omega⟩
  case round =>
    obtain ⟨k, rfl, hk, hk5⟩ := hrel
    by_cases hlt : (k : Int) < l.length
    · by_cases h100 : (k : Int) < 100
      · have hk' : k < l.length := by omega
        obtain ⟨b, off, A6, c6, A7, c7, rfl, _, d0, d1, d2, d3, _, _, sp, sq⟩ := rStep_at HA.out (List.getElem?_eq_getElem hk')
        have hp1 := sp.1
        have hp2 := sp.2.1
        have hq1 := sq.1
        have hq2 := sq.2.1
        unfold maxLen at hp2 hq2
        generalize l[k] = x at *
        clear sp sq
        by_cases h2 : (600 : Int) < x.b.length
        · go_wp2_with fail
          go_ret
          exact ⟨true, rfl, (fun h => (by cases h)), rfl⟩
        · by_cases h3 : (100 : Int) < x.fates.length
          · go_wp2_with fail
            go_ret
            exact ⟨true, rfl, (fun h => (by cases h)), rfl⟩
          · go_wp2_with fail
            go_round
            case rel => exact ⟨k + 1, by go_num, by omega, by omega⟩
            case measure => simp [intOf]; omega
      · have h20 : (60 : Int) < l.length := by omega
        go_wp2_with fail
        go_ret
        exact ⟨true, rfl, (fun h => (by cases h)), rfl⟩
    · by_cases h20 : (60 : Int) < l.length
      · go_wp2_with fail
        go_ret
        exact ⟨true, rfl, (fun h => (by cases h)), rfl⟩
      · go_wp2_with fail
        go_ret
        exact ⟨false, rfl, fun _ => by omega, rfl⟩
end Go.Proofs.Ytecdbfbaclgejaa
/- The statement on what is safe of a device, walked. -/
namespace Go.Proofs.Ytecdbfbaclgejaa
open Go.RowKit

theorem bools_row {Q : Nat → Prop} {w : World} : ∀ k : Nat, Rep.bool.row Q w (List.replicate k (.bool false)) (List.replicate k false)
  | 0 => rfl
  | k + 1 => ⟨[.bool false], List.replicate k (.bool false), rfl, rfl, bools_row k⟩
/-- 'make([]bool, k)'. -/
theorem made_bools {base : Nat} (w : World) (k : Nat) (hb : base ≤ w.heap.size) (hk : k ≤ maxLen) :
    Rep.bool.acc 4 base (fun _ => False) (w.alloc (.cells (madeCells #[.bool false] k) 4)) (.slice (some ⟨w.heap.size, 0, none⟩) k k) (List.replicate k false) := by
  have hl : (madeCells #[.bool false] k).toList = List.replicate k (.bool false) := toList_madeCells_one ..
  have hs : (madeCells #[.bool false] k).size = k := by rw [← Array.length_toList, hl, List.length_replicate]
  refine ⟨List.replicate k (.bool false), ⟨by simp [Rep.bool], .inr ⟨w.heap.size, k, madeCells #[.bool false] k, by rw [List.length_replicate], hb, heap_alloc_new w _, by rw [List.length_replicate]; exact Nat.le_refl _, hk, by rw [hs]; simp [Rep.bool], ?_⟩⟩, bools_row k⟩
  rw [hl, List.take_of_length_le (by simp [Rep.bool])]
theorem sec_get {st : DiskSt} {k : Nat} (h : Sound st k) {i : Nat} (hi : i < k) : ∃ y, st.safe[i]? = some y ∧ (st.safe.flatten.drop (512 * i)).take 512 = y ∧ y.length = 512 := by
  obtain ⟨y, hy⟩ : ∃ y, st.safe[i]? = some y := ⟨_, List.getElem?_eq_getElem (by rw [h.len]; exact hi)⟩
  exact ⟨y, hy, flatten_sec h.sec hy, h.sec y (List.mem_of_getElem? hy)⟩
theorem sec_len {st : DiskSt} {k : Nat} (h : Sound st k) : st.safe.flatten.length = 512 * k := by rw [flatten_length h.sec, h.len]
def SafePost (w : World) (e : Ending) (w' : World) : Prop := e = .returned (.bool true) ∧ Below w.heap.size w w'
set_option maxRecDepth 100000 in
set_option maxHeartbeats 4000000 in
/-- DiskSafe -/
theorem diskSafe_calls {Q1 Q2 Q3 : Nat → Prop} {w : World} {v1 v2 v3 : Value} {n : UInt8} {l more : List DStep} {fates : List DFate} (h1 : rStep.list.val Q1 w v1 l) (h2 : rStep.list.val Q2 w v2 more) (h3 : rFate.list.val Q3 w v3 fates) :
    Calls Try.prog 13 #[.int .u8 (n.toNat : Int), v1, v2, v3] w (SafePost w) := by
  have H1 := Lib.hid (Rep.val_any h1)
  have H2 := Lib.hid (Rep.val_any h2)
  have H3 := Lib.hid (Rep.val_any h3)
  obtain ⟨A1, c1, rfl, hc1, hm1, _⟩ := Rep.val_list h1
  obtain ⟨A2, c2, rfl, hc2, hm2, _⟩ := Rep.val_list h2
  obtain ⟨A3, c3, rfl, hc3, hm3, _⟩ := Rep.val_list h3
  unfold maxLen at hm1 hm2 hm3
  clear h1 h2 h3
  have hn : n.toNat < 256 := n.toNat_lt
  generalize n.toNat = n at *
  have i1 : IntKind.i64.wrap (n : Int) = n := IntWalk.i64_in _ ⟨by omega, by omega⟩
  go_enter Try.func13, Try.ntmps13
  go_wp2_with fail
  refine (muchSteps_calls H1.out).mono ?_
  rintro e w1 ⟨r1, rfl, hr1, hw⟩
  have hw2 := hw.symm
  subst hw2
  clear hw
  cases r1 with
  | true =>
    go_wp2_with (go_at_call 89; refine (live04_calls _).mono ?_; rintro e w' ⟨rfl, hb⟩)
    go_ret
    exact ⟨rfl, hb⟩
  | false =>
    go_wp2_with fail
    refine (muchSteps_calls H2.out).mono ?_
    rintro e w1 ⟨r2, rfl, hr2, hw⟩
    have hw2 := hw.symm
    subst hw2
    clear hw
    cases r2 with
    | true =>
      go_wp2_with (go_at_call 89; refine (live04_calls _).mono ?_; rintro e w' ⟨rfl, hb⟩)
      go_ret
      exact ⟨rfl, hb⟩
    | false =>
      by_cases h100 : (100 : Int) < fates.length
      · go_wp2_with (go_at_call 89; refine (live04_calls _).mono ?_; rintro e w' ⟨rfl, hb⟩)
        go_ret
        exact ⟨rfl, hb⟩
      · have HL1 := Lib.hid (hr1 trivial)
        have HL2 := Lib.hid (hr2 rfl)
        clear hr1 hr2
        obtain ⟨k, hk⟩ : ∃ k : Nat, (n : Int) % 8 + 1 = (k : Int) := ⟨n % 8 + 1, by omega⟩
        have hk1 : 1 ≤ k := by omega
        have hk8 : k ≤ 8 := by omega
        go_wp2_with fail
        try simp only [hk]
        clear i1 hn hk
        refine (dev_new (n := (k : Int)) (by omega) (by omega) w).mono ?_
        rintro e w1 ⟨P, rfl, hd, hb1⟩
        have hnew : newN (k : Int) = k := by rcases newN_cases (k : Int) with h | h | h <;> omega
        rw [hnew] at hd
        have HD1 := Lib.hid hd
        have HB1 := Lib.hid hb1
        have HS1 := Lib.hid (new_sound k)
        clear hnew hd hb1
        generalize newSt (List.replicate k (zeros 512)) = s0 at *
        have HX1 := Lib.hid (show ∀ W', Below w.heap.size w W' → rStep.At (fun b => b < w.heap.size) W' A1 l from fun W' hb => by
          obtain ⟨A', c', he, _, _, hat⟩ := Rep.val_list (Rep.val_below (B := w.heap.size) H1.out hb fun _ h _ => h)
          cases he; exact hat)
        have HX2 := Lib.hid (show ∀ W', Below w.heap.size w W' → rStep.At (fun b => b < w.heap.size) W' A2 more from fun W' hb => by
          obtain ⟨A', c', he, _, _, hat⟩ := Rep.val_list (Rep.val_below (B := w.heap.size) H2.out hb fun _ h _ => h)
          cases he; exact hat)
        have HX3 := Lib.hid (show ∀ W', Below w.heap.size w W' → rFate.list.val (fun b => b < w.heap.size) W' (.slice A3 fates.length c3) fates from fun W' hb => Rep.val_below (B := w.heap.size) H3.out hb fun _ h _ => h)
        clear H1 H2 H3
        go_wp2_with fail
        go_loopw [11] (fun i wr => ∃ j : Nat, i = .int .i64 j ∧ j ≤ l.length ∧ DevAt (fun b => b < w.heap.size) wr P j (runSt s0 (l.take j)) ∧ Below w.heap.size w wr) (fun i _ => l.length - (intOf i).toNat)
        case atStart => exact ⟨0, rfl, Nat.zero_le _, HD1.out, HB1.out⟩
        case round =>
          obtain ⟨j, rfl, hj, hd, hb⟩ := hrel
          have HD := Lib.hid hd
          have HB := Lib.hid hb
          have HSJ := Lib.hid (run_sound HS1.out (l.take j))
          by_cases hlt : (j : Int) < l.length
          · obtain ⟨x, hx⟩ : ∃ x, l[j]? = some x := ⟨_, List.getElem?_eq_getElem (by omega)⟩
            obtain ⟨b, off, A6, c6, A7, c7, rfl, _, d0, d1, d2, d3, f0, f1, sp, sq⟩ := rStep_at (HX1.out _ hb) hx
            have HV := Lib.hid (rStep_agg (x := x) f0 f1 sp sq)
            have HRUN := Lib.hid (run_succ s0 hx)
            clear hd hb f0 f1 sp sq hx
            go_wp2_with fail
            refine (do_calls HD.out (by have := HL1.out; omega) (fun y hy => by have := HSJ.out.sec y hy; omega) (fun i y hy => by have := HSJ.out.wt i y hy; omega) HV.out (fun _ h => h)).mono ?_
            rintro e w2 ⟨u2, rfl, _, hd2, hk2⟩
            rw [← HRUN.out] at hd2
            have HD2 := Lib.hid hd2
            have HB2 := Lib.hid (HB.out.trans (hk2.below (base := w.heap.size) fun b hb => hb))
            clear hd2 hk2 d0 d1 d2 d3
            go_wp2_with fail
            exact ⟨⟨j + 1, by go_num, by omega, HD2.out, HB2.out⟩, by simp [intOf]; omega⟩
          · obtain rfl : j = l.length := by omega
            clear hd hb
            go_wp2_with fail
            refine (dev_crash (fates := []) (Q := fun _ => False) HD.out (by have := HL1.out; omega) (Rep.val_nil (by simp [maxLen])) (fun _ h => h.elim)).mono ?_
            rintro e w3 ⟨rfl, hd, hk⟩
            have HD3 := Lib.hid hd
            have HB3 := Lib.hid (HB.out.trans (hk.below (base := w.heap.size) fun b hb => hb))
            have HS3 := Lib.hid (crash_sound HSJ.out [])
            have HE3 := Lib.hid (show ∀ i, (crashSt (runSt s0 (l.take l.length)) []).wait i = [] from fun _ => rfl)
            clear hd hk HD HB HSJ HD1 HB1 HS1
            generalize crashSt (runSt s0 (l.take l.length)) [] = t0 at *
            go_wp2_with fail
            refine (dev_bytes HD3.out (by rw [sec_len HS3.out]; omega)).mono ?_
            rintro e w4 ⟨u4, rfl, hu4, hb4⟩
            obtain ⟨A4, c4, rfl, hc4, hm4⟩ := Rep.acc_form hu4
            have hown4 := Rep.acc_own hu4
            have HU4 := Lib.hid (Rep.val_mono (Q' := fun b => w3.heap.size ≤ b ∧ b < w4.heap.size) (fun b hb _ => hb.elim (fun h => h.elim) fun e => hown4 b e) (Rep.acc_val hu4))
            have HB4 := Lib.hid hb4
            have hlen4 : (t0.safe.flatten.length : Int) = 512 * (k : Int) := by rw [sec_len HS3.out]; omega
            have HFL := Lib.hid (sec_len HS3.out)
            have HSEC := Lib.hid (fun i (hi : i < k) => sec_get HS3.out hi)
            generalize hfl : t0.safe.flatten = fl at *
            clear hu4 hown4 hb4 hfl
            generalize hml : fl.length = m4 at *
            have HML := Lib.hid hml
            have q4 : ((m4 : Int) != 512 * (k : Int)) = false := by simp [hlen4]
            have i4 : IntKind.i64.wrap (512 * (k : Int)) = 512 * (k : Int) := IntWalk.i64_in _ ⟨by omega, by omega⟩
            have hmk : ∀ w, (Instr.makeSlice 128 (.int .i64 (k : Int)) (.int .i64 (k : Int))).run Try.prog w = .ok (.slice (some ⟨w.heap.size, 0, none⟩) k k) (w.alloc (.cells (madeCells #[.bool false] k) 4)) :=
              fun w => run_make_row' 128 4 (.bool false) 1 Try.underlying128 (by kernel_rfl) rfl .i64 .i64 k (by omega) (by omega) w
            have HC4 := Lib.hid hc4
            have HM4 := Lib.hid hm4
            clear hlen4 hml hc4 hm4
            go_wp2_with fail
            clear hmk
            have HT5 := Lib.hid (made_bools (base := w3.heap.size) w4 k HB4.out.size (by unfold maxLen; omega))
            have HA5 := Lib.hid (show Below w4.heap.size w4 (w4.alloc (.cells (madeCells #[.bool false] k) 4)) from (Below.refl _ _).alloc (Nat.le_refl _) _)
            have HZ5 := Lib.hid (show (w4.alloc (.cells (madeCells #[.bool false] k) 4)).heap.size = w4.heap.size + 1 by simp)
            generalize w4.alloc (.cells (madeCells #[.bool false] k) 4) = w5 at *
            have HG5 := Lib.hid (show Below w3.heap.size w3 w5 from HB4.out.trans (HA5.out.mono HB4.out.size))
            have HD5 := Lib.hid (HD3.out.grow (K' := fun b => b < w.heap.size ∨ (w3.heap.size ≤ b ∧ b < w4.heap.size + 1)) HG5.out fun b hb => hb.imp id fun e => ⟨e.1, by have := HZ5.out; omega⟩)
            have HU5 := Lib.hid (Rep.val_below (B := w4.heap.size) HU4.out HA5.out fun b h _ => h.2)
            have HB5 := Lib.hid (HB3.out.trans (HG5.out.mono HB3.out.size))
            have HLE := Lib.hid (show w.heap.size ≤ w3.heap.size ∧ w3.heap.size ≤ w4.heap.size from ⟨HB3.out.size, HB4.out.size⟩)
            generalize hga : w3.heap.size = a at *
            generalize hgg : w4.heap.size = g at *
            clear hga hgg HD3 HB3 HU4 HB4 HA5 HZ5 HG5
            go_loopw [14] (fun i wr => ∃ j : Nat, i = .int .i64 j ∧ j ≤ more.length ∧ DevAt (fun b => b < w.heap.size ∨ (a ≤ b ∧ b < g + 1)) wr P (l.length + j) (runSt t0 (more.take j)) ∧ Rep.bool.acc 4 a (fun _ => False) wr (.slice (some ⟨g, 0, none⟩) k k) (touchedOf k (more.take j)) ∧ Rep.byte.list.val (fun b => a ≤ b ∧ b < g) wr (.slice A4 m4 c4) fl ∧ Below w.heap.size w wr) (fun i _ => more.length - (intOf i).toNat)
            case atStart => exact ⟨0, rfl, Nat.zero_le _, HD5.out, HT5.out, HU5.out, HB5.out⟩
            case round =>
              obtain ⟨j, rfl, hj, hd, ht, hu, hb⟩ := hrel
              have HD := Lib.hid hd
              have HT := Lib.hid ht
              have HU := Lib.hid hu
              have HB := Lib.hid hb
              have HSJ := Lib.hid (run_sound HS3.out (more.take j))
              by_cases hlt : (j : Int) < more.length
              · obtain ⟨x, hx⟩ : ∃ x, more[j]? = some x := ⟨_, List.getElem?_eq_getElem (by omega)⟩
                obtain ⟨b, off, A6, c6, A7, c7, rfl, _, d0, d1, d2, d3, f0, f1, sp, sq⟩ := rStep_at (HX2.out _ hb) hx
                have HV := Lib.hid (rStep_agg (x := x) f0 f1 sp sq)
                have HRUN := Lib.hid (run_succ t0 hx)
                have HTS := Lib.hid (touched_succ k hx)
                have HXX := Lib.hid hx
                clear hd hb ht hu f0 f1 sp sq hx
                go_wp2_with fail
                refine (do_calls HD.out (by have := HL1.out; have := HL2.out; omega) (fun y hy => by have := HSJ.out.sec y hy; omega) (fun i y hy => by have := HSJ.out.wt i y hy; omega) HV.out (fun _ h => .inl h)).mono ?_
                rintro e w2 ⟨u2, rfl, _, hd2, hk2⟩
                rw [← HRUN.out] at hd2
                have HD2 := Lib.hid hd2
                have HB2 := Lib.hid (HB.out.trans (hk2.below (base := w.heap.size) fun b hb => .inl hb))
                have HT2 := Lib.hid (show Rep.bool.acc 4 a (fun _ => False) w2 (.slice (some ⟨g, 0, none⟩) k k) (touchedOf k (more.take j)) from Rep.acc_keep (fun b hb _ => hk2.block b (.inr (hb.elim (fun h => h.elim) fun e => by have e2 : g = b := Option.some.inj e; have := HLE.out.2; omega))) (fun _ h _ => h) HT.out)
                have HU2 := Lib.hid (hk2.val (fun b hb => .inr ⟨hb.1, Nat.lt_succ_of_lt hb.2⟩) HU.out)
                obtain ⟨b', off', A6', c6', A7', c7', e', _, d0', d1', _, _, _, _, _, _⟩ := rStep_at (HX2.out _ HB2.out) HXX.out
                cases e'
                clear hd2 hk2 d0 d1 d2 d3
                by_cases hA : x.act = 1
                · rw [hA] at d0'
                  by_cases hp0 : x.pos < 0
                  · have HN := Lib.hid (show touchedOf k (more.take (j + 1)) = touchedOf k (more.take j) by rw [HTS.out, if_neg (fun e => by omega)])
                    clear hA
                    go_wp2_with fail
                    exact ⟨⟨j + 1, by go_num, by omega, HD2.out, by rw [HN.out]; exact HT2.out, HU2.out, HB2.out⟩, by simp [intOf]; omega⟩
                  · by_cases hp1 : x.pos < (k : Int)
                    · have HN := Lib.hid (show touchedOf k (more.take (j + 1)) = (touchedOf k (more.take j)).set x.pos.toNat true by rw [HTS.out, if_pos ⟨hA, by omega, hp1⟩])
                      obtain ⟨p, hp⟩ : ∃ p : Nat, x.pos = p := ⟨x.pos.toNat, by omega⟩
                      rw [hp] at d1' HN
                      rw [Int.toNat_natCast] at HN
                      have hpk : p < (touchedOf k (more.take j)).length := by rw [touched_length]; omega
                      obtain ⟨g1, cap1, hv1, _, hput⟩ := Rep.acc_put (u := .bool true) (y := true) rfl HT2.out hpk rfl rfl
                      obtain ⟨g2, cap2, u3, hv2, hcell, hfr, _, _, hrd3⟩ := Rep.acc_at rfl HT2.out (List.getElem?_eq_getElem hpk)
                      rw [touched_length] at hv1 hv2
                      cases hv1
                      cases hv2
                      have HPUT := Lib.hid hput
                      have hpk' : (p : Int) < (k : Int) := by omega
                      clear hA hp0 hp1 hp hput hrd3 hpk
                      go_wp2_with fail
                      refine ⟨⟨j + 1, by go_num, by omega, HD2.out.set (.inr ⟨HLE.out.2, Nat.lt_succ_self _⟩), by rw [HN.out]; exact HPUT.out, ?_, HB2.out.setCell (Nat.le_trans HLE.out.1 HLE.out.2) _⟩, by simp [intOf]; omega⟩
                      exact Rep.val_keep (fun b hb _ => ⟨hb, Below.heap_setCell _ _ _ _ (fun e => by have e2 : b = g := e; have := hb.2; omega)⟩) HU2.out
                    · have HN := Lib.hid (show touchedOf k (more.take (j + 1)) = touchedOf k (more.take j) by rw [HTS.out, if_neg (fun e => by omega)])
                      clear hA
                      go_wp2_with fail
                      exact ⟨⟨j + 1, by go_num, by omega, HD2.out, by rw [HN.out]; exact HT2.out, HU2.out, HB2.out⟩, by simp [intOf]; omega⟩
                · have HN := Lib.hid (show touchedOf k (more.take (j + 1)) = touchedOf k (more.take j) by rw [HTS.out, if_neg (fun e => hA e.1)])
                  have qA : (x.act == 1) = false := by simpa using hA
                  clear hA
                  go_wp2_with fail
                  exact ⟨⟨j + 1, by go_num, by omega, HD2.out, by rw [HN.out]; exact HT2.out, HU2.out, HB2.out⟩, by simp [intOf]; omega⟩
              · obtain rfl : j = more.length := by omega
                rw [List.take_length] at *
                clear hd hb ht hu
                go_wp2_with fail
                refine (dev_crash HD.out (by have := HL1.out; have := HL2.out; omega) (HX3.out _ HB.out) (fun _ h => .inl h)).mono ?_
                rintro e w6 ⟨rfl, hd, hk⟩
                have HD6 := Lib.hid hd
                have HB6 := Lib.hid (HB.out.trans (hk.below (base := w.heap.size) fun b hb => .inl hb))
                have HT6 := Lib.hid (show Rep.bool.acc 4 a (fun _ => False) w6 (.slice (some ⟨g, 0, none⟩) k k) (touchedOf k more) from Rep.acc_keep (fun b hb _ => hk.block b (.inr (hb.elim (fun h => h.elim) fun e => by have e2 : g = b := Option.some.inj e; have := HLE.out.2; omega))) (fun _ h _ => h) HT.out)
                have HU6 := Lib.hid (hk.val (fun b hb => .inr ⟨hb.1, Nat.lt_succ_of_lt hb.2⟩) HU.out)
                have HS6 := Lib.hid (crash_sound HSJ.out fates)
                have HSAME := Lib.hid (show ∀ i, (touchedOf k more)[i]? = some false → (crashSt (runSt t0 more) fates).safe[i]? = t0.safe[i]? from fun i hi => by
                  have h := untouched_still (k := k) HE3.out (l := more) (i := i) more.length (Nat.le_refl _) (by rw [List.take_length]; exact hi)
                  rw [List.take_length] at h
                  exact (crash_still h fates).2)
                have HQA := Lib.hid (quiet_after (runSt t0 more) fates fates)
                have HOFF := Lib.hid (crash_calm (runSt t0 more) fates)
                clear hd hk HD HT HU HB HSJ
                generalize crashSt (runSt t0 more) fates = t1 at *
                go_wp2_with fail
                refine (dev_bytes HD6.out (by rw [sec_len HS6.out]; omega)).mono ?_
                rintro e w7 ⟨u7, rfl, hu7, hb7⟩
                obtain ⟨A7, c7, rfl, hc7, hm7⟩ := Rep.acc_form hu7
                have hown7 := Rep.acc_own hu7
                have HU7 := Lib.hid (Rep.val_mono (Q' := fun b => w6.heap.size ≤ b ∧ b < w7.heap.size) (fun b hb _ => hb.elim (fun h => h.elim) fun e => hown7 b e) (Rep.acc_val hu7))
                have HB7 := Lib.hid (HB6.out.trans (hb7.mono HB6.out.size))
                have HD7 := Lib.hid (HD6.out.grow (K' := fun b => b < w.heap.size ∨ (w6.heap.size ≤ b ∧ b < w7.heap.size)) hb7 fun b hb => hb.elim (fun e => .inl (.inl e)) .inr)
                have HT7 := Lib.hid (show ∀ W', Below w7.heap.size w7 W' → Rep.bool.acc 4 a (fun _ => False) W' (.slice (some ⟨g, 0, none⟩) k k) (touchedOf k more) from fun W' hb => by
                  have hlt : ∀ b, (Value.slice (some ⟨g, 0, none⟩) k k).ownBlock = some b → b < w6.heap.size := fun b e => (Rep.acc_own HT6.out b e).2
                  exact Rep.acc_keep (fun b hb' _ => hb'.elim (fun h => h.elim) fun e => (hb.block b (Nat.lt_of_lt_of_le (hlt b e) hb7.size)).trans (hb7.block b (hlt b e))) (fun _ h _ => h) HT6.out)
                have HU67 := Lib.hid (show Rep.byte.list.val (fun b => b < w6.heap.size) w7 (.slice A4 m4 c4) fl from Rep.val_below (B := w6.heap.size) (Rep.val_any HU6.out) hb7 fun _ h _ => h)
                clear hu7 hb7 hown7
                have hlen7 : (t1.safe.flatten.length : Int) = 512 * (k : Int) := by rw [sec_len HS6.out]; omega
                have HFL1 := Lib.hid (sec_len HS6.out)
                have HSEC1 := Lib.hid (fun i (hi : i < k) => sec_get HS6.out hi)
                have HFE := Lib.hid (show ∀ i, i < k → (touchedOf k more)[i]? = some false → (t1.safe.flatten.drop (512 * i)).take 512 = (fl.drop (512 * i)).take 512 from fun i hi ht => by
                  obtain ⟨y, hy, h1, _⟩ := HSEC.out i hi
                  obtain ⟨z, hz, h2, _⟩ := HSEC1.out i hi
                  rw [HSAME.out i ht, hy] at hz
                  rw [h1, h2]; exact (Option.some.inj hz).symm)
                have HBND := Lib.hid (show t1.safe.flatten.length ≤ 1000000000 by rw [sec_len HS6.out]; omega)
                generalize hfl1 : t1.safe.flatten = fl1 at *
                have HE1 := Lib.hid hfl1
                have HC7 := Lib.hid hc7
                have HM7 := Lib.hid hm7
                clear hc7 hm7
                generalize hml1 : fl1.length = m7 at *
                have HML1 := Lib.hid hml1
                clear hml1 hfl1
                have q7 : ((m7 : Int) != 512 * (k : Int)) = false := by simp [hlen7]
                clear hlen7
                go_wp2_with fail
                refine (dev_off HD7.out).mono ?_
                rintro e w8 ⟨rfl, hw⟩
                have hw2 := hw.symm
                subst hw2
                clear hw
                rw [HOFF.out]
                go_wp2_with fail
                go_loopw [16] (fun i wr => ∃ j : Nat, i = .int .i64 j ∧ j ≤ k ∧ Below w7.heap.size w7 wr) (fun i _ => k - (intOf i).toNat)
                case atStart => exact ⟨0, rfl, Nat.zero_le _, Below.refl _ _⟩
                case round =>
                  obtain ⟨j, rfl, hj, hb⟩ := hrel
                  have HBR := Lib.hid hb
                  by_cases hlt : (j : Int) < k
                  · have hjk : j < (touchedOf k more).length := by rw [touched_length]; omega
                    obtain ⟨t, ht⟩ : ∃ t, (touchedOf k more)[j]? = some t := ⟨_, List.getElem?_eq_getElem hjk⟩
                    obtain ⟨g2, cap2, u3, hv2, hcell, hfr, _, _, hrd3⟩ := Rep.acc_at rfl (HT7.out _ hb) ht
                    rw [touched_length] at hv2
                    cases hv2
                    have hu3 : u3 = .bool t := by have h : [u3] = [Value.bool t] := hrd3; cases h; rfl
                    subst hu3
                    clear hrd3 hfr hjk
                    cases t with
                    | true =>
                      clear hb ht
                      go_wp2_with fail
                      go_quiet (fail)
                      go_wp2_with fail
                      exact ⟨⟨j + 1, by go_num, by omega, HBR.out.trans (below_drewN (Below.refl _ _) nq)⟩, by simp [intOf]; omega⟩
                    | false =>
                      obtain ⟨A4', c4', he, hc4, hm4, hat4⟩ := Rep.val_list (Rep.val_below (B := w7.heap.size) (Rep.val_any HU67.out) hb fun _ h _ => h)
                      cases he
                      obtain ⟨A7', c7', he, hc7, hm7, hat7⟩ := Rep.val_list (Rep.val_below (B := w7.heap.size) (Rep.val_any HU7.out) hb fun _ h _ => h)
                      cases he
                      have l4 := HML.out
                      have l7 := HML1.out
                      have f4 := HFL.out
                      have f7 := HFL1.out
                      obtain ⟨b4, o4, rfl⟩ := hat4.addr (by omega)
                      obtain ⟨b7, o7, rfl⟩ := hat7.addr (by omega)
                      have hat4' := (hat4.drop (n := 512 * j) (by omega)).take 512
                      have hat7' := (hat7.drop (n := 512 * j) (by omega)).take 512
                      simp only [Rep.byte, Nat.mul_one] at hat4' hat7'
                      have HQ := Lib.hid (show ∀ m, Calls Try.prog 19 #[.slice (some ⟨b7, o7 + 512 * j, none⟩) 512 (c7 - 512 * j), .slice (some ⟨b4, o4 + 512 * j, none⟩) 512 (c4 - 512 * j)] (wr.drewN m) fun e w' => e = .returned (.bool true) ∧ w' = wr.drewN m from fun m => by
                        have h1 : Rep.byte.list.val _ (wr.drewN m) (.slice (some ⟨b7, o7 + 512 * j, none⟩) 512 (c7 - 512 * j)) ((fl1.drop (512 * j)).take 512) := Rep.list_val (by rw [List.length_take, List.length_drop]; omega) (by omega) (by omega) (hat7'.drewN m)
                        have h2 : Rep.byte.list.val _ (wr.drewN m) (.slice (some ⟨b4, o4 + 512 * j, none⟩) 512 (c4 - 512 * j)) ((fl.drop (512 * j)).take 512) := Rep.list_val (by rw [List.length_take, List.length_drop]; omega) (by omega) (by omega) (hat4'.drewN m)
                        have h3 := sameBytes h1 h2
                        rw [decide_eq_true (HFE.out j (by omega) ht)] at h3
                        exact h3)
                      unfold maxLen at hm4 hm7
                      have j1 : (0 : Int) ≤ 512 * (j : Int) := by omega
                      have j2 : 512 * (j : Int) ≤ 512 * (j : Int) + 512 := by omega
                      have j3 : 512 * (j : Int) + 512 ≤ c7 := by omega
                      have j3' : 512 * (j : Int) + 512 ≤ c4 := by omega
                      have j4 : (512 * (j : Int)).toNat = 512 * j := by omega
                      have j5 : (512 * (j : Int) + 512).toNat - 512 * j = 512 := by omega
                      have w2' : IntKind.i64.wrap (512 * (j : Int)) = 512 * (j : Int) := IntWalk.i64_in _ ⟨by omega, by omega⟩
                      have w3' : IntKind.i64.wrap (512 * (j : Int) + 512) = 512 * (j : Int) + 512 := IntWalk.i64_in _ ⟨by omega, by omega⟩
                      clear hb ht hat4 hat7 hat4' hat7' hc4 hc7 hm4 hm7 l4 l7 f4 f7
                      go_wp2_with fail
                      go_quiet ((go_at_call 19; exact Calls.quiet_of_same (HQ.out _)))
                      go_wp2_with fail
                      exact ⟨⟨j + 1, by go_num, by omega, HBR.out.trans (below_drewN (Below.refl _ _) nq)⟩, by simp [intOf]; omega⟩
                  · clear hb
                    have HDW := Lib.hid (HD7.out.below HBR.out)
                    have HBW := Lib.hid (HB7.out.trans (HBR.out.mono HB7.out.size))
                    have HUW := Lib.hid (Rep.val_below (B := w7.heap.size) HU7.out HBR.out fun b h _ => h.2)
                    clear HBR HU67 HT7 HT6 HU6 HSAME HSEC HSEC1 HFE
                    go_wp2_with fail
                    refine (dev_sync HDW.out).mono ?_
                    rintro e w9 ⟨rfl, hd, hk⟩
                    rw [HQA.out.1]
                    have HD9 := Lib.hid hd
                    have HB9 := Lib.hid (HBW.out.trans (hk.below (base := w.heap.size) fun b hb => .inl hb))
                    have HU9 := Lib.hid (hk.val (fun b hb => .inr hb) HUW.out)
                    clear hd hk HDW HBW HUW
                    go_wp2_with fail
                    refine (code04 0 _).mono ?_
                    rintro e w8 ⟨rfl, hw8⟩
                    have hw9 := hw8.symm
                    subst hw9
                    clear hw8
                    go_wp2_with fail
                    refine (dev_crash HD9.out (by have := HL1.out; have := HL2.out; omega) (HX3.out _ HB9.out) (fun _ h => .inl h)).mono ?_
                    rintro e w10 ⟨rfl, hd, hk⟩
                    have HD10 := Lib.hid hd
                    have HB10 := Lib.hid (HB9.out.trans (hk.below (base := w.heap.size) fun b hb => .inl hb))
                    have HU10 := Lib.hid (hk.val (fun b hb => .inr hb) HU9.out)
                    clear hd hk HD9 HB9 HU9
                    go_wp2_with fail
                    refine (dev_bytes HD10.out (by rw [HQA.out.2.1, HE1.out, HML1.out]; exact HBND.out)).mono ?_
                    rintro e w11 ⟨u11, rfl, hu11, hb11⟩
                    rw [HQA.out.2.1, HE1.out] at hu11
                    have HU11 := Lib.hid (Rep.acc_val hu11)
                    have HB11 := Lib.hid (HB10.out.trans (hb11.mono HB10.out.size))
                    have HD11 := Lib.hid (HD10.out.below hb11)
                    have HV11 := Lib.hid (Rep.val_below (B := w10.heap.size) (Rep.val_any HU10.out) hb11 fun _ h _ => h)
                    clear hu11 hb11 HD10 HB10 HU10
                    go_wp2_with fail
                    refine (sameBytes HU11.out HV11.out).mono ?_
                    rintro e w12 ⟨rfl, hw8⟩
                    have hw9 := hw8.symm
                    subst hw9
                    clear hw8
                    simp only [decide_true]
                    go_wp2_with fail
                    refine (dev_dirty HD11.out (by have := HL1.out; have := HL2.out; omega)).mono ?_
                    rintro e w13 ⟨u13, rfl, hu13, hb13⟩
                    rw [HQA.out.2.2] at hu13
                    obtain ⟨A13, c13, rfl, _, _⟩ := Rep.acc_form hu13
                    have HB13 := Lib.hid (HB11.out.trans (hb13.mono HB11.out.size))
                    clear hu13 hb13
                    go_wp2_with fail
                    refine (live04_calls _).mono ?_
                    rintro e w14 ⟨rfl, hb14⟩
                    have HB14 := Lib.hid (HB13.out.trans (hb14.mono HB13.out.size))
                    clear hb14
                    go_wp2_with fail
                    go_ret
                    exact ⟨rfl, HB14.out⟩
end Go.Proofs.Ytecdbfbaclgejaa
