/- Texts on which the proofs stand, part 6: DiskSync, SortInts, Dirty, DiskCrash, StepType, DiskMath, RDiskType, RDiskMath, RDisk, TearMath, RTear, DiskBytes, Dev. No condition is laid on any input. -/
import Derived.Test.YtcfgckpjgihcgaaDskJ5
import Derived.Test.YtcfgckpjgihcgaaShelf
import Derived.Sort.OwnSortedInts
/- Walk of a sync. -/
namespace Go.Proofs.Ytcfgckpjgihcgaa
open Go.RowKit

theorem Only.drew {F : Nat → Prop} {X Y : World} (h : Only F X Y) : Only F X Y.drew := ⟨h.os, h.tape, h.output, h.size, h.block⟩
/-- The sectors where those that are not left are written. -/
def syncTo (s : DiskSt) (left : Lit → Bool) : List (List UInt8) := (List.range s.safe.length).map fun i => if left (.int .i64 (i : Nat)) then s.safe.getD i [] else lastSt s (i : Nat)
def syncSt (s : DiskSt) : DiskSt := { s with safe := (List.range s.safe.length).map fun i => lastSt s (i : Nat), wait := fun _ => [] }
def syncRes (st : DiskSt) : DiskSt × Int := if (burnSt st).2 = 0 then (syncSt (burnSt st).1, 0) else burnSt st
theorem syncTo_length (s : DiskSt) (left : Lit → Bool) : (syncTo s left).length = s.safe.length := by unfold syncTo; rw [List.length_map, List.length_range]
theorem syncTo_all (s : DiskSt) {left : Lit → Bool} (h : ∀ i : Nat, left (.int .i64 (i : Int)) = false → s.wait i = []) : syncTo s left = s.safe := by
  unfold syncTo
  apply List.ext_getElem
  · simp
  · intro i h1 h2
    rw [List.getElem_map, List.getElem_range]
    split
    · rw [List.getD_eq_getElem?_getD, List.getElem?_eq_getElem h2]; rfl
    · rename_i hl
      unfold lastSt
      rw [h i (by simpa using hl), List.getD_eq_getElem?_getD, Int.toNat_natCast, List.getElem?_eq_getElem h2]; rfl
theorem syncTo_none (s : DiskSt) {left : Lit → Bool} (h : ∀ z, left z = false) : syncTo s left = (syncSt s).safe := by
  unfold syncTo syncSt
  dsimp only
  apply List.map_congr_left
  intro i _
  rw [h]; rfl
theorem sameKey_int (i j : Int) : (Lit.int .i64 i).sameKey (.int .i64 j) = decide (i = j) := by
  by_cases h : i = j
  · subst h; rw [decide_eq_true rfl]; exact WideAt.sameKey_self (key_lit i)
  · rw [decide_eq_false h]
    cases hs : (Lit.int .i64 i).sameKey (.int .i64 j) with
    | false => rfl
    | true => exact absurd (by have := WideAt.sameKey_eq hs; cases this; rfl) h
theorem syncTo_step (s : DiskSt) (left : Lit → Bool) {k : Nat} : syncTo s (fun z => left z && !z.sameKey (.int .i64 (k : Int))) = (syncTo s left).set k (lastSt s k) := by
  unfold syncTo
  apply List.ext_getElem
  · simp
  · intro i h1 h2
    rw [List.getElem_set]
    simp only [List.getElem_map, List.getElem_range, sameKey_int]
    by_cases hk : k = i
    · subst hk; simp
    · have : ¬ (i : Int) = (k : Int) := by omega
      rw [if_neg hk]; simp [this]

set_option maxRecDepth 100000 in
set_option maxHeartbeats 4000000 in
/-- (*disk.Disk).Sync -/
theorem dsync_calls {W : World} {P : Nat} {F B : Nat → Prop} {n : Nat} {st : DiskSt} (h : DiskAt W P F B n st) :
    Calls Try.prog 86 #[.pointer (some ⟨P, 0, none⟩)] W (StepPost F B P n W (syncRes st)) := by
  have HA := Lib.hid h
  by_cases hc : (burnSt st).2 = 0
  case neg =>
    have HF := Lib.hid (show syncRes st = burnSt st by unfold syncRes; rw [if_neg hc])
    have g0 : ((burnSt st).2 == 0) = false := by simpa using hc
    clear h hc
    go_enter Try.func86, Try.ntmps86
    go_wp2_with fail
    refine (burn_calls HA.out).mono ?_
    rintro e w1 ⟨rfl, hd1, ho⟩
    have HD1 := Lib.hid hd1
    have HO := Lib.hid ho
    clear hd1 ho
    go_wp2_with fail
    go_ret
    exact ⟨by rw [HF.out]; rfl, by rw [HF.out]; exact HD1.out, HO.out⟩
  case pos =>
    have HF := Lib.hid (show syncRes st = (syncSt (burnSt st).1, 0) by unfold syncRes; rw [if_pos hc])
    have HC := Lib.hid hc
    clear h hc
    go_enter Try.func86, Try.ntmps86
    go_wp2_with fail
    refine (burn_calls HA.out).mono ?_
    rintro e w1 ⟨rfl, hd1, ho⟩
    rw [HC.out]
    generalize (burnSt st).1 = s1 at *
    obtain ⟨Sf, cs, M, D, hd1⟩ := hd1
    have HD1 := Lib.hid hd1
    have HO1 := Lib.hid ho
    have e1 := cell_row hd1.blk 1
    have hr1 := ho.size
    clear ho
    go_wp2_with (at_range; refine wpList_range_own _ rfl _ 209 rfl 3 24 int_law Try.underlying209 heldElem M n D (by exact rfl) HD1.out.map ?_; intro w2 hrg2 hg2 hs2)
    go_frame
    generalize hr : w1.heap.size = r at *
    have HR := Lib.hid hr
    have hst2 : syncTo s1 (Go.Maps.has D) = s1.safe := syncTo_all s1 (fun i hi => by
      cases hw : s1.wait i with
      | nil => rfl
      | cons y ys => have := HD1.out.of_wait (i := (i : Int)) (by rw [hw]; simp); rw [hi] at this; cases this)
    have HD2 := Lib.hid (show DiskW w2 P Sf cs M D F B n { s1 with safe := syncTo s1 (Go.Maps.has D) } by rw [hst2]; exact HD1.out.keep hg2.size (fun b hb => hg2.block b (HD1.out.lt b hb) (by simp)))
    have HG2 := Lib.hid (show Only F W w2 from HO1.out.trans ⟨hg2.os, hg2.tape, hg2.output, hg2.size, fun b hb _ => hg2.block b hb (by simp)⟩)
    clear hr hd1 e1 hst2 hg2 hs2
    have HRW := Lib.hid (show W.heap.size ≤ r by have := HR.out; omega)
    have HRB := Lib.hid (show ∀ b, F b ∨ B b → b < r from fun b hb => by have := HD1.out.lt b hb; have := HR.out; omega)
    go_loopw [] (fun wr => ∃ left cnt, wr.ranges Try.prog 3 heldElem M r n D left cnt ∧ DiskW wr P Sf cs M D F B n { s1 with safe := syncTo s1 left } ∧ Only F W wr) (fun wr => wr.rangeLeft M r)
    case atStart => exact ⟨_, _, hrg2, HD2.out, HG2.out⟩
    case round =>
      obtain ⟨left, cnt, hrg, hdw, ho⟩ := hrel
      have HRG := Lib.hid hrg
      have HDW := Lib.hid hdw
      have HO := Lib.hid ho
      have hN := syncTo_length s1 left
      clear hrg ho hrg2
      go_wp2_with (at_next; refine wpList_next_ranges _ rfl _ rfl 3 int_law heldElem (Value.int .i64) (fun v : Value => v) (fun key kl hkey => by obtain ⟨x, rfl, _⟩ := Go.Maps.keyOf_int_inv Try.underlying3 hkey; exact ⟨x, rfl⟩) (fun v y hv => ⟨v, rfl⟩) M r n D left cnt (by exact rfl) HRG.out ?_ ?_)
      · intro hc0 hl0
        have e1 := cell_row hdw.blk 1
        have HFIN := Lib.hid (syncTo_none s1 hl0)
        obtain ⟨es, clock, hmb, _⟩ := HRG.out.owns
        obtain ⟨w9, c9, hrun, hm9, hs9, hk9, ho9⟩ := clear_map (ty := 0) hmb
        have H9 := Lib.hid (HDW.out.struck hm9 hs9 hk9)
        have O9 := Lib.hid (show Only F W w9 from HO.out.trans ⟨ho9.1, ho9.2.1, ho9.2.2, Nat.le_of_eq hs9.symm, fun b _ hf => hk9 b (fun e => hf (e ▸ HDW.out.fM))⟩)
        clear hl0 hc0 hm9 hs9 hk9 ho9 hdw
        go_wp2_with fail
        go_ret
        refine ⟨by rw [HF.out]; rfl, ?_, O9.out⟩
        rw [HF.out]
        have := H9.out
        rw [HFIN.out] at this
        exact ⟨_, _, _, _, this⟩
      · intro x c kl ya yb w3 cnt3 hkey hlk hv hat hrg3 hlt3 hg3 hs3 hen
        obtain ⟨x', ex, rfl, hwx⟩ := Go.Maps.keyOf_int_inv Try.underlying3 hkey
        cases ex
        obtain ⟨rfl, rfl⟩ : ya = .held c ∧ yb = [] := by unfold heldElem at hv; have := Option.some.inj hv; exact ⟨(congrArg Prod.fst this).symm, (congrArg Prod.snd this).symm⟩
        have hc : valAt D x = c := by unfold valAt; rw [hat]
        have hw : s1.wait x ≠ [] := hdw.has x (Go.Maps.has_true_of_atKey hat)
        have hxk := HD1.out.keys x hw
        obtain ⟨k, rfl⟩ : ∃ k : Nat, x = k := ⟨x.toNat, by omega⟩
        have hkN : k < s1.safe.length := by omega
        have hg3' := hg3
        have hdw3 : DiskW w3 P Sf cs M D F B n { s1 with safe := syncTo s1 left } := HDW.out.keep hg3.size (fun b hb => hg3.block b (HDW.out.lt b hb) (fun e => by have := HRB.out b hb; have := Option.some.inj e; omega))
        obtain ⟨z, zs, hz⟩ : ∃ z zs, s1.wait k = z :: zs := by cases hq : s1.wait k with
          | nil => exact absurd hq hw
          | cons a b => exact ⟨a, b, rfl⟩
        obtain ⟨m, hm⟩ : ∃ m, (s1.wait k).length = m + 1 := ⟨zs.length, by rw [hz]; rfl⟩
        obtain ⟨yb, hyb⟩ : ∃ yb, (s1.wait k)[m]? = some yb := ⟨_, List.getElem?_eq_getElem (by omega)⟩
        have hlast : lastSt s1 k = yb := by
          unfold lastSt
          rw [List.getLast?_eq_getElem?, hm, Nat.add_sub_cancel, hyb]; rfl
        obtain ⟨gw, B7, c7, capw, hvw, hcw, _, hgw, hval⟩ := Rep.acc_elem (hdw3.wt k) hyb
        have hvl : Rep.byte.list.val B w3 (.slice B7 yb.length c7) yb := Rep.val_mono (fun b hb _ => hb.1) hval
        obtain ⟨g, rfl, hFg, hset⟩ := hdw3.setSafe (i := k) (by show k < (syncTo s1 left).length; rw [hN]; exact hkN) hvl
        obtain ⟨ys, hys⟩ : ∃ ys, (syncTo s1 left)[k]? = some ys := ⟨_, List.getElem?_eq_getElem (by rw [hN]; exact hkN)⟩
        obtain ⟨g', B8, c8, cap8, hv8, hc8, hz8, hg8, _⟩ := Rep.acc_elem hdw3.safe hys
        cases hv8
        have hne : gw ≠ g := fun e => hdw3.dSW k gw (by rw [hvw]; rfl) (by rw [e]; rfl)
        have hPg : P ≠ g := fun e => hdw3.sP (b := g) rfl e.symm
        have hMg : M ≠ g := fun e => hdw3.sM (b := g) rfl e.symm
        rw [hc, hm] at hvw
        subst hvw
        have hb0 : w3.cell? ⟨P, 0, none⟩ = some (.slice (some ⟨g, 0, none⟩) s1.safe.length cs) := (cell_row hdw3.blk 0).trans (show some (Value.slice (some ⟨g, 0, none⟩) (syncTo s1 left).length cs) = _ by rw [hN])
        have hmx : (m : Int) + 1 ≤ 9223372036854775807 := by
          obtain ⟨A', c', he, h1, h2⟩ := Rep.acc_form (hdw3.wt k)
          have h3 : (s1.wait k).length = m + 1 := hm
          have h1' : (s1.wait k).length ≤ c' := h1
          unfold maxLen at h2; omega
        have KS := Lib.hid (show ∀ W' : World, (∀ b, b ≠ g → W'.heap[b]? = w3.heap[b]?) → W'.cell? ⟨P, 0, none⟩ = some (.slice (some ⟨g, 0, none⟩) s1.safe.length cs) ∧ W'.cell? ⟨gw, m, none⟩ = some (.slice B7 yb.length c7) from fun W' hk => ⟨(show W'.cell? ⟨P, 0, none⟩ = w3.cell? ⟨P, 0, none⟩ by simp only [World.cell?, hk P hPg]).trans hb0, (show W'.cell? ⟨gw, m, none⟩ = w3.cell? ⟨gw, m, none⟩ by simp only [World.cell?, hk gw hne]).trans hcw⟩)
        have HSET := Lib.hid hset
        have HG3 := Lib.hid hg3
        have HRG3 := Lib.hid hrg3
        have HFG := Lib.hid hFg
        have HLK := Lib.hid hlast
        have HMG := Lib.hid hMg
        have HLT3 := Lib.hid hlt3
        have hkI : (k : Int) < (s1.safe.length : Int) := by omega
        have i1 : IntKind.i64.wrap (m : Int) = m := IntWalk.i64_in _ ⟨by omega, by omega⟩
        have i2 : IntKind.i64.wrap ((m : Int) + 1 - 1) = m := by rw [Int.add_sub_cancel]; exact i1
        have i4 : (m : Int) < (m : Int) + 1 := by omega
        generalize s1.safe.length = N at *
        generalize yb.length = yl at *
        clear hb0 hcw hdw hdw3 hset hg3 hrg3 hFg hlast hval hvl hyb hz hw hxk hys hv hat hkey hlk hlt3 hs3 hc hne hPg hMg hm hg3'
        go_wp2_with fail
        go_region_held3 (fun W' => W'.cell? ⟨P, 0, none⟩ = some (.slice (some ⟨g, 0, none⟩) N cs) ∧ W'.cell? ⟨gw, m, none⟩ = some (.slice B7 yl c7))
          (first
            | exact KS.out _ (fun _ _ => rfl)
            | exact KS.out _ (fun b hb => Below.heap_setCell _ _ _ _ hb))
          (first | fail)
        go_wp2_with fail
        have hgr : g < r := HRB.out g (.inl HFG.out)
        have hrs := HO.out.size
        have HR9 := Lib.hid (show (w3.setCell ⟨g, k, none⟩ (.slice B7 yl c7)).drew.ranges Try.prog 3 heldElem M r n D (fun z => left z && !z.sameKey (.int .i64 (k : Int))) cnt3 from
          HRG3.out.kept (row := some g) ⟨rfl, rfl, rfl, by simp, fun b _ hb => Below.heap_setCell _ _ _ _ (fun e => hb (by rw [e]))⟩ (fun e => HMG.out (Option.some.inj e)) (fun e => by have := Option.some.inj e; omega))
        have HO9 : Only F W (w3.setCell ⟨g, k, none⟩ (.slice B7 yl c7)).drew := Only.drew <| (show Only F W w3 from ⟨HG3.out.os.trans HO.out.os, HG3.out.tape.trans HO.out.tape, HG3.out.output.trans HO.out.output, Nat.le_trans hrs HG3.out.size, fun b hb hf => (HG3.out.block b (by omega) (fun e => by have := Option.some.inj e; omega)).trans (HO.out.block b hb hf)⟩).trans (Only.set HFG.out)
        refine ⟨⟨_, cnt3, HR9.out, ?_, HO9⟩, ?_⟩
        · have := HSET.out
          rw [syncTo_step, HLK.out]
          exact this.keep (Nat.le_refl _) (fun _ _ => rfl)
        · rw [HR9.out.left_eq, HRG.out.left_eq]
          exact HLT3.out
end Go.Proofs.Ytcfgckpjgihcgaa
/- The library's slices.Sort of a slice of the call's own. -/
namespace Go.Proofs.Ytcfgckpjgihcgaa
open Go.RowKit

theorem int_row {Q : Nat → Prop} {w : World} : ∀ {xs : List Int} {cs : List Value}, (Rep.int .i64).row Q w cs xs ↔ cs = xs.map (Value.int .i64) ∧ ∀ x ∈ xs, (Lit.int .i64 x).wf = true
  | [], cs => ⟨fun h => ⟨h, fun x hx => by cases hx⟩, fun h => h.1⟩
  | x :: xs, cs => by
    constructor
    · rintro ⟨es, rest, rfl, ⟨rfl, hw⟩, h⟩
      obtain ⟨rfl, hr⟩ := int_row.1 h
      exact ⟨rfl, fun y hy => (List.mem_cons.1 hy).elim (fun e => e ▸ hw) (hr y)⟩
    · rintro ⟨rfl, h⟩
      exact ⟨[_], _, rfl, ⟨rfl, h x (by simp)⟩, int_row.2 ⟨rfl, fun y hy => h y (by simp [hy])⟩⟩

theorem sortInts_calls {base : Nat} {Q : Nat → Prop} {w : World} {v : Value} {ks : List Int} (h : (Rep.int .i64).acc 3 base Q w v ks) (hl : ks.length ≤ 1000000000000) :
    Calls Try.prog 169 #[v] w fun e w' => e = .returned (.tuple #[]) ∧ (Rep.int .i64).acc 3 base Q w' v (ks.mergeSort fun x y => decide (x ≤ y)) ∧ w.grownBy w' v.ownBlock := by
  obtain ⟨cells, h1, h2⟩ := h
  obtain ⟨rfl, hwf⟩ := int_row.1 h2
  rcases h1.2 with ⟨rfl, h0⟩ | ⟨g, cap, cur, rfl, hb, hg, g1, g2, g3, g4⟩
  · have : ks = [] := List.eq_nil_of_length_eq_zero (by omega)
    subst this
    refine (Try.slices_Sort_int_none none 0 w).mono ?_
    rintro e w' ⟨rfl, rfl⟩
    exact ⟨rfl, by rw [List.mergeSort_nil]; exact Rep.acc_nil, ⟨rfl, rfl, rfl, Nat.le_refl _, fun _ _ _ => rfl⟩⟩
  · refine (Try.slices_Sort_int g 0 cap ks w (holds_of_blockI hg (by simpa [Rep.int] using g4)) (Array.getElem?_eq_some_iff.1 hg).1 (by omega)).mono ?_
    rintro e w' ⟨rfl, n, os, rfl⟩
    refine ⟨rfl, ⟨(ks.mergeSort fun x y => decide (x ≤ y)).map (Value.int .i64), ?_, int_row.2 ⟨rfl, fun x hx => hwf x (List.mem_mergeSort.1 hx)⟩⟩, grownBy_sortedI _⟩
    rw [List.length_mergeSort]
    exact ownsRow_sortedI (ts := ks.mergeSort fun x y => decide (x ≤ y)) (List.length_mergeSort ..) hb hg g1 g2 g3
end Go.Proofs.Ytcfgckpjgihcgaa
/- Walk of the list of sectors that have waiting writes. -/
namespace Go.Proofs.Ytcfgckpjgihcgaa
open Go.RowKit

def dirtyOf (s : DiskSt) : List Int := ((List.range s.safe.length).filter fun i => !(s.wait (i : Nat)).isEmpty).map fun i : Nat => (i : Int)
theorem dirty_mem {s : DiskSt} {z : Int} (hk : ∀ i, s.wait i ≠ [] → 0 ≤ i ∧ i < s.safe.length) : z ∈ dirtyOf s ↔ s.wait z ≠ [] := by
  unfold dirtyOf
  rw [List.mem_map]
  constructor
  · rintro ⟨i, hi, rfl⟩
    have := (List.mem_filter.1 hi).2
    intro e; rw [e] at this; cases this
  · intro hz
    obtain ⟨h0, h1⟩ := hk z hz
    refine ⟨z.toNat, List.mem_filter.2 ⟨List.mem_range.2 (by omega), ?_⟩, by omega⟩
    rw [show ((z.toNat : Nat) : Int) = z by omega]
    cases hw : s.wait z with
    | nil => exact absurd hw hz
    | cons _ _ => rfl
theorem dirty_sorted (s : DiskSt) : (dirtyOf s).Pairwise (· < ·) := by
  unfold dirtyOf
  rw [List.pairwise_map]
  exact (List.pairwise_lt_range.filter _).imp (fun h => Int.ofNat_lt.2 h)
theorem sorted_unique : ∀ {xs ys : List Int}, xs.Pairwise (· ≤ ·) → ys.Pairwise (· ≤ ·) → xs.Perm ys → xs = ys
  | [], ys, _, _, h => by rw [List.nil_perm.1 h]
  | x :: xs, [], _, _, h => by have := h.length_eq; simp at this
  | x :: xs, y :: ys, hx, hy, h => by
    obtain ⟨hx1, hx2⟩ := List.pairwise_cons.1 hx
    obtain ⟨hy1, hy2⟩ := List.pairwise_cons.1 hy
    have e : x = y := by
      have m1 : x ∈ y :: ys := h.mem_iff.1 (by simp)
      have m2 : y ∈ x :: xs := h.mem_iff.2 (by simp)
      rcases List.mem_cons.1 m1 with r | m1
      · exact r
      · rcases List.mem_cons.1 m2 with r | m2
        · exact r.symm
        · have := hx1 y m2; have := hy1 x m1; omega
    subst e
    rw [sorted_unique hx2 hy2 ((List.perm_cons x).1 h)]
theorem sort_dirty {s : DiskSt} {ks : List Int} (hn : ks.Nodup) (hm : ∀ z, z ∈ ks ↔ z ∈ dirtyOf s) : ks.mergeSort (fun x y => decide (x ≤ y)) = dirtyOf s := by
  have h1 : (ks.mergeSort (fun x y => decide (x ≤ y))).Pairwise (fun x y => decide (x ≤ y) = true) := List.pairwise_mergeSort (by simp; omega) (by simp; omega) ks
  refine sorted_unique (h1.imp (fun h => by simpa using h)) ((dirty_sorted s).imp (fun h => by omega)) ((List.mergeSort_perm ks _).trans ?_)
  exact (List.perm_ext_iff_of_nodup hn ((dirty_sorted s).imp (fun h => by omega))).2 hm

set_option maxRecDepth 100000 in
set_option maxHeartbeats 4000000 in
/-- (*disk.Disk).Dirty -/
theorem ddirty_calls {W : World} {P : Nat} {F B : Nat → Prop} {n : Nat} {st : DiskSt} (h : DiskAt W P F B n st) (hn : n ≤ 1000000000) :
    Calls Try.prog 74 #[.pointer (some ⟨P, 0, none⟩)] W (ResA (Rep.int .i64) 3 W (dirtyOf st)) := by
  obtain ⟨Sf, cs, M, D, hd⟩ := h
  have HD := Lib.hid hd
  have e1 := cell_row hd.blk 1
  have HSZ := Lib.hid (Nat.le_trans hd.map.size_le hn)
  clear hd hn
  go_enter Try.func74, Try.ntmps74
  go_wp2_with (at_range; refine wpList_range_own _ rfl _ 209 rfl 3 24 int_law Try.underlying209 heldElem M n D (by exact rfl) HD.out.map ?_; intro w2 hrg2 hg2 hs2)
  go_frame
  generalize hr : W.heap.size = r at *
  have HR := Lib.hid hr
  have HB2 := Lib.hid (show Below r W w2 from ⟨hg2.os, hg2.tape, hg2.output, hg2.size, fun b hb => hg2.block b (by omega) (by simp)⟩)
  have HLT := Lib.hid (show M < r by have := HD.out.lt M (.inl HD.out.fM); omega)
  have HS2 := Lib.hid (show w2.heap.size = r + 1 by omega)
  clear hr e1 hg2 hs2
  go_loopw [3] (fun u wr => ∃ left cnt ks, wr.ranges Try.prog 3 heldElem M r n D left cnt ∧ (Rep.int .i64).acc 3 (r + 1) (fun _ => False) wr u ks ∧ Below r W wr ∧ r + 1 ≤ wr.heap.size ∧ Hid (ks.length + cnt ≤ Go.Maps.size D) ∧ Hid (ks.Nodup) ∧ Hid (∀ z : Int, z ∈ ks ↔ (Go.Maps.has D (.int .i64 z) = true ∧ left (.int .i64 z) = false))) (fun _ wr => wr.rangeLeft M r)
  case atStart => exact ⟨Go.Maps.has D, _, [], hrg2, Rep.acc_nil, HB2.out, Nat.le_of_eq HS2.out.symm, by unfold Hid; simp, List.nodup_nil, fun z => by simp⟩
  case round =>
    obtain ⟨left, cnt, ks, hrg, hacc, hbel, hsz, hlen, hnd, hmem⟩ := hrel
    have HRG := Lib.hid hrg
    have HACC := Lib.hid hacc
    have HBEL := Lib.hid hbel
    have HSW := Lib.hid hsz
    obtain ⟨A3, c3, rfl, _, _⟩ := Rep.acc_form hacc
    clear hrg hacc hbel hsz
    go_wp2_with (at_next; refine wpList_next_ranges _ rfl _ rfl 3 int_law heldElem (Value.int .i64) (fun v : Value => v) (fun key kl hkey => by obtain ⟨x, rfl, _⟩ := Go.Maps.keyOf_int_inv Try.underlying3 hkey; exact ⟨x, rfl⟩) (fun v y hv => ⟨v, rfl⟩) M r n D left cnt (by exact rfl) HRG.out ?_ ?_)
    · intro hc0 hl0
      have HKS := Lib.hid (show ks.mergeSort (fun x y => decide (x ≤ y)) = dirtyOf st from sort_dirty hnd.out (fun z => by rw [hmem.out, dirty_mem HD.out.keys]; exact ⟨fun h => HD.out.has z h.1, fun h => ⟨HD.out.of_wait h, hl0 _⟩⟩))
      clear hc0 hl0
      go_wp2_with fail
      refine (sortInts_calls HACC.out (by have := hlen.out; have := HSZ.out; omega)).mono ?_
      rintro e w4 ⟨rfl, hacc4, hg4⟩
      rw [HKS.out] at hacc4
      have HA4 := Lib.hid hacc4
      have HB4 := Lib.hid (HBEL.out.grown hg4 (by have := HSW.out; omega) (fun k hk => by have := (Rep.acc_own HACC.out k hk).1; omega))
      clear hacc4 hg4
      go_wp2_with fail
      go_ret
      exact ⟨_, rfl, by rw [HR.out]; exact Rep.acc_base (Nat.le_succ r) HA4.out, by rw [HR.out]; exact HB4.out⟩
    · intro x c kl ya yb w3 cnt3 hkey hlk hv hat hrg3 hlt3 hg3 hs3 hen
      obtain ⟨x', ex, rfl, hwx⟩ := Go.Maps.keyOf_int_inv Try.underlying3 hkey
      cases ex
      obtain ⟨rfl, rfl⟩ : ya = .held c ∧ yb = [] := by unfold heldElem at hv; have := Option.some.inj hv; exact ⟨(congrArg Prod.fst this).symm, (congrArg Prod.snd this).symm⟩
      have HHX := Lib.hid (show Go.Maps.has D (.int .i64 x) = true from Go.Maps.has_true_of_atKey hat)
      have hown := Rep.acc_own HACC.out
      have HA3 := Lib.hid (Rep.acc_keep (w' := w3) (fun b hb hl => hg3.block b hl.lt (fun e => by rcases hb with hb | hb; exact hb.elim; have := (hown b hb).1; have := Option.some.inj e; omega)) (fun _ h _ => h) HACC.out)
      have HB3 := Lib.hid (HBEL.out.grown hg3 (by have := HSW.out; omega) (fun k hk => by have := Option.some.inj hk; omega))
      have L := Lib.hid (show ks.length + 1 ≤ maxLen ∧ (ks.length + 1) * 8 ≤ 140737488355328 by have := hlen.out; have := HSZ.out; unfold maxLen; omega)
      have HX := Lib.hid hwx
      have HS3 := Lib.hid (show r + 1 ≤ w3.heap.size by have := HSW.out; omega)
      have HLK := Lib.hid hlk
      have HRG3 := Lib.hid hrg3
      have HLT3 := Lib.hid hlt3
      clear hkey hlk hv hat hrg3 hlt3 hg3 hs3 hown hwx
      go_wp2_with (refine wpList_snoc (e := 3) (base := r + 1) (Q := fun _ => False) (r := Rep.int .i64) rfl rfl _ _ 30 _ rfl rfl rfl (.int .i64 0) 1 8 Try.underlying30 info3 rfl (by decide) rfl _ ks HA3.out x _ (by exact rfl) ⟨_, rfl, rfl, HX.out⟩ (by exact rfl) (by exact rfl) L.out.1 L.out.2 HS3.out ?_; intro v5 w5 hacc5 hgr5 hat5)
      have hown3 := Rep.acc_own HA3.out
      have hrg5 := HRG3.out.kept hgr5 (fun e => by have := (hown3 M e.symm).1; have := HLT.out; omega) (fun e => by have := (hown3 r e.symm).1; omega)
      refine ⟨⟨_, cnt3, ks ++ [x], hrg5, hacc5, HB3.out.grown hgr5 (by have := HS3.out; omega) (fun k hk => by have := (hown3 k hk).1; omega), Nat.le_trans HS3.out hgr5.size, ?_, ?_, ?_⟩, ?_⟩
      · show (ks ++ [x]).length + cnt3 ≤ Go.Maps.size D
        have := hlen.out; have := HLT3.out; rw [List.length_append]; simp; omega
      · refine List.nodup_append.2 ⟨hnd.out, by simp, fun a ha b hb => ?_⟩
        have hb' := List.mem_singleton.1 hb
        subst hb'
        rintro rfl
        have h1 := ((hmem.out a).1 ha).2
        rw [HLK.out] at h1; cases h1
      · intro z
        rw [List.mem_append, hmem.out z, List.mem_singleton, sameKey_int]
        constructor
        · rintro (⟨h1, h2⟩ | rfl)
          · exact ⟨h1, by rw [h2]; rfl⟩
          · exact ⟨HHX.out, by simp⟩
        · rintro ⟨h1, h2⟩
          by_cases hz : z = x
          · exact .inr hz
          · exact .inl ⟨h1, by simpa [hz] using h2⟩
      · rw [hrg5.left_eq, HRG.out.left_eq]
        exact HLT3.out
end Go.Proofs.Ytcfgckpjgihcgaa
/- Walk of a failure of the power. -/
namespace Go.Proofs.Ytcfgckpjgihcgaa
open Go.RowKit

/-- The sectors behind the first k that had waiting writes. -/
def crashTo (s : DiskSt) (fates : List DFate) : Nat → List (List UInt8)
  | 0 => s.safe
  | k + 1 => (crashTo s fates k).set ((dirtyOf s).getD k 0).toNat (settleOf ((crashTo s fates k).getD ((dirtyOf s).getD k 0).toNat []) (s.wait ((dirtyOf s).getD k 0)) (fates.getD k ⟨0, 0⟩))
def crashSt (s : DiskSt) (fates : List DFate) : DiskSt := ⟨crashTo s fates (dirtyOf s).length, fun _ => [], -1, false, s.reads, s.writes⟩
theorem crashTo_length (s : DiskSt) (fates : List DFate) : ∀ k, (crashTo s fates k).length = s.safe.length
  | 0 => rfl
  | k + 1 => by unfold crashTo; rw [List.length_set]; exact crashTo_length s fates k
theorem dirty_bounds {s : DiskSt} {z : Int} (hz : z ∈ dirtyOf s) : 0 ≤ z ∧ z < s.safe.length := by
  unfold dirtyOf at hz
  obtain ⟨i, hi, rfl⟩ := List.mem_map.1 hz
  have := List.mem_range.1 (List.mem_filter.1 hi).1
  omega
def CrashPost (F B : Nat → Prop) (P n : Nat) (W : World) (st : DiskSt) (e : Ending) (W' : World) : Prop :=
  e = .returned (.tuple #[]) ∧ Only F W W' ∧ ∃ B' : Nat → Prop, DiskAt W' P F B' n st ∧ (∀ b, B' b → B b ∨ W.heap.size ≤ b)

set_option maxRecDepth 100000 in
set_option maxHeartbeats 1000000 in
/-- (*disk.Disk).Crash of no device -/
theorem dcrash_nil (w : World) (v : Value) : Calls Try.prog 83 #[.pointer none, v] w fun e w' => e = .returned (.tuple #[]) ∧ w' = w := by
  go_enter Try.func83, Try.ntmps83
  go_wp2_with fail
  exact ⟨rfl, .tuple #[], by simp [results], rfl, rfl⟩

set_option maxRecDepth 100000 in
set_option maxHeartbeats 3000000 in
/-- (*disk.Disk).Crash -/
theorem dcrash_calls {Q : Nat → Prop} {W : World} {P : Nat} {F B : Nat → Prop} {n : Nat} {st : DiskSt} {v : Value} {fates : List DFate} (h : DiskAt W P F B n st) (hn : n ≤ 1000000000) (hx : rFate.list.val Q W v fates) (hQ : ∀ b, Q b → ¬ F b) :
    Calls Try.prog 83 #[.pointer (some ⟨P, 0, none⟩), v] W (CrashPost F B P n W (crashSt st fates)) := by
  have HH := Lib.hid h
  obtain ⟨Af, cf, rfl, hcf, hmf, hAf⟩ := Rep.val_list hx
  unfold maxLen at hmf
  have HX := Lib.hid (show ∀ W', Only F W W' → rFate.At Q W' Af fates from fun W' ho => Rep.At.keep (w := W) (fun b hb hl => ⟨hb, ho.block b hl.lt (hQ b hb)⟩) hAf)
  obtain ⟨Sf, cs, M, D, hd⟩ := h
  have HD := Lib.hid hd
  have HFW := Lib.hid (show ∀ b, F b ∨ B b → b < W.heap.size from hd.lt)
  have HN := Lib.hid hn
  clear hd hx hAf hn hQ
  generalize hfl : fates.length = fl at *
  have HFL := Lib.hid hfl
  clear hfl
  go_enter Try.func83, Try.ntmps83
  go_wp2_with fail
  refine (ddirty_calls HH.out HN.out).mono ?_
  rintro e w2 ⟨u2, rfl, hu2, hb2⟩
  obtain ⟨A2, c2, rfl, hc2, hm2⟩ := Rep.acc_form hu2
  have HU2 := Lib.hid (Rep.acc_fresh hu2)
  have HB2 := Lib.hid hb2
  have HDD := Lib.hid (fun z (hz : z ∈ dirtyOf st) => dirty_bounds hz)
  generalize hdl : (dirtyOf st).length = dl at *
  have HDL := Lib.hid hdl
  have HD2 := Lib.hid (HD.out.keep hb2.size (fun b hb => hb2.block b (HFW.out b hb)))
  clear hu2 hb2 hdl
  unfold maxLen at hm2
  go_wp2_with fail
  go_loopw [12] (fun i wr => ∃ (k : Nat) (Bk : Nat → Prop), i = .int .i64 k ∧ k ≤ dl ∧ DiskW wr P Sf cs M D F Bk n { st with safe := crashTo st fates k } ∧ Only F W wr ∧ Below W.heap.size w2 w2 ∧ Only F w2 wr ∧ Hid (∀ b, Bk b → B b ∨ W.heap.size ≤ b)) (fun i _ => dl - (intOf i).toNat)
  case atStart => exact ⟨0, B, rfl, Nat.zero_le _, HD2.out, Only.of_below HB2.out, Below.refl _ _, Only.refl _ _, fun b hb => .inl hb⟩
  case round =>
    obtain ⟨k, Bk, rfl, hk, hdw, ho, _, ho2, hB⟩ := hrel
    have HDW := Lib.hid hdw
    have HO := Lib.hid ho
    have HO2 := Lib.hid ho2
    by_cases hlt : (k : Int) < dl
    · have hkd : k < (dirtyOf st).length := by have := HDL.out; omega
      obtain ⟨x0, hx0⟩ : ∃ x, (dirtyOf st)[k]? = some x := ⟨_, List.getElem?_eq_getElem hkd⟩
      have hxb := HDD.out x0 (List.mem_of_getElem? hx0)
      obtain ⟨x, rfl⟩ : ∃ x : Nat, x0 = x := ⟨x0.toNat, by omega⟩
      have hxD : (dirtyOf st).getD k 0 = (x : Int) := by rw [List.getD_eq_getElem?_getD, hx0]; rfl
      have hat2 : (Rep.int .i64).At (fun b => W.heap.size ≤ b) wr A2 (dirtyOf st) := by
        obtain ⟨A', c', he, _, _, hat⟩ := Rep.val_list HU2.out
        cases he
        exact Rep.At.keep (w := w2) (fun b hb hl => ⟨hb, ho2.block b hl.lt (fun hf => by have := HFW.out b (.inl hf); have hb' : W.heap.size ≤ b := hb; omega)⟩) hat
      obtain ⟨b2, o2, rfl, _, hcx⟩ := Rep.At.int hat2 hx0
      have hN := crashTo_length st fates k
      obtain ⟨ys, hys⟩ : ∃ ys, (crashTo st fates k)[x]? = some ys := ⟨_, List.getElem?_eq_getElem (by rw [hN]; omega)⟩
      have HSTEP := Lib.hid (show crashTo st fates (k + 1) = (crashTo st fates k).set x (settleOf ys (st.wait x) (fates.getD k ⟨0, 0⟩)) by
        show (crashTo st fates k).set ((dirtyOf st).getD k 0).toNat (settleOf ((crashTo st fates k).getD ((dirtyOf st).getD k 0).toNat []) (st.wait ((dirtyOf st).getD k 0)) (fates.getD k ⟨0, 0⟩)) = _
        rw [hxD, Int.toNat_natCast, List.getD_eq_getElem?_getD, hys]; rfl)
      have HXN := Lib.hid (show x < (crashTo st fates k).length by rw [hN]; omega)
      generalize crashTo st fates k = sk at *
      have HWX := Lib.hid (show (Lit.int .i64 (x : Int)).wf = true from wf_i64 (by omega) (by have := hdw.len_safe; have h2 : sk.length ≤ cs := this.1; have h3 := this.2; unfold maxLen at h3; omega))
      have hxN : (x : Int) < (st.safe.length : Int) := hxb.2
      have hrs := ho.size
      clear hdw ho ho2 hx0 hxb hxD hat2 hkd
      by_cases hf : (k : Int) < fl
      · obtain ⟨f, hff⟩ : ∃ f, fates[k]? = some f := ⟨_, List.getElem?_eq_getElem (by have := HFL.out; omega)⟩
        have hfd : fates.getD k ⟨0, 0⟩ = f := by rw [List.getD_eq_getElem?_getD, hff]; rfl
        obtain ⟨b3, o3, rfl, hic3, hk3, ht3, hw0, hw1⟩ := rFate_at (HX.out wr HO.out) hff
        have HWF := Lib.hid (And.intro hw0 hw1)
        rw [hfd] at HSTEP
        clear hff hfd hw0 hw1
        have hb3 : b3 < wr.heap.size := hic3.lt
        have hne3 : ¬ b3 = wr.heap.size := by omega
        have hW1a : wr.heap.size < (wr.alloc (.cells #[.int .i64 (f.kept), .int .i64 (f.torn)] 233)).heap.size := by simp
        have hd1 : DiskW (wr.alloc (.cells #[.int .i64 (f.kept), .int .i64 (f.torn)] 233)) P Sf cs M D F Bk n { st with safe := sk } := HDW.out.keep (Nat.le_of_lt hW1a) (fun b hb => Below.heap_alloc _ _ _ (HDW.out.lt b hb))
        have hbx := heap_alloc_new wr (.cells #[.int .i64 (f.kept), .int .i64 (f.torn)] 233)
        have HO1 := Lib.hid (show Only F wr (wr.alloc (.cells #[.int .i64 (f.kept), .int .i64 (f.torn)] 233)) from ⟨rfl, rfl, rfl, Nat.le_of_lt hW1a, fun b hb _ => Below.heap_alloc _ _ _ hb⟩)
        have hPl := HDW.out.lt P (.inl HDW.out.fP)
        go_wp2_with fail
        generalize wr.alloc (.cells #[.int .i64 (f.kept), .int .i64 (f.torn)] 233) = W1 at *
        generalize hrr : wr.heap.size = r at *
        have HRR := Lib.hid hrr
        obtain ⟨g, B8, c8, cap8, hv8, hc8, hz8, hg8, hval8⟩ := Rep.acc_elem hd1.safe hys
        cases hv8
        have HD1 := Lib.hid hd1
        have hFg : F g := hd1.fS g rfl
        have HY8 := Lib.hid (Rep.val_mono (Q' := Bk) (fun b hb _ => hb.1) hval8)
        have hPg : P ≠ g := fun e => hd1.sP (b := g) rfl e.symm
        have hMg : M ≠ g := fun e => hd1.sM (b := g) rfl e.symm
        have hgr : g < r := by rw [← hrr]; exact HDW.out.lt g (.inl hFg)
        have hrg : r ≠ g := by omega
        have hb0 : W1.cell? ⟨P, 0, none⟩ = some (.slice (some ⟨g, 0, none⟩) st.safe.length cs) := (cell_row hd1.blk 0).trans (show some (Value.slice (some ⟨g, 0, none⟩) sk.length cs) = _ by rw [hN])
        have hb1 := cell_row hd1.blk 1
        have hr0 := cell_row hbx 0
        have hr1 := cell_row hbx 1
        have hMl := hd1.lt M (.inl hd1.fM)
        have KS := Lib.hid (show ∀ W' : World, (∀ b, b < W1.heap.size → b ≠ g → W'.heap[b]? = W1.heap[b]?) → (W'.cell? ⟨P, 0, none⟩ = some (.slice (some ⟨g, 0, none⟩) st.safe.length cs) ∧ W'.cell? ⟨P, 1, none⟩ = some (.map (some M)) ∧ W'.cell? ⟨r, 0, none⟩ = some (.int .i64 (f.kept)) ∧ W'.cell? ⟨r, 1, none⟩ = some (.int .i64 (f.torn))) ∧ W'.ownsMap Try.prog 3 heldElem M n D from fun W' hk => by
          have hP := hk P (by omega) hPg
          have hR := hk r hW1a hrg
          refine ⟨⟨?_, ?_, ?_, ?_⟩, HD1.out.map_keep (hk M hMl hMg)⟩
          · exact (show W'.cell? ⟨P, 0, none⟩ = W1.cell? ⟨P, 0, none⟩ by simp only [World.cell?, hP]).trans hb0
          · exact (show W'.cell? ⟨P, 1, none⟩ = W1.cell? ⟨P, 1, none⟩ by simp only [World.cell?, hP]).trans hb1
          · exact (show W'.cell? ⟨r, 0, none⟩ = W1.cell? ⟨r, 0, none⟩ by simp only [World.cell?, hR]).trans hr0
          · exact (show W'.cell? ⟨r, 1, none⟩ = W1.cell? ⟨r, 1, none⟩ by simp only [World.cell?, hR]).trans hr1)
        have KN := Lib.hid hN
        generalize hNN : st.safe.length = N at *
        generalize hysl : ys.length = yl at *
        have s1 := KS.out W1.drew (fun _ _ _ => rfl)
        clear hd1 hbx hb0 hb1 hr0 hr1 hval8
        refine wp_region_held (S := fun W' : World => (W'.cell? ⟨P, 0, none⟩ = some (.slice (some ⟨g, 0, none⟩) N cs) ∧ W'.cell? ⟨P, 1, none⟩ = some (.map (some M)) ∧ W'.cell? ⟨r, 0, none⟩ = some (.int .i64 (f.kept)) ∧ W'.cell? ⟨r, 1, none⟩ = some (.int .i64 (f.torn))) ∧ W'.ownsMap Try.prog 3 heldElem M n D) (by kernel_rfl) ?_
        refine wpAnyH_take (i := 0) (v := .pointer (some ⟨P, 0, none⟩)) rfl (by kernel_rfl) (by kernel_rfl) (by kernel_rfl) (fun _ _ _ h => h) (Or.inl ⟨by rfl, fun w' _ => by go_simp⟩) s1 ?_
        go_simp
        refine wpAnyH_take (i := 1) (v := .pointer (some ⟨P, 0, none⟩)) rfl (by kernel_rfl) (by kernel_rfl) (by kernel_rfl) (fun _ _ _ h => h) (Or.inl ⟨by rfl, fun w' _ => by go_simp⟩) s1 ?_
        go_simp
        refine wpAnyH_take (i := 2) (v := .pointer (some ⟨P, 0, none⟩)) rfl (by kernel_rfl) (by kernel_rfl) (by kernel_rfl) (fun _ _ _ h => h) (Or.inl ⟨by rfl, fun w' _ => by go_simp⟩) s1 ?_
        go_simp
        refine wpAnyH_take (i := 3) (v := .slice (some ⟨g, 0, none⟩) N cs) rfl (by kernel_rfl) (by kernel_rfl) (by kernel_rfl) (fun _ _ _ h => h) (Or.inl ⟨by rfl, fun w' h => by obtain ⟨⟨x0, x1, x2, x3⟩, _⟩ := h; go_simp⟩) s1 ?_
        go_simp
        refine wpAnyH_take (i := 4) (v := .int .i64 (x : Int)) rfl (by kernel_rfl) (by kernel_rfl) (by kernel_rfl) (fun _ _ _ h => h) (Or.inl ⟨by rfl, fun w' _ => by go_simp⟩) s1 ?_
        go_simp
        refine wpAnyH_take (i := 5) (v := .pointer (some ⟨P, 0, none⟩)) rfl (by kernel_rfl) (by kernel_rfl) (by kernel_rfl) (fun _ _ _ h => h) (Or.inl ⟨by rfl, fun w' _ => by go_simp⟩) s1 ?_
        go_simp
        refine wpAnyH_take (i := 6) (v := .pointer (some ⟨P, 0, none⟩)) rfl (by kernel_rfl) (by kernel_rfl) (by kernel_rfl) (fun _ _ _ h => h) (Or.inl ⟨by rfl, fun w' _ => by go_simp⟩) s1 ?_
        go_simp
        refine wpAnyH_take (i := 7) (v := .pointer (some ⟨P, 0, none⟩)) rfl (by kernel_rfl) (by kernel_rfl) (by kernel_rfl) (fun _ _ _ h => h) (Or.inl ⟨by rfl, fun w' _ => by go_simp⟩) s1 ?_
        go_simp
        refine wpAnyH_take (i := 8) (v := .slice (some ⟨g, 0, none⟩) N cs) rfl (by kernel_rfl) (by kernel_rfl) (by kernel_rfl) (fun _ _ _ h => h) (Or.inl ⟨by rfl, fun w' h => by obtain ⟨⟨x0, x1, x2, x3⟩, _⟩ := h; go_simp⟩) s1 ?_
        go_simp
        refine wpAnyH_take (i := 9) (v := .int .i64 (x : Int)) rfl (by kernel_rfl) (by kernel_rfl) (by kernel_rfl) (fun _ _ _ h => h) (Or.inl ⟨by rfl, fun w' _ => by go_simp⟩) s1 ?_
        go_simp
        refine wpAnyH_take (i := 10) (v := .pointer (some ⟨g, x, none⟩)) rfl (by kernel_rfl) (by kernel_rfl) (by kernel_rfl) (fun _ _ _ h => h) (Or.inl ⟨by rfl, fun w' _ => by go_simp⟩) s1 ?_
        go_simp
        refine wpAnyH_take (i := 12) (v := .pointer (some ⟨P, 0, none⟩)) rfl (by kernel_rfl) (by kernel_rfl) (by kernel_rfl) (fun _ _ _ h => h) (Or.inl ⟨by rfl, fun w' _ => by go_simp⟩) s1 ?_
        go_simp
        refine wpAnyH_take (i := 13) (v := .pointer (some ⟨P, 0, none⟩)) rfl (by kernel_rfl) (by kernel_rfl) (by kernel_rfl) (fun _ _ _ h => h) (Or.inl ⟨by rfl, fun w' _ => by go_simp⟩) s1 ?_
        go_simp
        refine wpAnyH_take (i := 14) (v := .pointer (some ⟨P, 1, none⟩)) rfl (by kernel_rfl) (by kernel_rfl) (by kernel_rfl) (fun _ _ _ h => h) (Or.inl ⟨by rfl, fun w' _ => by go_simp⟩) s1 ?_
        go_simp
        refine wpAnyH_take (i := 15) (v := .map (some M)) rfl (by kernel_rfl) (by kernel_rfl) (by kernel_rfl) (fun _ _ _ h => h) (Or.inl ⟨by rfl, fun w' h => by obtain ⟨⟨x0, x1, x2, x3⟩, _⟩ := h; go_simp⟩) s1 ?_
        go_simp
        refine wpAnyH_take (i := 16) (v := .int .i64 (x : Int)) rfl (by kernel_rfl) (by kernel_rfl) (by kernel_rfl) (fun _ _ _ h => h) (Or.inl ⟨by rfl, fun w' _ => by go_simp⟩) s1 ?_
        go_simp
        refine wpAnyH_take (i := 17) (v := valAt D x) rfl (by kernel_rfl) (by kernel_rfl) (by kernel_rfl) (fun _ _ _ h => h) (Or.inl ⟨by rfl, fun w' h => exec_lookup (M := M) (n := n) (D := D) (i := (x : Int)) rfl (by rfl) (by rfl) h.2 HWX.out⟩) s1 ?_
        go_simp
        refine wpAnyH_take (i := 18) (v := .agg #[.int .i64 (f.kept), .int .i64 (f.torn)]) rfl (by kernel_rfl) (by kernel_rfl) (by kernel_rfl) (fun _ _ _ h => h) (Or.inl ⟨by rfl, fun w' h => by obtain ⟨⟨x0, x1, x2, x3⟩, _⟩ := h; go_simp⟩) s1 ?_
        go_simp
        refine wpAnyH_all (rs := [11]) (by kernel_rfl) (by simp) ?_
        intro j hj
        obtain rfl : j = 11 := by simpa using hj
        refine wpOp_step rfl (fun K hK => ?_)
        go_simp
        refine hK _ _ ⟨s1, ?_⟩
        clear hK K
        refine wpAnyH_all (rs := [19]) (by kernel_rfl) (by simp) ?_
        intro j hj
        obtain rfl : j = 19 := by simpa using hj
        refine wpOp_step rfl (fun K hK => ?_)
        go_simp
        refine (settle_calls (Q := Bk) (base := 0) (f := ⟨f.kept, f.torn⟩) (Rep.val_drewN HY8.out 1) (Rep.acc_keep (w := W1) (w' := W1.drew) (fun _ _ _ => rfl) (fun _ hb _ => hb) (HD1.out.wt x)) (rFate_agg HWF.out.1 HWF.out.2) (Nat.le_trans (HD1.out.len x) HN.out)).mono ?_
        rintro e w9 ⟨u9, rfl, hu9, hb9⟩
        have B9 := Lib.hid (show Below W1.heap.size W1 w9 from (Below.refl _ _).drew.trans hb9)
        obtain ⟨A9, c9, rfl, _, _, _⟩ := Rep.val_list hu9
        have HU9 := Lib.hid (Rep.val_mono (Q' := fun c => Bk c ∨ (W1.heap.size ≤ c ∧ c < w9.heap.size)) (fun b hb hl => hb.imp id fun e => ⟨e, hl.lt⟩) hu9)
        have HST9 := Lib.hid (show settleOf ys (st.wait x) ⟨f.kept, f.torn⟩ = settleOf ys (st.wait x) ⟨f.kept, f.torn⟩ from rfl)
        clear hu9 hb9
        refine hK _ _ ⟨KS.out _ (fun b hb _ => B9.out.block b hb), ?_⟩
        clear hK K
        have hc9 := (B9.out.cell (p := ⟨g, x, none⟩) hg8).trans hc8
        have hz9 : w9.frozen? ⟨g, x, none⟩ = false := (show w9.frozen? ⟨g, x, none⟩ = W1.frozen? ⟨g, x, none⟩ by simp only [World.frozen?, B9.out.block g hg8]).trans hz8
        have s9 := KS.out w9 (fun b hb _ => B9.out.block b hb)
        have hd9 : DiskW w9 P (some ⟨g, 0, none⟩) cs M D F (fun c => Bk c ∨ (W1.heap.size ≤ c ∧ c < w9.heap.size)) n { st with safe := sk } :=
          (HD1.out.keep B9.out.size (fun b hb => B9.out.block b (HD1.out.lt b hb))).wide (fun b hb => .inl hb) (fun b hf hb => hb.elim (HD1.out.apart b hf) (fun e => by have := HD1.out.lt b (.inl hf); omega)) (fun b hb => hb.elim (fun e => Nat.lt_of_lt_of_le (HD1.out.lt b (.inr e)) B9.out.size) (fun e => e.2))
        obtain ⟨g', hgg, _, hset⟩ := hd9.setSafe (i := x) HXN.out HU9.out
        cases hgg
        have HSET := Lib.hid hset
        clear hd9 hset
        refine wpAnyH_take (i := 20) (v := .pointer (some ⟨g, x, none⟩)) rfl (by kernel_rfl) (by kernel_rfl) (by kernel_rfl) (fun _ _ _ h => h) (Or.inl ⟨by rfl, fun w' _ => by go_simp⟩) s9 ?_
        go_simp
        refine wpAnyH_all (rs := [21]) (by kernel_rfl) (by simp) ?_
        intro j hj
        obtain rfl : j = 21 := by simpa using hj
        refine wpOp_step rfl (fun K hK => ?_)
        go_simp
        refine hK _ _ ⟨KS.out _ (fun b hb hbg => (Below.heap_setCell _ _ _ _ hbg).trans (B9.out.block b hb)), ?_⟩
        clear hK K
        refine wpAnyH_done (by kernel_rfl) ?_ _
        go_wp2_with fail
        have O10 : Only F wr (w9.setCell ⟨g, x, none⟩ (.slice A9 (settleOf ys (st.wait x) ⟨f.kept, f.torn⟩).length c9)) := (HO1.out.trans (Only.of_below B9.out)).trans (Only.set hFg)
        refine ⟨⟨k + 1, _, rfl, by omega, by rw [HSTEP.out]; exact HSET.out, HO.out.trans O10, Below.refl _ _, HO2.out.trans O10, (show ∀ b, (Bk b ∨ (W1.heap.size ≤ b ∧ b < w9.heap.size)) → B b ∨ W.heap.size ≤ b from fun b hb => hb.elim (hB.out b) (fun e => .inr (by have := HO1.out.size; omega)))⟩, by show dl - ((k : Int) + 1).toNat < dl - (k : Int).toNat; omega⟩
      · have hfd : fates.getD k ⟨0, 0⟩ = ⟨0, 0⟩ := by rw [List.getD_eq_getElem?_getD, List.getElem?_eq_none (by have := HFL.out; omega)]; rfl
        have HWF := Lib.hid (show (Lit.int .i64 (0 : Int)).wf = true ∧ (Lit.int .i64 (0 : Int)).wf = true from ⟨rfl, rfl⟩)
        rw [hfd] at HSTEP
        clear hfd
        have hW1a : wr.heap.size < (wr.alloc (.cells #[.int .i64 (0), .int .i64 (0)] 233)).heap.size := by simp
        have hd1 : DiskW (wr.alloc (.cells #[.int .i64 (0), .int .i64 (0)] 233)) P Sf cs M D F Bk n { st with safe := sk } := HDW.out.keep (Nat.le_of_lt hW1a) (fun b hb => Below.heap_alloc _ _ _ (HDW.out.lt b hb))
        have hbx := heap_alloc_new wr (.cells #[.int .i64 (0), .int .i64 (0)] 233)
        have HO1 := Lib.hid (show Only F wr (wr.alloc (.cells #[.int .i64 (0), .int .i64 (0)] 233)) from ⟨rfl, rfl, rfl, Nat.le_of_lt hW1a, fun b hb _ => Below.heap_alloc _ _ _ hb⟩)
        have hPl := HDW.out.lt P (.inl HDW.out.fP)
        go_wp2_with fail
        generalize wr.alloc (.cells #[.int .i64 (0), .int .i64 (0)] 233) = W1 at *
        generalize hrr : wr.heap.size = r at *
        have HRR := Lib.hid hrr
        obtain ⟨g, B8, c8, cap8, hv8, hc8, hz8, hg8, hval8⟩ := Rep.acc_elem hd1.safe hys
        cases hv8
        have HD1 := Lib.hid hd1
        have hFg : F g := hd1.fS g rfl
        have HY8 := Lib.hid (Rep.val_mono (Q' := Bk) (fun b hb _ => hb.1) hval8)
        have hPg : P ≠ g := fun e => hd1.sP (b := g) rfl e.symm
        have hMg : M ≠ g := fun e => hd1.sM (b := g) rfl e.symm
        have hgr : g < r := by rw [← hrr]; exact HDW.out.lt g (.inl hFg)
        have hrg : r ≠ g := by omega
        have hb0 : W1.cell? ⟨P, 0, none⟩ = some (.slice (some ⟨g, 0, none⟩) st.safe.length cs) := (cell_row hd1.blk 0).trans (show some (Value.slice (some ⟨g, 0, none⟩) sk.length cs) = _ by rw [hN])
        have hb1 := cell_row hd1.blk 1
        have hr0 := cell_row hbx 0
        have hr1 := cell_row hbx 1
        have hMl := hd1.lt M (.inl hd1.fM)
        have KS := Lib.hid (show ∀ W' : World, (∀ b, b < W1.heap.size → b ≠ g → W'.heap[b]? = W1.heap[b]?) → (W'.cell? ⟨P, 0, none⟩ = some (.slice (some ⟨g, 0, none⟩) st.safe.length cs) ∧ W'.cell? ⟨P, 1, none⟩ = some (.map (some M)) ∧ W'.cell? ⟨r, 0, none⟩ = some (.int .i64 (0)) ∧ W'.cell? ⟨r, 1, none⟩ = some (.int .i64 (0))) ∧ W'.ownsMap Try.prog 3 heldElem M n D from fun W' hk => by
          have hP := hk P (by omega) hPg
          have hR := hk r hW1a hrg
          refine ⟨⟨?_, ?_, ?_, ?_⟩, HD1.out.map_keep (hk M hMl hMg)⟩
          · exact (show W'.cell? ⟨P, 0, none⟩ = W1.cell? ⟨P, 0, none⟩ by simp only [World.cell?, hP]).trans hb0
          · exact (show W'.cell? ⟨P, 1, none⟩ = W1.cell? ⟨P, 1, none⟩ by simp only [World.cell?, hP]).trans hb1
          · exact (show W'.cell? ⟨r, 0, none⟩ = W1.cell? ⟨r, 0, none⟩ by simp only [World.cell?, hR]).trans hr0
          · exact (show W'.cell? ⟨r, 1, none⟩ = W1.cell? ⟨r, 1, none⟩ by simp only [World.cell?, hR]).trans hr1)
        have KN := Lib.hid hN
        generalize hNN : st.safe.length = N at *
        generalize hysl : ys.length = yl at *
        have s1 := KS.out W1.drew (fun _ _ _ => rfl)
        clear hd1 hbx hb0 hb1 hr0 hr1 hval8
        refine wp_region_held (S := fun W' : World => (W'.cell? ⟨P, 0, none⟩ = some (.slice (some ⟨g, 0, none⟩) N cs) ∧ W'.cell? ⟨P, 1, none⟩ = some (.map (some M)) ∧ W'.cell? ⟨r, 0, none⟩ = some (.int .i64 (0)) ∧ W'.cell? ⟨r, 1, none⟩ = some (.int .i64 (0))) ∧ W'.ownsMap Try.prog 3 heldElem M n D) (by kernel_rfl) ?_
        refine wpAnyH_take (i := 0) (v := .pointer (some ⟨P, 0, none⟩)) rfl (by kernel_rfl) (by kernel_rfl) (by kernel_rfl) (fun _ _ _ h => h) (Or.inl ⟨by rfl, fun w' _ => by go_simp⟩) s1 ?_
        go_simp
        refine wpAnyH_take (i := 1) (v := .pointer (some ⟨P, 0, none⟩)) rfl (by kernel_rfl) (by kernel_rfl) (by kernel_rfl) (fun _ _ _ h => h) (Or.inl ⟨by rfl, fun w' _ => by go_simp⟩) s1 ?_
        go_simp
        refine wpAnyH_take (i := 2) (v := .pointer (some ⟨P, 0, none⟩)) rfl (by kernel_rfl) (by kernel_rfl) (by kernel_rfl) (fun _ _ _ h => h) (Or.inl ⟨by rfl, fun w' _ => by go_simp⟩) s1 ?_
        go_simp
        refine wpAnyH_take (i := 3) (v := .slice (some ⟨g, 0, none⟩) N cs) rfl (by kernel_rfl) (by kernel_rfl) (by kernel_rfl) (fun _ _ _ h => h) (Or.inl ⟨by rfl, fun w' h => by obtain ⟨⟨x0, x1, x2, x3⟩, _⟩ := h; go_simp⟩) s1 ?_
        go_simp
        refine wpAnyH_take (i := 4) (v := .int .i64 (x : Int)) rfl (by kernel_rfl) (by kernel_rfl) (by kernel_rfl) (fun _ _ _ h => h) (Or.inl ⟨by rfl, fun w' _ => by go_simp⟩) s1 ?_
        go_simp
        refine wpAnyH_take (i := 5) (v := .pointer (some ⟨P, 0, none⟩)) rfl (by kernel_rfl) (by kernel_rfl) (by kernel_rfl) (fun _ _ _ h => h) (Or.inl ⟨by rfl, fun w' _ => by go_simp⟩) s1 ?_
        go_simp
        refine wpAnyH_take (i := 6) (v := .pointer (some ⟨P, 0, none⟩)) rfl (by kernel_rfl) (by kernel_rfl) (by kernel_rfl) (fun _ _ _ h => h) (Or.inl ⟨by rfl, fun w' _ => by go_simp⟩) s1 ?_
        go_simp
        refine wpAnyH_take (i := 7) (v := .pointer (some ⟨P, 0, none⟩)) rfl (by kernel_rfl) (by kernel_rfl) (by kernel_rfl) (fun _ _ _ h => h) (Or.inl ⟨by rfl, fun w' _ => by go_simp⟩) s1 ?_
        go_simp
        refine wpAnyH_take (i := 8) (v := .slice (some ⟨g, 0, none⟩) N cs) rfl (by kernel_rfl) (by kernel_rfl) (by kernel_rfl) (fun _ _ _ h => h) (Or.inl ⟨by rfl, fun w' h => by obtain ⟨⟨x0, x1, x2, x3⟩, _⟩ := h; go_simp⟩) s1 ?_
        go_simp
        refine wpAnyH_take (i := 9) (v := .int .i64 (x : Int)) rfl (by kernel_rfl) (by kernel_rfl) (by kernel_rfl) (fun _ _ _ h => h) (Or.inl ⟨by rfl, fun w' _ => by go_simp⟩) s1 ?_
        go_simp
        refine wpAnyH_take (i := 10) (v := .pointer (some ⟨g, x, none⟩)) rfl (by kernel_rfl) (by kernel_rfl) (by kernel_rfl) (fun _ _ _ h => h) (Or.inl ⟨by rfl, fun w' _ => by go_simp⟩) s1 ?_
        go_simp
        refine wpAnyH_take (i := 12) (v := .pointer (some ⟨P, 0, none⟩)) rfl (by kernel_rfl) (by kernel_rfl) (by kernel_rfl) (fun _ _ _ h => h) (Or.inl ⟨by rfl, fun w' _ => by go_simp⟩) s1 ?_
        go_simp
        refine wpAnyH_take (i := 13) (v := .pointer (some ⟨P, 0, none⟩)) rfl (by kernel_rfl) (by kernel_rfl) (by kernel_rfl) (fun _ _ _ h => h) (Or.inl ⟨by rfl, fun w' _ => by go_simp⟩) s1 ?_
        go_simp
        refine wpAnyH_take (i := 14) (v := .pointer (some ⟨P, 1, none⟩)) rfl (by kernel_rfl) (by kernel_rfl) (by kernel_rfl) (fun _ _ _ h => h) (Or.inl ⟨by rfl, fun w' _ => by go_simp⟩) s1 ?_
        go_simp
        refine wpAnyH_take (i := 15) (v := .map (some M)) rfl (by kernel_rfl) (by kernel_rfl) (by kernel_rfl) (fun _ _ _ h => h) (Or.inl ⟨by rfl, fun w' h => by obtain ⟨⟨x0, x1, x2, x3⟩, _⟩ := h; go_simp⟩) s1 ?_
        go_simp
        refine wpAnyH_take (i := 16) (v := .int .i64 (x : Int)) rfl (by kernel_rfl) (by kernel_rfl) (by kernel_rfl) (fun _ _ _ h => h) (Or.inl ⟨by rfl, fun w' _ => by go_simp⟩) s1 ?_
        go_simp
        refine wpAnyH_take (i := 17) (v := valAt D x) rfl (by kernel_rfl) (by kernel_rfl) (by kernel_rfl) (fun _ _ _ h => h) (Or.inl ⟨by rfl, fun w' h => exec_lookup (M := M) (n := n) (D := D) (i := (x : Int)) rfl (by rfl) (by rfl) h.2 HWX.out⟩) s1 ?_
        go_simp
        refine wpAnyH_take (i := 18) (v := .agg #[.int .i64 (0), .int .i64 (0)]) rfl (by kernel_rfl) (by kernel_rfl) (by kernel_rfl) (fun _ _ _ h => h) (Or.inl ⟨by rfl, fun w' h => by obtain ⟨⟨x0, x1, x2, x3⟩, _⟩ := h; go_simp⟩) s1 ?_
        go_simp
        refine wpAnyH_all (rs := [11]) (by kernel_rfl) (by simp) ?_
        intro j hj
        obtain rfl : j = 11 := by simpa using hj
        refine wpOp_step rfl (fun K hK => ?_)
        go_simp
        refine hK _ _ ⟨s1, ?_⟩
        clear hK K
        refine wpAnyH_all (rs := [19]) (by kernel_rfl) (by simp) ?_
        intro j hj
        obtain rfl : j = 19 := by simpa using hj
        refine wpOp_step rfl (fun K hK => ?_)
        go_simp
        refine (settle_calls (Q := Bk) (base := 0) (f := ⟨0, 0⟩) (Rep.val_drewN HY8.out 1) (Rep.acc_keep (w := W1) (w' := W1.drew) (fun _ _ _ => rfl) (fun _ hb _ => hb) (HD1.out.wt x)) (rFate_agg HWF.out.1 HWF.out.2) (Nat.le_trans (HD1.out.len x) HN.out)).mono ?_
        rintro e w9 ⟨u9, rfl, hu9, hb9⟩
        have B9 := Lib.hid (show Below W1.heap.size W1 w9 from (Below.refl _ _).drew.trans hb9)
        obtain ⟨A9, c9, rfl, _, _, _⟩ := Rep.val_list hu9
        have HU9 := Lib.hid (Rep.val_mono (Q' := fun c => Bk c ∨ (W1.heap.size ≤ c ∧ c < w9.heap.size)) (fun b hb hl => hb.imp id fun e => ⟨e, hl.lt⟩) hu9)
        have HST9 := Lib.hid (show settleOf ys (st.wait x) ⟨0, 0⟩ = settleOf ys (st.wait x) ⟨0, 0⟩ from rfl)
        clear hu9 hb9
        refine hK _ _ ⟨KS.out _ (fun b hb _ => B9.out.block b hb), ?_⟩
        clear hK K
        have hc9 := (B9.out.cell (p := ⟨g, x, none⟩) hg8).trans hc8
        have hz9 : w9.frozen? ⟨g, x, none⟩ = false := (show w9.frozen? ⟨g, x, none⟩ = W1.frozen? ⟨g, x, none⟩ by simp only [World.frozen?, B9.out.block g hg8]).trans hz8
        have s9 := KS.out w9 (fun b hb _ => B9.out.block b hb)
        have hd9 : DiskW w9 P (some ⟨g, 0, none⟩) cs M D F (fun c => Bk c ∨ (W1.heap.size ≤ c ∧ c < w9.heap.size)) n { st with safe := sk } :=
          (HD1.out.keep B9.out.size (fun b hb => B9.out.block b (HD1.out.lt b hb))).wide (fun b hb => .inl hb) (fun b hf hb => hb.elim (HD1.out.apart b hf) (fun e => by have := HD1.out.lt b (.inl hf); omega)) (fun b hb => hb.elim (fun e => Nat.lt_of_lt_of_le (HD1.out.lt b (.inr e)) B9.out.size) (fun e => e.2))
        obtain ⟨g', hgg, _, hset⟩ := hd9.setSafe (i := x) HXN.out HU9.out
        cases hgg
        have HSET := Lib.hid hset
        clear hd9 hset
        refine wpAnyH_take (i := 20) (v := .pointer (some ⟨g, x, none⟩)) rfl (by kernel_rfl) (by kernel_rfl) (by kernel_rfl) (fun _ _ _ h => h) (Or.inl ⟨by rfl, fun w' _ => by go_simp⟩) s9 ?_
        go_simp
        refine wpAnyH_all (rs := [21]) (by kernel_rfl) (by simp) ?_
        intro j hj
        obtain rfl : j = 21 := by simpa using hj
        refine wpOp_step rfl (fun K hK => ?_)
        go_simp
        refine hK _ _ ⟨KS.out _ (fun b hb hbg => (Below.heap_setCell _ _ _ _ hbg).trans (B9.out.block b hb)), ?_⟩
        clear hK K
        refine wpAnyH_done (by kernel_rfl) ?_ _
        go_wp2_with fail
        have O10 : Only F wr (w9.setCell ⟨g, x, none⟩ (.slice A9 (settleOf ys (st.wait x) ⟨0, 0⟩).length c9)) := (HO1.out.trans (Only.of_below B9.out)).trans (Only.set hFg)
        refine ⟨⟨k + 1, _, rfl, by omega, by rw [HSTEP.out]; exact HSET.out, HO.out.trans O10, Below.refl _ _, HO2.out.trans O10, (show ∀ b, (Bk b ∨ (W1.heap.size ≤ b ∧ b < w9.heap.size)) → B b ∨ W.heap.size ≤ b from fun b hb => hb.elim (hB.out b) (fun e => .inr (by have := HO1.out.size; omega)))⟩, by show dl - ((k : Int) + 1).toNat < dl - (k : Int).toNat; omega⟩
    · obtain rfl : k = dl := by omega
      have e1 := cell_row hdw.blk 1
      obtain ⟨es, clock, hmb, _⟩ := hdw.map
      obtain ⟨w9, c9, hrun, hm9, hs9, hk9, ho9⟩ := clear_map (ty := 0) hmb
      have h9 := HDW.out.struck hm9 hs9 hk9
      have e2 := cell_row h9.blk 2
      have e3 := cell_row h9.blk 3
      have z2 := frozen_row h9.blk 2
      have z3 := frozen_row h9.blk 3
      have H9 := Lib.hid h9
      have O9 := Lib.hid (show Only F W w9 from HO.out.trans ⟨ho9.1, ho9.2.1, ho9.2.2, Nat.le_of_eq hs9.symm, fun b _ hf => hk9 b (fun e => hf (e ▸ HDW.out.fM))⟩)
      have HCR := Lib.hid (show crashSt st fates = ⟨crashTo st fates k, fun _ => [], -1, false, st.reads, st.writes⟩ by unfold crashSt; rw [HDL.out])
      clear hm9 hs9 hk9 ho9 hdw ho ho2 h9
      go_wp2_with fail
      refine ⟨rfl, .tuple #[], by simp [results], rfl, (O9.out.trans (Only.set H9.out.fP)).trans (Only.set H9.out.fP), Bk, ?_, hB.out⟩
      rw [HCR.out]
      exact ⟨_, _, _, _, H9.out.scal (st' := ⟨crashTo st fates k, fun _ => [], -1, false, st.reads, st.writes⟩) rfl rfl rfl (heap_setRow (heap_setRow H9.out.blk)) (by simp) fun b hb _ => by rw [Below.heap_setCell _ _ _ _ hb, Below.heap_setCell _ _ _ _ hb]⟩
end Go.Proofs.Ytcfgckpjgihcgaa
/- A step of a device's script (package vivariumref04) as0 a Lean structure: how it lies in cells. Printed by mkrep.py's program. No program is named here. -/
namespace Go.Proofs.Ytcfgckpjgihcgaa
open Go.RowKit

@[ext] structure DStep where
  act : Int
  pos : Int
  b : List UInt8
  fates : List DFate
  deriving DecidableEq

def rStep : Rep DStep := ((Rep.int .i64).pair ((Rep.int .i64).pair (Rep.byte.list.pair rFate.list))).iso fun x => (x.act, x.pos, x.b, x.fates)
theorem rStep_size : rStep.size = 4 := rfl
theorem rStep_open {Q : Nat → Prop} {w : World} {cs : List Value} {x : DStep} (h : rStep.rd Q w cs x) : ∃ (A_b : Option Addr) (c_b : Nat) (A_fates : Option Addr) (c_fates : Nat), cs = [.int .i64 x.act, .int .i64 x.pos, .slice A_b x.b.length c_b, .slice A_fates x.fates.length c_fates] ∧ (Lit.int .i64 x.act).wf = true ∧ (Lit.int .i64 x.pos).wf = true ∧ Rep.byte.Sl Q w A_b c_b x.b ∧ rFate.Sl Q w A_fates c_fates x.fates := by
  obtain ⟨a0, b0, rfl, h0, g0⟩ := h
  obtain ⟨e0, w0⟩ := h0
  subst e0
  obtain ⟨a1, b1, rfl, h1, g1⟩ := g0
  obtain ⟨e1, w1⟩ := h1
  subst e1
  obtain ⟨a2, b2, rfl, h2, g2⟩ := g1
  obtain ⟨A2, c2, e2, w2⟩ := Rep.rd_sl h2
  subst e2
  obtain ⟨A3, c3, e3, w3⟩ := Rep.rd_sl g2
  subst e3
  exact ⟨A2, c2, A3, c3, rfl, w0, w1, w2, w3⟩
theorem rStep_mk {Q : Nat → Prop} {w : World} {x : DStep} {A_b : Option Addr} {c_b : Nat} {A_fates : Option Addr} {c_fates : Nat} (f0 : (Lit.int .i64 x.act).wf = true) (f1 : (Lit.int .i64 x.pos).wf = true) (f2 : Rep.byte.Sl Q w A_b c_b x.b) (f3 : rFate.Sl Q w A_fates c_fates x.fates) : rStep.rd Q w [.int .i64 x.act, .int .i64 x.pos, .slice A_b x.b.length c_b, .slice A_fates x.fates.length c_fates] x := by
  exact ⟨_, _, rfl, ⟨rfl, f0⟩, ⟨_, _, rfl, ⟨rfl, f1⟩, ⟨_, _, rfl, Rep.sl_rd f2, Rep.sl_rd f3⟩⟩⟩
theorem rStep_at {Q : Nat → Prop} {w : World} {A : Option Addr} {xs : List DStep} (h : rStep.At Q w A xs) {i : Nat} {x : DStep} (hx : xs[i]? = some x) :
    ∃ (b off : Nat) (A_b : Option Addr) (c_b : Nat) (A_fates : Option Addr) (c_fates : Nat), A = some ⟨b, off, none⟩ ∧ IsC w b ∧ w.cell? ⟨b, off + i * 4, none⟩ = some (.int .i64 x.act) ∧ w.cell? ⟨b, off + i * 4 + 1, none⟩ = some (.int .i64 x.pos) ∧ w.cell? ⟨b, off + i * 4 + 2, none⟩ = some (.slice A_b x.b.length c_b) ∧ w.cell? ⟨b, off + i * 4 + 3, none⟩ = some (.slice A_fates x.fates.length c_fates) ∧ (Lit.int .i64 x.act).wf = true ∧ (Lit.int .i64 x.pos).wf = true ∧ Rep.byte.Sl Q w A_b c_b x.b ∧ rFate.Sl Q w A_fates c_fates x.fates := by
  obtain ⟨b, off, es, h1, _, h2, h3, h4⟩ := h.get hx
  obtain ⟨A_b, c_b, A_fates, c_fates, e, f0, f1, f2, f3⟩ := rStep_open h3
  subst e
  rw [rStep_size] at h4
  exact ⟨b, off, A_b, c_b, A_fates, c_fates, h1, h2, h4 0 _ rfl, h4 1 _ rfl, h4 2 _ rfl, h4 3 _ rfl, f0, f1, f2, f3⟩
theorem rStep_val {Q : Nat → Prop} {w : World} {v : Value} {x : DStep} (h : rStep.val Q w v x) : ∃ (A_b : Option Addr) (c_b : Nat) (A_fates : Option Addr) (c_fates : Nat), v = .agg #[.int .i64 x.act, .int .i64 x.pos, .slice A_b x.b.length c_b, .slice A_fates x.fates.length c_fates] ∧ (Lit.int .i64 x.act).wf = true ∧ (Lit.int .i64 x.pos).wf = true ∧ Rep.byte.Sl Q w A_b c_b x.b ∧ rFate.Sl Q w A_fates c_fates x.fates := by
  obtain ⟨cs, rfl, h⟩ := h
  obtain ⟨A_b, c_b, A_fates, c_fates, e, f0, f1, f2, f3⟩ := rStep_open h
  subst e
  exact ⟨A_b, c_b, A_fates, c_fates, rfl, f0, f1, f2, f3⟩
theorem rStep_agg {Q : Nat → Prop} {w : World} {x : DStep} {A_b : Option Addr} {c_b : Nat} {A_fates : Option Addr} {c_fates : Nat} (f0 : (Lit.int .i64 x.act).wf = true) (f1 : (Lit.int .i64 x.pos).wf = true) (f2 : Rep.byte.Sl Q w A_b c_b x.b) (f3 : rFate.Sl Q w A_fates c_fates x.fates) : rStep.val Q w (.agg #[.int .i64 x.act, .int .i64 x.pos, .slice A_b x.b.length c_b, .slice A_fates x.fates.length c_fates]) x := ⟨_, rfl, rStep_mk f0 f1 f2 f3⟩

end Go.Proofs.Ytcfgckpjgihcgaa
/- What is safe stays: the plain law of a device. -/
namespace Go.Proofs.Ytcfgckpjgihcgaa
open Go.RowKit

def stepSt (st : DiskSt) (x : DStep) : DiskSt :=
  if x.act = 1 then (writeSt st x.pos x.b).1 else if x.act = 2 then (syncRes st).1 else if x.act = 3 then fuseSt st x.pos else if x.act = 4 then crashSt st x.fates else (readSt st x.pos).1
/-- What a step reads, and its error. -/
def outSt (st : DiskSt) (x : DStep) : List UInt8 × Int :=
  if x.act = 1 then ([], (writeSt st x.pos x.b).2) else if x.act = 2 then ([], (syncRes st).2) else if x.act = 3 then ([], 0) else if x.act = 4 then ([], 0) else (readSt st x.pos).2
def runSt (st : DiskSt) (l : List DStep) : DiskSt := l.foldl stepSt st
/-- All sectors are whole, and so are the writes that wait. -/
structure Sound (st : DiskSt) (k : Nat) : Prop where
  len : st.safe.length = k
  sec : ∀ x ∈ st.safe, x.length = 512
  wt : ∀ i, ∀ x ∈ st.wait i, x.length = 512
  key : ∀ i, st.wait i ≠ [] → 0 ≤ i ∧ i < k
/-- Nothing waits for a sector, and it is what it was. -/
def Still (s0 st : DiskSt) (i : Nat) : Prop := st.wait i = [] ∧ st.safe[i]? = s0.safe[i]?

theorem Sound.of_same {st st' : DiskSt} {k : Nat} (h : Sound st k) (h1 : st'.safe = st.safe) (h2 : st'.wait = st.wait) : Sound st' k := ⟨by rw [h1]; exact h.len, by rw [h1]; exact h.sec, by rw [h2]; exact h.wt, by rw [h2]; exact h.key⟩
theorem Still.of_same {s0 st st' : DiskSt} {i : Nat} (h : Still s0 st i) (h1 : st'.safe = st.safe) (h2 : st'.wait = st.wait) : Still s0 st' i := ⟨by rw [h2]; exact h.1, by rw [h1]; exact h.2⟩
theorem lastSt_length {st : DiskSt} {k : Nat} (h : Sound st k) {i : Nat} (hi : i < k) : (lastSt st (i : Nat)).length = 512 := by
  unfold lastSt
  cases hl : (st.wait (i : Int)).getLast? with
  | none =>
    rw [Option.getD_none, Int.toNat_natCast, List.getD_eq_getElem?_getD, List.getElem?_eq_getElem (by rw [h.len]; exact hi)]
    exact h.sec _ (List.getElem_mem _)
  | some y => exact h.wt _ y (List.mem_of_getLast? hl)
theorem lastSt_still {st : DiskSt} {i : Nat} (hw : st.wait (i : Int) = []) : lastSt st (i : Nat) = st.safe.getD i [] := by
  unfold lastSt; rw [hw]; rfl
theorem settle_length {s : List UInt8} {l : List (List UInt8)} {f : DFate} (hs : s.length = 512) (hl : ∀ x ∈ l, x.length = 512) : (settleOf s l f).length = 512 := by
  have hk := kept_le f l.length
  have hget : ∀ j, j < (s :: l).length → ((s :: l).getD j []).length = 512 := fun j hj => by
    rw [List.getD_eq_getElem?_getD, List.getElem?_eq_getElem hj]
    rcases List.mem_cons.1 (List.getElem_mem hj) with e | e
    · show ((s :: l)[j]).length = 512
      rw [e]; exact hs
    · exact hl _ e
  unfold settleOf
  split
  · exact tear_length _ _ _
  · exact hget _ (by simp only [List.length_cons]; omega)

theorem readSt_alike (st : DiskSt) (i : Int) : (readSt st i).1.safe = st.safe ∧ (readSt st i).1.wait = st.wait := by
  have hs := atSt_same st i
  unfold readSt; split
  · exact hs
  · exact hs
theorem write_sound {st : DiskSt} {k : Nat} (h : Sound st k) (i : Int) (b : List UInt8) : Sound (writeSt st i b).1 k := by
  have hs := atSt_same st i
  unfold writeSt
  split
  · rename_i he
    have hr := atSt_range he
    refine ⟨by show (atSt st i).1.safe.length = k; rw [hs.1]; exact h.len, by show ∀ x ∈ (atSt st i).1.safe, _; rw [hs.1]; exact h.sec, fun j x hx => ?_, fun j hj => ?_⟩
    · change x ∈ (if j = i then (atSt st i).1.wait i ++ [cutTo b 512] else (atSt st i).1.wait j) at hx
      rw [hs.2] at hx
      split at hx
      · rcases List.mem_append.1 hx with hx | hx
        · exact h.wt _ x hx
        · have := List.mem_singleton.1 hx
          subst this
          exact cutTo_length _ _
      · exact h.wt _ x hx
    · change (if j = i then (atSt st i).1.wait i ++ [cutTo b 512] else (atSt st i).1.wait j) ≠ [] at hj
      rw [hs.2] at hj
      split at hj
      · rename_i e; rw [e]; have := h.len; omega
      · exact h.key j hj
  · exact h.of_same hs.1 hs.2
theorem write_still {s0 st : DiskSt} {i : Nat} (h : Still s0 st i) {j : Int} (b : List UInt8) (hj : j ≠ i) : Still s0 (writeSt st j b).1 i := by
  have hs := atSt_same st j
  unfold writeSt
  split
  · refine ⟨?_, by show (atSt st j).1.safe[i]? = _; rw [hs.1]; exact h.2⟩
    show (if (i : Int) = j then (atSt st j).1.wait j ++ [cutTo b 512] else (atSt st j).1.wait i) = []
    rw [if_neg (fun e => hj e.symm), hs.2]; exact h.1
  · exact h.of_same hs.1 hs.2
theorem sync_sound {st : DiskSt} {k : Nat} (h : Sound st k) : Sound (syncSt st) k := by
  refine ⟨by show ((List.range st.safe.length).map _).length = k; rw [List.length_map, List.length_range]; exact h.len, fun x hx => ?_, fun i x hx => (by cases hx), fun i hi => absurd rfl hi⟩
  obtain ⟨i, hi, rfl⟩ := List.mem_map.1 hx
  exact lastSt_length h (by have := List.mem_range.1 hi; have := h.len; omega)
theorem sync_get (st : DiskSt) {i : Nat} (hw : st.wait (i : Int) = []) : (syncSt st).safe[i]? = st.safe[i]? := by
  show ((List.range st.safe.length).map fun i => lastSt st (i : Nat))[i]? = _
  by_cases hi : i < st.safe.length
  · rw [List.getElem?_map, List.getElem?_range hi]
    show some (lastSt st (i : Nat)) = _
    rw [lastSt_still hw, List.getD_eq_getElem?_getD, List.getElem?_eq_getElem hi]; rfl
  · rw [List.getElem?_eq_none (by simpa using hi), List.getElem?_eq_none (by omega)]
theorem sync_still {s0 st : DiskSt} {i : Nat} (h : Still s0 st i) : Still s0 (syncSt st) i := ⟨rfl, (sync_get st h.1).trans h.2⟩
theorem syncRes_sound {st : DiskSt} {k : Nat} (h : Sound st k) : Sound (syncRes st).1 k := by
  have hs := burnSt_same st
  unfold syncRes; split
  · exact sync_sound (h.of_same hs.1 hs.2)
  · exact h.of_same hs.1 hs.2
theorem syncRes_still {s0 st : DiskSt} {i : Nat} (h : Still s0 st i) : Still s0 (syncRes st).1 i := by
  have hs := burnSt_same st
  unfold syncRes; split
  · exact sync_still (h.of_same hs.1 hs.2)
  · exact h.of_same hs.1 hs.2
theorem dirty_nonempty {s : DiskSt} {z : Int} (hz : z ∈ dirtyOf s) : s.wait z ≠ [] := by
  unfold dirtyOf at hz
  obtain ⟨i, hi, rfl⟩ := List.mem_map.1 hz
  have := (List.mem_filter.1 hi).2
  intro e; rw [e] at this; cases this
theorem dirty_getD {s : DiskSt} {k : Nat} (hk : k < (dirtyOf s).length) : (dirtyOf s).getD k 0 ∈ dirtyOf s := by
  rw [List.getD_eq_getElem?_getD, List.getElem?_eq_getElem hk]; exact List.getElem_mem hk
theorem crashTo_sec {s : DiskSt} {n : Nat} (h : Sound s n) (fates : List DFate) : ∀ k, k ≤ (dirtyOf s).length → ∀ x ∈ crashTo s fates k, x.length = 512
  | 0, _ => h.sec
  | k + 1, hk => by
    intro x hx
    have ih := crashTo_sec h fates k (by omega)
    have hb := dirty_bounds (dirty_getD (show k < (dirtyOf s).length by omega))
    unfold crashTo at hx
    rcases List.mem_or_eq_of_mem_set hx with hx | rfl
    · exact ih x hx
    · refine settle_length ?_ (h.wt _)
      rw [List.getD_eq_getElem?_getD, List.getElem?_eq_getElem (by rw [crashTo_length]; omega)]
      exact ih _ (List.getElem_mem _)
theorem crashTo_still {s : DiskSt} {i : Nat} (hw : s.wait (i : Int) = []) (fates : List DFate) : ∀ k, k ≤ (dirtyOf s).length → (crashTo s fates k)[i]? = s.safe[i]?
  | 0, _ => rfl
  | k + 1, hk => by
    have hm := dirty_getD (show k < (dirtyOf s).length by omega)
    have hb := dirty_bounds hm
    have hne := dirty_nonempty hm
    unfold crashTo
    rw [List.getElem?_set_ne (fun e => hne (by rw [show (dirtyOf s).getD k 0 = (i : Int) by omega]; exact hw))]
    exact crashTo_still hw fates k (by omega)
theorem crash_sound {st : DiskSt} {k : Nat} (h : Sound st k) (fates : List DFate) : Sound (crashSt st fates) k :=
  ⟨(crashTo_length st fates _).trans h.len, crashTo_sec h fates _ (Nat.le_refl _), fun i x hx => (by cases hx), fun i hi => absurd rfl hi⟩
theorem crash_still {s0 st : DiskSt} {i : Nat} (h : Still s0 st i) (fates : List DFate) : Still s0 (crashSt st fates) i := ⟨rfl, (crashTo_still h.1 fates _ (Nat.le_refl _)).trans h.2⟩
theorem step_sound {st : DiskSt} {k : Nat} (h : Sound st k) (x : DStep) : Sound (stepSt st x) k := by
  unfold stepSt
  split
  · exact write_sound h _ _
  · split
    · exact syncRes_sound h
    · split
      · exact h.of_same rfl rfl
      · split
        · exact crash_sound h _
        · exact h.of_same (readSt_alike st x.pos).1 (readSt_alike st x.pos).2
theorem step_still {s0 st : DiskSt} {i : Nat} (h : Still s0 st i) {x : DStep} (hx : ¬ (x.act = 1 ∧ x.pos = i)) : Still s0 (stepSt st x) i := by
  unfold stepSt
  split
  · rename_i e
    exact write_still h _ (fun e2 => hx ⟨e, e2⟩)
  · split
    · exact syncRes_still h
    · split
      · exact h.of_same rfl rfl
      · split
        · exact crash_still h _
        · exact h.of_same (readSt_alike st x.pos).1 (readSt_alike st x.pos).2
theorem run_succ (st : DiskSt) {l : List DStep} {k : Nat} {x : DStep} (h : l[k]? = some x) : runSt st (l.take (k + 1)) = stepSt (runSt st (l.take k)) x := by
  obtain ⟨hk, he⟩ := List.getElem?_eq_some_iff.1 h
  unfold runSt
  rw [List.take_succ_eq_append_getElem hk, he, List.foldl_append]; rfl

/-- Behind a failure of the power a sync and one more failure change nothing. -/
theorem quiet_after (s : DiskSt) (f g : List DFate) : (syncRes (crashSt s f)).2 = 0 ∧ (crashSt (syncRes (crashSt s f)).1 g).safe = (crashSt s f).safe ∧ dirtyOf (crashSt (syncRes (crashSt s f)).1 g) = [] := by
  have hb : burnSt (crashSt s f) = (crashSt s f, 0) := rfl
  have hs : syncRes (crashSt s f) = (syncSt (crashSt s f), 0) := by unfold syncRes; rw [hb]; rfl
  have hdirty : ∀ t : DiskSt, (∀ i, t.wait i = []) → dirtyOf t = [] := fun t ht => by
    unfold dirtyOf
    rw [List.map_eq_nil_iff, List.filter_eq_nil_iff]
    intro i _
    rw [ht]; simp
  have hsafe : (syncSt (crashSt s f)).safe = (crashSt s f).safe := List.ext_getElem? fun i => sync_get _ rfl
  rw [hs]
  refine ⟨rfl, ?_, hdirty _ (fun _ => rfl)⟩
  show crashTo (syncSt (crashSt s f)) g (dirtyOf (syncSt (crashSt s f))).length = _
  rw [hdirty (syncSt (crashSt s f)) (fun _ => rfl)]
  exact hsafe
theorem crash_calm (s : DiskSt) (f : List DFate) : (crashSt s f).off = false := rfl
theorem flatten_sec : ∀ {ls : List (List UInt8)} (_ : ∀ x ∈ ls, x.length = 512) {i : Nat} {y : List UInt8} (_ : ls[i]? = some y), (ls.flatten.drop (512 * i)).take 512 = y
  | [], _, i, y, h => by simp at h
  | x :: xs, hx, 0, y, h => by
    have e : x = y := by simpa using h
    have hl := hx x (by simp)
    subst e
    rw [List.flatten_cons, Nat.mul_zero, List.drop_zero, ← hl, List.take_left]
  | x :: xs, hx, i + 1, y, h => by
    have hl := hx x (by simp)
    rw [List.flatten_cons, show 512 * (i + 1) = x.length + 512 * i by rw [hl]; omega, List.drop_length_add_append]
    exact flatten_sec (fun z hz => hx z (by simp [hz])) (by simpa using h)
theorem flatten_length : ∀ {ls : List (List UInt8)} (_ : ∀ x ∈ ls, x.length = 512), ls.flatten.length = 512 * ls.length
  | [], _ => rfl
  | x :: xs, hx => by
    rw [List.flatten_cons, List.length_append, hx x (by simp), flatten_length (fun z hz => hx z (by simp [hz])), List.length_cons]; omega
end Go.Proofs.Ytcfgckpjgihcgaa
/- A write, and a disk, of package vivariumref04 as0 Lean structures: how they lie in cells. Printed by mkextra.py. No program is named here. -/
namespace Go.Proofs.Ytcfgckpjgihcgaa
open Go.RowKit

@[ext] structure DWrite where
  pos : Int
  b : List UInt8
  deriving DecidableEq

def rWrite : Rep DWrite := ((Rep.int .i64).pair Rep.byte.list).iso fun x => (x.pos, x.b)
theorem rWrite_size : rWrite.size = 2 := rfl
theorem rWrite_open {Q : Nat → Prop} {w : World} {cs : List Value} {x : DWrite} (h : rWrite.rd Q w cs x) : ∃ (A_b : Option Addr) (c_b : Nat), cs = [.int .i64 x.pos, .slice A_b x.b.length c_b] ∧ (Lit.int .i64 x.pos).wf = true ∧ Rep.byte.Sl Q w A_b c_b x.b := by
  obtain ⟨a0, b0, rfl, h0, g0⟩ := h
  obtain ⟨e0, w0⟩ := h0
  subst e0
  obtain ⟨A1, c1, e1, w1⟩ := Rep.rd_sl g0
  subst e1
  exact ⟨A1, c1, rfl, w0, w1⟩
theorem rWrite_mk {Q : Nat → Prop} {w : World} {x : DWrite} {A_b : Option Addr} {c_b : Nat} (f0 : (Lit.int .i64 x.pos).wf = true) (f1 : Rep.byte.Sl Q w A_b c_b x.b) : rWrite.rd Q w [.int .i64 x.pos, .slice A_b x.b.length c_b] x := by
  exact ⟨_, _, rfl, ⟨rfl, f0⟩, Rep.sl_rd f1⟩
theorem rWrite_at {Q : Nat → Prop} {w : World} {A : Option Addr} {xs : List DWrite} (h : rWrite.At Q w A xs) {i : Nat} {x : DWrite} (hx : xs[i]? = some x) :
    ∃ (b off : Nat) (A_b : Option Addr) (c_b : Nat), A = some ⟨b, off, none⟩ ∧ IsC w b ∧ w.cell? ⟨b, off + i * 2, none⟩ = some (.int .i64 x.pos) ∧ w.cell? ⟨b, off + i * 2 + 1, none⟩ = some (.slice A_b x.b.length c_b) ∧ (Lit.int .i64 x.pos).wf = true ∧ Rep.byte.Sl Q w A_b c_b x.b := by
  obtain ⟨b, off, es, h1, _, h2, h3, h4⟩ := h.get hx
  obtain ⟨A_b, c_b, e, f0, f1⟩ := rWrite_open h3
  subst e
  rw [rWrite_size] at h4
  exact ⟨b, off, A_b, c_b, h1, h2, h4 0 _ rfl, h4 1 _ rfl, f0, f1⟩
theorem rWrite_val {Q : Nat → Prop} {w : World} {v : Value} {x : DWrite} (h : rWrite.val Q w v x) : ∃ (A_b : Option Addr) (c_b : Nat), v = .agg #[.int .i64 x.pos, .slice A_b x.b.length c_b] ∧ (Lit.int .i64 x.pos).wf = true ∧ Rep.byte.Sl Q w A_b c_b x.b := by
  obtain ⟨cs, rfl, h⟩ := h
  obtain ⟨A_b, c_b, e, f0, f1⟩ := rWrite_open h
  subst e
  exact ⟨A_b, c_b, rfl, f0, f1⟩
theorem rWrite_agg {Q : Nat → Prop} {w : World} {x : DWrite} {A_b : Option Addr} {c_b : Nat} (f0 : (Lit.int .i64 x.pos).wf = true) (f1 : Rep.byte.Sl Q w A_b c_b x.b) : rWrite.val Q w (.agg #[.int .i64 x.pos, .slice A_b x.b.length c_b]) x := ⟨_, rfl, rWrite_mk f0 f1⟩

@[ext] structure DDisk where
  safe : List (List UInt8)
  wait : List DWrite
  fuse : Int
  off : Bool
  reads : Int
  writes : Int
  deriving DecidableEq

def rDisk : Rep DDisk := (Rep.byte.list.list.pair (rWrite.list.pair ((Rep.int .i64).pair (Rep.bool.pair ((Rep.int .i64).pair (Rep.int .i64)))))).iso fun x => (x.safe, x.wait, x.fuse, x.off, x.reads, x.writes)
theorem rDisk_size : rDisk.size = 6 := rfl
theorem rDisk_open {Q : Nat → Prop} {w : World} {cs : List Value} {x : DDisk} (h : rDisk.rd Q w cs x) : ∃ (A_safe : Option Addr) (c_safe : Nat) (A_wait : Option Addr) (c_wait : Nat), cs = [.slice A_safe x.safe.length c_safe, .slice A_wait x.wait.length c_wait, .int .i64 x.fuse, .bool x.off, .int .i64 x.reads, .int .i64 x.writes] ∧ Rep.byte.list.Sl Q w A_safe c_safe x.safe ∧ rWrite.Sl Q w A_wait c_wait x.wait ∧ (Lit.int .i64 x.fuse).wf = true ∧ (Lit.int .i64 x.reads).wf = true ∧ (Lit.int .i64 x.writes).wf = true := by
  obtain ⟨a0, b0, rfl, h0, g0⟩ := h
  obtain ⟨A0, c0, e0, w0⟩ := Rep.rd_sl h0
  subst e0
  obtain ⟨a1, b1, rfl, h1, g1⟩ := g0
  obtain ⟨A1, c1, e1, w1⟩ := Rep.rd_sl h1
  subst e1
  obtain ⟨a2, b2, rfl, h2, g2⟩ := g1
  obtain ⟨e2, w2⟩ := h2
  subst e2
  obtain ⟨a3, b3, rfl, h3, g3⟩ := g2
  have e3 := h3
  subst e3
  obtain ⟨a4, b4, rfl, h4, g4⟩ := g3
  obtain ⟨e4, w4⟩ := h4
  subst e4
  obtain ⟨e5, w5⟩ := g4
  subst e5
  exact ⟨A0, c0, A1, c1, rfl, w0, w1, w2, w4, w5⟩
theorem rDisk_mk {Q : Nat → Prop} {w : World} {x : DDisk} {A_safe : Option Addr} {c_safe : Nat} {A_wait : Option Addr} {c_wait : Nat} (f0 : Rep.byte.list.Sl Q w A_safe c_safe x.safe) (f1 : rWrite.Sl Q w A_wait c_wait x.wait) (f2 : (Lit.int .i64 x.fuse).wf = true) (f3 : (Lit.int .i64 x.reads).wf = true) (f4 : (Lit.int .i64 x.writes).wf = true) : rDisk.rd Q w [.slice A_safe x.safe.length c_safe, .slice A_wait x.wait.length c_wait, .int .i64 x.fuse, .bool x.off, .int .i64 x.reads, .int .i64 x.writes] x := by
  exact ⟨_, _, rfl, Rep.sl_rd f0, ⟨_, _, rfl, Rep.sl_rd f1, ⟨_, _, rfl, ⟨rfl, f2⟩, ⟨_, _, rfl, rfl, ⟨_, _, rfl, ⟨rfl, f3⟩, ⟨rfl, f4⟩⟩⟩⟩⟩⟩
theorem rDisk_at {Q : Nat → Prop} {w : World} {A : Option Addr} {xs : List DDisk} (h : rDisk.At Q w A xs) {i : Nat} {x : DDisk} (hx : xs[i]? = some x) :
    ∃ (b off : Nat) (A_safe : Option Addr) (c_safe : Nat) (A_wait : Option Addr) (c_wait : Nat), A = some ⟨b, off, none⟩ ∧ IsC w b ∧ w.cell? ⟨b, off + i * 6, none⟩ = some (.slice A_safe x.safe.length c_safe) ∧ w.cell? ⟨b, off + i * 6 + 1, none⟩ = some (.slice A_wait x.wait.length c_wait) ∧ w.cell? ⟨b, off + i * 6 + 2, none⟩ = some (.int .i64 x.fuse) ∧ w.cell? ⟨b, off + i * 6 + 3, none⟩ = some (.bool x.off) ∧ w.cell? ⟨b, off + i * 6 + 4, none⟩ = some (.int .i64 x.reads) ∧ w.cell? ⟨b, off + i * 6 + 5, none⟩ = some (.int .i64 x.writes) ∧ Rep.byte.list.Sl Q w A_safe c_safe x.safe ∧ rWrite.Sl Q w A_wait c_wait x.wait ∧ (Lit.int .i64 x.fuse).wf = true ∧ (Lit.int .i64 x.reads).wf = true ∧ (Lit.int .i64 x.writes).wf = true := by
  obtain ⟨b, off, es, h1, _, h2, h3, h4⟩ := h.get hx
  obtain ⟨A_safe, c_safe, A_wait, c_wait, e, f0, f1, f2, f3, f4⟩ := rDisk_open h3
  subst e
  rw [rDisk_size] at h4
  exact ⟨b, off, A_safe, c_safe, A_wait, c_wait, h1, h2, h4 0 _ rfl, h4 1 _ rfl, h4 2 _ rfl, h4 3 _ rfl, h4 4 _ rfl, h4 5 _ rfl, f0, f1, f2, f3, f4⟩
theorem rDisk_val {Q : Nat → Prop} {w : World} {v : Value} {x : DDisk} (h : rDisk.val Q w v x) : ∃ (A_safe : Option Addr) (c_safe : Nat) (A_wait : Option Addr) (c_wait : Nat), v = .agg #[.slice A_safe x.safe.length c_safe, .slice A_wait x.wait.length c_wait, .int .i64 x.fuse, .bool x.off, .int .i64 x.reads, .int .i64 x.writes] ∧ Rep.byte.list.Sl Q w A_safe c_safe x.safe ∧ rWrite.Sl Q w A_wait c_wait x.wait ∧ (Lit.int .i64 x.fuse).wf = true ∧ (Lit.int .i64 x.reads).wf = true ∧ (Lit.int .i64 x.writes).wf = true := by
  obtain ⟨cs, rfl, h⟩ := h
  obtain ⟨A_safe, c_safe, A_wait, c_wait, e, f0, f1, f2, f3, f4⟩ := rDisk_open h
  subst e
  exact ⟨A_safe, c_safe, A_wait, c_wait, rfl, f0, f1, f2, f3, f4⟩
theorem rDisk_agg {Q : Nat → Prop} {w : World} {x : DDisk} {A_safe : Option Addr} {c_safe : Nat} {A_wait : Option Addr} {c_wait : Nat} (f0 : Rep.byte.list.Sl Q w A_safe c_safe x.safe) (f1 : rWrite.Sl Q w A_wait c_wait x.wait) (f2 : (Lit.int .i64 x.fuse).wf = true) (f3 : (Lit.int .i64 x.reads).wf = true) (f4 : (Lit.int .i64 x.writes).wf = true) : rDisk.val Q w (.agg #[.slice A_safe x.safe.length c_safe, .slice A_wait x.wait.length c_wait, .int .i64 x.fuse, .bool x.off, .int .i64 x.reads, .int .i64 x.writes]) x := ⟨_, rfl, rDisk_mk f0 f1 f2 f3 f4⟩

end Go.Proofs.Ytcfgckpjgihcgaa
/- A device and the reference's: the plain law. No program is named here. -/
namespace Go.Proofs.Ytcfgckpjgihcgaa
open Go.RowKit

def ofW (l : List DWrite) (i : Int) : List (List UInt8) := (l.filter fun x => x.pos == i).map (·.b)
def lastW (d : DDisk) (i : Int) : List UInt8 := ((ofW d.wait i).getLast?).getD (d.safe.getD i.toNat [])
def dirtyW (d : DDisk) : List Int := ((List.range d.safe.length).filter fun i => !(ofW d.wait (i : Nat)).isEmpty).map fun i : Nat => (i : Int)
def burnW (d : DDisk) : DDisk × Int := if d.off = true ∨ d.fuse = 0 then ({ d with off := true }, 3) else if 0 < d.fuse then ({ d with fuse := d.fuse - 1 }, 0) else (d, 0)
def crashTail (d : DDisk) (fates : List DFate) : Nat → List (List UInt8)
  | 0 => d.safe
  | k + 1 => (crashTail d fates k).set ((dirtyW d).getD k 0).toNat (settleOf (d.safe.getD ((dirtyW d).getD k 0).toNat []) (ofW d.wait ((dirtyW d).getD k 0)) (fates.getD k ⟨0, 0⟩))
def crashW (d : DDisk) (fates : List DFate) : DDisk := ⟨crashTail d fates (dirtyW d).length, [], -1, false, d.reads, d.writes⟩
def syncTail (s : List (List UInt8)) (l : List DWrite) : List (List UInt8) := l.foldl (fun s x => s.set x.pos.toNat x.b) s
def goW (d : DDisk) (x : DStep) : DDisk × List UInt8 × Int :=
  if x.act = 3 then ({ d with fuse := if x.pos < 0 then -1 else x.pos }, [], 0)
  else if x.act = 4 then (crashW d x.fates, [], 0)
  else if x.act ≠ 2 ∧ (x.pos < 0 ∨ (d.safe.length : Int) ≤ x.pos) then (d, [], 2)
  else if (burnW d).2 ≠ 0 then ((burnW d).1, [], (burnW d).2)
  else if x.act = 1 then ({ (burnW d).1 with wait := (burnW d).1.wait ++ [⟨x.pos, cutTo x.b 512⟩], writes := wrap64 ((burnW d).1.writes + 1) }, [], 0)
  else if x.act = 2 then ({ (burnW d).1 with safe := syncTail (burnW d).1.safe (burnW d).1.wait, wait := [] }, [], 0)
  else ({ (burnW d).1 with reads := wrap64 ((burnW d).1.reads + 1) }, lastW (burnW d).1 x.pos, 0)

/-- A device, and what the reference holds of it. -/
structure Mirror (st : DiskSt) (d : DDisk) : Prop where
  safe : st.safe = d.safe
  wait : ∀ i, st.wait i = ofW d.wait i
  keys : ∀ x ∈ d.wait, 0 ≤ x.pos ∧ x.pos < d.safe.length
  fuse : st.fuse = d.fuse
  off : st.off = d.off
  reads : st.reads = d.reads
  writes : st.writes = d.writes

theorem ofW_append (l m : List DWrite) (i : Int) : ofW (l ++ m) i = ofW l i ++ ofW m i := by unfold ofW; rw [List.filter_append, List.map_append]
theorem ofW_one (x : DWrite) (i : Int) : ofW [x] i = if x.pos = i then [x.b] else [] := by
  unfold ofW
  by_cases h : x.pos = i
  · rw [if_pos h]; simp [h]
  · rw [if_neg h]; simp [h]
theorem mirror_last {st : DiskSt} {d : DDisk} (h : Mirror st d) (i : Int) : lastSt st i = lastW d i := by
  unfold lastSt lastW; rw [h.safe, h.wait]
theorem mirror_dirty {st : DiskSt} {d : DDisk} (h : Mirror st d) : dirtyOf st = dirtyW d := by
  unfold dirtyOf dirtyW; rw [h.safe]
  congr 2
  funext i
  rw [h.wait]
theorem mirror_burn {st : DiskSt} {d : DDisk} (h : Mirror st d) : Mirror (burnSt st).1 (burnW d).1 ∧ (burnSt st).2 = (burnW d).2 := by
  obtain ⟨h1, h2, h3, h4, h5, h6, h7⟩ := h
  unfold burnSt burnW
  by_cases ho : st.off = true
  · rw [if_pos ho, if_pos (.inl (h5 ▸ ho))]
    exact ⟨⟨h1, h2, h3, h4, ho, h6, h7⟩, rfl⟩
  · rw [if_neg ho]
    by_cases h0 : st.fuse = 0
    · rw [if_pos h0, if_pos (.inr (h4 ▸ h0))]
      exact ⟨⟨h1, h2, h3, h4, rfl, h6, h7⟩, rfl⟩
    · rw [if_neg h0, if_neg (show ¬ (d.off = true ∨ d.fuse = 0) by rw [← h4, ← h5]; exact fun e => e.elim ho h0)]
      by_cases hp : 0 < st.fuse
      · rw [if_pos hp, if_pos (h4 ▸ hp)]
        exact ⟨⟨h1, h2, h3, by show st.fuse - 1 = d.fuse - 1; rw [h4], h5, h6, h7⟩, rfl⟩
      · rw [if_neg hp, if_neg (h4 ▸ hp)]
        exact ⟨⟨h1, h2, h3, h4, h5, h6, h7⟩, rfl⟩
/-- The sectors that are dirty are all different ones: it does not matter whether they are read before or behind the writes. -/
theorem crashTail_other (d : DDisk) (fates : List DFate) {z : Int} (hz : 0 ≤ z) : ∀ k, k ≤ (dirtyW d).length → (∀ j, j < k → (dirtyW d).getD j 0 ≠ z) → (∀ j, j < k → 0 ≤ (dirtyW d).getD j 0) → (crashTail d fates k).getD z.toNat [] = d.safe.getD z.toNat []
  | 0, _, _, _ => rfl
  | k + 1, hk, hne, hp => by
    unfold crashTail
    rw [List.getD_eq_getElem?_getD, List.getElem?_set_ne (fun e => hne k (Nat.lt_succ_self k) (by have := hp k (Nat.lt_succ_self k); omega)), ← List.getD_eq_getElem?_getD]
    exact crashTail_other d fates hz k (by omega) (fun j hj => hne j (by omega)) (fun j hj => hp j (by omega))
theorem dirtyW_get {d : DDisk} {j : Nat} (h : j < (dirtyW d).length) : (dirtyW d).getD j 0 = (dirtyW d)[j] := by
  rw [List.getD_eq_getElem?_getD, List.getElem?_eq_getElem h]; rfl
theorem dirtyW_sorted (d : DDisk) : (dirtyW d).Pairwise (· < ·) := by
  unfold dirtyW
  rw [List.pairwise_map]
  exact (List.pairwise_lt_range.filter _).imp (fun h => by omega)
theorem dirtyW_nonneg {d : DDisk} {z : Int} (h : z ∈ dirtyW d) : 0 ≤ z := by
  unfold dirtyW at h
  obtain ⟨i, _, rfl⟩ := List.mem_map.1 h
  omega
theorem mirror_crashTo {st : DiskSt} {d : DDisk} (h : Mirror st d) (fates : List DFate) : ∀ k, k ≤ (dirtyW d).length → crashTo st fates k = crashTail d fates k
  | 0, _ => h.safe
  | k + 1, hk => by
    have ih := mirror_crashTo h fates k (by omega)
    have hd := mirror_dirty h
    unfold crashTo crashTail
    rw [ih, hd, h.wait]
    have hg := dirtyW_get (show k < (dirtyW d).length by omega)
    have hz : 0 ≤ (dirtyW d).getD k 0 := by rw [hg]; exact dirtyW_nonneg (List.getElem_mem _)
    rw [crashTail_other d fates hz k (by omega) (fun j hj => by
      have hgj := dirtyW_get (show j < (dirtyW d).length by omega)
      have := List.pairwise_iff_getElem.1 (dirtyW_sorted d) j k (by omega) (by omega) hj
      rw [hg, hgj]; omega) (fun j hj => by
      rw [dirtyW_get (show j < (dirtyW d).length by omega)]; exact dirtyW_nonneg (List.getElem_mem _))]
theorem crashTail_length (d : DDisk) (fates : List DFate) : ∀ k, (crashTail d fates k).length = d.safe.length
  | 0 => rfl
  | k + 1 => by unfold crashTail; rw [List.length_set]; exact crashTail_length d fates k
theorem mirror_crash {st : DiskSt} {d : DDisk} (h : Mirror st d) (fates : List DFate) : Mirror (crashSt st fates) (crashW d fates) :=
  ⟨by show crashTo st fates (dirtyOf st).length = crashTail d fates (dirtyW d).length; rw [mirror_dirty h]; exact mirror_crashTo h fates _ (Nat.le_refl _), fun _ => rfl, fun x hx => (by cases hx), rfl, rfl, h.reads, h.writes⟩
theorem syncTail_length : ∀ (l : List DWrite) (s : List (List UInt8)), (syncTail s l).length = s.length
  | [], _ => rfl
  | x :: l, s => by
    show (syncTail (s.set x.pos.toNat x.b) l).length = _
    rw [syncTail_length l]; exact List.length_set ..
theorem syncTail_get : ∀ (l : List DWrite) (s : List (List UInt8)) (i : Nat), i < s.length → (∀ x ∈ l, 0 ≤ x.pos) → (syncTail s l)[i]? = some (((ofW l i).getLast?).getD (s.getD i []))
  | [], s, i, hi, _ => by
    show s[i]? = some (s.getD i [])
    rw [List.getD_eq_getElem?_getD, List.getElem?_eq_getElem hi]; rfl
  | x :: l, s, i, hi, hp => by
    show (syncTail (s.set x.pos.toNat x.b) l)[i]? = _
    rw [syncTail_get l _ i (by rw [List.length_set]; exact hi) (fun y hy => hp y (by simp [hy]))]
    have h0 := hp x (by simp)
    have e : ofW (x :: l) i = ofW [x] i ++ ofW l i := ofW_append [x] l i
    rw [e, ofW_one]
    by_cases hx : x.pos = (i : Int)
    · rw [if_pos hx, List.getD_eq_getElem?_getD (l := s.set _ _), show x.pos.toNat = i by omega, List.getElem?_set_self hi]
      cases hl : (ofW l i).getLast? with
      | none => rw [List.getLast?_eq_none_iff.1 hl]; rfl
      | some y => rw [List.getLast?_append, hl]; rfl
    · rw [if_neg hx, List.nil_append, List.getD_eq_getElem?_getD (l := s.set _ _), List.getElem?_set_ne (by omega), ← List.getD_eq_getElem?_getD]
theorem mirror_sync {st : DiskSt} {d : DDisk} (h : Mirror st d) : Mirror (syncSt st) { d with safe := syncTail d.safe d.wait, wait := [] } := by
  refine ⟨?_, fun _ => rfl, fun x hx => (by cases hx), h.fuse, h.off, h.reads, h.writes⟩
  show (List.range st.safe.length).map (fun i => lastSt st (i : Nat)) = syncTail d.safe d.wait
  apply List.ext_getElem?
  intro i
  by_cases hi : i < d.safe.length
  · rw [List.getElem?_map, h.safe, List.getElem?_range hi, syncTail_get _ _ _ hi (fun x hx => (h.keys x hx).1)]
    show some (lastSt st (i : Nat)) = _
    rw [mirror_last h]
    rfl
  · rw [List.getElem?_eq_none (by rw [List.length_map, List.length_range, h.safe]; omega), List.getElem?_eq_none (by rw [syncTail_length]; omega)]
theorem mirror_push {st : DiskSt} {d : DDisk} (h : Mirror st d) {i : Int} (hi : 0 ≤ i ∧ i < d.safe.length) (b : List UInt8) :
    Mirror (pushSt { st with writes := wrap64 (st.writes + 1) } i b) { d with wait := d.wait ++ [⟨i, b⟩], writes := wrap64 (d.writes + 1) } := by
  refine ⟨h.safe, fun j => ?_, fun x hx => ?_, h.fuse, h.off, h.reads, by show wrap64 (st.writes + 1) = wrap64 (d.writes + 1); rw [h.writes]⟩
  · show (if j = i then st.wait i ++ [b] else st.wait j) = _
    rw [ofW_append, ofW_one]
    by_cases hj : j = i
    · rw [if_pos hj, if_pos hj.symm, h.wait, hj]
    · rw [if_neg hj, if_neg (fun e => hj e.symm), h.wait, List.append_nil]
  · rcases List.mem_append.1 hx with hx | hx
    · exact h.keys x hx
    · have := List.mem_singleton.1 hx
      subst this
      exact hi
theorem mirror_step {st : DiskSt} {d : DDisk} (h : Mirror st d) (x : DStep) : Mirror (stepSt st x) (goW d x).1 ∧ outSt st x = (goW d x).2 := by
  obtain ⟨hb, he⟩ := mirror_burn h
  have hbs := burnSt_same st
  obtain ⟨act, pos, b, fates⟩ := x
  unfold stepSt outSt goW
  dsimp only
  by_cases h3 : act = 3
  · subst h3
    refine ⟨⟨h.safe, h.wait, h.keys, ?_, h.off, h.reads, h.writes⟩, rfl⟩
    show (if pos < -1 then -1 else pos) = if pos < 0 then -1 else pos
    split <;> split <;> omega
  by_cases h4 : act = 4
  · subst h4
    exact ⟨mirror_crash h fates, rfl⟩
  simp only [if_neg h3, if_neg h4]
  by_cases h2 : act = 2
  · have h1 : ¬ act = 1 := by omega
    have hn : ¬ (act ≠ 2 ∧ (pos < 0 ∨ (d.safe.length : Int) ≤ pos)) := fun e => e.1 h2
    simp only [if_neg h1, if_pos h2, if_neg hn]
    unfold syncRes
    by_cases hz : (burnSt st).2 = 0
    · have hz2 : ¬ (burnW d).2 ≠ 0 := by rw [← he]; exact fun e => e hz
      simp only [if_pos hz, if_neg hz2]
      exact ⟨mirror_sync hb, trivial⟩
    · have hz2 : (burnW d).2 ≠ 0 := by rw [← he]; exact hz
      simp only [if_neg hz, if_pos hz2]
      exact ⟨hb, by rw [he]⟩
  by_cases hr : pos < 0 ∨ (d.safe.length : Int) ≤ pos
  · have hn : act ≠ 2 ∧ (pos < 0 ∨ (d.safe.length : Int) ≤ pos) := ⟨h2, hr⟩
    have ha : atSt st pos = (st, 2) := by unfold atSt; rw [if_pos (by rw [h.safe]; exact hr)]
    have hq : ¬ (atSt st pos).2 = 0 := by rw [ha]; show ¬ (2 : Int) = 0; decide
    by_cases h1 : act = 1
    · simp only [if_pos h1, if_pos hn]
      unfold writeSt
      rw [if_neg hq, ha]
      exact ⟨h, rfl⟩
    · simp only [if_neg h1, if_neg h2, if_pos hn]
      unfold readSt
      rw [if_neg hq, ha]
      exact ⟨h, rfl⟩
  · have hn : ¬ (act ≠ 2 ∧ (pos < 0 ∨ (d.safe.length : Int) ≤ pos)) := fun e => hr e.2
    have ha : atSt st pos = burnSt st := by unfold atSt; rw [if_neg (by rw [h.safe]; exact hr)]
    by_cases h1 : act = 1
    · simp only [if_pos h1, if_neg hn]
      unfold writeSt
      rw [ha]
      by_cases hz : (burnSt st).2 = 0
      · have hz2 : ¬ (burnW d).2 ≠ 0 := by rw [← he]; exact fun e => e hz
        simp only [if_pos hz, if_neg hz2]
        exact ⟨mirror_push hb (by rw [← hb.safe, hbs.1, h.safe]; omega) _, trivial⟩
      · have hz2 : (burnW d).2 ≠ 0 := by rw [← he]; exact hz
        simp only [if_neg hz, if_pos hz2]
        exact ⟨hb, by rw [he]⟩
    · simp only [if_neg h1, if_neg h2, if_neg hn]
      unfold readSt
      rw [ha]
      by_cases hz : (burnSt st).2 = 0
      · have hz2 : ¬ (burnW d).2 ≠ 0 := by rw [← he]; exact fun e => e hz
        simp only [if_pos hz, if_neg hz2]
        refine ⟨⟨hb.safe, hb.wait, hb.keys, hb.fuse, hb.off, by show wrap64 _ = wrap64 _; rw [hb.reads], hb.writes⟩, ?_⟩
        rw [← mirror_last hb]
        unfold lastSt
        rw [hbs.1, hbs.2]
      · have hz2 : (burnW d).2 ≠ 0 := by rw [← he]; exact hz
        simp only [if_neg hz, if_pos hz2]
        exact ⟨hb, by rw [he]⟩
end Go.Proofs.Ytcfgckpjgihcgaa
/- Walks of the reference's device: the fuse, a sector's writes, what is dirty, what was written last. -/
namespace Go.Proofs.Ytcfgckpjgihcgaa
open Go.RowKit

/-- A disk, a number. -/
def DiskErr (Q : Nat → Prop) (w : World) (r : DDisk × Int) (e : Ending) (w' : World) : Prop := ∃ v, e = .returned (.tuple #[v, .int .i64 r.2]) ∧ rDisk.val Q w' v r.1 ∧ Below w.heap.size w w'

theorem two_boxes (w : World) (B Z : Array Value) (t t' : Nat) : ((w.alloc (.cells B t)).alloc (.cells Z t')).heap[w.heap.size]? = some (.cells B t (0, 0)) ∧ ((w.alloc (.cells B t)).alloc (.cells Z t')).heap[w.heap.size + 1]? = some (.cells Z t' (0, 0)) ∧ Below w.heap.size w ((w.alloc (.cells B t)).alloc (.cells Z t')) ∧ ((w.alloc (.cells B t)).alloc (.cells Z t')).heap.size = w.heap.size + 2 := by
  have h0 : (w.alloc (.cells B t)).heap.size = w.heap.size + 1 := by simp
  have h1 := heap_alloc_new w (.cells B t)
  have h2 := heap_alloc_new (w.alloc (.cells B t)) (.cells Z t')
  rw [h0] at h2
  refine ⟨(Below.heap_alloc _ _ _ (by omega)).trans h1, h2, ((Below.refl _ _).alloc (Nat.le_refl _) _).alloc (by omega) _, by simp⟩

set_option maxRecDepth 100000 in
set_option maxHeartbeats 1000000 in
/-- ref04.burn -/
theorem rburn_calls {Q : Nat → Prop} {w : World} {v : Value} {d : DDisk} (hx : rDisk.val Q w v d) : Calls Try.prog 167 #[v] w (DiskErr Q w (burnW d)) := by
  obtain ⟨A0, c0, A1, c1, rfl, sp, sq, f2, f3, f4⟩ := rDisk_val hx
  have HSP := Lib.hid (show ∀ W', Below w.heap.size w W' → Rep.byte.list.Sl Q W' A0 c0 d.safe from fun W' hb => Rep.Sl.keep (fun k hk hl => ⟨hk, hb.block k hl.lt⟩) sp)
  have HSQ := Lib.hid (show ∀ W', Below w.heap.size w W' → rWrite.Sl Q W' A1 c1 d.wait from fun W' hb => Rep.Sl.keep (fun k hk hl => ⟨hk, hb.block k hl.lt⟩) sq)
  have hfu : -9223372036854775808 ≤ d.fuse ∧ d.fuse ≤ 9223372036854775807 := by simpa [Lit.wf, IntKind.min, IntKind.max, IntKind.signed, IntKind.bits] using f2
  have F2 := Lib.hid f2
  have F3 := Lib.hid f3
  have F4 := Lib.hid f4
  clear hx sp sq f2 f3 f4
  obtain ⟨safe, wait, fuse, off, reads, writes⟩ := d
  dsimp only at *
  generalize hn0 : safe.length = n0 at *
  generalize hn1 : wait.length = n1 at *
  have HM := Lib.hid (show ∀ W' (o : Bool) (fu : Int), (Lit.int .i64 fu).wf = true → Below w.heap.size w W' → rDisk.val Q W' (.agg #[.slice A0 n0 c0, .slice A1 n1 c1, .int .i64 fu, .bool o, .int .i64 reads, .int .i64 writes]) ⟨safe, wait, fu, o, reads, writes⟩ from fun W' o fu hf hb => by
    have h := rDisk_agg (x := ⟨safe, wait, fu, o, reads, writes⟩) (HSP.out W' hb) (HSQ.out W' hb) hf F3.out F4.out
    dsimp only at h
    rw [hn0, hn1] at h
    exact h)
  obtain ⟨hbk, hrk, hbel, hsz⟩ := two_boxes w #[.slice A0 n0 c0, .slice A1 n1 c1, .int .i64 fuse, .bool off, .int .i64 reads, .int .i64 writes] #[.slice none 0 0, .slice none 0 0, .int .i64 0, .bool false, .int .i64 0, .int .i64 0] 104 104
  generalize hW1 : (w.alloc (.cells #[.slice A0 n0 c0, .slice A1 n1 c1, .int .i64 fuse, .bool off, .int .i64 reads, .int .i64 writes] 104)).alloc (.cells #[.slice none 0 0, .slice none 0 0, .int .i64 0, .bool false, .int .i64 0, .int .i64 0] 104) = W1 at *
  have HB1 := Lib.hid hbel
  have e0 := cell_row hbk 0
  have e1 := cell_row hbk 1
  have e2 := cell_row hbk 2
  have e3 := cell_row hbk 3
  have e4 := cell_row hbk 4
  have e5 := cell_row hbk 5
  have z2 := frozen_row hbk 2
  have z3 := frozen_row hbk 3
  have d0 := cell_row hrk 0
  have d1 := cell_row hrk 1
  have d2 := cell_row hrk 2
  have d3 := cell_row hrk 3
  have d4 := cell_row hrk 4
  have d5 := cell_row hrk 5
  have y0 := frozen_row hrk 0
  have y1 := frozen_row hrk 1
  have y2 := frozen_row hrk 2
  have y3 := frozen_row hrk 3
  have y4 := frozen_row hrk 4
  have y5 := frozen_row hrk 5
  have hfr : Try.f167.results = #[.cell 2 104, .tmp 3] := rfl
  clear hbel hbk hrk hn0 hn1 hsz
  have HS1 := Lib.hid (show ∀ W i v, Below w.heap.size w W → Below w.heap.size w (W.setCell ⟨w.heap.size, i, none⟩ v) from fun W i v h => h.setCell (Nat.le_refl _) _)
  have HS2 := Lib.hid (show ∀ W i v, Below w.heap.size w W → Below w.heap.size w (W.setCell ⟨w.heap.size + 1, i, none⟩ v) from fun W i v h => h.setCell (Nat.le_succ _) _)
  cases off with
  | true =>
    have HF := Lib.hid (show burnW ⟨safe, wait, fuse, true, reads, writes⟩ = (⟨safe, wait, fuse, true, reads, writes⟩, 3) from rfl)
    go_enter Try.func167, Try.ntmps167
    go_wp2_with fail
    try rw [hW1]
    clear hW1
    go_wp2_with fail
    refine (fun (hb : Below w.heap.size w _) => ⟨rfl, .tuple #[.agg #[.slice A0 n0 c0, .slice A1 n1 c1, .int .i64 fuse, .bool true, .int .i64 reads, .int .i64 writes], .int .i64 3], ?_, ⟨_, by rw [HF.out], by rw [HF.out]; exact HM.out _ true fuse F2.out hb, hb⟩⟩) ?_
    · repeat (refine below_set ?_ (by omega))
      exact HB1.out
    · simp only [results, hfr]
      go_simp
  | false =>
    by_cases h0 : fuse = 0
    · subst h0
      have HF := Lib.hid (show burnW ⟨safe, wait, 0, false, reads, writes⟩ = (⟨safe, wait, 0, true, reads, writes⟩, 3) from rfl)
      go_enter Try.func167, Try.ntmps167
      go_wp2_with fail
      try rw [hW1]
      clear hW1
      go_wp2_with fail
      refine (fun (hb : Below w.heap.size w _) => ⟨rfl, .tuple #[.agg #[.slice A0 n0 c0, .slice A1 n1 c1, .int .i64 0, .bool true, .int .i64 reads, .int .i64 writes], .int .i64 3], ?_, ⟨_, by rw [HF.out], by rw [HF.out]; exact HM.out _ true 0 F2.out hb, hb⟩⟩) ?_
      · repeat (refine below_set ?_ (by omega))
        exact HB1.out
      · simp only [results, hfr]
        go_simp
    · have g0 : (fuse == 0) = false := by simpa using h0
      by_cases h1 : 0 < fuse
      · have HF := Lib.hid (show burnW ⟨safe, wait, fuse, false, reads, writes⟩ = (⟨safe, wait, fuse - 1, false, reads, writes⟩, 0) by simp [burnW, h0, h1])
        have HWF := Lib.hid (show (Lit.int .i64 (fuse - 1)).wf = true from wf_i64 (by omega) (by omega))
        clear h0
        go_enter Try.func167, Try.ntmps167
        go_wp2_with fail
        try rw [hW1]
        clear hW1
        go_wp2_with fail
        refine (fun (hb : Below w.heap.size w _) => ⟨rfl, .tuple #[.agg #[.slice A0 n0 c0, .slice A1 n1 c1, .int .i64 (fuse - 1), .bool false, .int .i64 reads, .int .i64 writes], .int .i64 0], ?_, ⟨_, by rw [HF.out], by rw [HF.out]; exact HM.out _ false _ HWF.out hb, hb⟩⟩) ?_
        · repeat (refine below_set ?_ (by omega))
          exact HB1.out
        · simp only [results, hfr]
          go_simp
      · have HF := Lib.hid (show burnW ⟨safe, wait, fuse, false, reads, writes⟩ = (⟨safe, wait, fuse, false, reads, writes⟩, 0) by simp [burnW, h0, h1])
        clear h0
        go_enter Try.func167, Try.ntmps167
        go_wp2_with fail
        try rw [hW1]
        clear hW1
        go_wp2_with fail
        refine (fun (hb : Below w.heap.size w _) => ⟨rfl, .tuple #[.agg #[.slice A0 n0 c0, .slice A1 n1 c1, .int .i64 fuse, .bool false, .int .i64 reads, .int .i64 writes], .int .i64 0], ?_, ⟨_, by rw [HF.out], by rw [HF.out]; exact HM.out _ false _ F2.out hb, hb⟩⟩) ?_
        · repeat (refine below_set ?_ (by omega))
          exact HB1.out
        · simp only [results, hfr]
          go_simp

/-- A disk's box: what lies in it, and in what it holds. -/
structure DBox (Q : Nat → Prop) (w W' : World) (d : DDisk) (A0 : Option Addr) (c0 : Nat) (A1 : Option Addr) (c1 : Nat) : Prop where
  blk : W'.heap[w.heap.size]? = some (.cells #[.slice A0 d.safe.length c0, .slice A1 d.wait.length c1, .int .i64 d.fuse, .bool d.off, .int .i64 d.reads, .int .i64 d.writes] 104 (0, 0))
  bel : Below w.heap.size w W'
  safe : Rep.byte.list.Sl Q W' A0 c0 d.safe
  wait : rWrite.Sl Q W' A1 c1 d.wait
theorem DBox.below {Q : Nat → Prop} {w W W' : World} {d : DDisk} {A0 A1 : Option Addr} {c0 c1 : Nat} (h : DBox Q w W d A0 c0 A1 c1) (hb : Below (w.heap.size + 1) W W') (hq : ∀ b, Q b → b < w.heap.size) : DBox Q w W' d A0 c0 A1 c1 :=
  ⟨(hb.block _ (Nat.lt_succ_self _)).trans h.blk, h.bel.trans (hb.mono (Nat.le_succ _)), Rep.Sl.keep (fun k hk _ => ⟨hk, hb.block k (Nat.lt_succ_of_lt (hq k hk))⟩) h.safe, Rep.Sl.keep (fun k hk _ => ⟨hk, hb.block k (Nat.lt_succ_of_lt (hq k hk))⟩) h.wait⟩
theorem DBox.start {Q : Nat → Prop} {w : World} {v : Value} {d : DDisk} (hx : rDisk.val Q w v d) : ∃ A0 c0 A1 c1, v = .agg #[.slice A0 d.safe.length c0, .slice A1 d.wait.length c1, .int .i64 d.fuse, .bool d.off, .int .i64 d.reads, .int .i64 d.writes] ∧
    DBox Q w (w.alloc (.cells #[.slice A0 d.safe.length c0, .slice A1 d.wait.length c1, .int .i64 d.fuse, .bool d.off, .int .i64 d.reads, .int .i64 d.writes] 104)) d A0 c0 A1 c1 ∧ (Lit.int .i64 d.fuse).wf = true ∧ (Lit.int .i64 d.reads).wf = true ∧ (Lit.int .i64 d.writes).wf = true := by
  obtain ⟨A0, c0, A1, c1, rfl, sp, sq, f2, f3, f4⟩ := rDisk_val hx
  have hbel : Below w.heap.size w (w.alloc (.cells #[.slice A0 d.safe.length c0, .slice A1 d.wait.length c1, .int .i64 d.fuse, .bool d.off, .int .i64 d.reads, .int .i64 d.writes] 104)) := (Below.refl _ _).alloc (Nat.le_refl _) _
  exact ⟨A0, c0, A1, c1, rfl, ⟨heap_alloc_new w _, hbel, Rep.Sl.keep (fun k hk hl => ⟨hk, hbel.block k hl.lt⟩) sp, Rep.Sl.keep (fun k hk hl => ⟨hk, hbel.block k hl.lt⟩) sq⟩, f2, f3, f4⟩

theorem DBox.val {Q : Nat → Prop} {w W : World} {d : DDisk} {A0 A1 : Option Addr} {c0 c1 : Nat} (h : DBox Q w W d A0 c0 A1 c1) (f2 : (Lit.int .i64 d.fuse).wf = true) (f3 : (Lit.int .i64 d.reads).wf = true) (f4 : (Lit.int .i64 d.writes).wf = true) : rDisk.val Q W (.agg #[.slice A0 d.safe.length c0, .slice A1 d.wait.length c1, .int .i64 d.fuse, .bool d.off, .int .i64 d.reads, .int .i64 d.writes]) d := rDisk_agg h.safe h.wait f2 f3 f4
theorem ofW_succ {l : List DWrite} {j : Nat} {x : DWrite} (hx : l[j]? = some x) (i : Int) : ofW (l.take (j + 1)) i = if x.pos = i then ofW (l.take j) i ++ [x.b] else ofW (l.take j) i := by
  obtain ⟨hj, he⟩ := List.getElem?_eq_some_iff.1 hx
  rw [List.take_succ_eq_append_getElem hj, he, ofW_append, ofW_one]
  split
  · rfl
  · rw [List.append_nil]
theorem ofW_length (l : List DWrite) (i : Int) : (ofW l i).length ≤ l.length := by unfold ofW; rw [List.length_map]; exact List.length_filter_le _ _

set_option maxRecDepth 100000 in
set_option maxHeartbeats 1000000 in
/-- ref04.of -/
theorem rof_calls {Q : Nat → Prop} {w : World} {v : Value} {d : DDisk} {i : Int} (hx : rDisk.val Q w v d) (hq : ∀ b, Q b → b < w.heap.size) (hn : d.wait.length ≤ 1000000000) :
    Calls Try.prog 170 #[v, .int .i64 i] w fun e w' => ∃ u, e = .returned u ∧ Rep.byte.list.acc 22 w.heap.size Q w' u (ofW d.wait i) ∧ Below w.heap.size w w' := by
  obtain ⟨A0, c0, A1, c1, rfl, hbox, f2, f3, f4⟩ := DBox.start hx
  have hsz : (w.alloc (.cells #[.slice A0 d.safe.length c0, .slice A1 d.wait.length c1, .int .i64 d.fuse, .bool d.off, .int .i64 d.reads, .int .i64 d.writes] 104)).heap.size = w.heap.size + 1 := by simp
  have HBX := Lib.hid (fun W' (hb : Below (w.heap.size + 1) _ W') => hbox.below hb hq)
  have HQ := Lib.hid hq
  have HN := Lib.hid hn
  clear hx hbox f2 f3 f4 hq hn
  generalize hl : d.wait.length = len at *
  have HL := Lib.hid hl
  clear hl
  generalize hW1 : w.alloc (.cells #[.slice A0 d.safe.length c0, .slice A1 len c1, .int .i64 d.fuse, .bool d.off, .int .i64 d.reads, .int .i64 d.writes] 104) = W1 at *
  have HS := Lib.hid hsz
  clear hsz
  go_enter Try.func170, Try.ntmps170
  go_wp2_with fail
  try rw [hW1]
  clear hW1
  go_loopw [5, 6] (fun u kk wr => ∃ j : Nat, kk = .int .i64 j ∧ j ≤ len ∧ Rep.byte.list.acc 22 (w.heap.size + 1) Q wr u (ofW (d.wait.take j) i) ∧ Below (w.heap.size + 1) W1 wr) (fun _ kk _ => len - (intOf kk).toNat)
  case atStart => exact ⟨0, rfl, Nat.zero_le _, Rep.acc_nil, Below.refl _ _⟩
  case round =>
    obtain ⟨j, rfl, hj, hacc, hb⟩ := hrel
    have HB := Lib.hid hb
    have HACC := Lib.hid hacc
    obtain ⟨Au, cu, rfl, _, _⟩ := Rep.acc_form hacc
    have hbx := HBX.out _ hb
    have hblk := hbx.blk
    rw [HL.out] at hblk
    have e1 := cell_row hblk 1
    have HSW := Lib.hid (show w.heap.size + 1 ≤ wr.heap.size by rw [← HS.out]; exact Nat.le_trans (Nat.le_of_eq rfl) hb.size)
    have hcap := hbx.wait.2.1
    have hlc := hbx.wait.1
    unfold maxLen at hcap
    rw [HL.out] at hlc
    by_cases hlt : (j : Int) < len
    · obtain ⟨x, hx⟩ : ∃ x, d.wait[j]? = some x := ⟨_, List.getElem?_eq_getElem (by rw [HL.out]; omega)⟩
      obtain ⟨b, off, A2, c2, rfl, _, g0, g1, f0, sp⟩ := rWrite_at hbx.wait.2.2 hx
      have HT := Lib.hid (ofW_succ hx i)
      have HLQ := Lib.hid (ofW_length (d.wait.take j) i)
      have hown := Rep.acc_own hacc
      clear hacc hbx hblk hb hx
      generalize ofW (d.wait.take j) i = q at *
      by_cases hp : x.pos = i
      · have HT2 := Lib.hid (show ofW (d.wait.take (j + 1)) i = q ++ [x.b] by rw [HT.out, if_pos hp])
        have HXV := Lib.hid (show Rep.byte.list.val (fun b => Q b ∧ (Value.slice Au q.length cu).ownBlock ≠ some b) wr (.slice A2 x.b.length c2) x.b from Rep.val_mono (fun b hb _ => ⟨hb, fun e => by have := (hown b e).1; have := HQ.out b hb; omega⟩) sp.val)
        have L := Lib.hid (show q.length + 1 ≤ maxLen ∧ (q.length + 1) * 24 ≤ 140737488355328 by have h1 := HLQ.out; rw [List.length_take] at h1; have := HN.out; unfold maxLen; omega)
        rw [hp] at g0
        clear hp hown sp f0
        go_wp2_with (refine wpList_snoc (e := 22) (base := w.heap.size + 1) (Q := Q) (r := Rep.byte.list) rfl rfl _ _ 24 _ rfl rfl rfl (.slice none 0 0) 1 24 Try.underlying24 info22 rfl (by decide) rfl _ _ HACC.out x.b _ (by exact rfl) HXV.out (by exact rfl) (by exact rfl) L.out.1 L.out.2 HSW.out ?_; intro v3 w3 hacc3 hgr hat)
        exact ⟨⟨j + 1, by go_num, by omega, by rw [HT2.out]; exact hacc3, Rep.acc_below HACC.out HB.out hgr HSW.out⟩, by simp [intOf]; omega⟩
      · have HT2 := Lib.hid (show ofW (d.wait.take (j + 1)) i = q by rw [HT.out, if_neg hp])
        have hp' : (x.pos == i) = false := by simpa using hp
        clear hp hown sp f0
        go_wp2_with fail
        exact ⟨⟨j + 1, by go_num, by omega, by rw [HT2.out]; exact HACC.out, HB.out⟩, by simp [intOf]; omega⟩
    · have HT := Lib.hid (show ofW (d.wait.take j) i = ofW d.wait i by rw [List.take_of_length_le (by rw [HL.out]; omega)])
      clear hacc hbx hblk hb
      generalize ofW (d.wait.take j) i = q at *
      go_wp2_with fail
      go_ret
      exact ⟨_, rfl, by rw [← HT.out]; exact Rep.acc_base (Nat.le_succ _) HACC.out, (HBX.out _ HB.out).bel⟩
def dirtyTo (d : DDisk) (k : Nat) : List Int := ((List.range k).filter fun i => !(ofW d.wait (i : Nat)).isEmpty).map fun i : Nat => (i : Int)
theorem dirtyTo_all (d : DDisk) : dirtyTo d d.safe.length = dirtyW d := rfl
theorem dirtyTo_yes {d : DDisk} {k : Nat} (h : 0 < (ofW d.wait (k : Nat)).length) : dirtyTo d (k + 1) = dirtyTo d k ++ [(k : Int)] := by
  unfold dirtyTo
  have h2 : (ofW d.wait (k : Nat)).isEmpty = false := by
    cases hq : ofW d.wait (k : Nat) with
    | nil => rw [hq] at h; simp at h
    | cons _ _ => rfl
  rw [List.range_succ, List.filter_append, List.map_append]
  simp [h2]
theorem dirtyTo_no {d : DDisk} {k : Nat} (h : (ofW d.wait (k : Nat)).length = 0) : dirtyTo d (k + 1) = dirtyTo d k := by
  unfold dirtyTo
  have h2 : (ofW d.wait (k : Nat)).isEmpty = true := by rw [List.eq_nil_of_length_eq_zero h]; rfl
  rw [List.range_succ, List.filter_append, List.map_append]
  simp [h2]
theorem dirtyTo_length (d : DDisk) (k : Nat) : (dirtyTo d k).length ≤ k := by
  unfold dirtyTo; rw [List.length_map]
  exact Nat.le_trans (List.length_filter_le _ _) (by rw [List.length_range]; exact Nat.le_refl _)

set_option maxRecDepth 100000 in
set_option maxHeartbeats 1000000 in
/-- ref04.Dirty -/
theorem rdirty_calls {Q : Nat → Prop} {w : World} {v : Value} {d : DDisk} (hx : rDisk.val Q w v d) (hq : ∀ b, Q b → b < w.heap.size) (hn : d.wait.length ≤ 1000000000) (hs : d.safe.length ≤ 1000000000) :
    Calls Try.prog 75 #[v] w (ResA (Rep.int .i64) 3 w (dirtyW d)) := by
  obtain ⟨A0, c0, A1, c1, rfl, hbox, f2, f3, f4⟩ := DBox.start hx
  have hsz : (w.alloc (.cells #[.slice A0 d.safe.length c0, .slice A1 d.wait.length c1, .int .i64 d.fuse, .bool d.off, .int .i64 d.reads, .int .i64 d.writes] 104)).heap.size = w.heap.size + 1 := by simp
  have HBX := Lib.hid (fun W' (hb : Below (w.heap.size + 1) _ W') => hbox.below hb hq)
  have HQ := Lib.hid hq
  have HN := Lib.hid hn
  have HSL := Lib.hid hs
  have F2 := Lib.hid f2
  have F3 := Lib.hid f3
  have F4 := Lib.hid f4
  clear hx hbox f2 f3 f4 hq hn hs
  generalize hl1 : d.wait.length = len1 at *
  generalize hl0 : d.safe.length = len0 at *
  have HL0 := Lib.hid hl0
  have HL1 := Lib.hid hl1
  clear hl0 hl1
  generalize hW1 : w.alloc (.cells #[.slice A0 len0 c0, .slice A1 len1 c1, .int .i64 d.fuse, .bool d.off, .int .i64 d.reads, .int .i64 d.writes] 104) = W1 at *
  have HS := Lib.hid hsz
  clear hsz
  go_enter Try.func75, Try.ntmps75
  go_wp2_with fail
  try rw [hW1]
  clear hW1
  go_loopw [3, 4] (fun u kk wr => ∃ j : Nat, kk = .int .i64 j ∧ j ≤ len0 ∧ (Rep.int .i64).acc 3 (w.heap.size + 1) (fun _ => False) wr u (dirtyTo d j) ∧ Below (w.heap.size + 1) W1 wr) (fun _ kk _ => len0 - (intOf kk).toNat)
  case atStart => exact ⟨0, rfl, Nat.zero_le _, Rep.acc_nil, Below.refl _ _⟩
  case round =>
    obtain ⟨j, rfl, hj, hacc, hb⟩ := hrel
    have HB := Lib.hid hb
    have HACC := Lib.hid hacc
    obtain ⟨Au, cu, rfl, _, _⟩ := Rep.acc_form hacc
    have hbx := HBX.out _ hb
    have hblk := hbx.blk
    have HV := Lib.hid (hbx.val F2.out F3.out F4.out)
    rw [HL0.out, HL1.out] at hblk HV
    have e0 := cell_row hblk 0
    have e1 := cell_row hblk 1
    have e2 := cell_row hblk 2
    have e3 := cell_row hblk 3
    have e4 := cell_row hblk 4
    have e5 := cell_row hblk 5
    have HSW := Lib.hid (show w.heap.size + 1 ≤ wr.heap.size by rw [← HS.out]; exact hb.size)
    have hcap := hbx.safe.2.1
    have hlc := hbx.safe.1
    unfold maxLen at hcap
    rw [HL0.out] at hlc
    have HLQ := Lib.hid (dirtyTo_length d j)
    have HDY := Lib.hid (fun h => dirtyTo_yes (d := d) (k := j) h)
    have HDN := Lib.hid (fun h => dirtyTo_no (d := d) (k := j) h)
    have HDA := Lib.hid (dirtyTo_all d)
    clear hacc hbx hblk hb
    generalize hq0 : dirtyTo d j = q at *
    have HQ0 := Lib.hid hq0
    clear hq0
    by_cases hlt : (j : Int) < len0
    · go_wp2_with fail
      refine (rof_calls HV.out (fun b hb => by have := HQ.out b hb; have := HSW.out; omega) (by rw [HL1.out]; exact HN.out)).mono ?_
      rintro e w2 ⟨u2, rfl, hu2, hb2⟩
      obtain ⟨A3, c3, rfl, hc3, hm3⟩ := Rep.acc_form hu2
      have HACC2 := Lib.hid (Rep.acc_later HACC.out hb2)
      have HB2 := Lib.hid (HB.out.trans (hb2.mono HSW.out))
      have HSW2 := Lib.hid (Nat.le_trans HSW.out hb2.size)
      clear hu2 hb2 e0 e1 e2 e3 e4 e5
      unfold maxLen at hm3
      generalize hm : (ofW d.wait (j : Nat)).length = m at *
      by_cases h0 : m = 0
      · subst h0
        have HT := Lib.hid (HDN.out rfl)
        go_wp2_with fail
        exact ⟨⟨j + 1, by go_num, by omega, by rw [HT.out]; exact HACC2.out, HB2.out⟩, by simp [intOf]; omega⟩
      · have hp : (0 : Int) < m := by omega
        have HT := Lib.hid (HDY.out (by omega))
        have L := Lib.hid (show q.length + 1 ≤ maxLen ∧ (q.length + 1) * 8 ≤ 140737488355328 by have h1 := HLQ.out; have := HSL.out; unfold maxLen; omega)
        clear h0
        go_wp2_with (refine wpList_snoc (e := 3) (base := w.heap.size + 1) (Q := fun _ => False) (r := Rep.int .i64) rfl rfl _ _ 30 _ rfl rfl rfl (.int .i64 0) 1 8 Try.underlying30 info3 rfl (by decide) rfl _ q HACC2.out (j : Int) _ (by exact rfl) ⟨_, rfl, rfl, wf_i64 (by omega) (by omega)⟩ (by exact rfl) (by exact rfl) L.out.1 L.out.2 HSW2.out ?_; intro v5 w5 hacc5 hgr5 hat5)
        exact ⟨⟨j + 1, by go_num, by omega, by rw [HT.out]; exact hacc5, Rep.acc_below HACC2.out HB2.out hgr5 HSW2.out⟩, by simp [intOf]; omega⟩
    · obtain rfl : j = len0 := by omega
      have HT := Lib.hid (show q = dirtyW d by rw [← HQ0.out, ← HL0.out]; exact HDA.out)
      go_wp2_with fail
      go_ret
      exact ⟨_, rfl, by rw [← HT.out]; exact Rep.acc_base (Nat.le_succ _) HACC.out, (HBX.out _ HB.out).bel⟩

set_option maxRecDepth 100000 in
set_option maxHeartbeats 1000000 in
/-- ref04.Last -/
theorem rlast_calls {Q : Nat → Prop} {w : World} {v : Value} {d : DDisk} {i : Int} (hx : rDisk.val Q w v d) (hq : ∀ b, Q b → b < w.heap.size) (hn : d.wait.length ≤ 1000000000) (hi : 0 ≤ i ∧ i < d.safe.length) :
    Calls Try.prog 168 #[v, .int .i64 i] w fun e w' => ∃ u, e = .returned u ∧ Rep.byte.list.val Q w' u (lastW d i) ∧ Below w.heap.size w w' := by
  obtain ⟨A0, c0, A1, c1, rfl, hbox, f2, f3, f4⟩ := DBox.start hx
  have hsz : (w.alloc (.cells #[.slice A0 d.safe.length c0, .slice A1 d.wait.length c1, .int .i64 d.fuse, .bool d.off, .int .i64 d.reads, .int .i64 d.writes] 104)).heap.size = w.heap.size + 1 := by simp
  have HBX := Lib.hid (fun W' (hb : Below (w.heap.size + 1) _ W') => hbox.below hb hq)
  have HV := Lib.hid (hbox.val f2 f3 f4)
  have hblk := hbox.blk
  have HQ := Lib.hid hq
  have HN := Lib.hid hn
  obtain ⟨k, rfl⟩ : ∃ k : Nat, i = k := ⟨i.toNat, by omega⟩
  have HK := Lib.hid (show k < d.safe.length by omega)
  clear hx hbox f2 f3 f4 hq hn hi
  generalize hl1 : d.wait.length = len1 at *
  generalize hl0 : d.safe.length = len0 at *
  have HL0 := Lib.hid hl0
  have HL1 := Lib.hid hl1
  clear hl0 hl1
  generalize hW1 : w.alloc (.cells #[.slice A0 len0 c0, .slice A1 len1 c1, .int .i64 d.fuse, .bool d.off, .int .i64 d.reads, .int .i64 d.writes] 104) = W1 at *
  have HS := Lib.hid hsz
  clear hsz
  have e0 := cell_row hblk 0
  have e1 := cell_row hblk 1
  have e2 := cell_row hblk 2
  have e3 := cell_row hblk 3
  have e4 := cell_row hblk 4
  have e5 := cell_row hblk 5
  clear hblk
  go_enter Try.func168, Try.ntmps168
  go_wp2_with fail
  try rw [hW1]
  clear hW1
  refine (rof_calls HV.out (fun b hb => by have := HQ.out b hb; have := HS.out; omega) (by rw [HL1.out]; exact HN.out)).mono ?_
  rintro e w2 ⟨u2, rfl, hu2, hb2⟩
  obtain ⟨A3, c3, rfl, hc3, hm3⟩ := Rep.acc_form hu2
  have HU := Lib.hid hu2
  have hbx := HBX.out _ (hb2.mono (Nat.le_of_eq HS.out.symm))
  have hblk := hbx.blk
  rw [HL0.out, HL1.out] at hblk
  clear e0 e1 e2 e3 e4 e5
  have e0 := cell_row hblk 0
  have HBEL := Lib.hid hbx.bel
  unfold maxLen at hm3
  have hlast : lastW d (k : Int) = ((ofW d.wait (k : Int)).getLast?).getD (d.safe.getD k []) := rfl
  generalize ofW d.wait (k : Int) = l at *
  have hcap := hbx.safe.2.1
  have hlc := hbx.safe.1
  unfold maxLen at hcap
  rw [HL0.out] at hlc
  have hk0 := HK.out
  have hk1 : (k : Int) < len0 := by omega
  by_cases h0 : l.length = 0
  · obtain ⟨x, hx0⟩ : ∃ x, d.safe[k]? = some x := ⟨_, List.getElem?_eq_getElem (by rw [HL0.out]; exact hk0)⟩
    obtain ⟨bb, off, B5, c5, rfl, hcell, hc5, hm5, hat⟩ := Rep.At.list hbx.safe.2.2 hx0
    have HF := Lib.hid (show lastW d (k : Int) = x by rw [hlast, last_nil (List.eq_nil_of_length_eq_zero h0), List.getD_eq_getElem?_getD, hx0]; rfl)
    have HX := Lib.hid (show Rep.byte.list.val Q w2 (.slice B5 x.length c5) x from Rep.list_val rfl hc5 hm5 hat)
    rw [h0] at hc3
    clear hu2 hb2 hbx hblk hlast hat hx0 hc5 hm5
    rw [h0]
    clear h0
    go_wp2_with fail
    go_ret
    exact ⟨_, rfl, by rw [HF.out]; exact HX.out, HBEL.out⟩
  · obtain ⟨m, hm⟩ : ∃ m, l.length = m + 1 := ⟨l.length - 1, by omega⟩
    obtain ⟨x, hx0⟩ : ∃ x, l[m]? = some x := ⟨_, List.getElem?_eq_getElem (by omega)⟩
    obtain ⟨g, B5, c5, cap, he, hcell, hfr, hlt, hval⟩ := Rep.acc_elem hu2 hx0
    have HF := Lib.hid (show lastW d (k : Int) = x by rw [hlast, List.getLast?_eq_getElem?, show l.length - 1 = m by omega, hx0]; rfl)
    have HX := Lib.hid (Rep.val_mono (Q' := Q) (fun b hb _ => hb.1) hval)
    rw [hm] at he hc3
    cases he
    clear hu2 hb2 hbx hblk hlast hx0 hval e0 h0
    rw [hm]
    have hmx : (m : Int) + 1 ≤ 9223372036854775807 := by omega
    clear hm
    go_wp2_with fail
    go_ret
    exact ⟨_, rfl, by rw [HF.out]; exact HX.out, HBEL.out⟩
end Go.Proofs.Ytcfgckpjgihcgaa
/- A torn sector, word by word: the plain law. No program is named here. -/
namespace Go.Proofs.Ytcfgckpjgihcgaa
open Go.RowKit

theorem spliced_get {α : Type} {X Y : List α} {n j : Nat} (hn : n ≤ Y.length) : (Y.take n ++ X.drop n)[j]? = if j < n then Y[j]? else X[j]? := by
  rw [List.getElem?_append, List.length_take, Nat.min_eq_left hn]
  split
  · rename_i h; rw [List.getElem?_take_of_lt h]
  · rename_i h; rw [List.getElem?_drop, show n + (j - n) = j by omega]
theorem piece_get {α : Type} (l : List α) (a c t : Nat) : ((l.drop a).take c)[t]? = if t < c then l[a + t]? else none := by
  rw [List.getElem?_take]
  split
  · rw [List.getElem?_drop]
  · rfl
/-- Is a word the next one's? -/
def nextWord (k : Int) (w : Nat) : Bool := decide (0 < k ∧ (w : Int) < k) || decide (k < 0 ∧ k ≤ (w : Int) - 64)
theorem tear_word (a b : List UInt8) (k : Int) {w : Nat} (hw : w < 64) : ((tearOf a b k).drop (8 * w)).take 8 = ((if nextWord k w = true then cutTo b 512 else cutTo a 512).drop (8 * w)).take 8 := by
  apply List.ext_getElem?
  intro t
  rw [piece_get, piece_get]
  by_cases ht : t < 8
  · rw [if_pos ht, if_pos ht]
    have la := cutTo_length a 512
    have lb := cutTo_length b 512
    unfold tearOf nextWord
    by_cases h0 : 0 < k
    · rw [if_pos h0, spliced_get (by rw [lb]; omega)]
      by_cases h1 : (w : Int) < k
      · rw [if_pos (by omega), if_pos (by simp [h0, h1])]
      · rw [if_neg (by omega), if_neg (by simp [h1]; omega)]
    · rw [if_neg h0]
      by_cases h1 : k < 0
      · rw [if_pos h1, spliced_get (by rw [la]; omega)]
        by_cases h2 : k ≤ (w : Int) - 64
        · rw [if_neg (by omega), if_pos (by simp [h1, h2])]
        · rw [if_pos (by omega), if_neg (by simp [h0, h2])]
      · rw [if_neg h1, if_neg (by simp [h0, h1])]
  · rw [if_neg ht, if_neg ht]
theorem tear_step (a b : List UInt8) (k : Int) {w : Nat} (hw : w < 64) : (tearOf a b k).take (8 * (w + 1)) = (tearOf a b k).take (8 * w) ++ ((if nextWord k w = true then cutTo b 512 else cutTo a 512).drop (8 * w)).take 8 := by
  rw [← tear_word a b k hw, show 8 * (w + 1) = 8 * w + 8 by omega, List.take_add]
theorem tear_all (a b : List UInt8) (k : Int) : (tearOf a b k).take (8 * 64) = tearOf a b k := List.take_of_length_le (by rw [tear_length]; omega)
end Go.Proofs.Ytcfgckpjgihcgaa
/- Walk of the reference's torn sector, word by word. Printed by gen_rtear.py. -/
namespace Go.Proofs.Ytcfgckpjgihcgaa
open Go.RowKit

/-- A word of a sector that lies in a slice. -/
theorem word_val {Q : Nat → Prop} {w : World} {b off c : Nat} {X : List UInt8} (h : Rep.byte.list.val Q w (.slice (some ⟨b, off, none⟩) 512 c) X) (hl : X.length = 512) {j : Nat} (hj : j < 64) :
    Rep.byte.list.val Q w (.slice (some ⟨b, off + 8 * j, none⟩) 8 (c - 8 * j)) ((X.drop (8 * j)).take 8) := by
  obtain ⟨A', c', he, h1, h2, h3⟩ := Rep.val_list h
  simp only [Value.slice.injEq] at he
  obtain ⟨rfl, _, rfl⟩ := he
  have h4 := (h3.drop (n := 8 * j) (by omega)).take 8
  simp only [Rep.byte, Nat.mul_one] at h4
  exact Rep.list_val (by rw [List.length_take, List.length_drop]; omega) (by omega) (by omega) h4

set_option maxRecDepth 100000 in
set_option maxHeartbeats 2000000 in
/-- ref03.Tear -/
theorem rtear_calls {Q Q' : Nat → Prop} {w : World} {v u : Value} {a b : List UInt8} {k : Int} (hx : Rep.byte.list.val Q w v a) (hy : Rep.byte.list.val Q' w u b) (hk : (Lit.int .i64 k).wf = true) :
    Calls Try.prog 244 #[v, u, .int .i64 k] w (ResA Rep.byte 5 w (tearOf a b k)) := by
  have HX := Lib.hid hx
  have HY := Lib.hid (Rep.val_any hy)
  have hkb : -9223372036854775808 ≤ k ∧ k ≤ 9223372036854775807 := by simpa [Lit.wf, IntKind.min, IntKind.max, IntKind.signed, IntKind.bits] using hk
  have HST := Lib.hid (show ∀ n, n < 64 → _ from fun n hn => tear_step a b k hn)
  have HALL := Lib.hid (tear_all a b k)
  have HTL := Lib.hid (tear_length a b k)
  clear hx hy hk
  go_enter Try.func244, Try.ntmps244
  go_wp2_with fail
  refine (rcutTo_calls (n := 512) HX.out (by decide)).mono ?_
  rintro e w1 ⟨u1, rfl, hu, hb⟩
  have HU1 := Lib.hid hu
  have HB1 := Lib.hid hb
  have HY1 := Lib.hid (Rep.val_below HY.out hb (fun _ h _ => h))
  clear hu hb
  go_wp2_with fail
  refine (rcutTo_calls (n := 512) HY1.out (by decide)).mono ?_
  rintro e w2 ⟨u2, rfl, hu, hb⟩
  have HB2 := Lib.hid (HB1.out.trans (hb.mono HB1.out.size))
  have hv1 := Rep.val_any (Rep.acc_val (Rep.acc_later HU1.out hb))
  have hv2 := Rep.val_any (Rep.acc_val hu)
  have l1 := cutTo_length a 512
  have l2 := cutTo_length b 512
  clear hu hb HX HY HY1 HU1
  generalize cutTo a 512 = X at *
  generalize cutTo b 512 = Y at *
  generalize tearOf a b k = T at *
  obtain ⟨A1, c1, rfl, hc1, hm1, hat1⟩ := Rep.val_list hv1
  obtain ⟨A2, c2, rfl, hc2, hm2, hat2⟩ := Rep.val_list hv2
  obtain ⟨b1, o1, rfl⟩ := hat1.addr (by omega)
  obtain ⟨b2, o2, rfl⟩ := hat2.addr (by omega)
  rw [l1] at hv1 hc1
  rw [l2] at hv2 hc2
  have HV1 := Lib.hid (show ∀ W, Below w2.heap.size w2 W → ∀ {j : Nat}, j < 64 → Rep.byte.list.val (fun b => b < w2.heap.size) W (.slice (some ⟨b1, o1 + 8 * j, none⟩) 8 (c1 - 8 * j)) ((X.drop (8 * j)).take 8) from fun W hb j hj => word_val (Rep.val_below hv1 hb fun _ h _ => h) l1 hj)
  have HV2 := Lib.hid (show ∀ W, Below w2.heap.size w2 W → ∀ {j : Nat}, j < 64 → Rep.byte.list.val (fun b => b < w2.heap.size) W (.slice (some ⟨b2, o2 + 8 * j, none⟩) 8 (c2 - 8 * j)) ((Y.drop (8 * j)).take 8) from fun W hb j hj => word_val (Rep.val_below hv2 hb fun _ h _ => h) l2 hj)
  clear hv1 hv2 hat1 hat2
  rw [l1, l2]
  clear l1 l2
  unfold maxLen at hm1 hm2
  go_wp2_with fail
  go_loopw [9, 10] (fun u kk wr => ∃ j : Nat, kk = .int .i64 j ∧ j ≤ 64 ∧ Rep.byte.acc 5 w2.heap.size (fun _ => False) wr u (T.take (8 * j)) ∧ Below w2.heap.size w2 wr) (fun _ kk _ => 64 - (intOf kk).toNat)
  case atStart => exact ⟨0, rfl, by decide, Rep.acc_nil, Below.refl _ _⟩
  case round =>
    obtain ⟨j, rfl, hj, hacc, hb⟩ := hrel
    have HB := Lib.hid hb
    have HACC := Lib.hid hacc
    obtain ⟨Au, cu, rfl, _, _⟩ := Rep.acc_form hacc
    have HSW := Lib.hid hb.size
    clear hacc hb
    by_cases hlt : (j : Int) < 64
    · have hj' : j < 64 := by omega
      have HT := Lib.hid (HST.out j hj')
      have W1 := Lib.hid (HV1.out _ HB.out hj')
      have W2 := Lib.hid (HV2.out _ HB.out hj')
      have HQL := Lib.hid (show (T.take (8 * j)).length ≤ 512 by rw [List.length_take]; have := HTL.out; omega)
      generalize T.take (8 * j) = q at *
      have L := Lib.hid (show ∀ z : List UInt8, (q.length + (((z.drop (8 * j)).take 8).length) ≤ maxLen ∧ (q.length + (((z.drop (8 * j)).take 8).length)) * 1 ≤ 140737488355328) from fun z => by
        have h1 := HQL.out
        have h2 : ((z.drop (8 * j)).take 8).length ≤ 8 := by rw [List.length_take]; exact Nat.min_le_left _ _
        unfold maxLen
        omega)
      have j1 : (0 : Int) ≤ 8 * (j : Int) := by omega
      have j2 : 8 * (j : Int) ≤ 8 * (j : Int) + 8 := by omega
      have j3 : 8 * (j : Int) + 8 ≤ c1 := by omega
      have j3' : 8 * (j : Int) + 8 ≤ c2 := by omega
      have j4 : (8 * (j : Int)).toNat = 8 * j := by omega
      have j5 : (8 * (j : Int) + 8).toNat - 8 * j = 8 := by omega
      have w2' : IntKind.i64.wrap (8 * (j : Int)) = 8 * (j : Int) := IntWalk.i64_in _ ⟨by omega, by omega⟩
      have w3' : IntKind.i64.wrap (8 * (j : Int) + 8) = 8 * (j : Int) + 8 := IntWalk.i64_in _ ⟨by omega, by omega⟩
      have w4' : IntKind.i64.wrap ((j : Int) - 64) = (j : Int) - 64 := IntWalk.i64_in _ ⟨by omega, by omega⟩
      have hcase : (0 < k ∧ (j : Int) < k) ∨ (0 < k ∧ ¬ (j : Int) < k) ∨ (k < 0 ∧ k ≤ (j : Int) - 64) ∨ (k < 0 ∧ ¬ k ≤ (j : Int) - 64) ∨ k = 0 := by omega
      rcases hcase with ⟨h1, h2⟩ | ⟨h1, h2⟩ | ⟨h1, h2⟩ | ⟨h1, h2⟩ | h1
      · have hn : nextWord k j = true := by simp [nextWord, h1, h2]
        have HT2 := Lib.hid (show T.take (8 * (j + 1)) = q ++ ((Y.drop (8 * j)).take 8) by rw [HT.out, hn]; rfl)
        clear hn
        go_wp2_with (refine wpList_spread_leaf (e := 5) (base := w2.heap.size) (Q := fun _ => False) Rep.leaf_byte rfl _ _ 22 rfl (.int .u8 0) 1 1 Try.underlying22 info5 rfl (by decide) rfl _ q (by exact rfl) HACC.out _ ((Y.drop (8 * j)).take 8) (by exact rfl) W2.out (L.out Y).1 (L.out Y).2 HSW.out ?_; intro v3 w3 hacc3 hgr hat)
        exact ⟨⟨j + 1, by go_num, by omega, by rw [HT2.out]; exact hacc3, Rep.acc_below HACC.out HB.out hgr HSW.out⟩, by simp [intOf]; omega⟩
      · have hn : nextWord k j = false := by simp [nextWord, h2]; omega
        have HT2 := Lib.hid (show T.take (8 * (j + 1)) = q ++ ((X.drop (8 * j)).take 8) by rw [HT.out, hn]; rfl)
        clear hn
        have h3 : k ≤ (j : Int) := by omega
        clear h2
        go_wp2_with (refine wpList_spread_leaf (e := 5) (base := w2.heap.size) (Q := fun _ => False) Rep.leaf_byte rfl _ _ 22 rfl (.int .u8 0) 1 1 Try.underlying22 info5 rfl (by decide) rfl _ q (by exact rfl) HACC.out _ ((X.drop (8 * j)).take 8) (by exact rfl) W1.out (L.out X).1 (L.out X).2 HSW.out ?_; intro v3 w3 hacc3 hgr hat)
        exact ⟨⟨j + 1, by go_num, by omega, by rw [HT2.out]; exact hacc3, Rep.acc_below HACC.out HB.out hgr HSW.out⟩, by simp [intOf]; omega⟩
      · have hn : nextWord k j = true := by simp [nextWord, h1, h2]
        have HT2 := Lib.hid (show T.take (8 * (j + 1)) = q ++ ((Y.drop (8 * j)).take 8) by rw [HT.out, hn]; rfl)
        clear hn
        have h4 : ¬ 0 < k := by omega
        go_wp2_with (refine wpList_spread_leaf (e := 5) (base := w2.heap.size) (Q := fun _ => False) Rep.leaf_byte rfl _ _ 22 rfl (.int .u8 0) 1 1 Try.underlying22 info5 rfl (by decide) rfl _ q (by exact rfl) HACC.out _ ((Y.drop (8 * j)).take 8) (by exact rfl) W2.out (L.out Y).1 (L.out Y).2 HSW.out ?_; intro v3 w3 hacc3 hgr hat)
        exact ⟨⟨j + 1, by go_num, by omega, by rw [HT2.out]; exact hacc3, Rep.acc_below HACC.out HB.out hgr HSW.out⟩, by simp [intOf]; omega⟩
      · have hn : nextWord k j = false := by simp [nextWord, h2]; omega
        have HT2 := Lib.hid (show T.take (8 * (j + 1)) = q ++ ((X.drop (8 * j)).take 8) by rw [HT.out, hn]; rfl)
        clear hn
        have h3 : (j : Int) - 64 < k := by omega
        have h4 : ¬ 0 < k := by omega
        clear h2
        go_wp2_with (refine wpList_spread_leaf (e := 5) (base := w2.heap.size) (Q := fun _ => False) Rep.leaf_byte rfl _ _ 22 rfl (.int .u8 0) 1 1 Try.underlying22 info5 rfl (by decide) rfl _ q (by exact rfl) HACC.out _ ((X.drop (8 * j)).take 8) (by exact rfl) W1.out (L.out X).1 (L.out X).2 HSW.out ?_; intro v3 w3 hacc3 hgr hat)
        exact ⟨⟨j + 1, by go_num, by omega, by rw [HT2.out]; exact hacc3, Rep.acc_below HACC.out HB.out hgr HSW.out⟩, by simp [intOf]; omega⟩
      · have hn : nextWord k j = false := by simp [nextWord, h1]
        have HT2 := Lib.hid (show T.take (8 * (j + 1)) = q ++ ((X.drop (8 * j)).take 8) by rw [HT.out, hn]; rfl)
        clear hn
        subst h1
        go_wp2_with (refine wpList_spread_leaf (e := 5) (base := w2.heap.size) (Q := fun _ => False) Rep.leaf_byte rfl _ _ 22 rfl (.int .u8 0) 1 1 Try.underlying22 info5 rfl (by decide) rfl _ q (by exact rfl) HACC.out _ ((X.drop (8 * j)).take 8) (by exact rfl) W1.out (L.out X).1 (L.out X).2 HSW.out ?_; intro v3 w3 hacc3 hgr hat)
        exact ⟨⟨j + 1, by go_num, by omega, by rw [HT2.out]; exact hacc3, Rep.acc_below HACC.out HB.out hgr HSW.out⟩, by simp [intOf]; omega⟩
    · obtain rfl : j = 64 := by omega
      rw [HALL.out] at *
      go_wp2_with fail
      go_ret
      exact ⟨_, rfl, Rep.acc_base HB2.out.size HACC.out, HB2.out.trans (HB.out.mono HB2.out.size)⟩
end Go.Proofs.Ytcfgckpjgihcgaa
/- Walks of the library's slices.Grow of nil and slices.Concat at bytes, and of a device's bytes. -/
namespace Go.Proofs.Ytcfgckpjgihcgaa
open Go.RowKit

/-- 'append([]T(nil), make([]T, n)...)'. -/
theorem run_append_zeros {P : Program} (w : World) (t u ty e : TypeId) (i : TypeInfo) (z : Value) (ht : P.underlying t = some (.slice e)) (hu : P.underlying u = some (.int .i64)) (hi : P.info? e = some i) (hz : i.zero = some z) (hz1 : i.size = 1)
    (n : Nat) (h0 : 0 < n) (h63 : (n : Int) ≤ 9223372036854775807) (h48 : n * i.bytes ≤ 281474976710656) :
    (Builtin.append_ #[t, u] ty #[.slice none 0 0, .int .i64 (n : Int)]).run P w =
      .ok (.slice (some ⟨w.heap.size, 0, none⟩) n (grownCap w n 0 e)) (w.drew.alloc (.cells (Builtin.zeroCells z.cells n ++ Builtin.zeroCells z.cells (grownCap w n 0 e - n)) e)) := by
  have hn : n ≠ 0 := by omega
  have h63' : ¬ (9223372036854775807 < (n : Int)) := by omega
  have hw : IntKind.i64.wrap (n : Int) = n := IntWalk.i64_in _ ⟨by omega, by omega⟩
  have hb : ¬ (281474976710656 < (n : Int) * (i.bytes : Int)) := by
    have : ((n * i.bytes : Nat) : Int) ≤ 281474976710656 := Int.ofNat_le.2 h48
    rw [Int.natCast_mul] at this; omega
  have h48' : ¬ (281474976710656 < Builtin.nextslicecap n 0 * i.bytes) := by rw [nextslicecap_zero h0]; omega
  have hneg : ¬ (n : Int) < 0 := by omega
  simp [Builtin.append_, asInt, asIntOf, hneg, run_underlying ht, run_underlying hu, sizeOf, typeInfo, zeroValue, hi, hz, hz1, hn, hw, hb, h63', h48', Question.forced, run_firstCells_none, newRow, grownCap]

theorem wpList_run_append {P : Program} {w w' : World} {ops : Array Oper} {rest : List Oper} {o : Oper} {a : Act} {R : Exit → Act → World → Prop} (hg : o.guard = none) (s x : Operand) (t u : TypeId)
    (ho : o.op = .call { callee := .builtin .append, args := #[s, x], argTypes := #[t, u] }) (vs vx v' : Value) (hs : a.eval s = vs) (hx : a.eval x = vx)
    (hrun : (Builtin.append_ #[t, u] o.type #[vs, vx]).run P w = .ok v' w') (K : wpList P ops R rest (a.put o.dst v') w') : wpList P ops R (o :: rest) a w := by
  refine wpList_plain hg fun K2 hK2 => ?_
  unfold Oper.wp execOp
  simp only [ho, resolve, invoke, builtin, Sem.run_bind, Sem.run_pure, Result.andThen_ok, List.map_toArray, List.map_cons, List.map_nil, hs, hx, hrun]
  exact hK2 _ _ K
theorem grown_nil {w : World} {n : Nat} (h0 : 0 < n) (hn : n ≤ 100000000000000) :
    ∃ cap w', (Builtin.append_ #[22, 3] 22 #[.slice none 0 0, .int .i64 (n : Int)]).run Try.prog w = .ok (.slice (some ⟨w.heap.size, 0, none⟩) n cap) w' ∧ n ≤ cap ∧ cap ≤ maxLen ∧ Rep.byte.acc 5 w.heap.size (fun _ => False) w' (.slice (some ⟨w.heap.size, 0, none⟩) 0 cap) [] ∧ Below w.heap.size w w' := by
  obtain ⟨i, hi, hh⟩ := Option.map_eq_some_iff.1 info5
  simp only [Prod.mk.injEq] at hh
  obtain ⟨hz, hs, hby⟩ := hh
  have hr := run_append_zeros (P := Try.prog) w 22 3 22 5 i (.int .u8 0) Try.underlying22 Try.underlying3 hi hz hs n h0 (by omega) (by rw [hby]; omega)
  have hge := grownCap_ge w n 0 5
  have hcm : grownCap w n 0 5 ≤ maxLen := grownCap_le_maxLen w n 0 5 (by unfold maxLen; omega)
  refine ⟨_, _, hr, hge, hcm, ?_, (((Below.refl w.heap.size w).drew).alloc (Nat.le_refl _) _)⟩
  have := Rep.acc_made (r := Rep.byte) (e := 5) (base := w.heap.size) (Q := fun _ => False) w.drew (Builtin.zeroCells (Value.int .u8 0).cells n ++ Builtin.zeroCells (Value.int .u8 0).cells (grownCap w n 0 5 - n)) (grownCap w n 0 5) (Nat.le_refl _) hcm (by
    simp only [Array.size_append, size_zeroCells]
    show n * 1 + (grownCap w n 0 5 - n) * 1 = grownCap w n 0 5 * 1
    omega)
  exact this

def NilPost {α : Type} (r : Rep α) (e : Nat) (w : World) (en : Ending) (w' : World) : Prop := ∃ u, en = .returned u ∧ r.acc e w.heap.size (fun _ => False) w' u [] ∧ Below w.heap.size w w'
set_option maxRecDepth 100000 in
set_option maxHeartbeats 1000000 in
/-- slices.Grow of nil -/
theorem grow_nil (n : Nat) (hn : n ≤ 100000000000000) (w : World) : Calls Try.prog 247 #[.slice none 0 0, .int .i64 (n : Int)] w (NilPost Rep.byte 5 w) := by
  by_cases h0 : n = 0
  · subst h0
    go_enter Try.func247, Try.ntmps247
    go_wp2_with fail
    go_ret
    exact ⟨_, rfl, Rep.acc_nil, Below.refl _ _⟩
  · have hpos : 0 < n := by omega
    obtain ⟨cap, w2, hrun, hc1, hc2, hacc, hb⟩ := grown_nil (w := w) hpos hn
    have hp2 : (0 : Int) < n := by omega
    have HA := Lib.hid hacc
    have HB := Lib.hid hb
    have HR := Lib.hid hrun
    unfold maxLen at hc2
    clear hacc hb hrun
    go_enter Try.func247, Try.ntmps247
    go_wp2_with (refine wpList_run_append rfl _ _ 22 3 rfl (.slice none 0 0) (.int .i64 (n : Int)) _ (by exact rfl) (by exact rfl) HR.out ?_)
    go_ret
    exact ⟨_, rfl, HA.out, HB.out⟩

/-- How long the first k are together. -/
def flatLen (ls : List (List UInt8)) (k : Nat) : Nat := ((ls.take k).flatten).length
theorem flatten_take_le (ls : List (List UInt8)) (k : Nat) : ((ls.take k).flatten).length ≤ ls.flatten.length := by
  have h : ls.flatten = (ls.take k).flatten ++ (ls.drop k).flatten := by rw [← List.flatten_append, List.take_append_drop]
  rw [h, List.length_append]; omega
theorem flatten_take_succ {ls : List (List UInt8)} {k : Nat} {y : List UInt8} (h : ls[k]? = some y) : (ls.take (k + 1)).flatten = (ls.take k).flatten ++ y := by
  obtain ⟨hk, he⟩ := List.getElem?_eq_some_iff.1 h
  rw [List.take_succ_eq_append_getElem hk, List.flatten_append, he]; simp

set_option maxRecDepth 100000 in
set_option maxHeartbeats 2000000 in
/-- slices.Concat of bytes -/
theorem concat_calls {Q : Nat → Prop} {w : World} {v : Value} {ls : List (List UInt8)} (hx : Rep.byte.list.list.val Q w v ls) (hl : ls.flatten.length ≤ 1000000000) :
    Calls Try.prog 171 #[v] w (ResA Rep.byte 5 w ls.flatten) := by
  obtain ⟨A0, c0, rfl, hc1, hc2, hA⟩ := Rep.val_list hx
  unfold maxLen at hc2
  have HX := Lib.hid (show ∀ W', Below w.heap.size w W' → Rep.byte.list.At (fun b => b < w.heap.size) W' A0 ls from fun W' hb => Rep.At.keep (w := w) (fun b _ hl => ⟨hl.lt, hb.block b hl.lt⟩) hA)
  have HL := Lib.hid (fun k => Nat.le_trans (flatten_take_le ls k) hl)
  have HL0 := Lib.hid hl
  clear hx hA hl
  go_enter Try.func171, Try.ntmps171
  go_wp2_with fail
  generalize hlen : ls.length = len at *
  have HLEN := Lib.hid hlen
  clear hlen
  go_loopw [3, 11] (fun s i wr => ∃ k : Nat, i = .int .i64 k ∧ k ≤ len ∧ s = .int .i64 (flatLen ls k : Nat) ∧ wr = w) (fun _ i _ => len - (intOf i).toNat)
  case atStart => exact ⟨0, rfl, Nat.zero_le _, rfl, rfl⟩
  case round =>
    obtain ⟨k, rfl, hk, rfl, hwr⟩ := hrel
    have hwr2 := hwr.symm
    subst hwr2
    clear hwr
    by_cases hlt : (k : Int) < len
    · obtain ⟨y, hy⟩ : ∃ y, ls[k]? = some y := ⟨_, List.getElem?_eq_getElem (by have := HLEN.out; omega)⟩
      obtain ⟨bb, off, B5, c5, rfl, hcell, hc5, hm5, hat⟩ := Rep.At.list (HX.out _ (Below.refl _ _)) hy
      have hs := flatten_take_succ hy
      have hn1 : flatLen ls k ≤ 1000000000 := HL.out k
      have hn2 : flatLen ls (k + 1) ≤ 1000000000 := HL.out (k + 1)
      have hn3 : flatLen ls (k + 1) = flatLen ls k + y.length := by unfold flatLen; rw [hs, List.length_append]
      generalize flatLen ls k = a at *
      have HN3 := Lib.hid hn3
      have i1 : IntKind.i64.wrap ((a : Int) + (y.length : Int)) = (a : Int) + (y.length : Int) := IntWalk.i64_in _ ⟨by omega, by omega⟩
      have i2 : ¬ (a : Int) + (y.length : Int) < 0 := by omega
      clear hy hat hs
      rw [hn3] at hn2
      clear hn3
      go_wp2_with fail
      exact ⟨⟨k + 1, rfl, by omega, by rw [HN3.out, Int.natCast_add], trivial⟩, by show len - ((k : Int) + 1).toNat < len - (k : Int).toNat; omega⟩
    · obtain rfl : k = len := by omega
      have HT := Lib.hid (show flatLen ls k = ls.flatten.length by unfold flatLen; rw [List.take_of_length_le (by have := HLEN.out; omega)])
      go_wp2_with fail
      refine (grow_nil _ (by have := HT.out; have := HL0.out; omega) _).mono ?_
      rintro e w2 ⟨u2, rfl, hu2, hb2⟩
      have HU2 := Lib.hid hu2
      have HB2 := Lib.hid hb2
      clear hu2 hb2
      generalize flatLen ls k = tot at *
      go_wp2_with fail
      go_loopw [6, 27] (fun s i wr => ∃ j : Nat, i = .int .i64 j ∧ j ≤ k ∧ Rep.byte.acc 5 w.heap.size (fun _ => False) wr s ((ls.take j).flatten) ∧ Below w.heap.size w wr) (fun _ i _ => k - (intOf i).toNat)
      case atStart => exact ⟨0, rfl, Nat.zero_le _, by simpa using HU2.out, HB2.out⟩
      case round =>
        obtain ⟨j, rfl, hj, hacc, hbel⟩ := hrel
        have HACC := Lib.hid hacc
        have HBEL := Lib.hid hbel
        by_cases hlt : (j : Int) < k
        · obtain ⟨y, hy⟩ : ∃ y, ls[j]? = some y := ⟨_, List.getElem?_eq_getElem (by have := HLEN.out; omega)⟩
          obtain ⟨bb, off, B5, c5, rfl, hcell, hc5, hm5, hat⟩ := Rep.At.list (HX.out _ hbel) hy
          have HY := Lib.hid (Rep.list_val rfl hc5 hm5 hat)
          have HS := Lib.hid (flatten_take_succ hy)
          have hn2 := HL.out (j + 1)
          rw [HS.out, List.length_append] at hn2
          have L63 := Lib.hid (show ((ls.take j).flatten).length + y.length ≤ maxLen ∧ (((ls.take j).flatten).length + y.length) * 1 ≤ 140737488355328 by unfold maxLen; omega)
          have HSZ := Lib.hid hbel.size
          clear hacc hbel hn2
          go_wp2_with (refine wpList_spread_leaf (e := 5) (base := w.heap.size) (Q := fun _ => False) (r := Rep.byte) Rep.leaf_byte rfl _ _ 22 rfl (.int .u8 0) 1 1 Try.underlying22 info5 rfl (by decide) rfl _ _ (by exact rfl) HACC.out _ y (by exact rfl) HY.out L63.out.1 L63.out.2 HSZ.out ?_; intro v7 w7 hacc7 hgr7 hat7)
          refine ⟨⟨j + 1, rfl, by omega, ?_, Rep.acc_below HACC.out HBEL.out hgr7 HSZ.out⟩, by show k - ((j : Int) + 1).toNat < k - (j : Int).toNat; omega⟩
          rw [HS.out]; exact hacc7
        · obtain rfl : j = k := by omega
          have HE := Lib.hid (show (ls.take j).flatten = ls.flatten by rw [List.take_of_length_le (by have := HLEN.out; omega)])
          clear hacc hbel
          go_wp2_with fail
          go_ret
          exact ⟨_, rfl, by rw [← HE.out]; exact HACC.out, HBEL.out⟩

set_option maxRecDepth 100000 in
set_option maxHeartbeats 1000000 in
/-- (*disk.Disk).Bytes -/
theorem dbytes_calls {W : World} {P : Nat} {F B : Nat → Prop} {n : Nat} {st : DiskSt} (h : DiskAt W P F B n st) (hl : st.safe.flatten.length ≤ 1000000000) :
    Calls Try.prog 76 #[.pointer (some ⟨P, 0, none⟩)] W (ResA Rep.byte 5 W st.safe.flatten) := by
  obtain ⟨Sf, cs, M, D, hd⟩ := h
  have e0 := cell_row hd.blk 0
  have HC := Lib.hid (concat_calls (Rep.acc_val hd.safe) hl)
  generalize st.safe.length = k at *
  clear hd hl
  go_enter Try.func76, Try.ntmps76
  go_wp2_with fail
  refine HC.out.mono ?_
  rintro e w2 ⟨u, rfl, hu, hb⟩
  go_wp2_with fail
  go_ret
  exact ⟨u, rfl, hu, hb⟩
end Go.Proofs.Ytcfgckpjgihcgaa
/- A device among blocks that are not its own: the walks of its functions, said of it. -/
namespace Go.Proofs.Ytcfgckpjgihcgaa
open Go.RowKit

/-- A device lies at P, and writes no block of K. -/
def DevAt (K : Nat → Prop) (W : World) (P n : Nat) (st : DiskSt) : Prop := (∀ b, K b → b < W.heap.size) ∧ ∃ F B, DiskAt W P F B n st ∧ ∀ b, F b ∨ B b → ¬ K b
/-- Blocks of K are as0 they were. -/
structure Kept (K : Nat → Prop) (W W' : World) : Prop where
  os : W'.os = W.os
  tape : W'.tape = W.tape
  output : W'.output = W.output
  size : W.heap.size ≤ W'.heap.size
  block : ∀ b, K b → W'.heap[b]? = W.heap[b]?
theorem Kept.refl (K : Nat → Prop) (W : World) : Kept K W W := ⟨rfl, rfl, rfl, Nat.le_refl _, fun _ _ => rfl⟩
theorem Kept.trans {K : Nat → Prop} {X Y Z : World} (h : Kept K X Y) (k : Kept K Y Z) : Kept K X Z :=
  ⟨k.os.trans h.os, k.tape.trans h.tape, k.output.trans h.output, Nat.le_trans h.size k.size, fun b hb => (k.block b hb).trans (h.block b hb)⟩
theorem Kept.less {K K' : Nat → Prop} {X Y : World} (h : Kept K X Y) (hk : ∀ b, K' b → K b) : Kept K' X Y := ⟨h.os, h.tape, h.output, h.size, fun b hb => h.block b (hk b hb)⟩
theorem Kept.of_below {K : Nat → Prop} {X Y : World} (h : Below X.heap.size X Y) (hk : ∀ b, K b → b < X.heap.size) : Kept K X Y := ⟨h.os, h.tape, h.output, h.size, fun b hb => h.block b (hk b hb)⟩
theorem Kept.of_only {K F : Nat → Prop} {X Y : World} (h : Only F X Y) (hk : ∀ b, K b → b < X.heap.size) (hf : ∀ b, F b → ¬ K b) : Kept K X Y := ⟨h.os, h.tape, h.output, h.size, fun b hb => h.block b (hk b hb) (fun e => hf b e hb)⟩
theorem Kept.below {K : Nat → Prop} {X Y : World} {base : Nat} (h : Kept K X Y) (hk : ∀ b, b < base → K b) : Below base X Y := ⟨h.os, h.tape, h.output, h.size, fun b hl => h.block b (hk b hl)⟩
theorem Kept.val {α : Type} {r : Rep α} {K Q : Nat → Prop} {X Y : World} {v : Value} {x : α} (h : Kept K X Y) (hq : ∀ b, Q b → K b) (hv : r.val Q X v x) : r.val Q Y v x := Rep.val_keep (fun b hb _ => ⟨hb, h.block b (hq b hb)⟩) hv
theorem Kept.cell {K : Nat → Prop} {X Y : World} {p : Addr} (h : Kept K X Y) (hk : K p.block) : Y.cell? p = X.cell? p := by
  simp only [World.cell?, h.block _ hk]

namespace DevAt
variable {K : Nat → Prop} {W W' : World} {P n : Nat} {st : DiskSt}
theorem lt (h : DevAt K W P n st) : ∀ b, K b → b < W.heap.size := h.1
/-- New blocks are none of its own. -/
theorem grow (h : DevAt K W P n st) {K' : Nat → Prop} (hb : Below W.heap.size W W') (hk : ∀ b, K' b → K b ∨ (W.heap.size ≤ b ∧ b < W'.heap.size)) : DevAt K' W' P n st := by
  obtain ⟨hl, F, B, hd, hf⟩ := h
  have hlt : ∀ b, F b ∨ B b → b < W.heap.size := fun b hb => by obtain ⟨_, _, _, _, hd⟩ := hd; exact hd.lt b hb
  exact ⟨fun b hb' => (hk b hb').elim (fun e => Nat.lt_of_lt_of_le (hl b e) hb.size) (fun e => e.2), F, B, hd.below hb, fun b hF hK => (hk b hK).elim (hf b hF) (fun e => by have := hlt b hF; omega)⟩
theorem below (h : DevAt K W P n st) (hb : Below W.heap.size W W') : DevAt K W' P n st := h.grow hb fun _ => .inl
theorem less (h : DevAt K W P n st) {K' : Nat → Prop} (hk : ∀ b, K' b → K b) : DevAt K' W P n st := by
  obtain ⟨hl, F, B, hd, hf⟩ := h
  exact ⟨fun b hb => hl b (hk b hb), F, B, hd, fun b hF hK => hf b hF (hk b hK)⟩
theorem more (h : DevAt K W P n st) {n' : Nat} (hn : n ≤ n') : DevAt K W P n' st := by
  obtain ⟨hl, F, B, ⟨_, _, _, _, hd⟩, hf⟩ := h
  exact ⟨hl, F, B, ⟨_, _, _, _, hd.more hn⟩, hf⟩
/-- A block that is none of its own is written. -/
theorem set (h : DevAt K W P n st) {b i : Nat} {v : Value} (hb : K b) : DevAt K (W.setCell ⟨b, i, none⟩ v) P n st := by
  obtain ⟨hl, F, B, hd, hf⟩ := h
  refine ⟨fun x hx => by have := hl x hx; simpa using this, F, B, hd.keep (by simp) (fun x hx => Below.heap_setCell _ _ _ _ ?_), hf⟩
  rintro rfl
  exact hf _ hx hb
end DevAt

def DevNew (w : World) (n : Int) (e : Ending) (W : World) : Prop := ∃ P, e = .returned (.pointer (some ⟨P, 0, none⟩)) ∧ DevAt (fun b => b < w.heap.size) W P 0 (newSt (List.replicate (newN n) (zeros 512))) ∧ Below w.heap.size w W
theorem dev_new {n : Int} (h0 : 0 ≤ n) (h1 : n ≤ 4096) (w : World) : Calls Try.prog 53 #[.int .i64 n] w (DevNew w n) := by
  refine (dnew_calls h0 h1 w).mono ?_
  rintro e w1 ⟨P, M, Sf, cs, xs, rfl, hnew, hz⟩
  have hd := hnew.disk
  have hold := hnew.old
  have he : xs.map (·.1) = List.replicate (newN n) (zeros 512) := by
    rw [List.eq_replicate_iff]
    exact ⟨by rw [List.length_map]; exact hnew.len, fun b hb => by obtain ⟨x, hx, rfl⟩ := List.mem_map.1 hb; exact hz x hx⟩
  rw [he] at hd
  exact ⟨P, rfl, ⟨fun b hb => Nat.lt_of_lt_of_le hb hnew.bel.size, _, _, hd, fun b hF hK => by have := hold b hF; have hK' : b < w.heap.size := hK; omega⟩, hnew.bel⟩

section
variable {K : Nat → Prop} {W : World} {P n : Nat} {st : DiskSt}

def DevStep (K : Nat → Prop) (P n : Nat) (W : World) (k : Int) (st : DiskSt) (e : Ending) (W' : World) : Prop := e = .returned (.int .i64 k) ∧ DevAt K W' P n st ∧ Kept K W W'
def DevVoid (K : Nat → Prop) (P n : Nat) (W : World) (st : DiskSt) (e : Ending) (W' : World) : Prop := e = .returned (.tuple #[]) ∧ DevAt K W' P n st ∧ Kept K W W'
def DevRead (K : Nat → Prop) (P n : Nat) (W : World) (r : DiskSt × List UInt8 × Int) (e : Ending) (W' : World) : Prop :=
  ∃ u, e = .returned (.tuple #[u, .int .i64 r.2.2]) ∧ Rep.byte.list.val (fun b => W.heap.size ≤ b) W' u r.2.1 ∧ DevAt K W' P n r.1 ∧ Kept K W W'

theorem dev_write {Q : Nat → Prop} {i : Int} {v : Value} {b : List UInt8} (h : DevAt K W P n st) (hi : (Lit.int .i64 i).wf = true) (hn : n ≤ 1000000000) (hx : Rep.byte.list.val Q W v b) (hQ : ∀ k, Q k → K k) :
    Calls Try.prog 85 #[.pointer (some ⟨P, 0, none⟩), .int .i64 i, v] W (DevStep K P (n + 1) W (writeSt st i b).2 (writeSt st i b).1) := by
  obtain ⟨hl, F, B, hd, hf⟩ := h
  refine (dwrite_calls hd hi hn hx (fun k hk hF => hf k (.inl hF) (hQ k hk))).mono ?_
  rintro e w1 ⟨rfl, ho, F', B', hd', h1, h2, _⟩
  exact ⟨rfl, ⟨fun b hb => Nat.lt_of_lt_of_le (hl b hb) ho.size, F', B', hd', fun b hF hK => hF.elim (fun hF => (h1 b hF).elim (fun e => hf b (.inl e) hK) (fun e => by have := hl b hK; omega)) (fun hB => (h2 b hB).elim (fun e => hf b (.inr e) hK) (fun e => by have := hl b hK; omega))⟩, Kept.of_only ho hl fun b hb => hf b (.inl hb)⟩
theorem dev_sync (h : DevAt K W P n st) : Calls Try.prog 86 #[.pointer (some ⟨P, 0, none⟩)] W (DevStep K P n W (syncRes st).2 (syncRes st).1) := by
  obtain ⟨hl, F, B, hd, hf⟩ := h
  refine (dsync_calls hd).mono ?_
  rintro e w1 ⟨rfl, hd', ho⟩
  exact ⟨rfl, ⟨fun b hb => Nat.lt_of_lt_of_le (hl b hb) ho.size, F, B, hd', hf⟩, Kept.of_only ho hl fun b hb => hf b (.inl hb)⟩
theorem dev_fuse {k : Int} (h : DevAt K W P n st) (hk : (Lit.int .i64 k).wf = true) : Calls Try.prog 82 #[.pointer (some ⟨P, 0, none⟩), .int .i64 k] W (DevVoid K P n W (fuseSt st k)) := by
  obtain ⟨hl, F, B, hd, hf⟩ := h
  refine (fuse_calls hd hk).mono ?_
  rintro e w1 ⟨rfl, hd', ho⟩
  exact ⟨rfl, ⟨fun b hb => Nat.lt_of_lt_of_le (hl b hb) ho.size, F, B, hd', hf⟩, Kept.of_only ho hl fun b hb => hf b (.inl hb)⟩
theorem dev_crash {Q : Nat → Prop} {v : Value} {fates : List DFate} (h : DevAt K W P n st) (hn : n ≤ 1000000000) (hx : rFate.list.val Q W v fates) (hQ : ∀ k, Q k → K k) :
    Calls Try.prog 83 #[.pointer (some ⟨P, 0, none⟩), v] W (DevVoid K P n W (crashSt st fates)) := by
  obtain ⟨hl, F, B, hd, hf⟩ := h
  refine (dcrash_calls hd hn hx (fun k hk hF => hf k (.inl hF) (hQ k hk))).mono ?_
  rintro e w1 ⟨rfl, ho, B', hd', h2⟩
  exact ⟨rfl, ⟨fun b hb => Nat.lt_of_lt_of_le (hl b hb) ho.size, F, B', hd', fun b hF hK => hF.elim (fun hF => hf b (.inl hF) hK) (fun hB => (h2 b hB).elim (fun e => hf b (.inr e) hK) (fun e => by have := hl b hK; omega))⟩, Kept.of_only ho hl fun b hb => hf b (.inl hb)⟩
theorem dev_read {i : Int} (h : DevAt K W P n st) (hi : (Lit.int .i64 i).wf = true) (hl : ∀ x ∈ st.safe, x.length ≤ 100000) (hw : ∀ j, ∀ x ∈ st.wait j, x.length ≤ 100000) :
    Calls Try.prog 81 #[.pointer (some ⟨P, 0, none⟩), .int .i64 i] W (DevRead K P n W (readSt st i)) := by
  obtain ⟨hlt, F, B, hd, hf⟩ := h
  refine (dread_calls hd hi hl hw).mono ?_
  rintro e w1 ⟨u, rfl, hu, hd', ho⟩
  exact ⟨u, rfl, hu, ⟨fun b hb => Nat.lt_of_lt_of_le (hlt b hb) ho.size, F, B, hd', hf⟩, Kept.of_only ho hlt fun b hb => hf b (.inl hb)⟩
theorem dev_bytes (h : DevAt K W P n st) (hl : st.safe.flatten.length ≤ 1000000000) : Calls Try.prog 76 #[.pointer (some ⟨P, 0, none⟩)] W (ResA Rep.byte 5 W st.safe.flatten) := by
  obtain ⟨_, F, B, hd, _⟩ := h
  exact dbytes_calls hd hl
theorem dev_dirty (h : DevAt K W P n st) (hn : n ≤ 1000000000) : Calls Try.prog 74 #[.pointer (some ⟨P, 0, none⟩)] W (ResA (Rep.int .i64) 3 W (dirtyOf st)) := by
  obtain ⟨_, F, B, hd, _⟩ := h
  exact ddirty_calls hd hn
theorem dev_off (h : DevAt K W P n st) : Calls Try.prog 71 #[.pointer (some ⟨P, 0, none⟩)] W fun e W' => e = .returned (.bool st.off) ∧ W' = W := by
  obtain ⟨_, F, B, hd, _⟩ := h
  exact doff_disk hd
theorem dev_size (h : DevAt K W P n st) : Calls Try.prog 78 #[.pointer (some ⟨P, 0, none⟩)] W fun e W' => e = .returned (.int .i64 st.safe.length) ∧ W' = W := by
  obtain ⟨_, F, B, hd, _⟩ := h
  exact dsize_disk hd
end
end Go.Proofs.Ytcfgckpjgihcgaa
