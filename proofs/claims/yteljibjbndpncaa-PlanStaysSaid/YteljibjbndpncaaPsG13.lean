/- Texts on which the proofs stand: PlanTwice, PlanRef, PlanPages. No condition is laid on any input. -/
import Derived.Test.YteljibjbndpncaaPsG10
import Derived.Test.YteljibjbndpncaaPsG9
/- Walk of whether numbers stand twice in a list. Printed by gen_plantwice.py. -/
namespace Go.Proofs.Yteljibjbndpncaa
open Go.RowKit

theorem nodup_take_succ {l : List Int} {k : Nat} {y : Int} (hy : l[k]? = some y) (h : (l.take k).Nodup) (hn : ∀ (j : Nat) (x : Int), j < k → l[j]? = some x → x ≠ y) : (l.take (k + 1)).Nodup := by
  obtain ⟨hk, rfl⟩ := List.getElem?_eq_some_iff.1 hy
  rw [List.take_succ_eq_append_getElem hk, List.nodup_append]
  refine ⟨h, by simp, fun a ha b hb => ?_⟩
  obtain rfl := List.mem_singleton.1 hb
  obtain ⟨j, hj, rfl⟩ := List.mem_take_iff_getElem.1 ha
  exact hn j _ (by omega) (List.getElem?_eq_getElem (by omega))
theorem not_nodup {l : List Int} {j k : Nat} {x : Int} (hjk : j < k) (hx : l[j]? = some x) (hy : l[k]? = some x) : ¬ l.Nodup := by
  intro h
  obtain ⟨h1, e1⟩ := List.getElem?_eq_some_iff.1 hx
  obtain ⟨h2, e2⟩ := List.getElem?_eq_some_iff.1 hy
  exact (List.pairwise_iff_getElem.1 h j k h1 h2 hjk) (e1.trans e2.symm)

set_option maxRecDepth 100000 in
set_option maxHeartbeats 1000000 in
/-- ref24.Twice -/
theorem rtwice_calls {Q : Nat → Prop} {w : World} {v : Value} {l : List Int} (hx : (Rep.int .i64).list.val Q w v l) :
    Calls Try.prog 11 #[v] w fun e w' => e = .returned (.bool (!decide l.Nodup)) ∧ Below w.heap.size w w' := by
  obtain ⟨A, c, rfl, h1, h2, hat⟩ := Rep.val_list hx
  have HA := Lib.hid hat
  unfold maxLen at h2
  clear hx hat
  go_enter Try.func11, Try.ntmps11
  go_wp2_with fail
  go_loopw [3] (fun i wr => ∃ k : Nat, i = .int .i64 k ∧ k ≤ l.length ∧ Hid ((l.take k).Nodup) ∧ Hid (Below w.heap.size w wr)) (fun i _ => l.length - (intOf i).toNat)
  case atStart => exact ⟨0, rfl, Nat.zero_le _, Lib.hid (by simp), Lib.hid (Below.refl _ _)⟩
  case round =>
    obtain ⟨k, rfl, hk, HN, HB⟩ := hrel
    by_cases hlt : (k : Int) < l.length
    · obtain ⟨y, hy⟩ : ∃ y, l[k]? = some y := ⟨_, List.getElem?_eq_getElem (by omega)⟩
      have HY := Lib.hid hy
      clear hy
      go_wp2_with fail
      rename World => wo
      go_loopw [4] (fun i wr => ∃ j : Nat, i = .int .i64 j ∧ j ≤ k ∧ Hid (∀ (m : Nat) (x : Int), m < j → l[m]? = some x → x ≠ y) ∧ Hid (Below w.heap.size w wr)) (fun i _ => k - (intOf i).toNat)
      case atStart => exact ⟨0, rfl, Nat.zero_le _, Lib.hid (fun m x hm => absurd hm (Nat.not_lt_zero _)), HB⟩
      case round =>
        obtain ⟨j, rfl, hj, HJ, HBW⟩ := hrel
        by_cases hjk : (j : Int) < k
        · obtain ⟨x, hx⟩ : ∃ x, l[j]? = some x := ⟨_, List.getElem?_eq_getElem (by omega)⟩
          have hjl : (j : Int) < l.length := by omega
          obtain ⟨b, off, rfl, e0, _⟩ := (HA.out.below HBW.out (fun _ _ h => h.lt)).int HY.out
          obtain ⟨b', off', hA, e1, _⟩ := (HA.out.below HBW.out (fun _ _ h => h.lt)).int hx
          cases hA
          have HX := Lib.hid hx
          clear hx
          by_cases hxy : x = y
          · subst hxy
            have HD := Lib.hid (show decide l.Nodup = false from decide_eq_false (not_nodup (by omega) HX.out HY.out))
            go_wp2_with fail
            refine wp_region_held_drew (S := fun W => W = wr.drew) (by kernel_rfl) rfl (fun s0 => ?_)
            refine wpAnyH_take (i := 0) (v := .slice (some ⟨b, off, none⟩) l.length c) rfl (by kernel_rfl) (by kernel_rfl) (by kernel_rfl) (fun _ _ _ h => h) (Or.inl ⟨by rfl, fun w' _ => by go_simp <;> omega⟩) s0 ?_
            go_simp
            refine wpAnyH_take (i := 1) (v := .int .i64 k) rfl (by kernel_rfl) (by kernel_rfl) (by kernel_rfl) (fun _ _ _ h => h) (Or.inl ⟨by rfl, fun w' _ => by go_simp <;> omega⟩) s0 ?_
            go_simp
            refine wpAnyH_take (i := 2) (v := .pointer (some ⟨b, off + k, none⟩)) rfl (by kernel_rfl) (by kernel_rfl) (by kernel_rfl) (fun _ _ _ h => h) (Or.inl ⟨by rfl, fun w' _ => by go_simp <;> omega⟩) s0 ?_
            go_simp
            refine wpAnyH_take (i := 3) (v := .int .i64 x) rfl (by kernel_rfl) (by kernel_rfl) (by kernel_rfl) (fun _ _ _ h => h) (Or.inl ⟨by rfl, fun w' h => by have h' : w' = wr.drew := h; subst h'; go_simp⟩) s0 ?_
            go_simp
            refine wpAnyH_take (i := 4) (v := .slice (some ⟨b, off, none⟩) l.length c) rfl (by kernel_rfl) (by kernel_rfl) (by kernel_rfl) (fun _ _ _ h => h) (Or.inl ⟨by rfl, fun w' _ => by go_simp <;> omega⟩) s0 ?_
            go_simp
            refine wpAnyH_take (i := 5) (v := .int .i64 j) rfl (by kernel_rfl) (by kernel_rfl) (by kernel_rfl) (fun _ _ _ h => h) (Or.inl ⟨by rfl, fun w' _ => by go_simp <;> omega⟩) s0 ?_
            go_simp
            refine wpAnyH_take (i := 6) (v := .pointer (some ⟨b, off + j, none⟩)) rfl (by kernel_rfl) (by kernel_rfl) (by kernel_rfl) (fun _ _ _ h => h) (Or.inl ⟨by rfl, fun w' _ => by go_simp <;> omega⟩) s0 ?_
            go_simp
            refine wpAnyH_take (i := 7) (v := .int .i64 x) rfl (by kernel_rfl) (by kernel_rfl) (by kernel_rfl) (fun _ _ _ h => h) (Or.inl ⟨by rfl, fun w' h => by have h' : w' = wr.drew := h; subst h'; go_simp⟩) s0 ?_
            go_simp
            refine wpAnyH_take (i := 8) (v := .bool true) rfl (by kernel_rfl) (by kernel_rfl) (by kernel_rfl) (fun _ _ _ h => h) (Or.inl ⟨by rfl, fun w' _ => by go_simp <;> omega⟩) s0 ?_
            go_simp
            refine wpAnyH_done (by kernel_rfl) ?_ _
            go_wp2_with fail
            go_ret
            exact ⟨by rw [HD.out]; rfl, HBW.out.drew⟩
          · have HJ2 := Lib.hid (show ∀ (m : Nat) (z : Int), m < j + 1 → l[m]? = some z → z ≠ y from fun m z hm hz => by
              rcases Nat.lt_or_ge m j with h | h
              · exact HJ.out m z h hz
              · have : m = j := by omega
                subst this
                rw [HX.out] at hz
                rw [← Option.some.inj hz]
                exact hxy)
            have hyx : (y == x) = false := beq_eq_false_iff_ne.2 (fun h => hxy h.symm)
            clear hxy
            go_wp2_with fail
            refine wp_region_held_drew (S := fun W => W = wr.drew) (by kernel_rfl) rfl (fun s0 => ?_)
            refine wpAnyH_take (i := 0) (v := .slice (some ⟨b, off, none⟩) l.length c) rfl (by kernel_rfl) (by kernel_rfl) (by kernel_rfl) (fun _ _ _ h => h) (Or.inl ⟨by rfl, fun w' _ => by go_simp <;> omega⟩) s0 ?_
            go_simp
            refine wpAnyH_take (i := 1) (v := .int .i64 k) rfl (by kernel_rfl) (by kernel_rfl) (by kernel_rfl) (fun _ _ _ h => h) (Or.inl ⟨by rfl, fun w' _ => by go_simp <;> omega⟩) s0 ?_
            go_simp
            refine wpAnyH_take (i := 2) (v := .pointer (some ⟨b, off + k, none⟩)) rfl (by kernel_rfl) (by kernel_rfl) (by kernel_rfl) (fun _ _ _ h => h) (Or.inl ⟨by rfl, fun w' _ => by go_simp <;> omega⟩) s0 ?_
            go_simp
            refine wpAnyH_take (i := 3) (v := .int .i64 y) rfl (by kernel_rfl) (by kernel_rfl) (by kernel_rfl) (fun _ _ _ h => h) (Or.inl ⟨by rfl, fun w' h => by have h' : w' = wr.drew := h; subst h'; go_simp⟩) s0 ?_
            go_simp
            refine wpAnyH_take (i := 4) (v := .slice (some ⟨b, off, none⟩) l.length c) rfl (by kernel_rfl) (by kernel_rfl) (by kernel_rfl) (fun _ _ _ h => h) (Or.inl ⟨by rfl, fun w' _ => by go_simp <;> omega⟩) s0 ?_
            go_simp
            refine wpAnyH_take (i := 5) (v := .int .i64 j) rfl (by kernel_rfl) (by kernel_rfl) (by kernel_rfl) (fun _ _ _ h => h) (Or.inl ⟨by rfl, fun w' _ => by go_simp <;> omega⟩) s0 ?_
            go_simp
            refine wpAnyH_take (i := 6) (v := .pointer (some ⟨b, off + j, none⟩)) rfl (by kernel_rfl) (by kernel_rfl) (by kernel_rfl) (fun _ _ _ h => h) (Or.inl ⟨by rfl, fun w' _ => by go_simp <;> omega⟩) s0 ?_
            go_simp
            refine wpAnyH_take (i := 7) (v := .int .i64 x) rfl (by kernel_rfl) (by kernel_rfl) (by kernel_rfl) (fun _ _ _ h => h) (Or.inl ⟨by rfl, fun w' h => by have h' : w' = wr.drew := h; subst h'; go_simp⟩) s0 ?_
            go_simp
            refine wpAnyH_take (i := 8) (v := .bool false) rfl (by kernel_rfl) (by kernel_rfl) (by kernel_rfl) (fun _ _ _ h => h) (Or.inl ⟨by rfl, fun w' _ => by go_simp <;> omega⟩) s0 ?_
            go_simp
            refine wpAnyH_done (by kernel_rfl) ?_ _
            go_wp2_with fail
            exact ⟨⟨j + 1, by go_num, by omega, HJ2, Lib.hid HBW.out.drew⟩, by simp [intOf]; omega⟩
        · obtain rfl : j = k := by omega
          have HN2 := Lib.hid (nodup_take_succ HY.out HN.out HJ.out)
          go_wp2_with fail
          exact ⟨⟨j + 1, by go_num, by omega, HN2, HBW⟩, by simp [intOf]; omega⟩
    · obtain rfl : k = l.length := by omega
      rw [List.take_length] at HN
      have HD := Lib.hid (show decide l.Nodup = true from decide_eq_true HN.out)
      go_wp2_with fail
      go_ret
      exact ⟨by rw [HD.out]; rfl, HB.out⟩
end Go.Proofs.Yteljibjbndpncaa
/- Walks: the size guard on streams; the pages that flows stay on. -/
namespace Go.Proofs.Yteljibjbndpncaa
open Go.RowKit

def MuchStreams (w : World) (l : List DStream) (e : Ending) (w' : World) : Prop := ∃ r : Bool, e = .returned (.bool r) ∧ (r = false → l.length ≤ 40 ∧ ∀ s ∈ l, s.data.length ≤ 2000) ∧ w' = w

set_option maxRecDepth 100000 in
/-- ref22.Much -/
theorem muchStreams_calls {Q : Nat → Prop} {w : World} {v : Value} {l : List DStream} (hx : rStream.list.val Q w v l) :
    Calls Try.prog 8 #[v] w (MuchStreams w l) := by
  obtain ⟨A, c, rfl, hc1, hc2, hA⟩ := Rep.val_list hx
  unfold maxLen at hc2
  have HA := Lib.hid hA
  clear hx hA
  go_enter Try.func8, Try.ntmps8
  go_wp2_with fail
  go_loop [3] (fun i => ∃ k : Nat, i = .int .i64 k ∧ k ≤ l.length ∧ k ≤ 50 ∧ Hid (∀ (j : Nat) (s : DStream), j < k → l[j]? = some s → s.data.length ≤ 2000)) (fun i => l.length - (intOf i).toNat)
  case atStart => exact ⟨0, rfl, by omega, by omega, Lib.hid (fun j s hj => absurd hj (Nat.not_lt_zero _))⟩
  case round =>
    obtain ⟨k, rfl, hk, hk5, HJ⟩ := hrel
    by_cases hlt : (k : Int) < l.length
    · by_cases h50 : (k : Int) < 50
      · obtain ⟨x, hx⟩ : ∃ x, l[k]? = some x := ⟨_, List.getElem?_eq_getElem (by omega)⟩
        obtain ⟨b, off, Ad, cd, rfl, hbc, cx0, cx1, cx2, cx3, g0, g1, g2, hsd⟩ := rStream_at HA.out hx
        have hd := hsd.1
        have hd2 := hsd.2.1
        unfold maxLen at hd2
        have HX := Lib.hid hx
        clear g0 g1 g2 hsd hx
        by_cases h1 : (2000 : Int) < x.data.length
        · go_wp2_with fail
          go_ret
          exact ⟨true, rfl, (fun h => by cases h), rfl⟩
        · have HJ2 := Lib.hid (show ∀ (j : Nat) (s : DStream), j < k + 1 → l[j]? = some s → s.data.length ≤ 2000 from fun j s hj hs => by
            rcases Nat.lt_or_ge j k with h | h
            · exact HJ.out j s h hs
            · have : j = k := by omega
              subst this
              rw [HX.out] at hs
              rw [← Option.some.inj hs]
              omega)
          go_wp2_with fail
          go_round
          case rel => exact ⟨k + 1, by go_num, by omega, by omega, HJ2⟩
          case measure => simp [intOf]; omega
      · have h40 : (40 : Int) < l.length := by omega
        go_wp2_with fail
        go_ret
        exact ⟨true, rfl, (fun h => by cases h), rfl⟩
    · by_cases h40 : (40 : Int) < l.length
      · go_wp2_with fail
        go_ret
        exact ⟨true, rfl, (fun h => by cases h), rfl⟩
      · have HL := Lib.hid (show l.length ≤ 40 ∧ ∀ s ∈ l, s.data.length ≤ 2000 from ⟨by omega, fun s hs => by
          obtain ⟨j, hj, rfl⟩ := List.getElem_of_mem hs
          exact HJ.out j _ (by omega) (List.getElem?_eq_getElem hj)⟩)
        go_wp2_with fail
        go_ret
        exact ⟨false, rfl, fun _ => HL.out, rfl⟩
end Go.Proofs.Yteljibjbndpncaa
/- Walk of the pages that flows stay on. -/
namespace Go.Proofs.Yteljibjbndpncaa
open Go.RowKit

theorem keptTo_succ (f : DFlow) (j : Nat) : keptTo f (j + 1) = keptTo f j ++ (if 0 ≤ pageAt f j then [pageAt f j] else []) := by
  unfold keptTo
  rw [List.range_succ, List.filterMap_append]
  by_cases h : 0 ≤ pageAt f j
  · simp [h]
  · simp [h]
theorem keptTo_len (f : DFlow) : ∀ j, (keptTo f j).length ≤ j
  | 0 => by simp [keptTo]
  | j + 1 => by
    have := keptTo_len f j
    rw [keptTo_succ, List.length_append]
    split <;> simp <;> omega
theorem pieceCount_le {f : DFlow} (h : f.data.length ≤ 1000000) : pieceCount f ≤ 3000 := by unfold pieceCount; omega
theorem pagesOf_len : ∀ {l : List DFlow}, (∀ f ∈ l, f.data.length ≤ 1000000) → (pagesOf l).length ≤ 3000 * l.length
  | [], _ => by simp [pagesOf]
  | f :: l, h => by
    have h1 := pagesOf_len (l := l) fun g hg => h g (by simp [hg])
    have h2 : (kept f).length ≤ 3000 := Nat.le_trans (keptTo_len f _) (pieceCount_le (h f (by simp)))
    unfold pagesOf at *
    rw [List.map_cons, List.flatten_cons, List.length_append, List.length_cons]
    omega
theorem pagesOf_succ {l : List DFlow} {k : Nat} {f : DFlow} (h : l[k]? = some f) : pagesOf (l.take (k + 1)) = pagesOf (l.take k) ++ kept f := by
  obtain ⟨hk, he⟩ := List.getElem?_eq_some_iff.1 h
  unfold pagesOf
  rw [List.take_succ_eq_append_getElem hk, List.map_append, List.flatten_append, he]; simp
theorem pageCount_piece (f : DFlow) : pageCount (f.data.length : Int) = (pieceCount f : Int) := by
  unfold pageCount pieceCount
  split <;> omega

set_option maxRecDepth 100000 in
set_option maxHeartbeats 2000000 in
/-- ref24.Pages -/
theorem rpages_calls {Q : Nat → Prop} {w : World} {v : Value} {l : List DFlow} (hx : rFlow.list.val Q w v l) (hd : ∀ f ∈ l, f.data.length ≤ 1000000) (hl : l.length ≤ 1000000) :
    Calls Try.prog 10 #[v] w (Res (Rep.int .i64).list (fun b => w.heap.size ≤ b) w (pagesOf l)) := by
  obtain ⟨A, c, rfl, hc1, hc2, hA⟩ := Rep.val_list hx
  unfold maxLen at hc2
  have HA := Lib.hid hA
  have HD := Lib.hid hd
  have HLL := Lib.hid hl
  have HPL := Lib.hid (fun k => pagesOf_len (l := l.take k) fun f hf => hd f (List.mem_of_mem_take hf))
  clear hx hA hd hl
  go_enter Try.func10, Try.ntmps10
  go_wp2_with fail
  go_loopw [3, 4] (fun s i wr => ∃ k : Nat, i = .int .i64 k ∧ k ≤ l.length ∧ (Rep.int .i64).acc 3 w.heap.size (fun _ => False) wr s (pagesOf (l.take k)) ∧ Below w.heap.size w wr) (fun _ i _ => l.length - (intOf i).toNat)
  case atStart => exact ⟨0, rfl, Nat.zero_le _, by rw [List.take_zero]; exact Rep.acc_nil, Below.refl _ _⟩
  case round =>
    obtain ⟨k, rfl, hk, hv, hbel⟩ := hrel
    have HV := Lib.hid hv
    have HBW := Lib.hid hbel
    by_cases hlt : (k : Int) < l.length
    · obtain ⟨f, hf⟩ : ∃ f, l[k]? = some f := ⟨_, List.getElem?_eq_getElem (by omega)⟩
      obtain ⟨b, off, A1, c1, A2, c2, hA, hbc, _⟩ := rFlow_at (HA.out.below hbel (fun _ _ h => h.lt)) hf
      subst hA
      have HX := Lib.hid hf
      have HS := Lib.hid (pagesOf_succ hf)
      have HPC := Lib.hid (pageCount_piece f)
      have HP3 := Lib.hid (pieceCount_le (HD.out f (List.mem_of_getElem? hf)))
      have HQL := Lib.hid (show (pagesOf (l.take k)).length ≤ 3000000000 from Nat.le_trans (HPL.out k) (by rw [List.length_take]; have := HLL.out; omega))
      generalize pagesOf (l.take k) = q at *
      clear hv hbel hf hbc
      go_wp2_with fail
      rename World => wo
      go_loopw [3, 5] (fun s i wr => ∃ j : Nat, i = .int .i64 j ∧ j ≤ pieceCount f ∧ (Rep.int .i64).acc 3 w.heap.size (fun _ => False) wr s (q ++ keptTo f j) ∧ Below w.heap.size w wr) (fun _ i _ => pieceCount f - (intOf i).toNat)
      case atStart => exact ⟨0, rfl, Nat.zero_le _, by simpa [keptTo] using HV.out, HBW.out⟩
      case round =>
        obtain ⟨j, rfl, hj, hv, hbel⟩ := hrel
        have HB2 := Lib.hid hbel
        have HT := Lib.hid (keptTo_succ f j)
        have HL2 := Lib.hid (show (q ++ keptTo f j).length ≤ 4000000000 by rw [List.length_append]; have := HQL.out; have := keptTo_len f j; have := HP3.out; omega)
        obtain ⟨q2, hq2⟩ : ∃ q2, q ++ keptTo f j = q2 := ⟨_, rfl⟩
        have HQ2 := Lib.hid hq2
        rw [hq2] at hv HL2
        obtain ⟨A6, c6, rfl, _, _⟩ := Rep.acc_form hv
        have HV2 := Lib.hid hv
        obtain ⟨b', off', A3, c3, A4, c4, hA, _, d0, d1, d2, d3, d4, f0, f1, f2, s3, s4⟩ := rFlow_at (HA.out.below hbel (fun _ _ h => h.lt)) HX.out
        cases hA
        have hn1 := s3.1
        have hn2 := s3.2.1
        unfold maxLen at hn2
        have HPW := Lib.hid (pageAt_wf s4.2.2 j)
        have HFV := Lib.hid (rFlow_agg (x := f) f0 f1 f2 s3 s4)
        clear hv hbel hq2 f0 f1 f2 s3 s4
        go_wp2_with fail
        refine (rcount_calls _ _ (by omega) (by omega)).mono ?_
        rintro e w1 ⟨rfl, hw⟩
        subst hw
        rw [HPC.out]
        have hp3 := HP3.out
        by_cases hjp : (j : Int) < (pieceCount f : Nat)
        · go_wp2_with fail
          refine (rpageAt_calls HFV.out).mono ?_
          rintro e w2 ⟨rfl, hb2⟩
          have HW2 := Lib.hid hb2
          have HB3 := Lib.hid (HB2.out.trans (hb2.mono HB2.out.size))
          have HV3 := Lib.hid (Rep.acc_later HV2.out hb2)
          obtain ⟨p, hpv⟩ : ∃ p, pageAt f j = p := ⟨_, rfl⟩
          have HPV := Lib.hid hpv
          rw [hpv] at HT HPW ⊢
          clear hpv hb2 d0 d1 d2 d3 d4
          by_cases hp : 0 ≤ p
          · have HT2 := Lib.hid (show q ++ keptTo f (j + 1) = q2 ++ [p] by rw [HT.out, if_pos hp, ← List.append_assoc, HQ2.out])
            have L := Lib.hid (show q2.length + 1 ≤ maxLen ∧ (q2.length + 1) * 8 ≤ 140737488355328 by unfold maxLen; have := HL2.out; omega)
            obtain ⟨b', off', A3, c3, A4, c4, hA, _, d0, d1, d2, d3, d4, f0, f1, f2, s3, s4⟩ := rFlow_at (HA.out.below HB3.out (fun _ _ h => h.lt)) HX.out
            cases hA
            have HFV2 := Lib.hid (rFlow_agg (x := f) f0 f1 f2 s3 s4)
            clear f0 f1 f2 s3 s4
            go_wp2_with fail
            refine (rpageAt_calls HFV2.out).mono ?_
            rintro e w4 ⟨rfl, hb4⟩
            have HB4 := Lib.hid (HB3.out.trans (hb4.mono HB3.out.size))
            have HV4 := Lib.hid (Rep.acc_later HV3.out hb4)
            rw [HPV.out]
            clear hb4 d0 d1 d2 d3 d4
            go_wp2_with (refine wpList_snoc (e := 3) (base := w.heap.size) (Q := fun _ => False) (r := Rep.int .i64) rfl rfl _ _ 27 _ rfl rfl rfl (.int .i64 0) 1 8 Try.underlying27 info3 rfl (by decide) rfl _ q2 HV4.out p _ (by exact rfl) ⟨_, rfl, rfl, HPW.out⟩ (by exact rfl) (by exact rfl) L.out.1 L.out.2 HB4.out.size ?_; intro v7 w7 hacc7 hgr7 hat7)
            exact ⟨⟨j + 1, by go_num, by omega, by rw [HT2.out]; exact hacc7, Rep.acc_below HV4.out HB4.out hgr7 HB4.out.size⟩, by simp [intOf]; omega⟩
          · have HT2 := Lib.hid (show q ++ keptTo f (j + 1) = q2 by rw [HT.out, if_neg hp, List.append_nil, HQ2.out])
            go_wp2_with fail
            exact ⟨⟨j + 1, by go_num, by omega, by rw [HT2.out]; exact HV3.out, HB3.out⟩, by simp [intOf]; omega⟩
        · obtain rfl : j = pieceCount f := by omega
          go_wp2_with fail
          exact ⟨⟨k + 1, by go_num, by omega, by rw [HS.out, show kept f = keptTo f (pieceCount f) from rfl, HQ2.out]; exact HV2.out, HB2.out⟩, by simp [intOf]; omega⟩
    · obtain rfl : k = l.length := by omega
      rw [List.take_length] at hv
      have HVE := Lib.hid hv
      clear hv hbel
      go_wp2_with fail
      go_ret
      exact ⟨_, rfl, Rep.acc_fresh HVE.out, HBW.out⟩
end Go.Proofs.Yteljibjbndpncaa
