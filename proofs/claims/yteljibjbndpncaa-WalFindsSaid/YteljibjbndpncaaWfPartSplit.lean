/- Walk of part.Split. -/
import Derived.Test.YteljibjbndpncaaWfSeal
import Derived.Test.YteljibjbndpncaaWfWalLoad
namespace Go.Proofs.Yteljibjbndpncaa
open Go.RowKit

def partOf (seq : Int) (b : List UInt8) (i : Nat) : List UInt8 := num 2 (i : Int) ++ (num 2 (needOf b.length) ++ (num 8 (near seq maxEpoch) ++ (b.drop (460 * i)).take 460))
def splitOf (seq : Int) (b : List UInt8) : List (List UInt8) := if 1024 < needOf b.length then [] else (List.range (needOf b.length).toNat).map (partOf seq b)
theorem need_bounds {n : Nat} : 1 ≤ needOf n ∧ 460 * (needOf n - 1) ≤ n ∧ (n : Int) ≤ 460 * needOf n ∧ (needOf n = 1 ∨ 460 * (needOf n - 1) < n) := by unfold needOf; split <;> omega
theorem range_snoc {α : Type} (f : Nat → α) (k : Nat) : (List.range (k + 1)).map f = (List.range k).map f ++ [f k] := by simp [List.range_succ]

set_option maxRecDepth 100000 in
set_option maxHeartbeats 4000000 in
/-- part.Split -/
theorem split_calls {Q : Nat → Prop} {w : World} {v : Value} {b : List UInt8} {seq : Int} (hx : Rep.byte.list.val Q w v b) (_hs : (Lit.int .i64 seq).wf = true) (hl : b.length ≤ 10000000) :
    Calls Try.prog 65 #[.int .i64 seq, v] w (Res Rep.byte.list.list (fun b => w.heap.size ≤ b) w (splitOf seq b)) := by
  obtain ⟨A0, c0, rfl, hc1, hc2, hA⟩ := Rep.val_list hx
  unfold maxLen at hc2
  have HX := Lib.hid (Rep.val_any hx)
  have HA := Lib.hid (show Rep.byte.At (fun b => b < w.heap.size) w A0 b from Rep.At.keep (w := w) (fun _ _ hb => ⟨hb.lt, rfl⟩) hA)
  have HZ := Lib.hid (show ∀ w' : World, Rep.byte.list.list.val (fun x => w.heap.size ≤ x) w' (.slice none 0 0) ([] : List (List UInt8)) from fun w => Rep.val_nil (by simp [maxLen]))
  have HZ1 := Lib.hid (show ∀ w' : World, Rep.byte.list.val (fun _ => False) w' (.slice none 0 0) ([] : List UInt8) from fun w => Rep.val_nil (by simp [maxLen]))
  have hn := need_bounds (n := b.length)
  obtain ⟨n, hN⟩ : ∃ n : Nat, needOf b.length = n := ⟨(needOf b.length).toNat, by omega⟩
  have HN := Lib.hid hN
  rw [hN] at hn
  have HNB := Lib.hid hn
  have HWF := Lib.hid (show ∀ k : Int, 0 ≤ k → k ≤ 281474976710656 → (Lit.int .i64 k).wf = true from fun k h0 h1 => wf_i64 (by omega) (by omega))
  have hn1 : (n : Int) ≤ 1000000 := by omega
  clear hx hA hN hn
  rcases (show seq ≤ 0 ∨ (0 < seq ∧ seq ≤ 281474976710656) ∨ 281474976710656 < seq by omega) with h | ⟨h, h'⟩ | h
  · have t1 : ¬ 281474976710656 < seq := by omega
    have t2 : ¬ 0 < seq := by omega
    have HSQ := Lib.hid (show near seq maxEpoch = (0 : Int) by unfold near maxEpoch; (repeat' split) <;> omega)
    have HX8 := Lib.hid (show (Lit.int .i64 (0 : Int)).wf = true by first | decide | exact wf_i64 (by omega) (by omega))
    by_cases hbig : (1024 : Int) < n
    · have HF := Lib.hid (show splitOf seq b = [] by unfold splitOf; rw [HN.out, if_pos hbig])
      go_enter Try.func65, Try.ntmps65
      go_wp2_with fail
      refine (need_calls (by omega) _).mono ?_
      rintro e w1 ⟨rfl, hw⟩
      have hw2 := hw.symm
      subst hw2
      clear hw
      rw [HN.out]
      go_wp2_with fail
      go_ret
      exact ⟨_, rfl, by rw [HF.out]; exact HZ.out _, Below.refl _ _⟩
    · have HF := Lib.hid (show splitOf seq b = (List.range n).map (partOf seq b) by unfold splitOf; rw [HN.out, if_neg hbig, Int.toNat_natCast])
      go_enter Try.func65, Try.ntmps65
      go_wp2_with fail
      refine (need_calls (by omega) _).mono ?_
      rintro e w1 ⟨rfl, hw⟩
      have hw2 := hw.symm
      subst hw2
      clear hw
      rw [HN.out]
      go_wp2_with fail
      go_loopw [6, 19] (fun u i wr => ∃ k : Nat, i = .int .i64 k ∧ k ≤ n ∧ Rep.byte.list.acc 33 w.heap.size (fun b => w.heap.size ≤ b) wr u ((List.range k).map (partOf seq b)) ∧ Below w.heap.size w wr) (fun _ i _ => n - (intOf i).toNat)
      case atStart => exact ⟨0, rfl, Nat.zero_le _, Rep.acc_nil, Below.refl _ _⟩
      case round =>
        obtain ⟨k, rfl, hk, hacc, hbel⟩ := hrel
        have HACC := Lib.hid hacc
        have HB := Lib.hid hbel
        by_cases hlt : (k : Int) < n
        · have i1 : IntKind.i64.wrap ((k : Int) + 1) = (k : Int) + 1 := IntWalk.i64_in _ ⟨by omega, by omega⟩
          have i2 : IntKind.i64.wrap (((k : Int) + 1) * 460) = ((k : Int) + 1) * 460 := IntWalk.i64_in _ ⟨by omega, by omega⟩
          have i3 : IntKind.i64.wrap ((k : Int) * 460) = (k : Int) * 460 := IntWalk.i64_in _ ⟨by omega, by omega⟩
          have hle : 460 * k ≤ b.length := by have := HNB.out; omega
          have HLE := Lib.hid hle
          obtain ⟨m, hm⟩ : ∃ m, m = min (460 * (k + 1)) b.length := ⟨_, rfl⟩
          have HM := Lib.hid hm
          have HMM := Lib.hid (show 460 * k ≤ m ∧ m ≤ b.length by omega)
          obtain ⟨q1, hq1⟩ : ∃ q : List UInt8, q = num 2 (k : Int) := ⟨_, rfl⟩
          obtain ⟨q2, hq2⟩ : ∃ q : List UInt8, q = q1 ++ num 2 (n : Int) := ⟨_, rfl⟩
          obtain ⟨q3, hq3⟩ : ∃ q : List UInt8, q = q2 ++ num 8 (0 : Int) := ⟨_, rfl⟩
          have E1 := Lib.hid (show q1 = ([] : List UInt8) ++ num 2 (k : Int) from hq1)
          have E2 := Lib.hid hq2
          have E3 := Lib.hid hq3
          have L1 := Lib.hid (show q1.length = 2 by rw [hq1, num_len2])
          have L2 := Lib.hid (show q2.length = 4 by rw [hq2, List.length_append, num_len2, L1.out])
          have L3 := Lib.hid (show q3.length = 12 by rw [hq3, List.length_append, num_len8, L2.out])
          obtain ⟨y, hy⟩ : ∃ y, y = (b.drop (460 * k)).take 460 := ⟨_, rfl⟩
          have HYL := Lib.hid (show y.length = m - 460 * k by rw [hy, List.length_take, List.length_drop]; omega)
          have HP := Lib.hid (show q3 ++ y = partOf seq b k by unfold partOf; rw [HN.out, HSQ.out, hq3, hq2, hq1, hy]; simp)
          have HYV := Lib.hid (show ∀ W' c1, Below w.heap.size w W' → 0 < y.length → ∃ bb off, A0 = some ⟨bb, off, none⟩ ∧ (y.length ≤ c1 → c1 ≤ maxLen → Rep.byte.list.val (fun _ => True) W' (.slice (some ⟨bb, off + 460 * k, none⟩) y.length c1) y) from fun W' c1 hb hp => by
            have hpos : 0 < b.length := by have := HYL.out; omega
            obtain ⟨bb, off, rfl⟩ := HA.out.addr hpos
            refine ⟨bb, off, rfl, fun h1 h2 => ?_⟩
            have h3 := HA.out.below hb (fun _ h _ => h)
            have h4 := (h3.drop (n := 460 * k) hle).take 460
            simp only [Rep.byte, Nat.mul_one] at h4
            rw [← hy] at h4
            exact Rep.list_val rfl h1 h2 (h4.keep (w := W') fun _ _ _ => ⟨trivial, rfl⟩))
          clear hacc hbel hq1 hq2 hq3 hy
          go_wp2_with fail
          refine (put_calls (width := 2) (n := (k : Int)) (HZ1.out wr) (by simp) rfl (HWF.out _ (by omega) (by omega))).mono ?_
          rintro e w1 ⟨u1, rfl, hu1, hb1⟩
          rw [← E1.out] at hu1
          have HU1 := Lib.hid hu1
          have D1 := Lib.hid hb1
          clear hu1 hb1
          go_wp2_with fail
          refine (put_calls (width := 2) (n := (n : Int)) (Rep.acc_val HU1.out) (by rw [L1.out]; decide) rfl (HWF.out _ (by omega) (by omega))).mono ?_
          rintro e w2 ⟨u2, rfl, hu2, hb2⟩
          rw [← E2.out] at hu2
          have HU2 := Lib.hid hu2
          have D2 := Lib.hid (D1.out.trans (hb2.mono D1.out.size))
          clear hu2 hb2
          go_wp2_with fail
          refine (put_calls (width := 8) (n := (0 : Int)) (Rep.acc_val HU2.out) (by rw [L2.out]; decide) rfl HX8.out).mono ?_
          rintro e w3 ⟨u3, rfl, hu3, hb3⟩
          rw [← E3.out] at hu3
          have HU3 := Lib.hid hu3
          have HB3 := Lib.hid hb3
          have D3 := Lib.hid (D2.out.trans (hb3.mono D2.out.size))
          obtain ⟨A9, c9, hu9, hc9, hm9⟩ := Rep.acc_form hu3
          rw [L3.out] at hu9 hc9
          subst hu9
          clear hu3 hb3
          have BW3 := Lib.hid (HB.out.trans (D3.out.mono HB.out.size))
          have HACC3 := Lib.hid (Rep.acc_later HACC.out D3.out)
          by_cases hp : 0 < y.length
          · obtain ⟨bb, off, rfl, hyv⟩ := HYV.out w3 y.length BW3.out hp
            have HY0 := Lib.hid (hyv (Nat.le_refl _) (by have := HYL.out; unfold maxLen; omega))
            have j1 : (k : Int) * 460 ≤ b.length := by omega
            have j2 : (0 : Int) ≤ (k : Int) * 460 := by omega
            have j3 : ((k : Int) * 460).toNat = 460 * k := by omega
            have j5 : (b.length : Int) ≤ c0 := by omega
            clear hyv
            by_cases hmin : (b.length : Int) < ((k : Int) + 1) * 460
            · have j4 : b.length - 460 * k = y.length := by have := HYL.out; have := HM.out; omega
              clear hm
              have L63 := Lib.hid (show q3.length + y.length ≤ maxLen ∧ (q3.length + y.length) * 1 ≤ 140737488355328 by have := L3.out; have := HYL.out; unfold maxLen; omega)
              have M63 := Lib.hid (show ((List.range k).map (partOf seq b)).length + 1 ≤ maxLen ∧ (((List.range k).map (partOf seq b)).length + 1) * 24 ≤ 140737488355328 by rw [List.length_map, List.length_range]; unfold maxLen; omega)
              generalize hls : (List.range k).map (partOf seq b) = ls at *
              have HLS := Lib.hid hls
              generalize hpp : partOf seq b k = p at *
              have HPP := Lib.hid hpp
              have hown : ∀ x, u6.ownBlock = some x → x < wr.heap.size := fun x hx => (Rep.acc_own HACC.out x hx).2
              have HOWN := Lib.hid hown
              have S23 := Lib.hid (show wr.heap.size ≤ w2.heap.size from D2.out.size)
              have S03 := Lib.hid (show w.heap.size ≤ wr.heap.size from HB.out.size)
              clear hls hpp hown
              go_wp2_with (first
                | (refine wpList_spread_leaf (e := 5) (base := w2.heap.size) (Q := fun _ => False) (r := Rep.byte) Rep.leaf_byte rfl _ _ 33 rfl (.int .u8 0) 1 1 Try.underlying33 info5 rfl (by decide) rfl _ q3 (by exact rfl) HU3.out _ y (by exact rfl) HY0.out L63.out.1 L63.out.2 HB3.out.size ?_; intro v5 w5 hacc5 hgr5 hat5; rw [HP.out] at hacc5; have HU5 := Lib.hid hacc5; have D5 := Lib.hid (D3.out.grown hgr5 D3.out.size (fun x hx => Nat.le_trans S23.out (Rep.acc_own HU3.out x hx).1)); clear hacc5 hgr5 hat5; have HACC5 := Lib.hid (Rep.acc_later HACC.out D5.out); have HV5 := Lib.hid (show Rep.byte.list.val (fun x => w.heap.size ≤ x ∧ u6.ownBlock ≠ some x) w5 v5 p from Rep.val_mono (fun x hx _ => ⟨Nat.le_trans S03.out (Nat.le_trans S23.out hx), fun he => absurd (HOWN.out x he) (by have := S23.out; omega)⟩) (Rep.acc_fresh HU5.out)); obtain ⟨A5, c5, hv5, _, _⟩ := Rep.acc_form HU5.out; subst hv5; have SZ5 := Lib.hid (Nat.le_trans S03.out D5.out.size))
                | (refine wpList_snoc (e := 33) (base := w.heap.size) (Q := fun x => w.heap.size ≤ x) (r := Rep.byte.list) rfl rfl _ _ 39 _ rfl rfl rfl (.slice none 0 0) 1 24 Try.underlying39 info22 rfl (by decide) rfl _ ls HACC5.out p _ (by exact rfl) HV5.out (by exact rfl) (by exact rfl) M63.out.1 M63.out.2 SZ5.out ?_; intro s6 w6 hacc6 hgr6 hat6))
              have HB5 := HB.out.trans (D5.out.mono HB.out.size)
              refine ⟨⟨k + 1, by go_num, by omega, ?_, HB5.grown hgr6 HB5.size (fun x hx => (Rep.acc_own HACC.out x hx).1)⟩, by show n - ((k : Int) + 1).toNat < n - (k : Int).toNat; omega⟩
              rw [range_snoc, HLS.out, HPP.out]
              exact hacc6
            · have j4 : (((k : Int) + 1) * 460).toNat - 460 * k = y.length := by have := HYL.out; have := HM.out; omega
              have j6 : ((k : Int) + 1) * 460 ≤ c0 := by omega
              have j7 : (k : Int) * 460 ≤ ((k : Int) + 1) * 460 := by omega
              have j8 : (0 : Int) ≤ ((k : Int) + 1) * 460 := by omega
              clear hm
              have L63 := Lib.hid (show q3.length + y.length ≤ maxLen ∧ (q3.length + y.length) * 1 ≤ 140737488355328 by have := L3.out; have := HYL.out; unfold maxLen; omega)
              have M63 := Lib.hid (show ((List.range k).map (partOf seq b)).length + 1 ≤ maxLen ∧ (((List.range k).map (partOf seq b)).length + 1) * 24 ≤ 140737488355328 by rw [List.length_map, List.length_range]; unfold maxLen; omega)
              generalize hls : (List.range k).map (partOf seq b) = ls at *
              have HLS := Lib.hid hls
              generalize hpp : partOf seq b k = p at *
              have HPP := Lib.hid hpp
              have hown : ∀ x, u6.ownBlock = some x → x < wr.heap.size := fun x hx => (Rep.acc_own HACC.out x hx).2
              have HOWN := Lib.hid hown
              have S23 := Lib.hid (show wr.heap.size ≤ w2.heap.size from D2.out.size)
              have S03 := Lib.hid (show w.heap.size ≤ wr.heap.size from HB.out.size)
              clear hls hpp hown
              go_wp2_with (first
                | (refine wpList_spread_leaf (e := 5) (base := w2.heap.size) (Q := fun _ => False) (r := Rep.byte) Rep.leaf_byte rfl _ _ 33 rfl (.int .u8 0) 1 1 Try.underlying33 info5 rfl (by decide) rfl _ q3 (by exact rfl) HU3.out _ y (by exact rfl) HY0.out L63.out.1 L63.out.2 HB3.out.size ?_; intro v5 w5 hacc5 hgr5 hat5; rw [HP.out] at hacc5; have HU5 := Lib.hid hacc5; have D5 := Lib.hid (D3.out.grown hgr5 D3.out.size (fun x hx => Nat.le_trans S23.out (Rep.acc_own HU3.out x hx).1)); clear hacc5 hgr5 hat5; have HACC5 := Lib.hid (Rep.acc_later HACC.out D5.out); have HV5 := Lib.hid (show Rep.byte.list.val (fun x => w.heap.size ≤ x ∧ u6.ownBlock ≠ some x) w5 v5 p from Rep.val_mono (fun x hx _ => ⟨Nat.le_trans S03.out (Nat.le_trans S23.out hx), fun he => absurd (HOWN.out x he) (by have := S23.out; omega)⟩) (Rep.acc_fresh HU5.out)); obtain ⟨A5, c5, hv5, _, _⟩ := Rep.acc_form HU5.out; subst hv5; have SZ5 := Lib.hid (Nat.le_trans S03.out D5.out.size))
                | (refine wpList_snoc (e := 33) (base := w.heap.size) (Q := fun x => w.heap.size ≤ x) (r := Rep.byte.list) rfl rfl _ _ 39 _ rfl rfl rfl (.slice none 0 0) 1 24 Try.underlying39 info22 rfl (by decide) rfl _ ls HACC5.out p _ (by exact rfl) HV5.out (by exact rfl) (by exact rfl) M63.out.1 M63.out.2 SZ5.out ?_; intro s6 w6 hacc6 hgr6 hat6))
              have HB5 := HB.out.trans (D5.out.mono HB.out.size)
              refine ⟨⟨k + 1, by go_num, by omega, ?_, HB5.grown hgr6 HB5.size (fun x hx => (Rep.acc_own HACC.out x hx).1)⟩, by show n - ((k : Int) + 1).toNat < n - (k : Int).toNat; omega⟩
              rw [range_snoc, HLS.out, HPP.out]
              exact hacc6
          · have hy0 : y.length = 0 := by omega
            have hk0 : k = 0 := by have := HYL.out; have := HM.out; have := HNB.out; omega
            have hb0 : b.length = 0 := by have := HYL.out; have := HM.out; omega
            have HYN := Lib.hid (show ∀ A' W', Rep.byte.list.val (fun _ => True) W' (.slice A' y.length y.length) y from fun A' W' => Rep.list_val rfl (Nat.le_refl _) (by rw [hy0]; simp [maxLen]) ⟨y.map fun x => .int .u8 (x.toNat : Int), Rep.byte_row y, fun h => absurd h (by omega)⟩)
            have j1 : (k : Int) * 460 ≤ b.length := by omega
            have j2 : (0 : Int) ≤ (k : Int) * 460 := by omega
            have j3 : ((k : Int) * 460).toNat = 460 * k := by omega
            have j5 : (b.length : Int) ≤ c0 := by omega
            have j4 : b.length - 460 * k = y.length := by have := HYL.out; omega
            have hmin : (b.length : Int) < ((k : Int) + 1) * 460 := by omega
            clear hm hp hy0 hb0 hk0
            rcases A0 with _ | ⟨bb, off, pth⟩
            · skip
              have L63 := Lib.hid (show q3.length + y.length ≤ maxLen ∧ (q3.length + y.length) * 1 ≤ 140737488355328 by have := L3.out; have := HYL.out; unfold maxLen; omega)
              have M63 := Lib.hid (show ((List.range k).map (partOf seq b)).length + 1 ≤ maxLen ∧ (((List.range k).map (partOf seq b)).length + 1) * 24 ≤ 140737488355328 by rw [List.length_map, List.length_range]; unfold maxLen; omega)
              generalize hls : (List.range k).map (partOf seq b) = ls at *
              have HLS := Lib.hid hls
              generalize hpp : partOf seq b k = p at *
              have HPP := Lib.hid hpp
              have hown : ∀ x, u6.ownBlock = some x → x < wr.heap.size := fun x hx => (Rep.acc_own HACC.out x hx).2
              have HOWN := Lib.hid hown
              have S23 := Lib.hid (show wr.heap.size ≤ w2.heap.size from D2.out.size)
              have S03 := Lib.hid (show w.heap.size ≤ wr.heap.size from HB.out.size)
              clear hls hpp hown
              go_wp2_with (first
                | (refine wpList_spread_leaf (e := 5) (base := w2.heap.size) (Q := fun _ => False) (r := Rep.byte) Rep.leaf_byte rfl _ _ 33 rfl (.int .u8 0) 1 1 Try.underlying33 info5 rfl (by decide) rfl _ q3 (by exact rfl) HU3.out _ y (by exact rfl) (HYN.out _ _) L63.out.1 L63.out.2 HB3.out.size ?_; intro v5 w5 hacc5 hgr5 hat5; rw [HP.out] at hacc5; have HU5 := Lib.hid hacc5; have D5 := Lib.hid (D3.out.grown hgr5 D3.out.size (fun x hx => Nat.le_trans S23.out (Rep.acc_own HU3.out x hx).1)); clear hacc5 hgr5 hat5; have HACC5 := Lib.hid (Rep.acc_later HACC.out D5.out); have HV5 := Lib.hid (show Rep.byte.list.val (fun x => w.heap.size ≤ x ∧ u6.ownBlock ≠ some x) w5 v5 p from Rep.val_mono (fun x hx _ => ⟨Nat.le_trans S03.out (Nat.le_trans S23.out hx), fun he => absurd (HOWN.out x he) (by have := S23.out; omega)⟩) (Rep.acc_fresh HU5.out)); obtain ⟨A5, c5, hv5, _, _⟩ := Rep.acc_form HU5.out; subst hv5; have SZ5 := Lib.hid (Nat.le_trans S03.out D5.out.size))
                | (refine wpList_snoc (e := 33) (base := w.heap.size) (Q := fun x => w.heap.size ≤ x) (r := Rep.byte.list) rfl rfl _ _ 39 _ rfl rfl rfl (.slice none 0 0) 1 24 Try.underlying39 info22 rfl (by decide) rfl _ ls HACC5.out p _ (by exact rfl) HV5.out (by exact rfl) (by exact rfl) M63.out.1 M63.out.2 SZ5.out ?_; intro s6 w6 hacc6 hgr6 hat6))
              have HB5 := HB.out.trans (D5.out.mono HB.out.size)
              refine ⟨⟨k + 1, by go_num, by omega, ?_, HB5.grown hgr6 HB5.size (fun x hx => (Rep.acc_own HACC.out x hx).1)⟩, by show n - ((k : Int) + 1).toNat < n - (k : Int).toNat; omega⟩
              rw [range_snoc, HLS.out, HPP.out]
              exact hacc6
            · skip
              have L63 := Lib.hid (show q3.length + y.length ≤ maxLen ∧ (q3.length + y.length) * 1 ≤ 140737488355328 by have := L3.out; have := HYL.out; unfold maxLen; omega)
              have M63 := Lib.hid (show ((List.range k).map (partOf seq b)).length + 1 ≤ maxLen ∧ (((List.range k).map (partOf seq b)).length + 1) * 24 ≤ 140737488355328 by rw [List.length_map, List.length_range]; unfold maxLen; omega)
              generalize hls : (List.range k).map (partOf seq b) = ls at *
              have HLS := Lib.hid hls
              generalize hpp : partOf seq b k = p at *
              have HPP := Lib.hid hpp
              have hown : ∀ x, u6.ownBlock = some x → x < wr.heap.size := fun x hx => (Rep.acc_own HACC.out x hx).2
              have HOWN := Lib.hid hown
              have S23 := Lib.hid (show wr.heap.size ≤ w2.heap.size from D2.out.size)
              have S03 := Lib.hid (show w.heap.size ≤ wr.heap.size from HB.out.size)
              clear hls hpp hown
              go_wp2_with (first
                | (refine wpList_spread_leaf (e := 5) (base := w2.heap.size) (Q := fun _ => False) (r := Rep.byte) Rep.leaf_byte rfl _ _ 33 rfl (.int .u8 0) 1 1 Try.underlying33 info5 rfl (by decide) rfl _ q3 (by exact rfl) HU3.out _ y (by exact rfl) (HYN.out _ _) L63.out.1 L63.out.2 HB3.out.size ?_; intro v5 w5 hacc5 hgr5 hat5; rw [HP.out] at hacc5; have HU5 := Lib.hid hacc5; have D5 := Lib.hid (D3.out.grown hgr5 D3.out.size (fun x hx => Nat.le_trans S23.out (Rep.acc_own HU3.out x hx).1)); clear hacc5 hgr5 hat5; have HACC5 := Lib.hid (Rep.acc_later HACC.out D5.out); have HV5 := Lib.hid (show Rep.byte.list.val (fun x => w.heap.size ≤ x ∧ u6.ownBlock ≠ some x) w5 v5 p from Rep.val_mono (fun x hx _ => ⟨Nat.le_trans S03.out (Nat.le_trans S23.out hx), fun he => absurd (HOWN.out x he) (by have := S23.out; omega)⟩) (Rep.acc_fresh HU5.out)); obtain ⟨A5, c5, hv5, _, _⟩ := Rep.acc_form HU5.out; subst hv5; have SZ5 := Lib.hid (Nat.le_trans S03.out D5.out.size))
                | (refine wpList_snoc (e := 33) (base := w.heap.size) (Q := fun x => w.heap.size ≤ x) (r := Rep.byte.list) rfl rfl _ _ 39 _ rfl rfl rfl (.slice none 0 0) 1 24 Try.underlying39 info22 rfl (by decide) rfl _ ls HACC5.out p _ (by exact rfl) HV5.out (by exact rfl) (by exact rfl) M63.out.1 M63.out.2 SZ5.out ?_; intro s6 w6 hacc6 hgr6 hat6))
              have HB5 := HB.out.trans (D5.out.mono HB.out.size)
              refine ⟨⟨k + 1, by go_num, by omega, ?_, HB5.grown hgr6 HB5.size (fun x hx => (Rep.acc_own HACC.out x hx).1)⟩, by show n - ((k : Int) + 1).toNat < n - (k : Int).toNat; omega⟩
              rw [range_snoc, HLS.out, HPP.out]
              exact hacc6
        · have HKN := Lib.hid (show k = n by omega)
          go_wp2_with fail
          go_ret
          refine ⟨_, rfl, ?_, HB.out⟩
          rw [HF.out, ← HKN.out]
          exact Rep.val_mono (fun b hb _ => hb.elim id fun e => (Rep.acc_own HACC.out b e).1) (Rep.acc_val HACC.out)
  · have t1 : ¬ 281474976710656 < seq := by omega
    have HSQ := Lib.hid (show near seq maxEpoch = seq by unfold near maxEpoch; (repeat' split) <;> omega)
    have HX8 := Lib.hid (show (Lit.int .i64 seq).wf = true by first | decide | exact wf_i64 (by omega) (by omega))
    by_cases hbig : (1024 : Int) < n
    · have HF := Lib.hid (show splitOf seq b = [] by unfold splitOf; rw [HN.out, if_pos hbig])
      go_enter Try.func65, Try.ntmps65
      go_wp2_with fail
      refine (need_calls (by omega) _).mono ?_
      rintro e w1 ⟨rfl, hw⟩
      have hw2 := hw.symm
      subst hw2
      clear hw
      rw [HN.out]
      go_wp2_with fail
      go_ret
      exact ⟨_, rfl, by rw [HF.out]; exact HZ.out _, Below.refl _ _⟩
    · have HF := Lib.hid (show splitOf seq b = (List.range n).map (partOf seq b) by unfold splitOf; rw [HN.out, if_neg hbig, Int.toNat_natCast])
      go_enter Try.func65, Try.ntmps65
      go_wp2_with fail
      refine (need_calls (by omega) _).mono ?_
      rintro e w1 ⟨rfl, hw⟩
      have hw2 := hw.symm
      subst hw2
      clear hw
      rw [HN.out]
      go_wp2_with fail
      go_loopw [6, 19] (fun u i wr => ∃ k : Nat, i = .int .i64 k ∧ k ≤ n ∧ Rep.byte.list.acc 33 w.heap.size (fun b => w.heap.size ≤ b) wr u ((List.range k).map (partOf seq b)) ∧ Below w.heap.size w wr) (fun _ i _ => n - (intOf i).toNat)
      case atStart => exact ⟨0, rfl, Nat.zero_le _, Rep.acc_nil, Below.refl _ _⟩
      case round =>
        obtain ⟨k, rfl, hk, hacc, hbel⟩ := hrel
        have HACC := Lib.hid hacc
        have HB := Lib.hid hbel
        by_cases hlt : (k : Int) < n
        · have i1 : IntKind.i64.wrap ((k : Int) + 1) = (k : Int) + 1 := IntWalk.i64_in _ ⟨by omega, by omega⟩
          have i2 : IntKind.i64.wrap (((k : Int) + 1) * 460) = ((k : Int) + 1) * 460 := IntWalk.i64_in _ ⟨by omega, by omega⟩
          have i3 : IntKind.i64.wrap ((k : Int) * 460) = (k : Int) * 460 := IntWalk.i64_in _ ⟨by omega, by omega⟩
          have hle : 460 * k ≤ b.length := by have := HNB.out; omega
          have HLE := Lib.hid hle
          obtain ⟨m, hm⟩ : ∃ m, m = min (460 * (k + 1)) b.length := ⟨_, rfl⟩
          have HM := Lib.hid hm
          have HMM := Lib.hid (show 460 * k ≤ m ∧ m ≤ b.length by omega)
          obtain ⟨q1, hq1⟩ : ∃ q : List UInt8, q = num 2 (k : Int) := ⟨_, rfl⟩
          obtain ⟨q2, hq2⟩ : ∃ q : List UInt8, q = q1 ++ num 2 (n : Int) := ⟨_, rfl⟩
          obtain ⟨q3, hq3⟩ : ∃ q : List UInt8, q = q2 ++ num 8 seq := ⟨_, rfl⟩
          have E1 := Lib.hid (show q1 = ([] : List UInt8) ++ num 2 (k : Int) from hq1)
          have E2 := Lib.hid hq2
          have E3 := Lib.hid hq3
          have L1 := Lib.hid (show q1.length = 2 by rw [hq1, num_len2])
          have L2 := Lib.hid (show q2.length = 4 by rw [hq2, List.length_append, num_len2, L1.out])
          have L3 := Lib.hid (show q3.length = 12 by rw [hq3, List.length_append, num_len8, L2.out])
          obtain ⟨y, hy⟩ : ∃ y, y = (b.drop (460 * k)).take 460 := ⟨_, rfl⟩
          have HYL := Lib.hid (show y.length = m - 460 * k by rw [hy, List.length_take, List.length_drop]; omega)
          have HP := Lib.hid (show q3 ++ y = partOf seq b k by unfold partOf; rw [HN.out, HSQ.out, hq3, hq2, hq1, hy]; simp)
          have HYV := Lib.hid (show ∀ W' c1, Below w.heap.size w W' → 0 < y.length → ∃ bb off, A0 = some ⟨bb, off, none⟩ ∧ (y.length ≤ c1 → c1 ≤ maxLen → Rep.byte.list.val (fun _ => True) W' (.slice (some ⟨bb, off + 460 * k, none⟩) y.length c1) y) from fun W' c1 hb hp => by
            have hpos : 0 < b.length := by have := HYL.out; omega
            obtain ⟨bb, off, rfl⟩ := HA.out.addr hpos
            refine ⟨bb, off, rfl, fun h1 h2 => ?_⟩
            have h3 := HA.out.below hb (fun _ h _ => h)
            have h4 := (h3.drop (n := 460 * k) hle).take 460
            simp only [Rep.byte, Nat.mul_one] at h4
            rw [← hy] at h4
            exact Rep.list_val rfl h1 h2 (h4.keep (w := W') fun _ _ _ => ⟨trivial, rfl⟩))
          clear hacc hbel hq1 hq2 hq3 hy
          go_wp2_with fail
          refine (put_calls (width := 2) (n := (k : Int)) (HZ1.out wr) (by simp) rfl (HWF.out _ (by omega) (by omega))).mono ?_
          rintro e w1 ⟨u1, rfl, hu1, hb1⟩
          rw [← E1.out] at hu1
          have HU1 := Lib.hid hu1
          have D1 := Lib.hid hb1
          clear hu1 hb1
          go_wp2_with fail
          refine (put_calls (width := 2) (n := (n : Int)) (Rep.acc_val HU1.out) (by rw [L1.out]; decide) rfl (HWF.out _ (by omega) (by omega))).mono ?_
          rintro e w2 ⟨u2, rfl, hu2, hb2⟩
          rw [← E2.out] at hu2
          have HU2 := Lib.hid hu2
          have D2 := Lib.hid (D1.out.trans (hb2.mono D1.out.size))
          clear hu2 hb2
          go_wp2_with fail
          refine (put_calls (width := 8) (n := seq) (Rep.acc_val HU2.out) (by rw [L2.out]; decide) rfl HX8.out).mono ?_
          rintro e w3 ⟨u3, rfl, hu3, hb3⟩
          rw [← E3.out] at hu3
          have HU3 := Lib.hid hu3
          have HB3 := Lib.hid hb3
          have D3 := Lib.hid (D2.out.trans (hb3.mono D2.out.size))
          obtain ⟨A9, c9, hu9, hc9, hm9⟩ := Rep.acc_form hu3
          rw [L3.out] at hu9 hc9
          subst hu9
          clear hu3 hb3
          have BW3 := Lib.hid (HB.out.trans (D3.out.mono HB.out.size))
          have HACC3 := Lib.hid (Rep.acc_later HACC.out D3.out)
          by_cases hp : 0 < y.length
          · obtain ⟨bb, off, rfl, hyv⟩ := HYV.out w3 y.length BW3.out hp
            have HY0 := Lib.hid (hyv (Nat.le_refl _) (by have := HYL.out; unfold maxLen; omega))
            have j1 : (k : Int) * 460 ≤ b.length := by omega
            have j2 : (0 : Int) ≤ (k : Int) * 460 := by omega
            have j3 : ((k : Int) * 460).toNat = 460 * k := by omega
            have j5 : (b.length : Int) ≤ c0 := by omega
            clear hyv
            by_cases hmin : (b.length : Int) < ((k : Int) + 1) * 460
            · have j4 : b.length - 460 * k = y.length := by have := HYL.out; have := HM.out; omega
              clear hm
              have L63 := Lib.hid (show q3.length + y.length ≤ maxLen ∧ (q3.length + y.length) * 1 ≤ 140737488355328 by have := L3.out; have := HYL.out; unfold maxLen; omega)
              have M63 := Lib.hid (show ((List.range k).map (partOf seq b)).length + 1 ≤ maxLen ∧ (((List.range k).map (partOf seq b)).length + 1) * 24 ≤ 140737488355328 by rw [List.length_map, List.length_range]; unfold maxLen; omega)
              generalize hls : (List.range k).map (partOf seq b) = ls at *
              have HLS := Lib.hid hls
              generalize hpp : partOf seq b k = p at *
              have HPP := Lib.hid hpp
              have hown : ∀ x, u6.ownBlock = some x → x < wr.heap.size := fun x hx => (Rep.acc_own HACC.out x hx).2
              have HOWN := Lib.hid hown
              have S23 := Lib.hid (show wr.heap.size ≤ w2.heap.size from D2.out.size)
              have S03 := Lib.hid (show w.heap.size ≤ wr.heap.size from HB.out.size)
              clear hls hpp hown
              go_wp2_with (first
                | (refine wpList_spread_leaf (e := 5) (base := w2.heap.size) (Q := fun _ => False) (r := Rep.byte) Rep.leaf_byte rfl _ _ 33 rfl (.int .u8 0) 1 1 Try.underlying33 info5 rfl (by decide) rfl _ q3 (by exact rfl) HU3.out _ y (by exact rfl) HY0.out L63.out.1 L63.out.2 HB3.out.size ?_; intro v5 w5 hacc5 hgr5 hat5; rw [HP.out] at hacc5; have HU5 := Lib.hid hacc5; have D5 := Lib.hid (D3.out.grown hgr5 D3.out.size (fun x hx => Nat.le_trans S23.out (Rep.acc_own HU3.out x hx).1)); clear hacc5 hgr5 hat5; have HACC5 := Lib.hid (Rep.acc_later HACC.out D5.out); have HV5 := Lib.hid (show Rep.byte.list.val (fun x => w.heap.size ≤ x ∧ u6.ownBlock ≠ some x) w5 v5 p from Rep.val_mono (fun x hx _ => ⟨Nat.le_trans S03.out (Nat.le_trans S23.out hx), fun he => absurd (HOWN.out x he) (by have := S23.out; omega)⟩) (Rep.acc_fresh HU5.out)); obtain ⟨A5, c5, hv5, _, _⟩ := Rep.acc_form HU5.out; subst hv5; have SZ5 := Lib.hid (Nat.le_trans S03.out D5.out.size))
                | (refine wpList_snoc (e := 33) (base := w.heap.size) (Q := fun x => w.heap.size ≤ x) (r := Rep.byte.list) rfl rfl _ _ 39 _ rfl rfl rfl (.slice none 0 0) 1 24 Try.underlying39 info22 rfl (by decide) rfl _ ls HACC5.out p _ (by exact rfl) HV5.out (by exact rfl) (by exact rfl) M63.out.1 M63.out.2 SZ5.out ?_; intro s6 w6 hacc6 hgr6 hat6))
              have HB5 := HB.out.trans (D5.out.mono HB.out.size)
              refine ⟨⟨k + 1, by go_num, by omega, ?_, HB5.grown hgr6 HB5.size (fun x hx => (Rep.acc_own HACC.out x hx).1)⟩, by show n - ((k : Int) + 1).toNat < n - (k : Int).toNat; omega⟩
              rw [range_snoc, HLS.out, HPP.out]
              exact hacc6
            · have j4 : (((k : Int) + 1) * 460).toNat - 460 * k = y.length := by have := HYL.out; have := HM.out; omega
              have j6 : ((k : Int) + 1) * 460 ≤ c0 := by omega
              have j7 : (k : Int) * 460 ≤ ((k : Int) + 1) * 460 := by omega
              have j8 : (0 : Int) ≤ ((k : Int) + 1) * 460 := by omega
              clear hm
              have L63 := Lib.hid (show q3.length + y.length ≤ maxLen ∧ (q3.length + y.length) * 1 ≤ 140737488355328 by have := L3.out; have := HYL.out; unfold maxLen; omega)
              have M63 := Lib.hid (show ((List.range k).map (partOf seq b)).length + 1 ≤ maxLen ∧ (((List.range k).map (partOf seq b)).length + 1) * 24 ≤ 140737488355328 by rw [List.length_map, List.length_range]; unfold maxLen; omega)
              generalize hls : (List.range k).map (partOf seq b) = ls at *
              have HLS := Lib.hid hls
              generalize hpp : partOf seq b k = p at *
              have HPP := Lib.hid hpp
              have hown : ∀ x, u6.ownBlock = some x → x < wr.heap.size := fun x hx => (Rep.acc_own HACC.out x hx).2
              have HOWN := Lib.hid hown
              have S23 := Lib.hid (show wr.heap.size ≤ w2.heap.size from D2.out.size)
              have S03 := Lib.hid (show w.heap.size ≤ wr.heap.size from HB.out.size)
              clear hls hpp hown
              go_wp2_with (first
                | (refine wpList_spread_leaf (e := 5) (base := w2.heap.size) (Q := fun _ => False) (r := Rep.byte) Rep.leaf_byte rfl _ _ 33 rfl (.int .u8 0) 1 1 Try.underlying33 info5 rfl (by decide) rfl _ q3 (by exact rfl) HU3.out _ y (by exact rfl) HY0.out L63.out.1 L63.out.2 HB3.out.size ?_; intro v5 w5 hacc5 hgr5 hat5; rw [HP.out] at hacc5; have HU5 := Lib.hid hacc5; have D5 := Lib.hid (D3.out.grown hgr5 D3.out.size (fun x hx => Nat.le_trans S23.out (Rep.acc_own HU3.out x hx).1)); clear hacc5 hgr5 hat5; have HACC5 := Lib.hid (Rep.acc_later HACC.out D5.out); have HV5 := Lib.hid (show Rep.byte.list.val (fun x => w.heap.size ≤ x ∧ u6.ownBlock ≠ some x) w5 v5 p from Rep.val_mono (fun x hx _ => ⟨Nat.le_trans S03.out (Nat.le_trans S23.out hx), fun he => absurd (HOWN.out x he) (by have := S23.out; omega)⟩) (Rep.acc_fresh HU5.out)); obtain ⟨A5, c5, hv5, _, _⟩ := Rep.acc_form HU5.out; subst hv5; have SZ5 := Lib.hid (Nat.le_trans S03.out D5.out.size))
                | (refine wpList_snoc (e := 33) (base := w.heap.size) (Q := fun x => w.heap.size ≤ x) (r := Rep.byte.list) rfl rfl _ _ 39 _ rfl rfl rfl (.slice none 0 0) 1 24 Try.underlying39 info22 rfl (by decide) rfl _ ls HACC5.out p _ (by exact rfl) HV5.out (by exact rfl) (by exact rfl) M63.out.1 M63.out.2 SZ5.out ?_; intro s6 w6 hacc6 hgr6 hat6))
              have HB5 := HB.out.trans (D5.out.mono HB.out.size)
              refine ⟨⟨k + 1, by go_num, by omega, ?_, HB5.grown hgr6 HB5.size (fun x hx => (Rep.acc_own HACC.out x hx).1)⟩, by show n - ((k : Int) + 1).toNat < n - (k : Int).toNat; omega⟩
              rw [range_snoc, HLS.out, HPP.out]
              exact hacc6
          · have hy0 : y.length = 0 := by omega
            have hk0 : k = 0 := by have := HYL.out; have := HM.out; have := HNB.out; omega
            have hb0 : b.length = 0 := by have := HYL.out; have := HM.out; omega
            have HYN := Lib.hid (show ∀ A' W', Rep.byte.list.val (fun _ => True) W' (.slice A' y.length y.length) y from fun A' W' => Rep.list_val rfl (Nat.le_refl _) (by rw [hy0]; simp [maxLen]) ⟨y.map fun x => .int .u8 (x.toNat : Int), Rep.byte_row y, fun h => absurd h (by omega)⟩)
            have j1 : (k : Int) * 460 ≤ b.length := by omega
            have j2 : (0 : Int) ≤ (k : Int) * 460 := by omega
            have j3 : ((k : Int) * 460).toNat = 460 * k := by omega
            have j5 : (b.length : Int) ≤ c0 := by omega
            have j4 : b.length - 460 * k = y.length := by have := HYL.out; omega
            have hmin : (b.length : Int) < ((k : Int) + 1) * 460 := by omega
            clear hm hp hy0 hb0 hk0
            rcases A0 with _ | ⟨bb, off, pth⟩
            · skip
              have L63 := Lib.hid (show q3.length + y.length ≤ maxLen ∧ (q3.length + y.length) * 1 ≤ 140737488355328 by have := L3.out; have := HYL.out; unfold maxLen; omega)
              have M63 := Lib.hid (show ((List.range k).map (partOf seq b)).length + 1 ≤ maxLen ∧ (((List.range k).map (partOf seq b)).length + 1) * 24 ≤ 140737488355328 by rw [List.length_map, List.length_range]; unfold maxLen; omega)
              generalize hls : (List.range k).map (partOf seq b) = ls at *
              have HLS := Lib.hid hls
              generalize hpp : partOf seq b k = p at *
              have HPP := Lib.hid hpp
              have hown : ∀ x, u6.ownBlock = some x → x < wr.heap.size := fun x hx => (Rep.acc_own HACC.out x hx).2
              have HOWN := Lib.hid hown
              have S23 := Lib.hid (show wr.heap.size ≤ w2.heap.size from D2.out.size)
              have S03 := Lib.hid (show w.heap.size ≤ wr.heap.size from HB.out.size)
              clear hls hpp hown
              go_wp2_with (first
                | (refine wpList_spread_leaf (e := 5) (base := w2.heap.size) (Q := fun _ => False) (r := Rep.byte) Rep.leaf_byte rfl _ _ 33 rfl (.int .u8 0) 1 1 Try.underlying33 info5 rfl (by decide) rfl _ q3 (by exact rfl) HU3.out _ y (by exact rfl) (HYN.out _ _) L63.out.1 L63.out.2 HB3.out.size ?_; intro v5 w5 hacc5 hgr5 hat5; rw [HP.out] at hacc5; have HU5 := Lib.hid hacc5; have D5 := Lib.hid (D3.out.grown hgr5 D3.out.size (fun x hx => Nat.le_trans S23.out (Rep.acc_own HU3.out x hx).1)); clear hacc5 hgr5 hat5; have HACC5 := Lib.hid (Rep.acc_later HACC.out D5.out); have HV5 := Lib.hid (show Rep.byte.list.val (fun x => w.heap.size ≤ x ∧ u6.ownBlock ≠ some x) w5 v5 p from Rep.val_mono (fun x hx _ => ⟨Nat.le_trans S03.out (Nat.le_trans S23.out hx), fun he => absurd (HOWN.out x he) (by have := S23.out; omega)⟩) (Rep.acc_fresh HU5.out)); obtain ⟨A5, c5, hv5, _, _⟩ := Rep.acc_form HU5.out; subst hv5; have SZ5 := Lib.hid (Nat.le_trans S03.out D5.out.size))
                | (refine wpList_snoc (e := 33) (base := w.heap.size) (Q := fun x => w.heap.size ≤ x) (r := Rep.byte.list) rfl rfl _ _ 39 _ rfl rfl rfl (.slice none 0 0) 1 24 Try.underlying39 info22 rfl (by decide) rfl _ ls HACC5.out p _ (by exact rfl) HV5.out (by exact rfl) (by exact rfl) M63.out.1 M63.out.2 SZ5.out ?_; intro s6 w6 hacc6 hgr6 hat6))
              have HB5 := HB.out.trans (D5.out.mono HB.out.size)
              refine ⟨⟨k + 1, by go_num, by omega, ?_, HB5.grown hgr6 HB5.size (fun x hx => (Rep.acc_own HACC.out x hx).1)⟩, by show n - ((k : Int) + 1).toNat < n - (k : Int).toNat; omega⟩
              rw [range_snoc, HLS.out, HPP.out]
              exact hacc6
            · skip
              have L63 := Lib.hid (show q3.length + y.length ≤ maxLen ∧ (q3.length + y.length) * 1 ≤ 140737488355328 by have := L3.out; have := HYL.out; unfold maxLen; omega)
              have M63 := Lib.hid (show ((List.range k).map (partOf seq b)).length + 1 ≤ maxLen ∧ (((List.range k).map (partOf seq b)).length + 1) * 24 ≤ 140737488355328 by rw [List.length_map, List.length_range]; unfold maxLen; omega)
              generalize hls : (List.range k).map (partOf seq b) = ls at *
              have HLS := Lib.hid hls
              generalize hpp : partOf seq b k = p at *
              have HPP := Lib.hid hpp
              have hown : ∀ x, u6.ownBlock = some x → x < wr.heap.size := fun x hx => (Rep.acc_own HACC.out x hx).2
              have HOWN := Lib.hid hown
              have S23 := Lib.hid (show wr.heap.size ≤ w2.heap.size from D2.out.size)
              have S03 := Lib.hid (show w.heap.size ≤ wr.heap.size from HB.out.size)
              clear hls hpp hown
              go_wp2_with (first
                | (refine wpList_spread_leaf (e := 5) (base := w2.heap.size) (Q := fun _ => False) (r := Rep.byte) Rep.leaf_byte rfl _ _ 33 rfl (.int .u8 0) 1 1 Try.underlying33 info5 rfl (by decide) rfl _ q3 (by exact rfl) HU3.out _ y (by exact rfl) (HYN.out _ _) L63.out.1 L63.out.2 HB3.out.size ?_; intro v5 w5 hacc5 hgr5 hat5; rw [HP.out] at hacc5; have HU5 := Lib.hid hacc5; have D5 := Lib.hid (D3.out.grown hgr5 D3.out.size (fun x hx => Nat.le_trans S23.out (Rep.acc_own HU3.out x hx).1)); clear hacc5 hgr5 hat5; have HACC5 := Lib.hid (Rep.acc_later HACC.out D5.out); have HV5 := Lib.hid (show Rep.byte.list.val (fun x => w.heap.size ≤ x ∧ u6.ownBlock ≠ some x) w5 v5 p from Rep.val_mono (fun x hx _ => ⟨Nat.le_trans S03.out (Nat.le_trans S23.out hx), fun he => absurd (HOWN.out x he) (by have := S23.out; omega)⟩) (Rep.acc_fresh HU5.out)); obtain ⟨A5, c5, hv5, _, _⟩ := Rep.acc_form HU5.out; subst hv5; have SZ5 := Lib.hid (Nat.le_trans S03.out D5.out.size))
                | (refine wpList_snoc (e := 33) (base := w.heap.size) (Q := fun x => w.heap.size ≤ x) (r := Rep.byte.list) rfl rfl _ _ 39 _ rfl rfl rfl (.slice none 0 0) 1 24 Try.underlying39 info22 rfl (by decide) rfl _ ls HACC5.out p _ (by exact rfl) HV5.out (by exact rfl) (by exact rfl) M63.out.1 M63.out.2 SZ5.out ?_; intro s6 w6 hacc6 hgr6 hat6))
              have HB5 := HB.out.trans (D5.out.mono HB.out.size)
              refine ⟨⟨k + 1, by go_num, by omega, ?_, HB5.grown hgr6 HB5.size (fun x hx => (Rep.acc_own HACC.out x hx).1)⟩, by show n - ((k : Int) + 1).toNat < n - (k : Int).toNat; omega⟩
              rw [range_snoc, HLS.out, HPP.out]
              exact hacc6
        · have HKN := Lib.hid (show k = n by omega)
          go_wp2_with fail
          go_ret
          refine ⟨_, rfl, ?_, HB.out⟩
          rw [HF.out, ← HKN.out]
          exact Rep.val_mono (fun b hb _ => hb.elim id fun e => (Rep.acc_own HACC.out b e).1) (Rep.acc_val HACC.out)
  · have t1 : 0 < seq := by omega
    have HSQ := Lib.hid (show near seq maxEpoch = (281474976710656 : Int) by unfold near maxEpoch; (repeat' split) <;> omega)
    have HX8 := Lib.hid (show (Lit.int .i64 (281474976710656 : Int)).wf = true by first | decide | exact wf_i64 (by omega) (by omega))
    by_cases hbig : (1024 : Int) < n
    · have HF := Lib.hid (show splitOf seq b = [] by unfold splitOf; rw [HN.out, if_pos hbig])
      go_enter Try.func65, Try.ntmps65
      go_wp2_with fail
      refine (need_calls (by omega) _).mono ?_
      rintro e w1 ⟨rfl, hw⟩
      have hw2 := hw.symm
      subst hw2
      clear hw
      rw [HN.out]
      go_wp2_with fail
      go_ret
      exact ⟨_, rfl, by rw [HF.out]; exact HZ.out _, Below.refl _ _⟩
    · have HF := Lib.hid (show splitOf seq b = (List.range n).map (partOf seq b) by unfold splitOf; rw [HN.out, if_neg hbig, Int.toNat_natCast])
      go_enter Try.func65, Try.ntmps65
      go_wp2_with fail
      refine (need_calls (by omega) _).mono ?_
      rintro e w1 ⟨rfl, hw⟩
      have hw2 := hw.symm
      subst hw2
      clear hw
      rw [HN.out]
      go_wp2_with fail
      go_loopw [6, 19] (fun u i wr => ∃ k : Nat, i = .int .i64 k ∧ k ≤ n ∧ Rep.byte.list.acc 33 w.heap.size (fun b => w.heap.size ≤ b) wr u ((List.range k).map (partOf seq b)) ∧ Below w.heap.size w wr) (fun _ i _ => n - (intOf i).toNat)
      case atStart => exact ⟨0, rfl, Nat.zero_le _, Rep.acc_nil, Below.refl _ _⟩
      case round =>
        obtain ⟨k, rfl, hk, hacc, hbel⟩ := hrel
        have HACC := Lib.hid hacc
        have HB := Lib.hid hbel
        by_cases hlt : (k : Int) < n
        · have i1 : IntKind.i64.wrap ((k : Int) + 1) = (k : Int) + 1 := IntWalk.i64_in _ ⟨by omega, by omega⟩
          have i2 : IntKind.i64.wrap (((k : Int) + 1) * 460) = ((k : Int) + 1) * 460 := IntWalk.i64_in _ ⟨by omega, by omega⟩
          have i3 : IntKind.i64.wrap ((k : Int) * 460) = (k : Int) * 460 := IntWalk.i64_in _ ⟨by omega, by omega⟩
          have hle : 460 * k ≤ b.length := by have := HNB.out; omega
          have HLE := Lib.hid hle
          obtain ⟨m, hm⟩ : ∃ m, m = min (460 * (k + 1)) b.length := ⟨_, rfl⟩
          have HM := Lib.hid hm
          have HMM := Lib.hid (show 460 * k ≤ m ∧ m ≤ b.length by omega)
          obtain ⟨q1, hq1⟩ : ∃ q : List UInt8, q = num 2 (k : Int) := ⟨_, rfl⟩
          obtain ⟨q2, hq2⟩ : ∃ q : List UInt8, q = q1 ++ num 2 (n : Int) := ⟨_, rfl⟩
          obtain ⟨q3, hq3⟩ : ∃ q : List UInt8, q = q2 ++ num 8 (281474976710656 : Int) := ⟨_, rfl⟩
          have E1 := Lib.hid (show q1 = ([] : List UInt8) ++ num 2 (k : Int) from hq1)
          have E2 := Lib.hid hq2
          have E3 := Lib.hid hq3
          have L1 := Lib.hid (show q1.length = 2 by rw [hq1, num_len2])
          have L2 := Lib.hid (show q2.length = 4 by rw [hq2, List.length_append, num_len2, L1.out])
          have L3 := Lib.hid (show q3.length = 12 by rw [hq3, List.length_append, num_len8, L2.out])
          obtain ⟨y, hy⟩ : ∃ y, y = (b.drop (460 * k)).take 460 := ⟨_, rfl⟩
          have HYL := Lib.hid (show y.length = m - 460 * k by rw [hy, List.length_take, List.length_drop]; omega)
          have HP := Lib.hid (show q3 ++ y = partOf seq b k by unfold partOf; rw [HN.out, HSQ.out, hq3, hq2, hq1, hy]; simp)
          have HYV := Lib.hid (show ∀ W' c1, Below w.heap.size w W' → 0 < y.length → ∃ bb off, A0 = some ⟨bb, off, none⟩ ∧ (y.length ≤ c1 → c1 ≤ maxLen → Rep.byte.list.val (fun _ => True) W' (.slice (some ⟨bb, off + 460 * k, none⟩) y.length c1) y) from fun W' c1 hb hp => by
            have hpos : 0 < b.length := by have := HYL.out; omega
            obtain ⟨bb, off, rfl⟩ := HA.out.addr hpos
            refine ⟨bb, off, rfl, fun h1 h2 => ?_⟩
            have h3 := HA.out.below hb (fun _ h _ => h)
            have h4 := (h3.drop (n := 460 * k) hle).take 460
            simp only [Rep.byte, Nat.mul_one] at h4
            rw [← hy] at h4
            exact Rep.list_val rfl h1 h2 (h4.keep (w := W') fun _ _ _ => ⟨trivial, rfl⟩))
          clear hacc hbel hq1 hq2 hq3 hy
          go_wp2_with fail
          refine (put_calls (width := 2) (n := (k : Int)) (HZ1.out wr) (by simp) rfl (HWF.out _ (by omega) (by omega))).mono ?_
          rintro e w1 ⟨u1, rfl, hu1, hb1⟩
          rw [← E1.out] at hu1
          have HU1 := Lib.hid hu1
          have D1 := Lib.hid hb1
          clear hu1 hb1
          go_wp2_with fail
          refine (put_calls (width := 2) (n := (n : Int)) (Rep.acc_val HU1.out) (by rw [L1.out]; decide) rfl (HWF.out _ (by omega) (by omega))).mono ?_
          rintro e w2 ⟨u2, rfl, hu2, hb2⟩
          rw [← E2.out] at hu2
          have HU2 := Lib.hid hu2
          have D2 := Lib.hid (D1.out.trans (hb2.mono D1.out.size))
          clear hu2 hb2
          go_wp2_with fail
          refine (put_calls (width := 8) (n := (281474976710656 : Int)) (Rep.acc_val HU2.out) (by rw [L2.out]; decide) rfl HX8.out).mono ?_
          rintro e w3 ⟨u3, rfl, hu3, hb3⟩
          rw [← E3.out] at hu3
          have HU3 := Lib.hid hu3
          have HB3 := Lib.hid hb3
          have D3 := Lib.hid (D2.out.trans (hb3.mono D2.out.size))
          obtain ⟨A9, c9, hu9, hc9, hm9⟩ := Rep.acc_form hu3
          rw [L3.out] at hu9 hc9
          subst hu9
          clear hu3 hb3
          have BW3 := Lib.hid (HB.out.trans (D3.out.mono HB.out.size))
          have HACC3 := Lib.hid (Rep.acc_later HACC.out D3.out)
          by_cases hp : 0 < y.length
          · obtain ⟨bb, off, rfl, hyv⟩ := HYV.out w3 y.length BW3.out hp
            have HY0 := Lib.hid (hyv (Nat.le_refl _) (by have := HYL.out; unfold maxLen; omega))
            have j1 : (k : Int) * 460 ≤ b.length := by omega
            have j2 : (0 : Int) ≤ (k : Int) * 460 := by omega
            have j3 : ((k : Int) * 460).toNat = 460 * k := by omega
            have j5 : (b.length : Int) ≤ c0 := by omega
            clear hyv
            by_cases hmin : (b.length : Int) < ((k : Int) + 1) * 460
            · have j4 : b.length - 460 * k = y.length := by have := HYL.out; have := HM.out; omega
              clear hm
              have L63 := Lib.hid (show q3.length + y.length ≤ maxLen ∧ (q3.length + y.length) * 1 ≤ 140737488355328 by have := L3.out; have := HYL.out; unfold maxLen; omega)
              have M63 := Lib.hid (show ((List.range k).map (partOf seq b)).length + 1 ≤ maxLen ∧ (((List.range k).map (partOf seq b)).length + 1) * 24 ≤ 140737488355328 by rw [List.length_map, List.length_range]; unfold maxLen; omega)
              generalize hls : (List.range k).map (partOf seq b) = ls at *
              have HLS := Lib.hid hls
              generalize hpp : partOf seq b k = p at *
              have HPP := Lib.hid hpp
              have hown : ∀ x, u6.ownBlock = some x → x < wr.heap.size := fun x hx => (Rep.acc_own HACC.out x hx).2
              have HOWN := Lib.hid hown
              have S23 := Lib.hid (show wr.heap.size ≤ w2.heap.size from D2.out.size)
              have S03 := Lib.hid (show w.heap.size ≤ wr.heap.size from HB.out.size)
              clear hls hpp hown
              go_wp2_with (first
                | (refine wpList_spread_leaf (e := 5) (base := w2.heap.size) (Q := fun _ => False) (r := Rep.byte) Rep.leaf_byte rfl _ _ 33 rfl (.int .u8 0) 1 1 Try.underlying33 info5 rfl (by decide) rfl _ q3 (by exact rfl) HU3.out _ y (by exact rfl) HY0.out L63.out.1 L63.out.2 HB3.out.size ?_; intro v5 w5 hacc5 hgr5 hat5; rw [HP.out] at hacc5; have HU5 := Lib.hid hacc5; have D5 := Lib.hid (D3.out.grown hgr5 D3.out.size (fun x hx => Nat.le_trans S23.out (Rep.acc_own HU3.out x hx).1)); clear hacc5 hgr5 hat5; have HACC5 := Lib.hid (Rep.acc_later HACC.out D5.out); have HV5 := Lib.hid (show Rep.byte.list.val (fun x => w.heap.size ≤ x ∧ u6.ownBlock ≠ some x) w5 v5 p from Rep.val_mono (fun x hx _ => ⟨Nat.le_trans S03.out (Nat.le_trans S23.out hx), fun he => absurd (HOWN.out x he) (by have := S23.out; omega)⟩) (Rep.acc_fresh HU5.out)); obtain ⟨A5, c5, hv5, _, _⟩ := Rep.acc_form HU5.out; subst hv5; have SZ5 := Lib.hid (Nat.le_trans S03.out D5.out.size))
                | (refine wpList_snoc (e := 33) (base := w.heap.size) (Q := fun x => w.heap.size ≤ x) (r := Rep.byte.list) rfl rfl _ _ 39 _ rfl rfl rfl (.slice none 0 0) 1 24 Try.underlying39 info22 rfl (by decide) rfl _ ls HACC5.out p _ (by exact rfl) HV5.out (by exact rfl) (by exact rfl) M63.out.1 M63.out.2 SZ5.out ?_; intro s6 w6 hacc6 hgr6 hat6))
              have HB5 := HB.out.trans (D5.out.mono HB.out.size)
              refine ⟨⟨k + 1, by go_num, by omega, ?_, HB5.grown hgr6 HB5.size (fun x hx => (Rep.acc_own HACC.out x hx).1)⟩, by show n - ((k : Int) + 1).toNat < n - (k : Int).toNat; omega⟩
              rw [range_snoc, HLS.out, HPP.out]
              exact hacc6
            · have j4 : (((k : Int) + 1) * 460).toNat - 460 * k = y.length := by have := HYL.out; have := HM.out; omega
              have j6 : ((k : Int) + 1) * 460 ≤ c0 := by omega
              have j7 : (k : Int) * 460 ≤ ((k : Int) + 1) * 460 := by omega
              have j8 : (0 : Int) ≤ ((k : Int) + 1) * 460 := by omega
              clear hm
              have L63 := Lib.hid (show q3.length + y.length ≤ maxLen ∧ (q3.length + y.length) * 1 ≤ 140737488355328 by have := L3.out; have := HYL.out; unfold maxLen; omega)
              have M63 := Lib.hid (show ((List.range k).map (partOf seq b)).length + 1 ≤ maxLen ∧ (((List.range k).map (partOf seq b)).length + 1) * 24 ≤ 140737488355328 by rw [List.length_map, List.length_range]; unfold maxLen; omega)
              generalize hls : (List.range k).map (partOf seq b) = ls at *
              have HLS := Lib.hid hls
              generalize hpp : partOf seq b k = p at *
              have HPP := Lib.hid hpp
              have hown : ∀ x, u6.ownBlock = some x → x < wr.heap.size := fun x hx => (Rep.acc_own HACC.out x hx).2
              have HOWN := Lib.hid hown
              have S23 := Lib.hid (show wr.heap.size ≤ w2.heap.size from D2.out.size)
              have S03 := Lib.hid (show w.heap.size ≤ wr.heap.size from HB.out.size)
              clear hls hpp hown
              go_wp2_with (first
                | (refine wpList_spread_leaf (e := 5) (base := w2.heap.size) (Q := fun _ => False) (r := Rep.byte) Rep.leaf_byte rfl _ _ 33 rfl (.int .u8 0) 1 1 Try.underlying33 info5 rfl (by decide) rfl _ q3 (by exact rfl) HU3.out _ y (by exact rfl) HY0.out L63.out.1 L63.out.2 HB3.out.size ?_; intro v5 w5 hacc5 hgr5 hat5; rw [HP.out] at hacc5; have HU5 := Lib.hid hacc5; have D5 := Lib.hid (D3.out.grown hgr5 D3.out.size (fun x hx => Nat.le_trans S23.out (Rep.acc_own HU3.out x hx).1)); clear hacc5 hgr5 hat5; have HACC5 := Lib.hid (Rep.acc_later HACC.out D5.out); have HV5 := Lib.hid (show Rep.byte.list.val (fun x => w.heap.size ≤ x ∧ u6.ownBlock ≠ some x) w5 v5 p from Rep.val_mono (fun x hx _ => ⟨Nat.le_trans S03.out (Nat.le_trans S23.out hx), fun he => absurd (HOWN.out x he) (by have := S23.out; omega)⟩) (Rep.acc_fresh HU5.out)); obtain ⟨A5, c5, hv5, _, _⟩ := Rep.acc_form HU5.out; subst hv5; have SZ5 := Lib.hid (Nat.le_trans S03.out D5.out.size))
                | (refine wpList_snoc (e := 33) (base := w.heap.size) (Q := fun x => w.heap.size ≤ x) (r := Rep.byte.list) rfl rfl _ _ 39 _ rfl rfl rfl (.slice none 0 0) 1 24 Try.underlying39 info22 rfl (by decide) rfl _ ls HACC5.out p _ (by exact rfl) HV5.out (by exact rfl) (by exact rfl) M63.out.1 M63.out.2 SZ5.out ?_; intro s6 w6 hacc6 hgr6 hat6))
              have HB5 := HB.out.trans (D5.out.mono HB.out.size)
              refine ⟨⟨k + 1, by go_num, by omega, ?_, HB5.grown hgr6 HB5.size (fun x hx => (Rep.acc_own HACC.out x hx).1)⟩, by show n - ((k : Int) + 1).toNat < n - (k : Int).toNat; omega⟩
              rw [range_snoc, HLS.out, HPP.out]
              exact hacc6
          · have hy0 : y.length = 0 := by omega
            have hk0 : k = 0 := by have := HYL.out; have := HM.out; have := HNB.out; omega
            have hb0 : b.length = 0 := by have := HYL.out; have := HM.out; omega
            have HYN := Lib.hid (show ∀ A' W', Rep.byte.list.val (fun _ => True) W' (.slice A' y.length y.length) y from fun A' W' => Rep.list_val rfl (Nat.le_refl _) (by rw [hy0]; simp [maxLen]) ⟨y.map fun x => .int .u8 (x.toNat : Int), Rep.byte_row y, fun h => absurd h (by omega)⟩)
            have j1 : (k : Int) * 460 ≤ b.length := by omega
            have j2 : (0 : Int) ≤ (k : Int) * 460 := by omega
            have j3 : ((k : Int) * 460).toNat = 460 * k := by omega
            have j5 : (b.length : Int) ≤ c0 := by omega
            have j4 : b.length - 460 * k = y.length := by have := HYL.out; omega
            have hmin : (b.length : Int) < ((k : Int) + 1) * 460 := by omega
            clear hm hp hy0 hb0 hk0
            rcases A0 with _ | ⟨bb, off, pth⟩
            · skip
              have L63 := Lib.hid (show q3.length + y.length ≤ maxLen ∧ (q3.length + y.length) * 1 ≤ 140737488355328 by have := L3.out; have := HYL.out; unfold maxLen; omega)
              have M63 := Lib.hid (show ((List.range k).map (partOf seq b)).length + 1 ≤ maxLen ∧ (((List.range k).map (partOf seq b)).length + 1) * 24 ≤ 140737488355328 by rw [List.length_map, List.length_range]; unfold maxLen; omega)
              generalize hls : (List.range k).map (partOf seq b) = ls at *
              have HLS := Lib.hid hls
              generalize hpp : partOf seq b k = p at *
              have HPP := Lib.hid hpp
              have hown : ∀ x, u6.ownBlock = some x → x < wr.heap.size := fun x hx => (Rep.acc_own HACC.out x hx).2
              have HOWN := Lib.hid hown
              have S23 := Lib.hid (show wr.heap.size ≤ w2.heap.size from D2.out.size)
              have S03 := Lib.hid (show w.heap.size ≤ wr.heap.size from HB.out.size)
              clear hls hpp hown
              go_wp2_with (first
                | (refine wpList_spread_leaf (e := 5) (base := w2.heap.size) (Q := fun _ => False) (r := Rep.byte) Rep.leaf_byte rfl _ _ 33 rfl (.int .u8 0) 1 1 Try.underlying33 info5 rfl (by decide) rfl _ q3 (by exact rfl) HU3.out _ y (by exact rfl) (HYN.out _ _) L63.out.1 L63.out.2 HB3.out.size ?_; intro v5 w5 hacc5 hgr5 hat5; rw [HP.out] at hacc5; have HU5 := Lib.hid hacc5; have D5 := Lib.hid (D3.out.grown hgr5 D3.out.size (fun x hx => Nat.le_trans S23.out (Rep.acc_own HU3.out x hx).1)); clear hacc5 hgr5 hat5; have HACC5 := Lib.hid (Rep.acc_later HACC.out D5.out); have HV5 := Lib.hid (show Rep.byte.list.val (fun x => w.heap.size ≤ x ∧ u6.ownBlock ≠ some x) w5 v5 p from Rep.val_mono (fun x hx _ => ⟨Nat.le_trans S03.out (Nat.le_trans S23.out hx), fun he => absurd (HOWN.out x he) (by have := S23.out; omega)⟩) (Rep.acc_fresh HU5.out)); obtain ⟨A5, c5, hv5, _, _⟩ := Rep.acc_form HU5.out; subst hv5; have SZ5 := Lib.hid (Nat.le_trans S03.out D5.out.size))
                | (refine wpList_snoc (e := 33) (base := w.heap.size) (Q := fun x => w.heap.size ≤ x) (r := Rep.byte.list) rfl rfl _ _ 39 _ rfl rfl rfl (.slice none 0 0) 1 24 Try.underlying39 info22 rfl (by decide) rfl _ ls HACC5.out p _ (by exact rfl) HV5.out (by exact rfl) (by exact rfl) M63.out.1 M63.out.2 SZ5.out ?_; intro s6 w6 hacc6 hgr6 hat6))
              have HB5 := HB.out.trans (D5.out.mono HB.out.size)
              refine ⟨⟨k + 1, by go_num, by omega, ?_, HB5.grown hgr6 HB5.size (fun x hx => (Rep.acc_own HACC.out x hx).1)⟩, by show n - ((k : Int) + 1).toNat < n - (k : Int).toNat; omega⟩
              rw [range_snoc, HLS.out, HPP.out]
              exact hacc6
            · skip
              have L63 := Lib.hid (show q3.length + y.length ≤ maxLen ∧ (q3.length + y.length) * 1 ≤ 140737488355328 by have := L3.out; have := HYL.out; unfold maxLen; omega)
              have M63 := Lib.hid (show ((List.range k).map (partOf seq b)).length + 1 ≤ maxLen ∧ (((List.range k).map (partOf seq b)).length + 1) * 24 ≤ 140737488355328 by rw [List.length_map, List.length_range]; unfold maxLen; omega)
              generalize hls : (List.range k).map (partOf seq b) = ls at *
              have HLS := Lib.hid hls
              generalize hpp : partOf seq b k = p at *
              have HPP := Lib.hid hpp
              have hown : ∀ x, u6.ownBlock = some x → x < wr.heap.size := fun x hx => (Rep.acc_own HACC.out x hx).2
              have HOWN := Lib.hid hown
              have S23 := Lib.hid (show wr.heap.size ≤ w2.heap.size from D2.out.size)
              have S03 := Lib.hid (show w.heap.size ≤ wr.heap.size from HB.out.size)
              clear hls hpp hown
              go_wp2_with (first
                | (refine wpList_spread_leaf (e := 5) (base := w2.heap.size) (Q := fun _ => False) (r := Rep.byte) Rep.leaf_byte rfl _ _ 33 rfl (.int .u8 0) 1 1 Try.underlying33 info5 rfl (by decide) rfl _ q3 (by exact rfl) HU3.out _ y (by exact rfl) (HYN.out _ _) L63.out.1 L63.out.2 HB3.out.size ?_; intro v5 w5 hacc5 hgr5 hat5; rw [HP.out] at hacc5; have HU5 := Lib.hid hacc5; have D5 := Lib.hid (D3.out.grown hgr5 D3.out.size (fun x hx => Nat.le_trans S23.out (Rep.acc_own HU3.out x hx).1)); clear hacc5 hgr5 hat5; have HACC5 := Lib.hid (Rep.acc_later HACC.out D5.out); have HV5 := Lib.hid (show Rep.byte.list.val (fun x => w.heap.size ≤ x ∧ u6.ownBlock ≠ some x) w5 v5 p from Rep.val_mono (fun x hx _ => ⟨Nat.le_trans S03.out (Nat.le_trans S23.out hx), fun he => absurd (HOWN.out x he) (by have := S23.out; omega)⟩) (Rep.acc_fresh HU5.out)); obtain ⟨A5, c5, hv5, _, _⟩ := Rep.acc_form HU5.out; subst hv5; have SZ5 := Lib.hid (Nat.le_trans S03.out D5.out.size))
                | (refine wpList_snoc (e := 33) (base := w.heap.size) (Q := fun x => w.heap.size ≤ x) (r := Rep.byte.list) rfl rfl _ _ 39 _ rfl rfl rfl (.slice none 0 0) 1 24 Try.underlying39 info22 rfl (by decide) rfl _ ls HACC5.out p _ (by exact rfl) HV5.out (by exact rfl) (by exact rfl) M63.out.1 M63.out.2 SZ5.out ?_; intro s6 w6 hacc6 hgr6 hat6))
              have HB5 := HB.out.trans (D5.out.mono HB.out.size)
              refine ⟨⟨k + 1, by go_num, by omega, ?_, HB5.grown hgr6 HB5.size (fun x hx => (Rep.acc_own HACC.out x hx).1)⟩, by show n - ((k : Int) + 1).toNat < n - (k : Int).toNat; omega⟩
              rw [range_snoc, HLS.out, HPP.out]
              exact hacc6
        · have HKN := Lib.hid (show k = n by omega)
          go_wp2_with fail
          go_ret
          refine ⟨_, rfl, ?_, HB.out⟩
          rw [HF.out, ← HKN.out]
          exact Rep.val_mono (fun b hb _ => hb.elim id fun e => (Rep.acc_own HACC.out b e).1) (Rep.acc_val HACC.out)
end Go.Proofs.Yteljibjbndpncaa
