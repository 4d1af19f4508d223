/- Walk of the pieces that must be written anew, the reference's. -/
import Derived.Test.YteljibjbndpncaaPsG13
namespace Go.Proofs.Yteljibjbndpncaa
open Go.RowKit

theorem newsTo_succ (f : DFlow) (j : Nat) : newsTo f (j + 1) = newsTo f j ++ (if pageAt f j < 0 then [piece f.data j] else []) := by
  unfold newsTo
  rw [List.range_succ, List.filterMap_append]
  by_cases h : pageAt f j < 0
  · simp [h]
  · simp [h]
theorem newsTo_len (f : DFlow) : ∀ j, (newsTo f j).length ≤ j
  | 0 => by simp [newsTo]
  | j + 1 => by
    have := newsTo_len f j
    rw [newsTo_succ, List.length_append]
    split <;> simp <;> omega
theorem newsOf_len : ∀ {l : List DFlow}, (∀ f ∈ l, f.data.length ≤ 1000000) → (newsOf l).length ≤ 3000 * l.length
  | [], _ => by simp [newsOf]
  | f :: l, h => by
    have h1 := newsOf_len (l := l) fun g hg => h g (by simp [hg])
    have h2 : (newsTo f (pieceCount f)).length ≤ 3000 := Nat.le_trans (newsTo_len f _) (pieceCount_le (h f (by simp)))
    unfold newsOf at *
    rw [List.map_cons, List.flatten_cons, List.length_append, List.length_cons]
    omega
theorem newsOf_succ {l : List DFlow} {k : Nat} {f : DFlow} (h : l[k]? = some f) : newsOf (l.take (k + 1)) = newsOf (l.take k) ++ newsTo f (pieceCount f) := by
  obtain ⟨hk, he⟩ := List.getElem?_eq_some_iff.1 h
  unfold newsOf
  rw [List.take_succ_eq_append_getElem hk, List.map_append, List.flatten_append, he]; simp
theorem info36 : (Try.prog.info? 33).map (fun i => (i.zero, i.size, i.bytes)) = some (some (.slice none 0 0), 1, 24) := by kernel_rfl

set_option maxRecDepth 100000 in
set_option maxHeartbeats 2000000 in
/-- ref24.News -/
theorem rnews_calls {w : World} {v : Value} {l : List DFlow} (hx : rFlow.list.val (fun b => b < w.heap.size) w v l) (hd : ∀ f ∈ l, f.data.length ≤ 1000000) (hl : l.length ≤ 1000000) :
    Calls Try.prog 19 #[v] w (Res Rep.byte.list.list (fun _ => True) w (newsOf l)) := by
  obtain ⟨A, c, rfl, hc1, hc2, hA⟩ := Rep.val_list hx
  unfold maxLen at hc2
  have HA := Lib.hid hA
  have HD := Lib.hid hd
  have HLL := Lib.hid hl
  have HPL := Lib.hid (fun k => newsOf_len (l := l.take k) fun f hf => hd f (List.mem_of_mem_take hf))
  clear hx hA hd hl
  go_enter Try.func19, Try.ntmps19
  go_wp2_with fail
  go_loopw [3, 4] (fun s i wr => ∃ k : Nat, i = .int .i64 k ∧ k ≤ l.length ∧ Rep.byte.list.acc 33 w.heap.size (fun _ => True) wr s (newsOf (l.take k)) ∧ Below w.heap.size w wr) (fun _ i _ => l.length - (intOf i).toNat)
  case atStart => exact ⟨0, rfl, Nat.zero_le _, by rw [List.take_zero]; exact Rep.acc_nil, Below.refl _ _⟩
  case round =>
    obtain ⟨k, rfl, hk, hv, hbel⟩ := hrel
    have HV := Lib.hid hv
    have HBW := Lib.hid hbel
    by_cases hlt : (k : Int) < l.length
    · obtain ⟨f, hf⟩ : ∃ f, l[k]? = some f := ⟨_, List.getElem?_eq_getElem (by omega)⟩
      obtain ⟨b, off, A1, c1, A2, c2, hA, hbc, _, _, _, d3, _, _, _, _, s3, _⟩ := rFlow_at (HA.out.below hbel (fun _ _ h => h.lt)) hf
      subst hA
      have HX := Lib.hid hf
      have HDF := Lib.hid (HD.out f (List.mem_of_getElem? hf))
      have HDV := Lib.hid s3.val
      have HS := Lib.hid (newsOf_succ hf)
      have HQL := Lib.hid (show (newsOf (l.take k)).length ≤ 3000000000 from Nat.le_trans (HPL.out k) (by rw [List.length_take]; have := HLL.out; omega))
      generalize newsOf (l.take k) = q at *
      obtain ⟨A0, c0, rfl, _, _⟩ := Rep.acc_form hv
      clear hv hbel hf hbc s3
      go_wp2_with fail
      refine (rcut_calls HDV.out HDF.out).mono ?_
      rintro e w3 ⟨u3, rfl, hu3, hb3⟩
      obtain ⟨A5, c5, rfl, h51, h52, hat5⟩ := Rep.val_list hu3
      have HW3 := Lib.hid hb3
      have HB3 := Lib.hid (HBW.out.trans (hb3.mono HBW.out.size))
      have HV3 := Lib.hid (Rep.acc_later HV.out hb3)
      have HOWN := Lib.hid (show ∀ g, (Value.slice A0 q.length c0).ownBlock = some g → g < wr.heap.size ∨ w3.heap.size ≤ g from fun g hg => .inl (Rep.acc_own HV.out g hg).2)
      have HGET := Lib.hid (fun (i : Nat) (h : i < (f.data.length + 471) / 472) => cut_get h)
      have hlen : (cut f.data).length = pieceCount f := cut_length _
      have HPC := Lib.hid (show pieceCount f = (f.data.length + 471) / 472 from rfl)
      have KAT := Lib.hid (show ∀ W, Below w3.heap.size w3 W → Rep.byte.list.At (fun b => b < w.heap.size ∨ (wr.heap.size ≤ b ∧ b < w3.heap.size)) W A5 (cut f.data) from fun W hb => Rep.At.keep (w := w3) (fun b hq hl => ⟨hq.elim (fun h => .inl h.1) (fun h => .inr ⟨h, hl.lt⟩), hb.block b hl.lt⟩) hat5)
      have hp3 := pieceCount_le HDF.out
      generalize cut f.data = P at *
      obtain ⟨n, hn⟩ : ∃ n, P.length = n := ⟨_, rfl⟩
      have HNP := Lib.hid (show n = pieceCount f by rw [← hn, hlen])
      have hn3 : n ≤ 3000 := by have := HNP.out; omega
      rw [hn] at h51 ⊢
      unfold maxLen at h52
      obtain ⟨n1, hn1⟩ : ∃ n1, wr.heap.size = n1 := ⟨_, rfl⟩
      rw [hn1] at HOWN KAT
      have HAT3 := Lib.hid (KAT.out w3 (Below.refl _ _))
      clear hu3 hb3 hlen hn hat5 d3 hp3 hn1 KAT HW3
      go_wp2_with fail
      go_loopw [3, 6] (fun s i wr => ∃ j : Nat, i = .int .i64 j ∧ j ≤ n ∧ Rep.byte.list.acc 33 w.heap.size (fun _ => True) wr s (q ++ newsTo f j) ∧ Hid ((∀ g, s.ownBlock = some g → g < n1 ∨ w3.heap.size ≤ g) ∧ w3.heap.size ≤ wr.heap.size) ∧ Hid (Rep.byte.list.At (fun b => b < w.heap.size ∨ (n1 ≤ b ∧ b < w3.heap.size)) wr A5 P) ∧ Hid (Below w.heap.size w wr)) (fun _ i _ => n - (intOf i).toNat)
      case atStart => exact ⟨0, rfl, Nat.zero_le _, by simpa [newsTo] using HV3.out, Lib.hid ⟨HOWN.out, Nat.le_refl _⟩, HAT3, HB3⟩
      case round =>
        obtain ⟨j, rfl, hj, hv, HO, HAT, HBX⟩ := hrel
        have HT := Lib.hid (newsTo_succ f j)
        have HL2 := Lib.hid (show (q ++ newsTo f j).length ≤ 4000000000 by rw [List.length_append]; have := HQL.out; have := newsTo_len f j; omega)
        obtain ⟨q2, hq2⟩ : ∃ q2, q ++ newsTo f j = q2 := ⟨_, rfl⟩
        have HQ2 := Lib.hid hq2
        rw [hq2] at hv HL2
        obtain ⟨A6, c6, rfl, _, _⟩ := Rep.acc_form hv
        have HV2 := Lib.hid hv
        clear hv hq2
        by_cases hjn : (j : Int) < n
        · obtain ⟨b', off', A3, c3, A4, c4, hA, _, d0, d1, d2, d3, d4, f0, f1, f2, s3, s4⟩ := rFlow_at (HA.out.below HBX.out (fun _ _ h => h.lt)) HX.out
          cases hA
          have HFV := Lib.hid (rFlow_agg (x := f) f0 f1 f2 s3 s4)
          clear f0 f1 f2 s3 s4
          go_wp2_with fail
          refine (rpageAt_calls HFV.out).mono ?_
          rintro e w5 ⟨rfl, hb5⟩
          have HB5 := Lib.hid (HBX.out.trans (hb5.mono HBX.out.size))
          have HV5 := Lib.hid (Rep.acc_later HV2.out hb5)
          have HZ5 := Lib.hid (Nat.le_trans HO.out.2 hb5.size)
          have HAT5 := Lib.hid (show Rep.byte.list.At (fun b => b < w.heap.size ∨ (n1 ≤ b ∧ b < w3.heap.size)) w5 A5 P from Rep.At.keep (fun b hq hl => ⟨hq, hb5.block b hl.lt⟩) HAT.out)
          obtain ⟨z, hz⟩ : ∃ z, pageAt f j = z := ⟨_, rfl⟩
          rw [hz] at HT ⊢
          clear hz hb5 d0 d1 d2 d3 d4
          by_cases hz0 : z < 0
          · have hgt := HGET.out j (by rw [← HPC.out, ← HNP.out]; omega)
            obtain ⟨bb, o5, B6, c7, rfl, hcell, hc6, hm6, hat6⟩ := Rep.At.list HAT5.out hgt
            have HPV := Lib.hid (Rep.list_val (r := Rep.byte) rfl hc6 hm6 hat6)
            obtain ⟨y, hy⟩ : ∃ y, piece f.data j = y := ⟨_, rfl⟩
            rw [hy] at HPV HT
            have HY := Lib.hid (Rep.val_mono (Q' := fun b => True ∧ (Value.slice A6 q2.length c6).ownBlock ≠ some b) (fun b hb _ => ⟨trivial, fun e => by
              have h1 := HO.out.1 b e
              have h2 := (Rep.acc_own HV5.out b e).1
              rcases hb with hb | hb <;> omega⟩) HPV.out)
            have HT2 := Lib.hid (show q ++ newsTo f (j + 1) = q2 ++ [y] by rw [HT.out, if_pos hz0, ← List.append_assoc, HQ2.out])
            have L := Lib.hid (show q2.length + 1 ≤ maxLen ∧ (q2.length + 1) * 24 ≤ 140737488355328 by unfold maxLen; have := HL2.out; omega)
            rw [hy] at hcell
            clear hgt hat6 hy
            go_wp2_with (refine wpList_snoc (e := 33) (base := w.heap.size) (Q := fun _ => True) (r := Rep.byte.list) rfl rfl _ _ 39 _ rfl rfl rfl (.slice none 0 0) 1 24 Try.underlying39 info36 rfl (by decide) rfl _ q2 HV5.out y _ (by exact rfl) HY.out (by exact rfl) (by exact rfl) L.out.1 L.out.2 HB5.out.size ?_; intro v7 w7 hacc7 hgr7 hat7)
            refine ⟨⟨j + 1, by go_num, by omega, by rw [HT2.out]; exact hacc7, Lib.hid ⟨fun g hg => ?_, Nat.le_trans HZ5.out hgr7.size⟩, Lib.hid (Rep.At.keep (fun b hq hl => ⟨hq, hgr7.block b hl.lt (fun e => ?_)⟩) HAT5.out), Lib.hid (Rep.acc_below HV5.out HB5.out hgr7 HB5.out.size)⟩, by simp [intOf]; omega⟩
            · rcases hat7 with h | h
              · rw [h] at hg; exact HO.out.1 g hg
              · rw [h] at hg; cases hg; have := HZ5.out; exact .inr (by omega)
            · have h1 := HO.out.1 b e.symm
              have h2 := (Rep.acc_own HV5.out b e.symm).1
              rcases hq with hq | hq <;> omega
          · have HT2 := Lib.hid (show q ++ newsTo f (j + 1) = q2 by rw [HT.out, if_neg hz0, List.append_nil, HQ2.out])
            go_wp2_with fail
            exact ⟨⟨j + 1, by go_num, by omega, by rw [HT2.out]; exact HV5.out, Lib.hid ⟨HO.out.1, HZ5.out⟩, HAT5, HB5⟩, by simp [intOf]; omega⟩
        · obtain rfl : j = n := by omega
          go_wp2_with fail
          exact ⟨⟨k + 1, by go_num, by omega, by rw [HS.out, ← HNP.out, HQ2.out]; exact HV2.out, HBX.out⟩, by simp [intOf]; omega⟩
    · obtain rfl : k = l.length := by omega
      rw [List.take_length] at hv
      have HVE := Lib.hid hv
      clear hv hbel
      go_wp2_with fail
      go_ret
      exact ⟨_, rfl, Rep.val_mono (fun _ _ _ => trivial) (Rep.acc_val HVE.out), HBW.out⟩
end Go.Proofs.Yteljibjbndpncaa
