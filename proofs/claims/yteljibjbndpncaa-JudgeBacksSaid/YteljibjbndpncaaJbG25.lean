/- Texts on which the proofs stand: RFind15. No condition is laid on any input. -/
import Derived.Test.YteljibjbndpncaaJbG24
namespace Go.Proofs.Yteljibjbndpncaa
open Go.RowKit

theorem infoRes : (Try.prog.info? 168).map (fun i => (i.zero, i.size, i.bytes)) = some (some (.agg #[.int .i64 0, .int .i64 0, .int .i64 0]), 3, 24) := by kernel_rfl
def FoundPost (w : World) (r : Option DID) (e : Ending) (w' : World) : Prop :=
  e = .returned (.tuple #[.agg #[.int .i64 (r.getD noID).index, .int .i64 (r.getD noID).gen], .bool r.isSome]) ∧ Below w.heap.size w w'

set_option maxRecDepth 100000 in
set_option maxHeartbeats 4000000 in
/-- r15.Find -/
theorem rfind15_calls {Q Q' : Nat → Prop} {w : World} {u v : Value} {l : List DCmd} {done : List DResult} {k : Int} (hx : rCmd.list.val Q w u l) (hy : rResult.list.val Q' w v done) (hl : done.length ≤ 100000) :
    Calls Try.prog 124 #[u, v, .int .i64 k] w (FoundPost w (findS l done k)) := by
  obtain ⟨A, c, rfl, hc1, hc2, hA⟩ := Rep.val_list hx
  obtain ⟨B, d, rfl, hd1, hd2, hB⟩ := Rep.val_list hy
  unfold maxLen at hc2 hd2
  have HA := Lib.hid hA
  have HB := Lib.hid hB
  have HL := Lib.hid hl
  have hfr : Try.f124.results = #[.cell 6 114, .tmp 7] := rfl
  clear hx hy hA hB
  obtain ⟨W0, hW0⟩ : ∃ W, (w.alloc (.cells #[.int .i64 0, .int .i64 0] 114)) = W := ⟨_, rfl⟩
  have hz0 : W0.heap.size = w.heap.size + 1 := by rw [← hW0]; simp
  have hb0 : Below w.heap.size w W0 := by rw [← hW0]; exact (Below.refl _ _).alloc (Nat.le_refl _) _
  have HZ := Lib.hid hz0
  have HB0 := Lib.hid hb0
  have R0_0 := Lib.hid (show W0.heap[w.heap.size]? = some (.cells #[.int .i64 0, .int .i64 0] 114 (0, 0)) by rw [← hW0]; exact alloc_at rfl)
  have O0 := Lib.hid (Only.refl (Box w 1) W0)
  have HAT := Lib.hid (show ∀ V, Below W0.heap.size W0 V → rCmd.At Q V A l from fun V h => Rep.At.keep (w := w) (fun b hb hl => ⟨hb, (hb0.trans (h.mono hb0.size)).block b hl.lt⟩) HA.out)
  have HBT := Lib.hid (show ∀ V, Below W0.heap.size W0 V → rResult.At Q' V B done from fun V h => Rep.At.keep (w := w) (fun b hb hl => ⟨hb, (hb0.trans (h.mono hb0.size)).block b hl.lt⟩) HB.out)
  clear hz0 hb0
  obtain ⟨q0_0, z0_0, q0_1, z0_1⟩ := rw2 R0_0.out
  go_enter Try.func124, Try.ntmps124
  go_wp2_with fail
  try rw [hW0]
  clear hW0
  try go_wp2_with fail
  clear q0_0 z0_0 q0_1 z0_1
  go_loopw [8, 9] (fun u8 i wr => ∃ j : Nat, i = .int .i64 j ∧ j ≤ l.length ∧ j ≤ done.length ∧ Hid (rResult.acc 168 W0.heap.size (fun _ => False) wr u8 (spawnsOf (l.take j) (done.take j))) ∧ Hid (Below W0.heap.size W0 wr)) (fun _ i _ => l.length - (intOf i).toNat)
  case atStart => exact ⟨0, rfl, Nat.zero_le _, Nat.zero_le _, Lib.hid (by simp [spawnsOf]; exact Rep.acc_nil), Lib.hid (Below.refl _ _)⟩
  case round =>
    obtain ⟨j, rfl, hj1, hj2, HACC, HBR⟩ := hrel
    by_cases hlt : (j : Int) < l.length
    · by_cases hlt2 : (j : Int) < done.length
      · obtain ⟨x, hx⟩ : ∃ x, l[j]? = some x := ⟨_, List.getElem?_eq_getElem (by omega)⟩
        obtain ⟨r, hr⟩ : ∃ r, done[j]? = some r := ⟨_, List.getElem?_eq_getElem (by omega)⟩
        obtain ⟨cb, co, Ad, cd, rfl, _, x0, _⟩ := rCmd_at (HAT.out wr HBR.out) hx
        obtain ⟨rb, ro, rfl, _, y0, y1, y2, wf0, wf1, wf2⟩ := rResult_at (HBT.out wr HBR.out) hr
        have HN := Lib.hid (spawns_next hx hr)
        have HLX := Lib.hid (show (spawnsOf (l.take j) (done.take j)).length ≤ done.length from Nat.le_trans spawns_len (by rw [List.length_take]; omega))
        have W0' := Lib.hid (show (Lit.int .i64 r.err).wf = true ∧ (Lit.int .i64 r.id.index).wf = true ∧ (Lit.int .i64 r.id.gen).wf = true from ⟨wf0, wf1, wf2⟩)
        clear hx hr wf0 wf1 wf2
        by_cases hk : x.kind = 0
        · skip
          have hk0 : (x.kind == 0) = true := by simp [hk]
          rw [if_pos hk] at HN
          clear hk
          go_wp2_with (with_reducible refine stopOne rfl ?_)
          refine Lib.hid ?_
          clear x0 y0 y1 y2
          refine wpList_snoc (e := 168) (base := W0.heap.size) (Q := fun _ => False) (r := rResult) rfl rfl _ _ 136 _ rfl rfl rfl (.agg #[.int .i64 0, .int .i64 0, .int .i64 0]) 3 24 Try.underlying136 infoRes rfl (by decide) rfl _ (spawnsOf (l.take j) (done.take j)) HACC.out r _ (by exact rfl) (rResult_agg W0'.out.1 W0'.out.2.1 W0'.out.2.2) (by exact rfl) (by exact rfl) (by have := HLX.out; have := HL.out; unfold maxLen; omega) (by have := HLX.out; have := HL.out; omega) HBR.out.size ?_
          intro s1 w1 hacc1 hgr1 hat1
          have HA1 := Lib.hid hacc1
          have HB1 := Lib.hid (Rep.acc_below HACC.out HBR.out hgr1 HBR.out.size)
          clear hacc1 hgr1 hat1
          go_wp2_with fail
          exact ⟨⟨j + 1, by go_num, by omega, by omega, Lib.hid (by rw [HN.out]; exact HA1.out), HB1⟩, by simp [intOf]; omega⟩
        · skip
          have hk0 : (x.kind == 0) = false := by simp [hk]
          rw [if_neg hk, List.append_nil] at HN
          clear hk
          go_wp2_with fail
          exact ⟨⟨j + 1, by go_num, by omega, by omega, Lib.hid (by rw [HN.out]; exact HACC.out), HBR⟩, by simp [intOf]; omega⟩
      · skip
        have HSP := Lib.hid (spawns_end (l := l) (done := done) (i := j) (.inr (by omega)))
        rw [HSP.out] at HACC
        have hsl := spawns_len (l := l) (done := done)
        obtain ⟨q, hq⟩ : ∃ q, spawnsOf l done = q := ⟨_, rfl⟩
        rw [hq] at HACC hsl
        have HQ := Lib.hid hq
        clear hq HSP
        obtain ⟨A8, c8, rfl, h81, h82⟩ := Rep.acc_form HACC.out
        unfold maxLen at h82
        have S1 := Lib.hid (show Only (Box w 1) W0 wr from Only.of_below HBR.out)
        have O1 := Lib.hid (O0.out.trans S1.out)
        have R0_1 := Lib.hid (row_call HBR.out R0_0.out)
        by_cases h0 : k < 0
        · have HE := Lib.hid (findS_neg (l := l) (done := done) h0)
          obtain ⟨q0_0, z0_0, q0_1, z0_1⟩ := rw2 R0_1.out
          go_wp2_with fail
          clear q0_0 z0_0 q0_1 z0_1
          refine nm_post (fun wz hnm => ?_)
          have S2 := Lib.hid (show Only (Box w 1) wr wz from (by rw [hnm]; exact ((Only.refl (Box w 1) wr).put ⟨by omega, by omega⟩).put ⟨by omega, by omega⟩))
          have O2 := Lib.hid (O1.out.trans S2.out)
          have R0_2 := Lib.hid (show wz.heap[w.heap.size]? = some (.cells #[.int .i64 0, .int .i64 0] 114 (0, 0)) from (by rw [hnm]; exact heap_setRow (heap_setRow (R0_1.out))))
          clear hnm
          obtain ⟨q0_0, q0_1⟩ := cl2 R0_2.out
          refine ⟨rfl, .tuple #[.agg #[.int .i64 0, .int .i64 0], .bool false], by simp only [results, hfr]; go_simp, ?_⟩
          clear q0_0 q0_1
          exact ⟨by rw [HE.out]; rfl, Only.fin HB0.out O2.out⟩
        by_cases h1 : (q.length : Int) ≤ k
        · have HE := Lib.hid (findS_high (l := l) (done := done) (by rw [HQ.out]; exact h1))
          obtain ⟨q0_0, z0_0, q0_1, z0_1⟩ := rw2 R0_1.out
          go_wp2_with fail
          clear q0_0 z0_0 q0_1 z0_1
          refine nm_post (fun wz hnm => ?_)
          have S2 := Lib.hid (show Only (Box w 1) wr wz from (by rw [hnm]; exact ((Only.refl (Box w 1) wr).put ⟨by omega, by omega⟩).put ⟨by omega, by omega⟩))
          have O2 := Lib.hid (O1.out.trans S2.out)
          have R0_2 := Lib.hid (show wz.heap[w.heap.size]? = some (.cells #[.int .i64 0, .int .i64 0] 114 (0, 0)) from (by rw [hnm]; exact heap_setRow (heap_setRow (R0_1.out))))
          clear hnm
          obtain ⟨q0_0, q0_1⟩ := cl2 R0_2.out
          refine ⟨rfl, .tuple #[.agg #[.int .i64 0, .int .i64 0], .bool false], by simp only [results, hfr]; go_simp, ?_⟩
          clear q0_0 q0_1
          exact ⟨by rw [HE.out]; rfl, Only.fin HB0.out O2.out⟩
        obtain ⟨m, rfl⟩ : ∃ m : Nat, k = (m : Int) := ⟨k.toNat, by omega⟩
        obtain ⟨r, hr⟩ : ∃ r, q[m]? = some r := ⟨_, List.getElem?_eq_getElem (by omega)⟩
        have HF := Lib.hid (findS_at (l := l) (done := done) (k := m) (r := r) (by rw [HQ.out]; exact hr))
        obtain ⟨g8, cap8, es8, he8, hg8, _, _, _, hrd8, hce8, _⟩ := acc_get HACC.out hr
        cases he8
        obtain ⟨rfl, _⟩ := rResult_open hrd8
        have k0 := hce8 0 _ rfl
        have k1 := hce8 1 _ rfl
        have k2 := hce8 2 _ rfl
        rw [rResult_size] at k0 k1 k2
        rw [Nat.add_zero] at k0
        have hmq : (m : Int) < q.length := by omega
        clear hr hg8 hrd8 hce8
        by_cases he : r.err = 0
        · have HE := Lib.hid (HF.out.trans (if_pos he))
          have he0 : (r.err == 0) = true := by simp [he]
          have he1 : (r.err != 0) = false := by simp [he]
          clear he
          obtain ⟨q0_0, z0_0, q0_1, z0_1⟩ := rw2 R0_1.out
          go_wp2_with fail
          clear k0 k1 k2
          clear q0_0 z0_0 q0_1 z0_1
          refine nm_post (fun wz hnm => ?_)
          have S2 := Lib.hid (show Only (Box w 1) wr wz from (by rw [hnm]; exact ((Only.refl (Box w 1) wr).put ⟨by omega, by omega⟩).put ⟨by omega, by omega⟩))
          have O2 := Lib.hid (O1.out.trans S2.out)
          have R0_2 := Lib.hid (show wz.heap[w.heap.size]? = some (.cells #[.int .i64 r.id.index, .int .i64 r.id.gen] 114 (0, 0)) from (by rw [hnm]; exact heap_setRow (heap_setRow (R0_1.out))))
          clear hnm
          obtain ⟨q0_0, q0_1⟩ := cl2 R0_2.out
          refine ⟨rfl, .tuple #[.agg #[.int .i64 r.id.index, .int .i64 r.id.gen], .bool true], by simp only [results, hfr]; go_simp, ?_⟩
          clear q0_0 q0_1
          exact ⟨by rw [HE.out]; rfl, Only.fin HB0.out O2.out⟩
        · have HE := Lib.hid (HF.out.trans (if_neg he))
          have he0 : (r.err == 0) = false := by simp [he]
          have he1 : (r.err != 0) = true := by simp [he]
          clear he
          obtain ⟨q0_0, z0_0, q0_1, z0_1⟩ := rw2 R0_1.out
          go_wp2_with fail
          clear k0 k1 k2
          clear q0_0 z0_0 q0_1 z0_1
          refine nm_post (fun wz hnm => ?_)
          have S2 := Lib.hid (show Only (Box w 1) wr wz from (by rw [hnm]; exact ((Only.refl (Box w 1) wr).put ⟨by omega, by omega⟩).put ⟨by omega, by omega⟩))
          have O2 := Lib.hid (O1.out.trans S2.out)
          have R0_2 := Lib.hid (show wz.heap[w.heap.size]? = some (.cells #[.int .i64 0, .int .i64 0] 114 (0, 0)) from (by rw [hnm]; exact heap_setRow (heap_setRow (R0_1.out))))
          clear hnm
          obtain ⟨q0_0, q0_1⟩ := cl2 R0_2.out
          refine ⟨rfl, .tuple #[.agg #[.int .i64 0, .int .i64 0], .bool false], by simp only [results, hfr]; go_simp, ?_⟩
          clear q0_0 q0_1
          exact ⟨by rw [HE.out]; rfl, Only.fin HB0.out O2.out⟩
    · skip
      have HSP := Lib.hid (spawns_end (l := l) (done := done) (i := j) (.inl (by omega)))
      rw [HSP.out] at HACC
      have hsl := spawns_len (l := l) (done := done)
      obtain ⟨q, hq⟩ : ∃ q, spawnsOf l done = q := ⟨_, rfl⟩
      rw [hq] at HACC hsl
      have HQ := Lib.hid hq
      clear hq HSP
      obtain ⟨A8, c8, rfl, h81, h82⟩ := Rep.acc_form HACC.out
      unfold maxLen at h82
      have S1 := Lib.hid (show Only (Box w 1) W0 wr from Only.of_below HBR.out)
      have O1 := Lib.hid (O0.out.trans S1.out)
      have R0_1 := Lib.hid (row_call HBR.out R0_0.out)
      by_cases h0 : k < 0
      · have HE := Lib.hid (findS_neg (l := l) (done := done) h0)
        obtain ⟨q0_0, z0_0, q0_1, z0_1⟩ := rw2 R0_1.out
        go_wp2_with fail
        clear q0_0 z0_0 q0_1 z0_1
        refine nm_post (fun wz hnm => ?_)
        have S2 := Lib.hid (show Only (Box w 1) wr wz from (by rw [hnm]; exact ((Only.refl (Box w 1) wr).put ⟨by omega, by omega⟩).put ⟨by omega, by omega⟩))
        have O2 := Lib.hid (O1.out.trans S2.out)
        have R0_2 := Lib.hid (show wz.heap[w.heap.size]? = some (.cells #[.int .i64 0, .int .i64 0] 114 (0, 0)) from (by rw [hnm]; exact heap_setRow (heap_setRow (R0_1.out))))
        clear hnm
        obtain ⟨q0_0, q0_1⟩ := cl2 R0_2.out
        refine ⟨rfl, .tuple #[.agg #[.int .i64 0, .int .i64 0], .bool false], by simp only [results, hfr]; go_simp, ?_⟩
        clear q0_0 q0_1
        exact ⟨by rw [HE.out]; rfl, Only.fin HB0.out O2.out⟩
      by_cases h1 : (q.length : Int) ≤ k
      · have HE := Lib.hid (findS_high (l := l) (done := done) (by rw [HQ.out]; exact h1))
        obtain ⟨q0_0, z0_0, q0_1, z0_1⟩ := rw2 R0_1.out
        go_wp2_with fail
        clear q0_0 z0_0 q0_1 z0_1
        refine nm_post (fun wz hnm => ?_)
        have S2 := Lib.hid (show Only (Box w 1) wr wz from (by rw [hnm]; exact ((Only.refl (Box w 1) wr).put ⟨by omega, by omega⟩).put ⟨by omega, by omega⟩))
        have O2 := Lib.hid (O1.out.trans S2.out)
        have R0_2 := Lib.hid (show wz.heap[w.heap.size]? = some (.cells #[.int .i64 0, .int .i64 0] 114 (0, 0)) from (by rw [hnm]; exact heap_setRow (heap_setRow (R0_1.out))))
        clear hnm
        obtain ⟨q0_0, q0_1⟩ := cl2 R0_2.out
        refine ⟨rfl, .tuple #[.agg #[.int .i64 0, .int .i64 0], .bool false], by simp only [results, hfr]; go_simp, ?_⟩
        clear q0_0 q0_1
        exact ⟨by rw [HE.out]; rfl, Only.fin HB0.out O2.out⟩
      obtain ⟨m, rfl⟩ : ∃ m : Nat, k = (m : Int) := ⟨k.toNat, by omega⟩
      obtain ⟨r, hr⟩ : ∃ r, q[m]? = some r := ⟨_, List.getElem?_eq_getElem (by omega)⟩
      have HF := Lib.hid (findS_at (l := l) (done := done) (k := m) (r := r) (by rw [HQ.out]; exact hr))
      obtain ⟨g8, cap8, es8, he8, hg8, _, _, _, hrd8, hce8, _⟩ := acc_get HACC.out hr
      cases he8
      obtain ⟨rfl, _⟩ := rResult_open hrd8
      have k0 := hce8 0 _ rfl
      have k1 := hce8 1 _ rfl
      have k2 := hce8 2 _ rfl
      rw [rResult_size] at k0 k1 k2
      rw [Nat.add_zero] at k0
      have hmq : (m : Int) < q.length := by omega
      clear hr hg8 hrd8 hce8
      by_cases he : r.err = 0
      · have HE := Lib.hid (HF.out.trans (if_pos he))
        have he0 : (r.err == 0) = true := by simp [he]
        have he1 : (r.err != 0) = false := by simp [he]
        clear he
        obtain ⟨q0_0, z0_0, q0_1, z0_1⟩ := rw2 R0_1.out
        go_wp2_with fail
        clear k0 k1 k2
        clear q0_0 z0_0 q0_1 z0_1
        refine nm_post (fun wz hnm => ?_)
        have S2 := Lib.hid (show Only (Box w 1) wr wz from (by rw [hnm]; exact ((Only.refl (Box w 1) wr).put ⟨by omega, by omega⟩).put ⟨by omega, by omega⟩))
        have O2 := Lib.hid (O1.out.trans S2.out)
        have R0_2 := Lib.hid (show wz.heap[w.heap.size]? = some (.cells #[.int .i64 r.id.index, .int .i64 r.id.gen] 114 (0, 0)) from (by rw [hnm]; exact heap_setRow (heap_setRow (R0_1.out))))
        clear hnm
        obtain ⟨q0_0, q0_1⟩ := cl2 R0_2.out
        refine ⟨rfl, .tuple #[.agg #[.int .i64 r.id.index, .int .i64 r.id.gen], .bool true], by simp only [results, hfr]; go_simp, ?_⟩
        clear q0_0 q0_1
        exact ⟨by rw [HE.out]; rfl, Only.fin HB0.out O2.out⟩
      · have HE := Lib.hid (HF.out.trans (if_neg he))
        have he0 : (r.err == 0) = false := by simp [he]
        have he1 : (r.err != 0) = true := by simp [he]
        clear he
        obtain ⟨q0_0, z0_0, q0_1, z0_1⟩ := rw2 R0_1.out
        go_wp2_with fail
        clear k0 k1 k2
        clear q0_0 z0_0 q0_1 z0_1
        refine nm_post (fun wz hnm => ?_)
        have S2 := Lib.hid (show Only (Box w 1) wr wz from (by rw [hnm]; exact ((Only.refl (Box w 1) wr).put ⟨by omega, by omega⟩).put ⟨by omega, by omega⟩))
        have O2 := Lib.hid (O1.out.trans S2.out)
        have R0_2 := Lib.hid (show wz.heap[w.heap.size]? = some (.cells #[.int .i64 0, .int .i64 0] 114 (0, 0)) from (by rw [hnm]; exact heap_setRow (heap_setRow (R0_1.out))))
        clear hnm
        obtain ⟨q0_0, q0_1⟩ := cl2 R0_2.out
        refine ⟨rfl, .tuple #[.agg #[.int .i64 0, .int .i64 0], .bool false], by simp only [results, hfr]; go_simp, ?_⟩
        clear q0_0 q0_1
        exact ⟨by rw [HE.out]; rfl, Only.fin HB0.out O2.out⟩
end Go.Proofs.Yteljibjbndpncaa
