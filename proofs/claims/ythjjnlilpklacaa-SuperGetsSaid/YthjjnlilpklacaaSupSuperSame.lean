/- Walks of the sameness of superblocks. Printed by gen_supersame.py. -/
import Derived.Test.YthjjnlilpklacaaSupRDirGet
import Derived.Test.YthjjnlilpklacaaSupSame
import Derived.Test.YthjjnlilpklacaaSupSealGet
import Derived.Test.YthjjnlilpklacaaSupSuperPut
namespace Go.Proofs.Ythjjnlilpklacaa
open Go.RowKit

set_option maxRecDepth 100000 in
set_option maxHeartbeats 1000000 in
/-- slices.Equal of ints -/
theorem equalInts {Q Q' : Nat → Prop} {w : World} {v u : Value} {xs ys : List Int} (hx : (Rep.int .i64).list.val Q w v xs) (hy : (Rep.int .i64).list.val Q' w u ys) :
    Calls Try.prog 129 #[v, u] w fun e w' => e = .returned (.bool (decide (xs = ys))) ∧ ∃ n, w' = w.drewN n := by
  obtain ⟨A, c, rfl, hc1, hc2, hA⟩ := Rep.val_list hx
  obtain ⟨B, d, rfl, hd1, hd2, hB⟩ := Rep.val_list hy
  clear hx hy
  unfold maxLen at hc2 hd2
  by_cases hlen : xs.length = ys.length
  · have hne : ((xs.length : Int) != (ys.length : Int)) = false := by simp [hlen]
    have H := Lib.hid hlen
    clear hlen
    go_enter Try.func129, Try.ntmps129
    go_wp2_with fail
    go_loopw [13] (fun i wr => ∃ k : Nat, i = .int .i64 k ∧ k ≤ xs.length ∧ xs.take k = ys.take k ∧ ∃ n, w.drewN n = wr) (fun i _ => xs.length - (intOf i).toNat)
    case atStart => exact ⟨0, rfl, Nat.zero_le _, by simp, 0, rfl⟩
    case round =>
      obtain ⟨k, rfl, hk, htk, n, rfl⟩ := hrel
      by_cases hlt : k < xs.length
      · obtain ⟨b, off, rfl, cx, wx⟩ := hA.int (List.getElem?_eq_getElem hlt)
        have hlt' : k < ys.length := by rw [← H.out]; exact hlt
        obtain ⟨b', off', rfl, cy, wy⟩ := hB.int (List.getElem?_eq_getElem hlt')
        have T := Lib.hid htk
        clear htk
        have i1 : (k : Int) < (xs.length : Int) := by omega
        have i2 : (k : Int) < (ys.length : Int) := by omega
        generalize hX : xs[k] = x at *
        generalize hY : ys[k] = y at *
        have HX := Lib.hid hX
        have HY := Lib.hid hY
        clear hX hY
        by_cases hxy : x = y
        · have g1 : (x != y) = false := by simp [hxy]
          have HXY := Lib.hid hxy
          clear hxy
          go_wp2_with fail
          go_quiet (fail)
          go_wp2_with fail
          go_roundw
          case rel => exact ⟨k + 1, by go_num, by omega, by rw [List.take_succ_eq_append_getElem hlt, List.take_succ_eq_append_getElem hlt', T.out, HX.out, HY.out, HXY.out], _, rfl⟩
          case measure => simp [intOf]; omega
        · have g1 : (x != y) = true := by simp [hxy]
          have HXY := Lib.hid hxy
          clear hxy
          go_wp2_with fail
          go_quiet (fail)
          go_wp2_with fail
          go_ret
          refine ⟨?_, by rw [World.drewN_drewN]; exact ⟨_, rfl⟩⟩
          have : ¬ xs = ys := by rintro rfl; exact HXY.out (HX.out.symm.trans HY.out)
          simp [this]
      · have hk' : k = xs.length := by omega
        have hall : xs = ys := by rw [← List.take_length (l := xs), ← hk', htk, hk', H.out, List.take_length]
        have HA := Lib.hid hall
        have HK := Lib.hid hk'
        clear hall hk' htk
        have i1 : ¬ (k : Int) < (xs.length : Int) := by omega
        go_wp2_with fail
        go_ret
        exact ⟨by simp [HA.out], _, rfl⟩
  · have hne : ((xs.length : Int) != (ys.length : Int)) = true := by simp; omega
    have H := Lib.hid hlen
    clear hlen
    go_enter Try.func129, Try.ntmps129
    go_wp2_with fail
    go_ret
    refine ⟨?_, 0, rfl⟩
    have : ¬ xs = ys := by rintro rfl; exact H.out rfl
    simp [this]

theorem super_first {x y : DSuper} (h : x.dir ≠ y.dir) : decide (x = y) = false := decide_eq_false (by rintro rfl; exact h rfl)

set_option maxRecDepth 100000 in
set_option maxHeartbeats 2000000 in
/-- r26.Same -/
theorem rsuperSame_calls {Q Q' : Nat → Prop} {w : World} {v u : Value} {x y : DSuper} (hx : rSuper.val Q w v x) (hy : rSuper.val Q' w u y) :
    Calls Try.prog 75 #[v, u] w fun e w' => e = .returned (.bool (decide (x = y))) ∧ Below w.heap.size w w' := by
  obtain ⟨A, c, rfl, _, _, _, _, _, _, _, hs⟩ := rSuper_val hx
  obtain ⟨B, d, rfl, _, _, _, _, _, _, _, ht⟩ := rSuper_val hy
  obtain ⟨W1, hW1⟩ : ∃ W1, w.alloc (.cells #[.int .i64 x.epoch, .int .i64 x.gen, .int .i64 x.log, .int .i64 x.pages, .int .i64 x.head, .int .i64 x.seq, .int .i64 x.long, .slice A x.dir.length c] 114) = W1 := ⟨_, rfl⟩
  have hb1 : Below w.heap.size w W1 := by rw [← hW1]; exact (Below.refl _ _).alloc (Nat.le_refl _) _
  have hz1 : W1.heap.size = w.heap.size + 1 := by rw [← hW1]; simp
  have hm1 : SuperBox W1 w.heap.size x A c := by rw [← hW1]; exact SuperBox.made hs _
  obtain ⟨W2, hW2⟩ : ∃ W2, W1.alloc (.cells #[.int .i64 y.epoch, .int .i64 y.gen, .int .i64 y.log, .int .i64 y.pages, .int .i64 y.head, .int .i64 y.seq, .int .i64 y.long, .slice B y.dir.length d] 114) = W2 := ⟨_, rfl⟩
  have hb2 : Below W1.heap.size W1 W2 := by rw [← hW2]; exact (Below.refl _ _).alloc (Nat.le_refl _) _
  have hm2 : SuperBox W2 (w.heap.size + 1) y B d := by
    rw [← hW2, ← hz1]; exact SuperBox.made (Q := Q') (ht.keep fun b h1 h2 => ⟨h1, hb1.block b h2.lt⟩) _
  have hB : Below w.heap.size w W2 := hb1.trans (hb2.mono hb1.size)
  have M1 := hm1.later (hb2.mono (Nat.le_of_eq hz1.symm))
  obtain ⟨c0, c1, c2, c3, c4, c5, c6, c7, sc⟩ := M1
  obtain ⟨d0, d1, d2, d3, d4, d5, d6, d7, sd⟩ := hm2
  have r1 : W1.heap[w.heap.size]? = some (.cells #[.int .i64 x.epoch, .int .i64 x.gen, .int .i64 x.log, .int .i64 x.pages, .int .i64 x.head, .int .i64 x.seq, .int .i64 x.long, .slice A x.dir.length c] 114 (0, 0)) := by rw [← hW1]; exact heap_alloc_new _ _
  have r2 : W2.heap[w.heap.size + 1]? = some (.cells #[.int .i64 y.epoch, .int .i64 y.gen, .int .i64 y.log, .int .i64 y.pages, .int .i64 y.head, .int .i64 y.seq, .int .i64 y.long, .slice B y.dir.length d] 114 (0, 0)) := by rw [← hW2, ← hz1]; exact heap_alloc_new _ _
  have R1 := Lib.hid (show W2.frozen? ⟨w.heap.size, 7, none⟩ = false from frozen_row ((hb2.block _ (by omega)).trans r1) 7)
  have R2 := Lib.hid (show W2.frozen? ⟨w.heap.size + 1, 7, none⟩ = false from frozen_row r2 7)
  have HB := Lib.hid hB
  have HZ := Lib.hid hz1
  have HS := Lib.hid (show ∀ n, Calls Try.prog 37 #[.slice A x.dir.length c, .slice B y.dir.length d] (W2.drewN n) fun e w' => e = .returned (.bool (decide (x.dir = y.dir))) ∧ ∃ m, w' = (W2.drewN n).drewN m from
    fun n => sameList (Rep.val_keep (w := W2) (fun _ h _ => ⟨h, rfl⟩) sc.val) (Rep.val_keep (w := W2) (fun _ h _ => ⟨h, rfl⟩) sd.val))
  clear hx hy hs ht hb1 hb2 hB hm1 sc sd r1 r2
  by_cases h0 : x.epoch = y.epoch
  case neg =>
    have g0 : (x.epoch == y.epoch) = false := by simp [h0]
    have HE := Lib.hid (show decide (x = y) = false from decide_eq_false (by rintro rfl; exact h0 rfl))
    clear h0
    go_enter Try.func75, Try.ntmps75
    go_wp2_with fail
    try rw [hW1]
    go_wp2_with fail
    try rw [hW2]
    clear hW1 hW2 hz1
    go_wp2_with fail
    go_ret
    exact ⟨by first | (rw [HE.out]; done) | (rw [HE.out]; rfl), HB.out⟩
  have g0 : (x.epoch == y.epoch) = true := by simp [h0]
  have H0 := Lib.hid h0
  clear h0
  by_cases h1 : x.gen = y.gen
  case neg =>
    have g1 : (x.gen == y.gen) = false := by simp [h1]
    have HE := Lib.hid (show decide (x = y) = false from decide_eq_false (by rintro rfl; exact h1 rfl))
    clear h1
    go_enter Try.func75, Try.ntmps75
    go_wp2_with fail
    try rw [hW1]
    go_wp2_with fail
    try rw [hW2]
    clear hW1 hW2 hz1
    go_wp2_with fail
    go_ret
    exact ⟨by first | (rw [HE.out]; done) | (rw [HE.out]; rfl), HB.out⟩
  have g1 : (x.gen == y.gen) = true := by simp [h1]
  have H1 := Lib.hid h1
  clear h1
  by_cases h2 : x.log = y.log
  case neg =>
    have g2 : (x.log == y.log) = false := by simp [h2]
    have HE := Lib.hid (show decide (x = y) = false from decide_eq_false (by rintro rfl; exact h2 rfl))
    clear h2
    go_enter Try.func75, Try.ntmps75
    go_wp2_with fail
    try rw [hW1]
    go_wp2_with fail
    try rw [hW2]
    clear hW1 hW2 hz1
    go_wp2_with fail
    go_ret
    exact ⟨by first | (rw [HE.out]; done) | (rw [HE.out]; rfl), HB.out⟩
  have g2 : (x.log == y.log) = true := by simp [h2]
  have H2 := Lib.hid h2
  clear h2
  by_cases h3 : x.pages = y.pages
  case neg =>
    have g3 : (x.pages == y.pages) = false := by simp [h3]
    have HE := Lib.hid (show decide (x = y) = false from decide_eq_false (by rintro rfl; exact h3 rfl))
    clear h3
    go_enter Try.func75, Try.ntmps75
    go_wp2_with fail
    try rw [hW1]
    go_wp2_with fail
    try rw [hW2]
    clear hW1 hW2 hz1
    go_wp2_with fail
    go_ret
    exact ⟨by first | (rw [HE.out]; done) | (rw [HE.out]; rfl), HB.out⟩
  have g3 : (x.pages == y.pages) = true := by simp [h3]
  have H3 := Lib.hid h3
  clear h3
  by_cases h4 : x.head = y.head
  case neg =>
    have g4 : (x.head == y.head) = false := by simp [h4]
    have HE := Lib.hid (show decide (x = y) = false from decide_eq_false (by rintro rfl; exact h4 rfl))
    clear h4
    go_enter Try.func75, Try.ntmps75
    go_wp2_with fail
    try rw [hW1]
    go_wp2_with fail
    try rw [hW2]
    clear hW1 hW2 hz1
    go_wp2_with fail
    go_ret
    exact ⟨by first | (rw [HE.out]; done) | (rw [HE.out]; rfl), HB.out⟩
  have g4 : (x.head == y.head) = true := by simp [h4]
  have H4 := Lib.hid h4
  clear h4
  by_cases h5 : x.seq = y.seq
  case neg =>
    have g5 : (x.seq == y.seq) = false := by simp [h5]
    have HE := Lib.hid (show decide (x = y) = false from decide_eq_false (by rintro rfl; exact h5 rfl))
    clear h5
    go_enter Try.func75, Try.ntmps75
    go_wp2_with fail
    try rw [hW1]
    go_wp2_with fail
    try rw [hW2]
    clear hW1 hW2 hz1
    go_wp2_with fail
    go_ret
    exact ⟨by first | (rw [HE.out]; done) | (rw [HE.out]; rfl), HB.out⟩
  have g5 : (x.seq == y.seq) = true := by simp [h5]
  have H5 := Lib.hid h5
  clear h5
  by_cases h6 : x.long = y.long
  case neg =>
    have g6 : (x.long == y.long) = false := by simp [h6]
    have HE := Lib.hid (show decide (x = y) = false from decide_eq_false (by rintro rfl; exact h6 rfl))
    clear h6
    go_enter Try.func75, Try.ntmps75
    go_wp2_with fail
    try rw [hW1]
    go_wp2_with fail
    try rw [hW2]
    clear hW1 hW2 hz1
    go_wp2_with fail
    go_ret
    exact ⟨by first | (rw [HE.out]; done) | (rw [HE.out]; rfl), HB.out⟩
  have g6 : (x.long == y.long) = true := by simp [h6]
  have H6 := Lib.hid h6
  clear h6
  have HE := Lib.hid (show decide (x.dir = y.dir) = decide (x = y) from by
    have e : x.dir = y.dir ↔ x = y := ⟨fun h => DSuper.ext H0.out H1.out H2.out H3.out H4.out H5.out H6.out h, fun h => by rw [h]⟩
    simp only [e])
  go_enter Try.func75, Try.ntmps75
  go_wp2_with fail
  try rw [hW1]
  go_wp2_with fail
  try rw [hW2]
  clear hW1 hW2 hz1
  go_wp2_with fail
  refine (HS.out 0).mono ?_
  rintro e w1 ⟨rfl, n, rfl⟩
  have HB2 := Lib.hid (show Below w.heap.size w ((W2.drewN 0).drewN n) from below_drewN (below_drewN HB.out 0) n)
  go_wp2_with fail
  go_ret
  exact ⟨by rw [← HE.out]; first | rfl | simp, HB2.out⟩

set_option maxRecDepth 100000 in
set_option maxHeartbeats 2000000 in
/-- super.Same -/
theorem superSame_calls {Q Q' : Nat → Prop} {w : World} {v u : Value} {x y : DSuper} (hx : rSuper.val Q w v x) (hy : rSuper.val Q' w u y) :
    Calls Try.prog 76 #[v, u] w fun e w' => e = .returned (.bool (decide (x = y))) ∧ Below w.heap.size w w' := by
  obtain ⟨A, c, rfl, _, _, _, _, _, _, _, hs⟩ := rSuper_val hx
  obtain ⟨B, d, rfl, _, _, _, _, _, _, _, ht⟩ := rSuper_val hy
  obtain ⟨W1, hW1⟩ : ∃ W1, w.alloc (.cells #[.int .i64 x.epoch, .int .i64 x.gen, .int .i64 x.log, .int .i64 x.pages, .int .i64 x.head, .int .i64 x.seq, .int .i64 x.long, .slice A x.dir.length c] 114) = W1 := ⟨_, rfl⟩
  have hb1 : Below w.heap.size w W1 := by rw [← hW1]; exact (Below.refl _ _).alloc (Nat.le_refl _) _
  have hz1 : W1.heap.size = w.heap.size + 1 := by rw [← hW1]; simp
  have hm1 : SuperBox W1 w.heap.size x A c := by rw [← hW1]; exact SuperBox.made hs _
  obtain ⟨W2, hW2⟩ : ∃ W2, W1.alloc (.cells #[.int .i64 y.epoch, .int .i64 y.gen, .int .i64 y.log, .int .i64 y.pages, .int .i64 y.head, .int .i64 y.seq, .int .i64 y.long, .slice B y.dir.length d] 114) = W2 := ⟨_, rfl⟩
  have hb2 : Below W1.heap.size W1 W2 := by rw [← hW2]; exact (Below.refl _ _).alloc (Nat.le_refl _) _
  have hm2 : SuperBox W2 (w.heap.size + 1) y B d := by
    rw [← hW2, ← hz1]; exact SuperBox.made (Q := Q') (ht.keep fun b h1 h2 => ⟨h1, hb1.block b h2.lt⟩) _
  have hB : Below w.heap.size w W2 := hb1.trans (hb2.mono hb1.size)
  have M1 := hm1.later (hb2.mono (Nat.le_of_eq hz1.symm))
  obtain ⟨c0, c1, c2, c3, c4, c5, c6, c7, sc⟩ := M1
  obtain ⟨d0, d1, d2, d3, d4, d5, d6, d7, sd⟩ := hm2
  have r1 : W1.heap[w.heap.size]? = some (.cells #[.int .i64 x.epoch, .int .i64 x.gen, .int .i64 x.log, .int .i64 x.pages, .int .i64 x.head, .int .i64 x.seq, .int .i64 x.long, .slice A x.dir.length c] 114 (0, 0)) := by rw [← hW1]; exact heap_alloc_new _ _
  have r2 : W2.heap[w.heap.size + 1]? = some (.cells #[.int .i64 y.epoch, .int .i64 y.gen, .int .i64 y.log, .int .i64 y.pages, .int .i64 y.head, .int .i64 y.seq, .int .i64 y.long, .slice B y.dir.length d] 114 (0, 0)) := by rw [← hW2, ← hz1]; exact heap_alloc_new _ _
  have R1 := Lib.hid (show W2.frozen? ⟨w.heap.size, 7, none⟩ = false from frozen_row ((hb2.block _ (by omega)).trans r1) 7)
  have R2 := Lib.hid (show W2.frozen? ⟨w.heap.size + 1, 7, none⟩ = false from frozen_row r2 7)
  have HB := Lib.hid hB
  have HZ := Lib.hid hz1
  have HS := Lib.hid (show ∀ n, Calls Try.prog 129 #[.slice A x.dir.length c, .slice B y.dir.length d] (W2.drewN n) fun e w' => e = .returned (.bool (decide (x.dir = y.dir))) ∧ ∃ m, w' = (W2.drewN n).drewN m from
    fun n => equalInts (Rep.val_keep (w := W2) (fun _ h _ => ⟨h, rfl⟩) sc.val) (Rep.val_keep (w := W2) (fun _ h _ => ⟨h, rfl⟩) sd.val))
  clear hx hy hs ht hb1 hb2 hB hm1 sc sd r1 r2
  by_cases h7 : x.dir = y.dir
  case neg =>
    have HQ := Lib.hid (show decide (x.dir = y.dir) = false from decide_eq_false h7)
    have HE := Lib.hid (show decide (x = y) = false from super_first h7)
    clear h7
    go_enter Try.func76, Try.ntmps76
    go_wp2_with fail
    try rw [hW1]
    go_wp2_with fail
    try rw [hW2]
    clear hW1 hW2 hz1
    go_wp2_with fail
    refine (HS.out 0).mono ?_
    rintro e w1 ⟨rfl, n, rfl⟩
    have HB2 := Lib.hid (show Below w.heap.size w ((W2.drewN 0).drewN n) from below_drewN (below_drewN HB.out 0) n)
    rw [HQ.out]
    obtain ⟨W3, hW3⟩ : ∃ W3, (W2.drewN 0).drewN n = W3 := ⟨_, rfl⟩
    have e0 : W3.cell? ⟨w.heap.size, 0, none⟩ = some (.int .i64 x.epoch) := by rw [← hW3]; exact c0
    have f0 : W3.cell? ⟨w.heap.size + 1, 0, none⟩ = some (.int .i64 y.epoch) := by rw [← hW3]; exact d0
    have e1 : W3.cell? ⟨w.heap.size, 1, none⟩ = some (.int .i64 x.gen) := by rw [← hW3]; exact c1
    have f1 : W3.cell? ⟨w.heap.size + 1, 1, none⟩ = some (.int .i64 y.gen) := by rw [← hW3]; exact d1
    have e2 : W3.cell? ⟨w.heap.size, 2, none⟩ = some (.int .i64 x.log) := by rw [← hW3]; exact c2
    have f2 : W3.cell? ⟨w.heap.size + 1, 2, none⟩ = some (.int .i64 y.log) := by rw [← hW3]; exact d2
    have e3 : W3.cell? ⟨w.heap.size, 3, none⟩ = some (.int .i64 x.pages) := by rw [← hW3]; exact c3
    have f3 : W3.cell? ⟨w.heap.size + 1, 3, none⟩ = some (.int .i64 y.pages) := by rw [← hW3]; exact d3
    have e4 : W3.cell? ⟨w.heap.size, 4, none⟩ = some (.int .i64 x.head) := by rw [← hW3]; exact c4
    have f4 : W3.cell? ⟨w.heap.size + 1, 4, none⟩ = some (.int .i64 y.head) := by rw [← hW3]; exact d4
    have e5 : W3.cell? ⟨w.heap.size, 5, none⟩ = some (.int .i64 x.seq) := by rw [← hW3]; exact c5
    have f5 : W3.cell? ⟨w.heap.size + 1, 5, none⟩ = some (.int .i64 y.seq) := by rw [← hW3]; exact d5
    have e6 : W3.cell? ⟨w.heap.size, 6, none⟩ = some (.int .i64 x.long) := by rw [← hW3]; exact c6
    have f6 : W3.cell? ⟨w.heap.size + 1, 6, none⟩ = some (.int .i64 y.long) := by rw [← hW3]; exact d6
    have e7 : W3.cell? ⟨w.heap.size, 7, none⟩ = some (.slice A x.dir.length c) := by rw [← hW3]; exact c7
    have f7 : W3.cell? ⟨w.heap.size + 1, 7, none⟩ = some (.slice B y.dir.length d) := by rw [← hW3]; exact d7
    have z1 : W3.frozen? ⟨w.heap.size, 7, none⟩ = false := by rw [← hW3]; exact R1.out
    have z2 : W3.frozen? ⟨w.heap.size + 1, 7, none⟩ = false := by rw [← hW3]; exact R2.out
    rw [hW3] at HB2 ⊢
    clear c0 d0 c1 d1 c2 d2 c3 d3 c4 d4 c5 d5 c6 d6 c7 d7 hW3 HS
    go_wp2_with fail
    go_ret
    exact ⟨by rw [HE.out]; first | rfl | simp, by first | exact below_set (below_set HB2.out (by omega)) (by omega) | (repeat (refine below_set ?_ (by omega))); exact HB2.out⟩
  have HQ := Lib.hid (show decide (x.dir = y.dir) = true from decide_eq_true h7)
  have H7 := Lib.hid h7
  clear h7
  by_cases h0 : x.epoch = y.epoch
  case neg =>
    have g0 : (x.epoch == y.epoch) = false := by simp [h0]
    have HE := Lib.hid (show decide (x = y) = false from decide_eq_false (by rintro rfl; exact h0 rfl))
    clear h0
    go_enter Try.func76, Try.ntmps76
    go_wp2_with fail
    try rw [hW1]
    go_wp2_with fail
    try rw [hW2]
    clear hW1 hW2 hz1
    go_wp2_with fail
    refine (HS.out 0).mono ?_
    rintro e w1 ⟨rfl, n, rfl⟩
    have HB2 := Lib.hid (show Below w.heap.size w ((W2.drewN 0).drewN n) from below_drewN (below_drewN HB.out 0) n)
    rw [HQ.out]
    obtain ⟨W3, hW3⟩ : ∃ W3, (W2.drewN 0).drewN n = W3 := ⟨_, rfl⟩
    have e0 : W3.cell? ⟨w.heap.size, 0, none⟩ = some (.int .i64 x.epoch) := by rw [← hW3]; exact c0
    have f0 : W3.cell? ⟨w.heap.size + 1, 0, none⟩ = some (.int .i64 y.epoch) := by rw [← hW3]; exact d0
    have e1 : W3.cell? ⟨w.heap.size, 1, none⟩ = some (.int .i64 x.gen) := by rw [← hW3]; exact c1
    have f1 : W3.cell? ⟨w.heap.size + 1, 1, none⟩ = some (.int .i64 y.gen) := by rw [← hW3]; exact d1
    have e2 : W3.cell? ⟨w.heap.size, 2, none⟩ = some (.int .i64 x.log) := by rw [← hW3]; exact c2
    have f2 : W3.cell? ⟨w.heap.size + 1, 2, none⟩ = some (.int .i64 y.log) := by rw [← hW3]; exact d2
    have e3 : W3.cell? ⟨w.heap.size, 3, none⟩ = some (.int .i64 x.pages) := by rw [← hW3]; exact c3
    have f3 : W3.cell? ⟨w.heap.size + 1, 3, none⟩ = some (.int .i64 y.pages) := by rw [← hW3]; exact d3
    have e4 : W3.cell? ⟨w.heap.size, 4, none⟩ = some (.int .i64 x.head) := by rw [← hW3]; exact c4
    have f4 : W3.cell? ⟨w.heap.size + 1, 4, none⟩ = some (.int .i64 y.head) := by rw [← hW3]; exact d4
    have e5 : W3.cell? ⟨w.heap.size, 5, none⟩ = some (.int .i64 x.seq) := by rw [← hW3]; exact c5
    have f5 : W3.cell? ⟨w.heap.size + 1, 5, none⟩ = some (.int .i64 y.seq) := by rw [← hW3]; exact d5
    have e6 : W3.cell? ⟨w.heap.size, 6, none⟩ = some (.int .i64 x.long) := by rw [← hW3]; exact c6
    have f6 : W3.cell? ⟨w.heap.size + 1, 6, none⟩ = some (.int .i64 y.long) := by rw [← hW3]; exact d6
    have e7 : W3.cell? ⟨w.heap.size, 7, none⟩ = some (.slice A x.dir.length c) := by rw [← hW3]; exact c7
    have f7 : W3.cell? ⟨w.heap.size + 1, 7, none⟩ = some (.slice B y.dir.length d) := by rw [← hW3]; exact d7
    have z1 : W3.frozen? ⟨w.heap.size, 7, none⟩ = false := by rw [← hW3]; exact R1.out
    have z2 : W3.frozen? ⟨w.heap.size + 1, 7, none⟩ = false := by rw [← hW3]; exact R2.out
    rw [hW3] at HB2 ⊢
    clear c0 d0 c1 d1 c2 d2 c3 d3 c4 d4 c5 d5 c6 d6 c7 d7 hW3 HS
    go_wp2_with fail
    go_ret
    exact ⟨by rw [HE.out]; first | rfl | simp, by first | exact below_set (below_set HB2.out (by omega)) (by omega) | (repeat (refine below_set ?_ (by omega))); exact HB2.out⟩
  have g0 : (x.epoch == y.epoch) = true := by simp [h0]
  have H0 := Lib.hid h0
  clear h0
  by_cases h1 : x.gen = y.gen
  case neg =>
    have g1 : (x.gen == y.gen) = false := by simp [h1]
    have HE := Lib.hid (show decide (x = y) = false from decide_eq_false (by rintro rfl; exact h1 rfl))
    clear h1
    go_enter Try.func76, Try.ntmps76
    go_wp2_with fail
    try rw [hW1]
    go_wp2_with fail
    try rw [hW2]
    clear hW1 hW2 hz1
    go_wp2_with fail
    refine (HS.out 0).mono ?_
    rintro e w1 ⟨rfl, n, rfl⟩
    have HB2 := Lib.hid (show Below w.heap.size w ((W2.drewN 0).drewN n) from below_drewN (below_drewN HB.out 0) n)
    rw [HQ.out]
    obtain ⟨W3, hW3⟩ : ∃ W3, (W2.drewN 0).drewN n = W3 := ⟨_, rfl⟩
    have e0 : W3.cell? ⟨w.heap.size, 0, none⟩ = some (.int .i64 x.epoch) := by rw [← hW3]; exact c0
    have f0 : W3.cell? ⟨w.heap.size + 1, 0, none⟩ = some (.int .i64 y.epoch) := by rw [← hW3]; exact d0
    have e1 : W3.cell? ⟨w.heap.size, 1, none⟩ = some (.int .i64 x.gen) := by rw [← hW3]; exact c1
    have f1 : W3.cell? ⟨w.heap.size + 1, 1, none⟩ = some (.int .i64 y.gen) := by rw [← hW3]; exact d1
    have e2 : W3.cell? ⟨w.heap.size, 2, none⟩ = some (.int .i64 x.log) := by rw [← hW3]; exact c2
    have f2 : W3.cell? ⟨w.heap.size + 1, 2, none⟩ = some (.int .i64 y.log) := by rw [← hW3]; exact d2
    have e3 : W3.cell? ⟨w.heap.size, 3, none⟩ = some (.int .i64 x.pages) := by rw [← hW3]; exact c3
    have f3 : W3.cell? ⟨w.heap.size + 1, 3, none⟩ = some (.int .i64 y.pages) := by rw [← hW3]; exact d3
    have e4 : W3.cell? ⟨w.heap.size, 4, none⟩ = some (.int .i64 x.head) := by rw [← hW3]; exact c4
    have f4 : W3.cell? ⟨w.heap.size + 1, 4, none⟩ = some (.int .i64 y.head) := by rw [← hW3]; exact d4
    have e5 : W3.cell? ⟨w.heap.size, 5, none⟩ = some (.int .i64 x.seq) := by rw [← hW3]; exact c5
    have f5 : W3.cell? ⟨w.heap.size + 1, 5, none⟩ = some (.int .i64 y.seq) := by rw [← hW3]; exact d5
    have e6 : W3.cell? ⟨w.heap.size, 6, none⟩ = some (.int .i64 x.long) := by rw [← hW3]; exact c6
    have f6 : W3.cell? ⟨w.heap.size + 1, 6, none⟩ = some (.int .i64 y.long) := by rw [← hW3]; exact d6
    have e7 : W3.cell? ⟨w.heap.size, 7, none⟩ = some (.slice A x.dir.length c) := by rw [← hW3]; exact c7
    have f7 : W3.cell? ⟨w.heap.size + 1, 7, none⟩ = some (.slice B y.dir.length d) := by rw [← hW3]; exact d7
    have z1 : W3.frozen? ⟨w.heap.size, 7, none⟩ = false := by rw [← hW3]; exact R1.out
    have z2 : W3.frozen? ⟨w.heap.size + 1, 7, none⟩ = false := by rw [← hW3]; exact R2.out
    rw [hW3] at HB2 ⊢
    clear c0 d0 c1 d1 c2 d2 c3 d3 c4 d4 c5 d5 c6 d6 c7 d7 hW3 HS
    go_wp2_with fail
    go_ret
    exact ⟨by rw [HE.out]; first | rfl | simp, by first | exact below_set (below_set HB2.out (by omega)) (by omega) | (repeat (refine below_set ?_ (by omega))); exact HB2.out⟩
  have g1 : (x.gen == y.gen) = true := by simp [h1]
  have H1 := Lib.hid h1
  clear h1
  by_cases h2 : x.log = y.log
  case neg =>
    have g2 : (x.log == y.log) = false := by simp [h2]
    have HE := Lib.hid (show decide (x = y) = false from decide_eq_false (by rintro rfl; exact h2 rfl))
    clear h2
    go_enter Try.func76, Try.ntmps76
    go_wp2_with fail
    try rw [hW1]
    go_wp2_with fail
    try rw [hW2]
    clear hW1 hW2 hz1
    go_wp2_with fail
    refine (HS.out 0).mono ?_
    rintro e w1 ⟨rfl, n, rfl⟩
    have HB2 := Lib.hid (show Below w.heap.size w ((W2.drewN 0).drewN n) from below_drewN (below_drewN HB.out 0) n)
    rw [HQ.out]
    obtain ⟨W3, hW3⟩ : ∃ W3, (W2.drewN 0).drewN n = W3 := ⟨_, rfl⟩
    have e0 : W3.cell? ⟨w.heap.size, 0, none⟩ = some (.int .i64 x.epoch) := by rw [← hW3]; exact c0
    have f0 : W3.cell? ⟨w.heap.size + 1, 0, none⟩ = some (.int .i64 y.epoch) := by rw [← hW3]; exact d0
    have e1 : W3.cell? ⟨w.heap.size, 1, none⟩ = some (.int .i64 x.gen) := by rw [← hW3]; exact c1
    have f1 : W3.cell? ⟨w.heap.size + 1, 1, none⟩ = some (.int .i64 y.gen) := by rw [← hW3]; exact d1
    have e2 : W3.cell? ⟨w.heap.size, 2, none⟩ = some (.int .i64 x.log) := by rw [← hW3]; exact c2
    have f2 : W3.cell? ⟨w.heap.size + 1, 2, none⟩ = some (.int .i64 y.log) := by rw [← hW3]; exact d2
    have e3 : W3.cell? ⟨w.heap.size, 3, none⟩ = some (.int .i64 x.pages) := by rw [← hW3]; exact c3
    have f3 : W3.cell? ⟨w.heap.size + 1, 3, none⟩ = some (.int .i64 y.pages) := by rw [← hW3]; exact d3
    have e4 : W3.cell? ⟨w.heap.size, 4, none⟩ = some (.int .i64 x.head) := by rw [← hW3]; exact c4
    have f4 : W3.cell? ⟨w.heap.size + 1, 4, none⟩ = some (.int .i64 y.head) := by rw [← hW3]; exact d4
    have e5 : W3.cell? ⟨w.heap.size, 5, none⟩ = some (.int .i64 x.seq) := by rw [← hW3]; exact c5
    have f5 : W3.cell? ⟨w.heap.size + 1, 5, none⟩ = some (.int .i64 y.seq) := by rw [← hW3]; exact d5
    have e6 : W3.cell? ⟨w.heap.size, 6, none⟩ = some (.int .i64 x.long) := by rw [← hW3]; exact c6
    have f6 : W3.cell? ⟨w.heap.size + 1, 6, none⟩ = some (.int .i64 y.long) := by rw [← hW3]; exact d6
    have e7 : W3.cell? ⟨w.heap.size, 7, none⟩ = some (.slice A x.dir.length c) := by rw [← hW3]; exact c7
    have f7 : W3.cell? ⟨w.heap.size + 1, 7, none⟩ = some (.slice B y.dir.length d) := by rw [← hW3]; exact d7
    have z1 : W3.frozen? ⟨w.heap.size, 7, none⟩ = false := by rw [← hW3]; exact R1.out
    have z2 : W3.frozen? ⟨w.heap.size + 1, 7, none⟩ = false := by rw [← hW3]; exact R2.out
    rw [hW3] at HB2 ⊢
    clear c0 d0 c1 d1 c2 d2 c3 d3 c4 d4 c5 d5 c6 d6 c7 d7 hW3 HS
    go_wp2_with fail
    go_ret
    exact ⟨by rw [HE.out]; first | rfl | simp, by first | exact below_set (below_set HB2.out (by omega)) (by omega) | (repeat (refine below_set ?_ (by omega))); exact HB2.out⟩
  have g2 : (x.log == y.log) = true := by simp [h2]
  have H2 := Lib.hid h2
  clear h2
  by_cases h3 : x.pages = y.pages
  case neg =>
    have g3 : (x.pages == y.pages) = false := by simp [h3]
    have HE := Lib.hid (show decide (x = y) = false from decide_eq_false (by rintro rfl; exact h3 rfl))
    clear h3
    go_enter Try.func76, Try.ntmps76
    go_wp2_with fail
    try rw [hW1]
    go_wp2_with fail
    try rw [hW2]
    clear hW1 hW2 hz1
    go_wp2_with fail
    refine (HS.out 0).mono ?_
    rintro e w1 ⟨rfl, n, rfl⟩
    have HB2 := Lib.hid (show Below w.heap.size w ((W2.drewN 0).drewN n) from below_drewN (below_drewN HB.out 0) n)
    rw [HQ.out]
    obtain ⟨W3, hW3⟩ : ∃ W3, (W2.drewN 0).drewN n = W3 := ⟨_, rfl⟩
    have e0 : W3.cell? ⟨w.heap.size, 0, none⟩ = some (.int .i64 x.epoch) := by rw [← hW3]; exact c0
    have f0 : W3.cell? ⟨w.heap.size + 1, 0, none⟩ = some (.int .i64 y.epoch) := by rw [← hW3]; exact d0
    have e1 : W3.cell? ⟨w.heap.size, 1, none⟩ = some (.int .i64 x.gen) := by rw [← hW3]; exact c1
    have f1 : W3.cell? ⟨w.heap.size + 1, 1, none⟩ = some (.int .i64 y.gen) := by rw [← hW3]; exact d1
    have e2 : W3.cell? ⟨w.heap.size, 2, none⟩ = some (.int .i64 x.log) := by rw [← hW3]; exact c2
    have f2 : W3.cell? ⟨w.heap.size + 1, 2, none⟩ = some (.int .i64 y.log) := by rw [← hW3]; exact d2
    have e3 : W3.cell? ⟨w.heap.size, 3, none⟩ = some (.int .i64 x.pages) := by rw [← hW3]; exact c3
    have f3 : W3.cell? ⟨w.heap.size + 1, 3, none⟩ = some (.int .i64 y.pages) := by rw [← hW3]; exact d3
    have e4 : W3.cell? ⟨w.heap.size, 4, none⟩ = some (.int .i64 x.head) := by rw [← hW3]; exact c4
    have f4 : W3.cell? ⟨w.heap.size + 1, 4, none⟩ = some (.int .i64 y.head) := by rw [← hW3]; exact d4
    have e5 : W3.cell? ⟨w.heap.size, 5, none⟩ = some (.int .i64 x.seq) := by rw [← hW3]; exact c5
    have f5 : W3.cell? ⟨w.heap.size + 1, 5, none⟩ = some (.int .i64 y.seq) := by rw [← hW3]; exact d5
    have e6 : W3.cell? ⟨w.heap.size, 6, none⟩ = some (.int .i64 x.long) := by rw [← hW3]; exact c6
    have f6 : W3.cell? ⟨w.heap.size + 1, 6, none⟩ = some (.int .i64 y.long) := by rw [← hW3]; exact d6
    have e7 : W3.cell? ⟨w.heap.size, 7, none⟩ = some (.slice A x.dir.length c) := by rw [← hW3]; exact c7
    have f7 : W3.cell? ⟨w.heap.size + 1, 7, none⟩ = some (.slice B y.dir.length d) := by rw [← hW3]; exact d7
    have z1 : W3.frozen? ⟨w.heap.size, 7, none⟩ = false := by rw [← hW3]; exact R1.out
    have z2 : W3.frozen? ⟨w.heap.size + 1, 7, none⟩ = false := by rw [← hW3]; exact R2.out
    rw [hW3] at HB2 ⊢
    clear c0 d0 c1 d1 c2 d2 c3 d3 c4 d4 c5 d5 c6 d6 c7 d7 hW3 HS
    go_wp2_with fail
    go_ret
    exact ⟨by rw [HE.out]; first | rfl | simp, by first | exact below_set (below_set HB2.out (by omega)) (by omega) | (repeat (refine below_set ?_ (by omega))); exact HB2.out⟩
  have g3 : (x.pages == y.pages) = true := by simp [h3]
  have H3 := Lib.hid h3
  clear h3
  by_cases h4 : x.head = y.head
  case neg =>
    have g4 : (x.head == y.head) = false := by simp [h4]
    have HE := Lib.hid (show decide (x = y) = false from decide_eq_false (by rintro rfl; exact h4 rfl))
    clear h4
    go_enter Try.func76, Try.ntmps76
    go_wp2_with fail
    try rw [hW1]
    go_wp2_with fail
    try rw [hW2]
    clear hW1 hW2 hz1
    go_wp2_with fail
    refine (HS.out 0).mono ?_
    rintro e w1 ⟨rfl, n, rfl⟩
    have HB2 := Lib.hid (show Below w.heap.size w ((W2.drewN 0).drewN n) from below_drewN (below_drewN HB.out 0) n)
    rw [HQ.out]
    obtain ⟨W3, hW3⟩ : ∃ W3, (W2.drewN 0).drewN n = W3 := ⟨_, rfl⟩
    have e0 : W3.cell? ⟨w.heap.size, 0, none⟩ = some (.int .i64 x.epoch) := by rw [← hW3]; exact c0
    have f0 : W3.cell? ⟨w.heap.size + 1, 0, none⟩ = some (.int .i64 y.epoch) := by rw [← hW3]; exact d0
    have e1 : W3.cell? ⟨w.heap.size, 1, none⟩ = some (.int .i64 x.gen) := by rw [← hW3]; exact c1
    have f1 : W3.cell? ⟨w.heap.size + 1, 1, none⟩ = some (.int .i64 y.gen) := by rw [← hW3]; exact d1
    have e2 : W3.cell? ⟨w.heap.size, 2, none⟩ = some (.int .i64 x.log) := by rw [← hW3]; exact c2
    have f2 : W3.cell? ⟨w.heap.size + 1, 2, none⟩ = some (.int .i64 y.log) := by rw [← hW3]; exact d2
    have e3 : W3.cell? ⟨w.heap.size, 3, none⟩ = some (.int .i64 x.pages) := by rw [← hW3]; exact c3
    have f3 : W3.cell? ⟨w.heap.size + 1, 3, none⟩ = some (.int .i64 y.pages) := by rw [← hW3]; exact d3
    have e4 : W3.cell? ⟨w.heap.size, 4, none⟩ = some (.int .i64 x.head) := by rw [← hW3]; exact c4
    have f4 : W3.cell? ⟨w.heap.size + 1, 4, none⟩ = some (.int .i64 y.head) := by rw [← hW3]; exact d4
    have e5 : W3.cell? ⟨w.heap.size, 5, none⟩ = some (.int .i64 x.seq) := by rw [← hW3]; exact c5
    have f5 : W3.cell? ⟨w.heap.size + 1, 5, none⟩ = some (.int .i64 y.seq) := by rw [← hW3]; exact d5
    have e6 : W3.cell? ⟨w.heap.size, 6, none⟩ = some (.int .i64 x.long) := by rw [← hW3]; exact c6
    have f6 : W3.cell? ⟨w.heap.size + 1, 6, none⟩ = some (.int .i64 y.long) := by rw [← hW3]; exact d6
    have e7 : W3.cell? ⟨w.heap.size, 7, none⟩ = some (.slice A x.dir.length c) := by rw [← hW3]; exact c7
    have f7 : W3.cell? ⟨w.heap.size + 1, 7, none⟩ = some (.slice B y.dir.length d) := by rw [← hW3]; exact d7
    have z1 : W3.frozen? ⟨w.heap.size, 7, none⟩ = false := by rw [← hW3]; exact R1.out
    have z2 : W3.frozen? ⟨w.heap.size + 1, 7, none⟩ = false := by rw [← hW3]; exact R2.out
    rw [hW3] at HB2 ⊢
    clear c0 d0 c1 d1 c2 d2 c3 d3 c4 d4 c5 d5 c6 d6 c7 d7 hW3 HS
    go_wp2_with fail
    go_ret
    exact ⟨by rw [HE.out]; first | rfl | simp, by first | exact below_set (below_set HB2.out (by omega)) (by omega) | (repeat (refine below_set ?_ (by omega))); exact HB2.out⟩
  have g4 : (x.head == y.head) = true := by simp [h4]
  have H4 := Lib.hid h4
  clear h4
  by_cases h5 : x.seq = y.seq
  case neg =>
    have g5 : (x.seq == y.seq) = false := by simp [h5]
    have HE := Lib.hid (show decide (x = y) = false from decide_eq_false (by rintro rfl; exact h5 rfl))
    clear h5
    go_enter Try.func76, Try.ntmps76
    go_wp2_with fail
    try rw [hW1]
    go_wp2_with fail
    try rw [hW2]
    clear hW1 hW2 hz1
    go_wp2_with fail
    refine (HS.out 0).mono ?_
    rintro e w1 ⟨rfl, n, rfl⟩
    have HB2 := Lib.hid (show Below w.heap.size w ((W2.drewN 0).drewN n) from below_drewN (below_drewN HB.out 0) n)
    rw [HQ.out]
    obtain ⟨W3, hW3⟩ : ∃ W3, (W2.drewN 0).drewN n = W3 := ⟨_, rfl⟩
    have e0 : W3.cell? ⟨w.heap.size, 0, none⟩ = some (.int .i64 x.epoch) := by rw [← hW3]; exact c0
    have f0 : W3.cell? ⟨w.heap.size + 1, 0, none⟩ = some (.int .i64 y.epoch) := by rw [← hW3]; exact d0
    have e1 : W3.cell? ⟨w.heap.size, 1, none⟩ = some (.int .i64 x.gen) := by rw [← hW3]; exact c1
    have f1 : W3.cell? ⟨w.heap.size + 1, 1, none⟩ = some (.int .i64 y.gen) := by rw [← hW3]; exact d1
    have e2 : W3.cell? ⟨w.heap.size, 2, none⟩ = some (.int .i64 x.log) := by rw [← hW3]; exact c2
    have f2 : W3.cell? ⟨w.heap.size + 1, 2, none⟩ = some (.int .i64 y.log) := by rw [← hW3]; exact d2
    have e3 : W3.cell? ⟨w.heap.size, 3, none⟩ = some (.int .i64 x.pages) := by rw [← hW3]; exact c3
    have f3 : W3.cell? ⟨w.heap.size + 1, 3, none⟩ = some (.int .i64 y.pages) := by rw [← hW3]; exact d3
    have e4 : W3.cell? ⟨w.heap.size, 4, none⟩ = some (.int .i64 x.head) := by rw [← hW3]; exact c4
    have f4 : W3.cell? ⟨w.heap.size + 1, 4, none⟩ = some (.int .i64 y.head) := by rw [← hW3]; exact d4
    have e5 : W3.cell? ⟨w.heap.size, 5, none⟩ = some (.int .i64 x.seq) := by rw [← hW3]; exact c5
    have f5 : W3.cell? ⟨w.heap.size + 1, 5, none⟩ = some (.int .i64 y.seq) := by rw [← hW3]; exact d5
    have e6 : W3.cell? ⟨w.heap.size, 6, none⟩ = some (.int .i64 x.long) := by rw [← hW3]; exact c6
    have f6 : W3.cell? ⟨w.heap.size + 1, 6, none⟩ = some (.int .i64 y.long) := by rw [← hW3]; exact d6
    have e7 : W3.cell? ⟨w.heap.size, 7, none⟩ = some (.slice A x.dir.length c) := by rw [← hW3]; exact c7
    have f7 : W3.cell? ⟨w.heap.size + 1, 7, none⟩ = some (.slice B y.dir.length d) := by rw [← hW3]; exact d7
    have z1 : W3.frozen? ⟨w.heap.size, 7, none⟩ = false := by rw [← hW3]; exact R1.out
    have z2 : W3.frozen? ⟨w.heap.size + 1, 7, none⟩ = false := by rw [← hW3]; exact R2.out
    rw [hW3] at HB2 ⊢
    clear c0 d0 c1 d1 c2 d2 c3 d3 c4 d4 c5 d5 c6 d6 c7 d7 hW3 HS
    go_wp2_with fail
    go_ret
    exact ⟨by rw [HE.out]; first | rfl | simp, by first | exact below_set (below_set HB2.out (by omega)) (by omega) | (repeat (refine below_set ?_ (by omega))); exact HB2.out⟩
  have g5 : (x.seq == y.seq) = true := by simp [h5]
  have H5 := Lib.hid h5
  clear h5
  by_cases h6 : x.long = y.long
  case neg =>
    have g6 : (x.long == y.long) = false := by simp [h6]
    have HE := Lib.hid (show decide (x = y) = false from decide_eq_false (by rintro rfl; exact h6 rfl))
    clear h6
    go_enter Try.func76, Try.ntmps76
    go_wp2_with fail
    try rw [hW1]
    go_wp2_with fail
    try rw [hW2]
    clear hW1 hW2 hz1
    go_wp2_with fail
    refine (HS.out 0).mono ?_
    rintro e w1 ⟨rfl, n, rfl⟩
    have HB2 := Lib.hid (show Below w.heap.size w ((W2.drewN 0).drewN n) from below_drewN (below_drewN HB.out 0) n)
    rw [HQ.out]
    obtain ⟨W3, hW3⟩ : ∃ W3, (W2.drewN 0).drewN n = W3 := ⟨_, rfl⟩
    have e0 : W3.cell? ⟨w.heap.size, 0, none⟩ = some (.int .i64 x.epoch) := by rw [← hW3]; exact c0
    have f0 : W3.cell? ⟨w.heap.size + 1, 0, none⟩ = some (.int .i64 y.epoch) := by rw [← hW3]; exact d0
    have e1 : W3.cell? ⟨w.heap.size, 1, none⟩ = some (.int .i64 x.gen) := by rw [← hW3]; exact c1
    have f1 : W3.cell? ⟨w.heap.size + 1, 1, none⟩ = some (.int .i64 y.gen) := by rw [← hW3]; exact d1
    have e2 : W3.cell? ⟨w.heap.size, 2, none⟩ = some (.int .i64 x.log) := by rw [← hW3]; exact c2
    have f2 : W3.cell? ⟨w.heap.size + 1, 2, none⟩ = some (.int .i64 y.log) := by rw [← hW3]; exact d2
    have e3 : W3.cell? ⟨w.heap.size, 3, none⟩ = some (.int .i64 x.pages) := by rw [← hW3]; exact c3
    have f3 : W3.cell? ⟨w.heap.size + 1, 3, none⟩ = some (.int .i64 y.pages) := by rw [← hW3]; exact d3
    have e4 : W3.cell? ⟨w.heap.size, 4, none⟩ = some (.int .i64 x.head) := by rw [← hW3]; exact c4
    have f4 : W3.cell? ⟨w.heap.size + 1, 4, none⟩ = some (.int .i64 y.head) := by rw [← hW3]; exact d4
    have e5 : W3.cell? ⟨w.heap.size, 5, none⟩ = some (.int .i64 x.seq) := by rw [← hW3]; exact c5
    have f5 : W3.cell? ⟨w.heap.size + 1, 5, none⟩ = some (.int .i64 y.seq) := by rw [← hW3]; exact d5
    have e6 : W3.cell? ⟨w.heap.size, 6, none⟩ = some (.int .i64 x.long) := by rw [← hW3]; exact c6
    have f6 : W3.cell? ⟨w.heap.size + 1, 6, none⟩ = some (.int .i64 y.long) := by rw [← hW3]; exact d6
    have e7 : W3.cell? ⟨w.heap.size, 7, none⟩ = some (.slice A x.dir.length c) := by rw [← hW3]; exact c7
    have f7 : W3.cell? ⟨w.heap.size + 1, 7, none⟩ = some (.slice B y.dir.length d) := by rw [← hW3]; exact d7
    have z1 : W3.frozen? ⟨w.heap.size, 7, none⟩ = false := by rw [← hW3]; exact R1.out
    have z2 : W3.frozen? ⟨w.heap.size + 1, 7, none⟩ = false := by rw [← hW3]; exact R2.out
    rw [hW3] at HB2 ⊢
    clear c0 d0 c1 d1 c2 d2 c3 d3 c4 d4 c5 d5 c6 d6 c7 d7 hW3 HS
    go_wp2_with fail
    go_ret
    exact ⟨by rw [HE.out]; first | rfl | simp, by first | exact below_set (below_set HB2.out (by omega)) (by omega) | (repeat (refine below_set ?_ (by omega))); exact HB2.out⟩
  have g6 : (x.long == y.long) = true := by simp [h6]
  have H6 := Lib.hid h6
  clear h6
  have HE := Lib.hid (show decide (x = y) = true from decide_eq_true (DSuper.ext H0.out H1.out H2.out H3.out H4.out H5.out H6.out H7.out))
  go_enter Try.func76, Try.ntmps76
  go_wp2_with fail
  try rw [hW1]
  go_wp2_with fail
  try rw [hW2]
  clear hW1 hW2 hz1
  go_wp2_with fail
  refine (HS.out 0).mono ?_
  rintro e w1 ⟨rfl, n, rfl⟩
  have HB2 := Lib.hid (show Below w.heap.size w ((W2.drewN 0).drewN n) from below_drewN (below_drewN HB.out 0) n)
  rw [HQ.out]
  obtain ⟨W3, hW3⟩ : ∃ W3, (W2.drewN 0).drewN n = W3 := ⟨_, rfl⟩
  have e0 : W3.cell? ⟨w.heap.size, 0, none⟩ = some (.int .i64 x.epoch) := by rw [← hW3]; exact c0
  have f0 : W3.cell? ⟨w.heap.size + 1, 0, none⟩ = some (.int .i64 y.epoch) := by rw [← hW3]; exact d0
  have e1 : W3.cell? ⟨w.heap.size, 1, none⟩ = some (.int .i64 x.gen) := by rw [← hW3]; exact c1
  have f1 : W3.cell? ⟨w.heap.size + 1, 1, none⟩ = some (.int .i64 y.gen) := by rw [← hW3]; exact d1
  have e2 : W3.cell? ⟨w.heap.size, 2, none⟩ = some (.int .i64 x.log) := by rw [← hW3]; exact c2
  have f2 : W3.cell? ⟨w.heap.size + 1, 2, none⟩ = some (.int .i64 y.log) := by rw [← hW3]; exact d2
  have e3 : W3.cell? ⟨w.heap.size, 3, none⟩ = some (.int .i64 x.pages) := by rw [← hW3]; exact c3
  have f3 : W3.cell? ⟨w.heap.size + 1, 3, none⟩ = some (.int .i64 y.pages) := by rw [← hW3]; exact d3
  have e4 : W3.cell? ⟨w.heap.size, 4, none⟩ = some (.int .i64 x.head) := by rw [← hW3]; exact c4
  have f4 : W3.cell? ⟨w.heap.size + 1, 4, none⟩ = some (.int .i64 y.head) := by rw [← hW3]; exact d4
  have e5 : W3.cell? ⟨w.heap.size, 5, none⟩ = some (.int .i64 x.seq) := by rw [← hW3]; exact c5
  have f5 : W3.cell? ⟨w.heap.size + 1, 5, none⟩ = some (.int .i64 y.seq) := by rw [← hW3]; exact d5
  have e6 : W3.cell? ⟨w.heap.size, 6, none⟩ = some (.int .i64 x.long) := by rw [← hW3]; exact c6
  have f6 : W3.cell? ⟨w.heap.size + 1, 6, none⟩ = some (.int .i64 y.long) := by rw [← hW3]; exact d6
  have e7 : W3.cell? ⟨w.heap.size, 7, none⟩ = some (.slice A x.dir.length c) := by rw [← hW3]; exact c7
  have f7 : W3.cell? ⟨w.heap.size + 1, 7, none⟩ = some (.slice B y.dir.length d) := by rw [← hW3]; exact d7
  have z1 : W3.frozen? ⟨w.heap.size, 7, none⟩ = false := by rw [← hW3]; exact R1.out
  have z2 : W3.frozen? ⟨w.heap.size + 1, 7, none⟩ = false := by rw [← hW3]; exact R2.out
  rw [hW3] at HB2 ⊢
  clear c0 d0 c1 d1 c2 d2 c3 d3 c4 d4 c5 d5 c6 d6 c7 d7 hW3 HS
  go_wp2_with fail
  go_ret
  exact ⟨by rw [HE.out]; first | rfl | simp, by first | exact below_set (below_set HB2.out (by omega)) (by omega) | (repeat (refine below_set ?_ (by omega))); exact HB2.out⟩
end Go.Proofs.Ythjjnlilpklacaa
