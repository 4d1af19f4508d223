/- Walk of the library's slices.Compact at names. -/
import Derived.Test.YtfpmkenobphfnaaWeDisk
import Derived.Test.YtfpmkenobphfnaaWeG13
import Derived.Lib.SlicesCompact
namespace Go.Proofs.Ytfpmkenobphfnaa
open Go.RowKit

instance : Inhabited DID := ⟨⟨0, 0⟩⟩

/-- Names in a block. -/
structure IDRow (W : World) (g n : Nat) (dk : Array DID) : Prop where
  out : ∃ cur : Array Value, W.heap[g]? = some (.cells cur 175 (0, 0)) ∧ 2 * n ≤ cur.size ∧ dk.size = n ∧ ∀ i, i < n → cur[i * 2]? = some (.int .i64 dk[i]!.index) ∧ cur[i * 2 + 1]? = some (.int .i64 dk[i]!.gen)
theorem IDRow.lt {W : World} {g n : Nat} {dk : Array DID} (h : IDRow W g n dk) : g < W.heap.size := by
  obtain ⟨cur, h, _⟩ := h.out
  exact (Array.getElem?_eq_some_iff.1 h).1
theorem IDRow.keep {W W' : World} {g n : Nat} {dk : Array DID} (h : IDRow W g n dk) (he : W'.heap[g]? = W.heap[g]?) : IDRow W' g n dk := by
  obtain ⟨cur, h1, h2⟩ := h.out
  exact ⟨cur, he.trans h1, h2⟩
theorem IDRow.cells {W : World} {g n : Nat} {dk : Array DID} (h : IDRow W g n dk) {i : Nat} (hi : i < n) : W.cell? ⟨g, i * 2, none⟩ = some (.int .i64 dk[i]!.index) ∧ W.cell? ⟨g, i * 2 + 1, none⟩ = some (.int .i64 dk[i]!.gen) := by
  obtain ⟨cur, h1, _, _, h3⟩ := h.out
  rw [cell_of_row _ _ _ _ _ _ h1, cell_of_row _ _ _ _ _ _ h1]
  exact h3 i hi
theorem IDRow.free {W : World} {g n : Nat} {dk : Array DID} (h : IDRow W g n dk) (i : Nat) : W.frozen? ⟨g, i, none⟩ = false := by
  obtain ⟨cur, h1, _⟩ := h.out
  exact frozen_row h1 i
theorem IDRow.set {W : World} {g n : Nat} {dk : Array DID} (h : IDRow W g n dk) {i : Nat} (hi : i < n) (x : DID) : IDRow ((W.setCell ⟨g, i * 2, none⟩ (.int .i64 x.index)).setCell ⟨g, i * 2 + 1, none⟩ (.int .i64 x.gen)) g n (dk.setIfInBounds i x) := by
  obtain ⟨cur, h1, h2, hs, h3⟩ := h.out
  refine ⟨_, heap_setRow (heap_setRow h1), by simpa using h2, by simpa using hs, fun k hk => ?_⟩
  obtain ⟨e1, e2⟩ := h3 k hk
  by_cases e : i = k
  · subst e
    have hg : (dk.setIfInBounds i x)[i]! = x := by simp [hs, hk]
    rw [hg]
    constructor
    · rw [Array.getElem?_setIfInBounds, if_neg (by omega), Array.getElem?_setIfInBounds, if_pos rfl, if_pos (by omega)]
    · rw [Array.getElem?_setIfInBounds, if_pos rfl, if_pos (by simp; omega)]
  · have hg : (dk.setIfInBounds i x)[k]! = dk[k]! := by
      rw [getElem!_pos (dk.setIfInBounds i x) k (by simpa [hs] using hk), getElem!_pos dk k (by omega), Array.getElem_setIfInBounds, if_neg e]
    rw [hg]
    constructor
    · rw [Array.getElem?_setIfInBounds, if_neg (by omega), Array.getElem?_setIfInBounds, if_neg (by omega)]; exact e1
    · rw [Array.getElem?_setIfInBounds, if_neg (by omega), Array.getElem?_setIfInBounds, if_neg (by omega)]; exact e2

theorem setCells_row {g : Nat} {t : TypeId} : ∀ (vs : List Value) (o : Nat) {W : World} {cur : Array Value}, W.heap[g]? = some (.cells cur t (0, 0)) →
    ∃ cur' : Array Value, (W.setCells g o vs).heap[g]? = some (.cells cur' t (0, 0)) ∧ cur'.size = cur.size ∧ ∀ i, i < o → cur'[i]? = cur[i]?
  | [], _, _, cur, h => ⟨cur, h, rfl, fun _ _ => rfl⟩
  | v :: r, o, _, cur, h => by
    obtain ⟨c', h1, h2, h3⟩ := setCells_row r (o + 1) (heap_setRow (i := o) (v := v) h)
    refine ⟨c', h1, by simpa using h2, fun i hi => ?_⟩
    rw [h3 i (by omega), Array.getElem?_setIfInBounds, if_neg (by omega)]
theorem below_setCells {base g : Nat} {w : World} (hg : base ≤ g) : ∀ (vs : List Value) (o : Nat) {W : World}, Below base w W → Below base w (W.setCells g o vs)
  | [], _, _, h => h
  | v :: r, o, _, h => below_setCells hg r (o + 1) (h.setCell (p := ⟨g, o, none⟩) hg v)
theorem run_clear_ids {W : World} {g n : Nat} {dk : Array DID} (h : IDRow W g n dk) {k c : Nat} (hk : k < n) (ty : TypeId) :
    (Builtin.clear_ #[206] ty #[.slice (some ⟨g, k * 2, none⟩) (n - k) c]).run Try.prog W = .ok (.tuple #[]) (W.setCells g (k * 2) (Builtin.zeroCells #[.int .i64 0, .int .i64 0] (n - k)).toList) := by
  obtain ⟨cur, h1, h2, _⟩ := h.out
  have hz : ∀ w, (zeroValue 175).run Try.prog w = .ok (.agg #[.int .i64 0, .int .i64 0]) w := fun w => by kernel_rfl
  have hl : ((Builtin.zeroCells #[.int .i64 0, .int .i64 0] (n - k)).toList).length = (n - k) * 2 := by simp [Builtin.zeroCells]
  have hm : ∀ v ∈ (Builtin.zeroCells #[.int .i64 0, .int .i64 0] (n - k)).toList, v.oneCell' = true := by
    intro v hv
    simp only [Builtin.zeroCells, Array.toList_map, List.mem_map] at hv
    obtain ⟨i, _, rfl⟩ := hv
    have : i % 2 = 0 ∨ i % 2 = 1 := by omega
    rcases this with h | h
    · simp [h, Value.oneCell']
    · simp [h, Value.oneCell']
  have hst := run_storeCells_cells (P := Try.prog) g (k * 2) (Builtin.zeroCells #[.int .i64 0, .int .i64 0] (n - k)).toList 0 W (fun j hj => by
      rw [cell_of_row _ _ _ _ _ _ h1, Array.getElem?_eq_getElem (by omega)]; rfl) (fun j hj => frozen_row h1 _) hm
  simp only [Nat.add_zero] at hst
  obtain ⟨m, hm2⟩ : ∃ m, n - k = m + 1 := ⟨n - k - 1, by omega⟩
  rw [hm2] at hst ⊢
  simp [Builtin.clear_, run_underlying Try.underlying206, hz, Value.cells, hst]
theorem compact_small {d : Array DID} (h : ∀ j, j < d.size → Lib.keeps d j = true) : Lib.compactUpTo d d.size = d.toList := by
  rw [Lib.compactUpTo_all d d.size h, Lib.range_map_get]

set_option maxRecDepth 100000 in
set_option maxHeartbeats 2000000 in
/-- slices.Compact of names in a block of the call's own -/
theorem compactRow_calls {base : Nat} {w : World} {g cap : Nat} {d : Array DID} (h : IDRow w g d.size d) (hb : base ≤ g) (hc : d.size ≤ cap) (hm : cap ≤ maxLen) :
    Calls Try.prog 192 #[.slice (some ⟨g, 0, none⟩) d.size cap] w fun e w' => e = .returned (.slice (some ⟨g, 0, none⟩) (Lib.compactUpTo d d.size).length cap) ∧ (∃ dk : Array DID, IDRow w' g (Lib.compactUpTo d d.size).length dk ∧ dk.toList = Lib.compactUpTo d d.size) ∧ Below base w w' := by
  have HR := Lib.hid h
  have HBA := Lib.hid hb
  unfold maxLen at hm
  obtain ⟨n, hn⟩ : ∃ n, d.size = n := ⟨_, rfl⟩
  have HN := Lib.hid hn
  rw [hn] at hc ⊢ HR
  clear h hb hn
  by_cases hlt2 : (n : Int) < 2
  · go_enter Try.func192, Try.ntmps192
    go_wp2_with fail
    go_ret
    have hall : ∀ j, j < d.size → Lib.keeps d j = true := fun j hj => Lib.keeps_lt_one d j (by have := HN.out; omega)
    have hcs := compact_small hall
    rw [HN.out] at hcs
    rw [hcs, Array.length_toList, HN.out]
    exact ⟨rfl, ⟨d, HR.out, rfl⟩, Below.refl _ _⟩
  go_enter Try.func192, Try.ntmps192
  go_wp2_with fail
  go_loopw [3] (fun i wr => ∃ k : Nat, i = .int .i64 k ∧ 1 ≤ k ∧ k ≤ n ∧ Hid (∀ j, j < k → Lib.keeps d j = true) ∧ ∃ q, w.drewN q = wr) (fun i _ => n - (intOf i).toNat)
  case atStart => exact ⟨1, rfl, Nat.le_refl _, by omega, Lib.hid (fun j hj => Lib.keeps_lt_one d j hj), 0, rfl⟩
  case round =>
    obtain ⟨k, rfl, hk1, hk, HK, q, hwr⟩ := hrel
    have HRW := Lib.hid (show IDRow wr g n d by rw [← hwr]; exact HR.out.keep rfl)
    by_cases hlt : (k : Int) < n
    · obtain ⟨m, hm2⟩ : ∃ m : Nat, (m : Int) = (k : Int) - 1 := ⟨k - 1, by omega⟩
      have hwm : IntKind.i64.wrap ((k : Int) - 1) = (m : Int) := by rw [hm2]; exact IntWalk.i64_in _ ⟨by omega, by omega⟩
      have hm0 : (0 : Int) ≤ (m : Int) := by omega
      have hml : (m : Int) < n := by omega
      obtain ⟨e0, e1⟩ := HRW.out.cells (show k < n by omega)
      obtain ⟨g0, g1⟩ := HRW.out.cells (show m < n by omega)
      have HKN := Lib.hid (fun h : d[k]! = d[m]! => Lib.keeps_neg (d := d) (m := k) (by omega) (by rw [show k - 1 = m by omega]; exact h))
      have HKY := Lib.hid (fun h : d[k]! ≠ d[m]! => Lib.keeps_pos (d := d) (m := k) (by rw [show k - 1 = m by omega]; exact h))
      clear hm2
      generalize d[k]! = x at *
      generalize d[m]! = y at *
      by_cases hxy : x = y
      · have HD := Lib.hid (HKN.out hxy)
        subst hxy
        go_wp2_with fail
        refine wp_region_held_drew (S := fun W => W = wr.drew) (by kernel_rfl) rfl (fun s0 => ?_)
        refine wpAnyH_take (i := 0) (v := .slice (some ⟨g, 0, none⟩) n cap) rfl (by kernel_rfl) (by kernel_rfl) (by kernel_rfl) (fun _ _ _ h => h) (Or.inl ⟨by rfl, fun w' _ => by go_simp <;> omega⟩) s0 ?_
        go_simp
        refine wpAnyH_take (i := 1) (v := .int .i64 k) rfl (by kernel_rfl) (by kernel_rfl) (by kernel_rfl) (fun _ _ _ h => h) (Or.inl ⟨by rfl, fun w' _ => by go_simp <;> omega⟩) s0 ?_
        go_simp
        refine wpAnyH_take (i := 2) (v := .pointer (some ⟨g, k * 2, none⟩)) rfl (by kernel_rfl) (by kernel_rfl) (by kernel_rfl) (fun _ _ _ h => h) (Or.inl ⟨by rfl, fun w' _ => by go_simp <;> omega⟩) s0 ?_
        go_simp
        refine wpAnyH_take (i := 3) (v := .agg #[.int .i64 x.index, .int .i64 x.gen]) rfl (by kernel_rfl) (by kernel_rfl) (by kernel_rfl) (fun _ _ _ h => h) (Or.inl ⟨by rfl, fun w' h => by have h' : w' = wr.drew := h; subst h'; go_simp⟩) s0 ?_
        go_simp
        refine wpAnyH_take (i := 4) (v := .slice (some ⟨g, 0, none⟩) n cap) rfl (by kernel_rfl) (by kernel_rfl) (by kernel_rfl) (fun _ _ _ h => h) (Or.inl ⟨by rfl, fun w' _ => by go_simp <;> omega⟩) s0 ?_
        go_simp
        refine wpAnyH_take (i := 5) (v := .int .i64 k) rfl (by kernel_rfl) (by kernel_rfl) (by kernel_rfl) (fun _ _ _ h => h) (Or.inl ⟨by rfl, fun w' _ => by go_simp <;> omega⟩) s0 ?_
        go_simp
        refine wpAnyH_take (i := 6) (v := .int .i64 m) rfl (by kernel_rfl) (by kernel_rfl) (by kernel_rfl) (fun _ _ _ h => h) (Or.inl ⟨by rfl, fun w' _ => by go_simp <;> omega⟩) s0 ?_
        go_simp
        refine wpAnyH_take (i := 7) (v := .pointer (some ⟨g, m * 2, none⟩)) rfl (by kernel_rfl) (by kernel_rfl) (by kernel_rfl) (fun _ _ _ h => h) (Or.inl ⟨by rfl, fun w' _ => by go_simp <;> omega⟩) s0 ?_
        go_simp
        refine wpAnyH_take (i := 8) (v := .agg #[.int .i64 x.index, .int .i64 x.gen]) rfl (by kernel_rfl) (by kernel_rfl) (by kernel_rfl) (fun _ _ _ h => h) (Or.inl ⟨by rfl, fun w' h => by have h' : w' = wr.drew := h; subst h'; go_simp⟩) s0 ?_
        go_simp
        refine wpAnyH_take (i := 9) (v := .bool true) rfl (by kernel_rfl) (by kernel_rfl) (by kernel_rfl) (fun _ _ _ h => h) (Or.inl ⟨by rfl, fun w' _ => by go_simp <;> omega⟩) s0 ?_
        go_simp
        refine wpAnyH_done (by kernel_rfl) ?_ _
        obtain ⟨n2, hn2⟩ : ∃ n2, n - k = n2 := ⟨_, rfl⟩
        obtain ⟨c2, hc2⟩ : ∃ c2, cap - k = c2 := ⟨_, rfl⟩
        have HN2 := Lib.hid (show k + n2 = n by omega)
        have hnc : n2 ≤ c2 := by omega
        have hcm : (c2 : Int) ≤ 9223372036854775807 := by omega
        have HBW := Lib.hid (show Below base w wr.drew by rw [← hwr]; exact (below_drewN (Below.refl _ _) q).drew)
        have HRD := Lib.hid (show IDRow wr.drew g n d from HRW.out.keep rfl)
        go_wp2_with fail
        try rw [hn2]
        try rw [hc2]
        generalize wr.drew = W1 at *
        clear e0 e1 g0 g1 hwr s0 hwm hm0 hml hn2 hc2 HRW
        rename World => wo
        go_loopw [3, 5] (fun kk jj wi => ∃ (kc j : Nat) (dk : Array DID), kk = .int .i64 kc ∧ jj = .int .i64 j ∧ 1 ≤ j ∧ j ≤ n2 ∧ Hid (Lib.CompInv d (k + j) kc dk) ∧ Hid (IDRow wi g n dk) ∧ Hid (Below base w wi)) (fun _ jj _ => n2 - (intOf jj).toNat)
        case atStart => exact ⟨k, 1, d, rfl, rfl, Nat.le_refl _, by have := HN2.out; omega, Lib.hid (Lib.CompInv.start HK.out HD.out), HRD, HBW⟩
        case round =>
          obtain ⟨kc, j, dk, rfl, rfl, hj1, hj, HCI, HRW, HBX⟩ := hrel
          have hkc := HCI.out.lt
          have hkn := HN2.out
          by_cases hlj : (j : Int) < n2
          · obtain ⟨m, hm2⟩ : ∃ m : Nat, (m : Int) = (j : Int) - 1 := ⟨j - 1, by omega⟩
            have hwm : IntKind.i64.wrap ((j : Int) - 1) = (m : Int) := by rw [hm2]; exact IntWalk.i64_in _ ⟨by omega, by omega⟩
            have hm0 : (0 : Int) ≤ (m : Int) := by omega
            have hml : (m : Int) < n2 := by omega
            obtain ⟨e0, e1⟩ := HRW.out.cells (show k + j < n by omega)
            obtain ⟨g0, g1⟩ := HRW.out.cells (show k + m < n by omega)
            rw [show (k + j) * 2 = k * 2 + j * 2 by omega] at e0 e1
            rw [show (k + m) * 2 = k * 2 + m * 2 by omega] at g0 g1
            rw [HCI.out.high (k + j) (by omega)] at e0 e1
            rw [HCI.out.high (k + m) (by omega)] at g0 g1
            have HSK := Lib.hid (fun h : d[k + j]! = d[k + m]! => HCI.out.skip (Lib.keeps_neg (d := d) (m := k + j) (by omega) (by rw [show k + j - 1 = k + m by omega]; exact h)))
            have HKP := Lib.hid (fun h : d[k + j]! ≠ d[k + m]! => HCI.out.keep (by have := HN.out; omega) (Lib.keeps_pos (d := d) (m := k + j) (by rw [show k + j - 1 = k + m by omega]; exact h)))
            have z0 := HRW.out.free (kc * 2)
            have z1 := HRW.out.free (kc * 2 + 1)
            obtain ⟨r0, r1⟩ := HRW.out.cells (show kc < n by omega)
            have hkl : (kc : Int) < n := by omega
            clear hm2
            generalize d[k + j]! = x at *
            generalize d[k + m]! = y at *
            by_cases hxy : x = y
            · have HS := Lib.hid (HSK.out hxy)
              subst hxy
              go_wp2_with fail
              refine wp_region_held_drew (S := fun W => W = wr.drew) (by kernel_rfl) rfl (fun s0 => ?_)
              refine wpAnyH_take (i := 0) (v := .slice (some ⟨g, k * 2, none⟩) n2 c2) rfl (by kernel_rfl) (by kernel_rfl) (by kernel_rfl) (fun _ _ _ h => h) (Or.inl ⟨by rfl, fun w' _ => by go_simp <;> omega⟩) s0 ?_
              go_simp
              refine wpAnyH_take (i := 1) (v := .int .i64 j) rfl (by kernel_rfl) (by kernel_rfl) (by kernel_rfl) (fun _ _ _ h => h) (Or.inl ⟨by rfl, fun w' _ => by go_simp <;> omega⟩) s0 ?_
              go_simp
              refine wpAnyH_take (i := 2) (v := .pointer (some ⟨g, k * 2 + j * 2, none⟩)) rfl (by kernel_rfl) (by kernel_rfl) (by kernel_rfl) (fun _ _ _ h => h) (Or.inl ⟨by rfl, fun w' _ => by go_simp <;> omega⟩) s0 ?_
              go_simp
              refine wpAnyH_take (i := 3) (v := .agg #[.int .i64 x.index, .int .i64 x.gen]) rfl (by kernel_rfl) (by kernel_rfl) (by kernel_rfl) (fun _ _ _ h => h) (Or.inl ⟨by rfl, fun w' h => by have h' : w' = wr.drew := h; subst h'; go_simp⟩) s0 ?_
              go_simp
              refine wpAnyH_take (i := 4) (v := .slice (some ⟨g, k * 2, none⟩) n2 c2) rfl (by kernel_rfl) (by kernel_rfl) (by kernel_rfl) (fun _ _ _ h => h) (Or.inl ⟨by rfl, fun w' _ => by go_simp <;> omega⟩) s0 ?_
              go_simp
              refine wpAnyH_take (i := 5) (v := .int .i64 j) rfl (by kernel_rfl) (by kernel_rfl) (by kernel_rfl) (fun _ _ _ h => h) (Or.inl ⟨by rfl, fun w' _ => by go_simp <;> omega⟩) s0 ?_
              go_simp
              refine wpAnyH_take (i := 6) (v := .int .i64 m) rfl (by kernel_rfl) (by kernel_rfl) (by kernel_rfl) (fun _ _ _ h => h) (Or.inl ⟨by rfl, fun w' _ => by go_simp <;> omega⟩) s0 ?_
              go_simp
              refine wpAnyH_take (i := 7) (v := .pointer (some ⟨g, k * 2 + m * 2, none⟩)) rfl (by kernel_rfl) (by kernel_rfl) (by kernel_rfl) (fun _ _ _ h => h) (Or.inl ⟨by rfl, fun w' _ => by go_simp <;> omega⟩) s0 ?_
              go_simp
              refine wpAnyH_take (i := 8) (v := .agg #[.int .i64 x.index, .int .i64 x.gen]) rfl (by kernel_rfl) (by kernel_rfl) (by kernel_rfl) (fun _ _ _ h => h) (Or.inl ⟨by rfl, fun w' h => by have h' : w' = wr.drew := h; subst h'; go_simp⟩) s0 ?_
              go_simp
              refine wpAnyH_take (i := 9) (v := .bool false) rfl (by kernel_rfl) (by kernel_rfl) (by kernel_rfl) (fun _ _ _ h => h) (Or.inl ⟨by rfl, fun w' _ => by go_simp <;> omega⟩) s0 ?_
              go_simp
              refine wpAnyH_done (by kernel_rfl) ?_ _
              go_wp2_with fail
              exact ⟨⟨kc, j + 1, dk, rfl, by go_num, by omega, by omega, HS, Lib.hid (HRW.out.keep rfl), Lib.hid HBX.out.drew⟩, by simp [intOf]; omega⟩
            · have HS := Lib.hid (HKP.out hxy)
              have HRS := Lib.hid (show IDRow ((wr.drew.setCell ⟨g, kc * 2, none⟩ (.int .i64 x.index)).setCell ⟨g, kc * 2 + 1, none⟩ (.int .i64 x.gen)) g n (dk.setIfInBounds kc x) from (HRW.out.keep (W' := wr.drew) rfl).set (by omega) x)
              have HBS := Lib.hid (show Below base w ((wr.drew.setCell ⟨g, kc * 2, none⟩ (.int .i64 x.index)).setCell ⟨g, kc * 2 + 1, none⟩ (.int .i64 x.gen)) from (HBX.out.drew.setCell (p := ⟨g, kc * 2, none⟩) HBA.out _).setCell (p := ⟨g, kc * 2 + 1, none⟩) HBA.out _)
              by_cases hi : x.index = y.index
              · have hg : (x.gen == y.gen) = false := beq_eq_false_iff_ne.2 (fun h => hxy (DID.ext hi h))
                have hi2 : (x.index == y.index) = true := by simp [hi]
                clear hi hxy
                go_wp2_with fail
                refine wp_region_held_drew (S := fun W => W = wr.drew) (by kernel_rfl) rfl (fun s0 => ?_)
                refine wpAnyH_take (i := 0) (v := .slice (some ⟨g, k * 2, none⟩) n2 c2) rfl (by kernel_rfl) (by kernel_rfl) (by kernel_rfl) (fun _ _ _ h => h) (Or.inl ⟨by rfl, fun w' _ => by go_simp <;> omega⟩) s0 ?_
                go_simp
                refine wpAnyH_take (i := 1) (v := .int .i64 j) rfl (by kernel_rfl) (by kernel_rfl) (by kernel_rfl) (fun _ _ _ h => h) (Or.inl ⟨by rfl, fun w' _ => by go_simp <;> omega⟩) s0 ?_
                go_simp
                refine wpAnyH_take (i := 2) (v := .pointer (some ⟨g, k * 2 + j * 2, none⟩)) rfl (by kernel_rfl) (by kernel_rfl) (by kernel_rfl) (fun _ _ _ h => h) (Or.inl ⟨by rfl, fun w' _ => by go_simp <;> omega⟩) s0 ?_
                go_simp
                refine wpAnyH_take (i := 3) (v := .agg #[.int .i64 x.index, .int .i64 x.gen]) rfl (by kernel_rfl) (by kernel_rfl) (by kernel_rfl) (fun _ _ _ h => h) (Or.inl ⟨by rfl, fun w' h => by have h' : w' = wr.drew := h; subst h'; go_simp⟩) s0 ?_
                go_simp
                refine wpAnyH_take (i := 4) (v := .slice (some ⟨g, k * 2, none⟩) n2 c2) rfl (by kernel_rfl) (by kernel_rfl) (by kernel_rfl) (fun _ _ _ h => h) (Or.inl ⟨by rfl, fun w' _ => by go_simp <;> omega⟩) s0 ?_
                go_simp
                refine wpAnyH_take (i := 5) (v := .int .i64 j) rfl (by kernel_rfl) (by kernel_rfl) (by kernel_rfl) (fun _ _ _ h => h) (Or.inl ⟨by rfl, fun w' _ => by go_simp <;> omega⟩) s0 ?_
                go_simp
                refine wpAnyH_take (i := 6) (v := .int .i64 m) rfl (by kernel_rfl) (by kernel_rfl) (by kernel_rfl) (fun _ _ _ h => h) (Or.inl ⟨by rfl, fun w' _ => by go_simp <;> omega⟩) s0 ?_
                go_simp
                refine wpAnyH_take (i := 7) (v := .pointer (some ⟨g, k * 2 + m * 2, none⟩)) rfl (by kernel_rfl) (by kernel_rfl) (by kernel_rfl) (fun _ _ _ h => h) (Or.inl ⟨by rfl, fun w' _ => by go_simp <;> omega⟩) s0 ?_
                go_simp
                refine wpAnyH_take (i := 8) (v := .agg #[.int .i64 y.index, .int .i64 y.gen]) rfl (by kernel_rfl) (by kernel_rfl) (by kernel_rfl) (fun _ _ _ h => h) (Or.inl ⟨by rfl, fun w' h => by have h' : w' = wr.drew := h; subst h'; go_simp⟩) s0 ?_
                go_simp
                refine wpAnyH_take (i := 9) (v := .bool true) rfl (by kernel_rfl) (by kernel_rfl) (by kernel_rfl) (fun _ _ _ h => h) (Or.inl ⟨by rfl, fun w' _ => by go_simp <;> omega⟩) s0 ?_
                go_simp
                refine wpAnyH_done (by kernel_rfl) ?_ _
                go_wp2_with fail
                exact ⟨⟨kc + 1, j + 1, _, by go_num, by go_num, by omega, by omega, HS, HRS, HBS⟩, by simp [intOf]; omega⟩
              · have hi2 : (x.index == y.index) = false := beq_eq_false_iff_ne.2 hi
                clear hi hxy
                go_wp2_with fail
                refine wp_region_held_drew (S := fun W => W = wr.drew) (by kernel_rfl) rfl (fun s0 => ?_)
                refine wpAnyH_take (i := 0) (v := .slice (some ⟨g, k * 2, none⟩) n2 c2) rfl (by kernel_rfl) (by kernel_rfl) (by kernel_rfl) (fun _ _ _ h => h) (Or.inl ⟨by rfl, fun w' _ => by go_simp <;> omega⟩) s0 ?_
                go_simp
                refine wpAnyH_take (i := 1) (v := .int .i64 j) rfl (by kernel_rfl) (by kernel_rfl) (by kernel_rfl) (fun _ _ _ h => h) (Or.inl ⟨by rfl, fun w' _ => by go_simp <;> omega⟩) s0 ?_
                go_simp
                refine wpAnyH_take (i := 2) (v := .pointer (some ⟨g, k * 2 + j * 2, none⟩)) rfl (by kernel_rfl) (by kernel_rfl) (by kernel_rfl) (fun _ _ _ h => h) (Or.inl ⟨by rfl, fun w' _ => by go_simp <;> omega⟩) s0 ?_
                go_simp
                refine wpAnyH_take (i := 3) (v := .agg #[.int .i64 x.index, .int .i64 x.gen]) rfl (by kernel_rfl) (by kernel_rfl) (by kernel_rfl) (fun _ _ _ h => h) (Or.inl ⟨by rfl, fun w' h => by have h' : w' = wr.drew := h; subst h'; go_simp⟩) s0 ?_
                go_simp
                refine wpAnyH_take (i := 4) (v := .slice (some ⟨g, k * 2, none⟩) n2 c2) rfl (by kernel_rfl) (by kernel_rfl) (by kernel_rfl) (fun _ _ _ h => h) (Or.inl ⟨by rfl, fun w' _ => by go_simp <;> omega⟩) s0 ?_
                go_simp
                refine wpAnyH_take (i := 5) (v := .int .i64 j) rfl (by kernel_rfl) (by kernel_rfl) (by kernel_rfl) (fun _ _ _ h => h) (Or.inl ⟨by rfl, fun w' _ => by go_simp <;> omega⟩) s0 ?_
                go_simp
                refine wpAnyH_take (i := 6) (v := .int .i64 m) rfl (by kernel_rfl) (by kernel_rfl) (by kernel_rfl) (fun _ _ _ h => h) (Or.inl ⟨by rfl, fun w' _ => by go_simp <;> omega⟩) s0 ?_
                go_simp
                refine wpAnyH_take (i := 7) (v := .pointer (some ⟨g, k * 2 + m * 2, none⟩)) rfl (by kernel_rfl) (by kernel_rfl) (by kernel_rfl) (fun _ _ _ h => h) (Or.inl ⟨by rfl, fun w' _ => by go_simp <;> omega⟩) s0 ?_
                go_simp
                refine wpAnyH_take (i := 8) (v := .agg #[.int .i64 y.index, .int .i64 y.gen]) rfl (by kernel_rfl) (by kernel_rfl) (by kernel_rfl) (fun _ _ _ h => h) (Or.inl ⟨by rfl, fun w' h => by have h' : w' = wr.drew := h; subst h'; go_simp⟩) s0 ?_
                go_simp
                refine wpAnyH_take (i := 9) (v := .bool true) rfl (by kernel_rfl) (by kernel_rfl) (by kernel_rfl) (fun _ _ _ h => h) (Or.inl ⟨by rfl, fun w' _ => by go_simp <;> omega⟩) s0 ?_
                go_simp
                refine wpAnyH_done (by kernel_rfl) ?_ _
                go_wp2_with fail
                exact ⟨⟨kc + 1, j + 1, _, by go_num, by go_num, by omega, by omega, HS, HRS, HBS⟩, by simp [intOf]; omega⟩
          · obtain rfl : j = n2 := by omega
            have hcl := fun ty => run_clear_ids HRW.out (c := cap - kc) (show kc < n by omega) ty
            have hci := HCI.out
            rw [hkn, ← HN.out] at hci
            have HCN := Lib.hid hci
            obtain ⟨cur, hc1, hc2, _, hc3⟩ := HRW.out.out
            obtain ⟨cur', hd1, hd2, hd3⟩ := setCells_row (Builtin.zeroCells #[.int .i64 0, .int .i64 0] (n - kc)).toList (kc * 2) hc1
            have HIR := Lib.hid (show IDRow (wr.setCells g (kc * 2) (Builtin.zeroCells #[.int .i64 0, .int .i64 0] (n - kc)).toList) g kc (Lib.compactUpTo d d.size).toArray from by
              refine ⟨cur', hd1, by omega, by simpa using hci.len, fun i hi => ?_⟩
              have hl := hci.low i hi
              have he : (Lib.compactUpTo d d.size).toArray[i]! = dk[i]! := by
                rw [← List.getElem?_toArray] at hl
                rw [getElem!_def, hl]
              rw [he, hd3 _ (by omega), hd3 _ (by omega)]
              exact hc3 i (by omega))
            have HBY := Lib.hid (below_setCells HBA.out (Builtin.zeroCells #[.int .i64 0, .int .i64 0] (n - kc)).toList (kc * 2) HBX.out)
            clear hci hc1 hc2 hc3 hd1 hd2 hd3
            go_wp2_with fail
            go_ret
            have hlen := HCN.out.len
            rw [HN.out] at hlen
            rw [hlen]
            refine ⟨rfl, ⟨_, HIR.out, ?_⟩, HBY.out⟩
            rw [HN.out]
      · have HK2 := Lib.hid (show ∀ j, j < k + 1 → Lib.keeps d j = true from fun j hj => by
          rcases Nat.lt_or_ge j k with h | h
          · exact HK.out j h
          · rw [show j = k by omega]; exact HKY.out hxy)
        by_cases hi : x.index = y.index
        · have hg : (x.gen == y.gen) = false := beq_eq_false_iff_ne.2 (fun h => hxy (DID.ext hi h))
          have hi2 : (x.index == y.index) = true := by simp [hi]
          clear hi hxy
          go_wp2_with fail
          refine wp_region_held_drew (S := fun W => W = wr.drew) (by kernel_rfl) rfl (fun s0 => ?_)
          refine wpAnyH_take (i := 0) (v := .slice (some ⟨g, 0, none⟩) n cap) rfl (by kernel_rfl) (by kernel_rfl) (by kernel_rfl) (fun _ _ _ h => h) (Or.inl ⟨by rfl, fun w' _ => by go_simp <;> omega⟩) s0 ?_
          go_simp
          refine wpAnyH_take (i := 1) (v := .int .i64 k) rfl (by kernel_rfl) (by kernel_rfl) (by kernel_rfl) (fun _ _ _ h => h) (Or.inl ⟨by rfl, fun w' _ => by go_simp <;> omega⟩) s0 ?_
          go_simp
          refine wpAnyH_take (i := 2) (v := .pointer (some ⟨g, k * 2, none⟩)) rfl (by kernel_rfl) (by kernel_rfl) (by kernel_rfl) (fun _ _ _ h => h) (Or.inl ⟨by rfl, fun w' _ => by go_simp <;> omega⟩) s0 ?_
          go_simp
          refine wpAnyH_take (i := 3) (v := .agg #[.int .i64 x.index, .int .i64 x.gen]) rfl (by kernel_rfl) (by kernel_rfl) (by kernel_rfl) (fun _ _ _ h => h) (Or.inl ⟨by rfl, fun w' h => by have h' : w' = wr.drew := h; subst h'; go_simp⟩) s0 ?_
          go_simp
          refine wpAnyH_take (i := 4) (v := .slice (some ⟨g, 0, none⟩) n cap) rfl (by kernel_rfl) (by kernel_rfl) (by kernel_rfl) (fun _ _ _ h => h) (Or.inl ⟨by rfl, fun w' _ => by go_simp <;> omega⟩) s0 ?_
          go_simp
          refine wpAnyH_take (i := 5) (v := .int .i64 k) rfl (by kernel_rfl) (by kernel_rfl) (by kernel_rfl) (fun _ _ _ h => h) (Or.inl ⟨by rfl, fun w' _ => by go_simp <;> omega⟩) s0 ?_
          go_simp
          refine wpAnyH_take (i := 6) (v := .int .i64 m) rfl (by kernel_rfl) (by kernel_rfl) (by kernel_rfl) (fun _ _ _ h => h) (Or.inl ⟨by rfl, fun w' _ => by go_simp <;> omega⟩) s0 ?_
          go_simp
          refine wpAnyH_take (i := 7) (v := .pointer (some ⟨g, m * 2, none⟩)) rfl (by kernel_rfl) (by kernel_rfl) (by kernel_rfl) (fun _ _ _ h => h) (Or.inl ⟨by rfl, fun w' _ => by go_simp <;> omega⟩) s0 ?_
          go_simp
          refine wpAnyH_take (i := 8) (v := .agg #[.int .i64 y.index, .int .i64 y.gen]) rfl (by kernel_rfl) (by kernel_rfl) (by kernel_rfl) (fun _ _ _ h => h) (Or.inl ⟨by rfl, fun w' h => by have h' : w' = wr.drew := h; subst h'; go_simp⟩) s0 ?_
          go_simp
          refine wpAnyH_take (i := 9) (v := .bool false) rfl (by kernel_rfl) (by kernel_rfl) (by kernel_rfl) (fun _ _ _ h => h) (Or.inl ⟨by rfl, fun w' _ => by go_simp <;> omega⟩) s0 ?_
          go_simp
          refine wpAnyH_done (by kernel_rfl) ?_ _
          go_wp2_with fail
          exact ⟨⟨k + 1, by go_num, by omega, by omega, HK2, q + 1, by rw [← hwr]; rfl⟩, by simp [intOf]; omega⟩
        · have hi2 : (x.index == y.index) = false := beq_eq_false_iff_ne.2 hi
          clear hi hxy
          go_wp2_with fail
          refine wp_region_held_drew (S := fun W => W = wr.drew) (by kernel_rfl) rfl (fun s0 => ?_)
          refine wpAnyH_take (i := 0) (v := .slice (some ⟨g, 0, none⟩) n cap) rfl (by kernel_rfl) (by kernel_rfl) (by kernel_rfl) (fun _ _ _ h => h) (Or.inl ⟨by rfl, fun w' _ => by go_simp <;> omega⟩) s0 ?_
          go_simp
          refine wpAnyH_take (i := 1) (v := .int .i64 k) rfl (by kernel_rfl) (by kernel_rfl) (by kernel_rfl) (fun _ _ _ h => h) (Or.inl ⟨by rfl, fun w' _ => by go_simp <;> omega⟩) s0 ?_
          go_simp
          refine wpAnyH_take (i := 2) (v := .pointer (some ⟨g, k * 2, none⟩)) rfl (by kernel_rfl) (by kernel_rfl) (by kernel_rfl) (fun _ _ _ h => h) (Or.inl ⟨by rfl, fun w' _ => by go_simp <;> omega⟩) s0 ?_
          go_simp
          refine wpAnyH_take (i := 3) (v := .agg #[.int .i64 x.index, .int .i64 x.gen]) rfl (by kernel_rfl) (by kernel_rfl) (by kernel_rfl) (fun _ _ _ h => h) (Or.inl ⟨by rfl, fun w' h => by have h' : w' = wr.drew := h; subst h'; go_simp⟩) s0 ?_
          go_simp
          refine wpAnyH_take (i := 4) (v := .slice (some ⟨g, 0, none⟩) n cap) rfl (by kernel_rfl) (by kernel_rfl) (by kernel_rfl) (fun _ _ _ h => h) (Or.inl ⟨by rfl, fun w' _ => by go_simp <;> omega⟩) s0 ?_
          go_simp
          refine wpAnyH_take (i := 5) (v := .int .i64 k) rfl (by kernel_rfl) (by kernel_rfl) (by kernel_rfl) (fun _ _ _ h => h) (Or.inl ⟨by rfl, fun w' _ => by go_simp <;> omega⟩) s0 ?_
          go_simp
          refine wpAnyH_take (i := 6) (v := .int .i64 m) rfl (by kernel_rfl) (by kernel_rfl) (by kernel_rfl) (fun _ _ _ h => h) (Or.inl ⟨by rfl, fun w' _ => by go_simp <;> omega⟩) s0 ?_
          go_simp
          refine wpAnyH_take (i := 7) (v := .pointer (some ⟨g, m * 2, none⟩)) rfl (by kernel_rfl) (by kernel_rfl) (by kernel_rfl) (fun _ _ _ h => h) (Or.inl ⟨by rfl, fun w' _ => by go_simp <;> omega⟩) s0 ?_
          go_simp
          refine wpAnyH_take (i := 8) (v := .agg #[.int .i64 y.index, .int .i64 y.gen]) rfl (by kernel_rfl) (by kernel_rfl) (by kernel_rfl) (fun _ _ _ h => h) (Or.inl ⟨by rfl, fun w' h => by have h' : w' = wr.drew := h; subst h'; go_simp⟩) s0 ?_
          go_simp
          refine wpAnyH_take (i := 9) (v := .bool false) rfl (by kernel_rfl) (by kernel_rfl) (by kernel_rfl) (fun _ _ _ h => h) (Or.inl ⟨by rfl, fun w' _ => by go_simp <;> omega⟩) s0 ?_
          go_simp
          refine wpAnyH_done (by kernel_rfl) ?_ _
          go_wp2_with fail
          exact ⟨⟨k + 1, by go_num, by omega, by omega, HK2, q + 1, by rw [← hwr]; rfl⟩, by simp [intOf]; omega⟩
    · obtain rfl : k = n := by omega
      go_wp2_with fail
      go_ret
      have hcs := compact_small (d := d) (by rw [HN.out]; exact HK.out)
      rw [HN.out] at hcs
      rw [hcs, Array.length_toList, HN.out]
      exact ⟨rfl, ⟨d, HRW.out, rfl⟩, by rw [← hwr]; exact below_drewN (Below.refl _ _) q⟩
end Go.Proofs.Ytfpmkenobphfnaa
