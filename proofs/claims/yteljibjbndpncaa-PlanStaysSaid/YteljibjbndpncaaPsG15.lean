/- Texts on which the proofs stand: Live24, PlanHolds. No condition is laid on any input. -/
import Derived.Test.YteljibjbndpncaaPsG13
import Derived.Test.YteljibjbndpncaaPsG14
import Derived.Test.YteljibjbndpncaaPsG3
import Derived.Test.YteljibjbndpncaaPsG9
import Derived.Test.YteljibjbndpncaaPsPOf
/- The example of the statements on which pages stay, walked. -/
namespace Go.Proofs.Yteljibjbndpncaa
open Go.RowKit

def zeros1000 : List UInt8 := List.replicate 1000 0
def ones500 : List UInt8 := zeros1000.set 500 1
def key000 : DKey := ⟨0, 0, 0⟩
theorem example24 : flowsOf [⟨key000, zeros1000, [7, 8, 9]⟩] [⟨key000, ones500⟩] = [⟨key000, ones500, [7, -1, 9]⟩] := by decide +kernel
theorem make_val {w : World} {g n : Nat} (hn : n ≤ maxLen) (h : w.heap[g]? = some (.cells (zeroBytes n) 5 (0, 0))) : Rep.byte.list.val (fun b => b = g) w (.slice (some ⟨g, 0, none⟩) n n) (List.replicate n 0) := by
  refine Rep.list_val (by simp) (Nat.le_refl _) hn ⟨_, Rep.byte_row _, fun _ => ⟨g, 0, rfl, rfl, ⟨_, _, _, h⟩, fun j u hj => ?_⟩⟩
  rw [cell_of_row _ _ _ _ _ _ h, Nat.zero_add, ← hj, ← Array.getElem?_toList, zeroBytes, toList_madeCells_one]
  simp
/-- One byte written. -/
theorem set_val {w : World} {g n i : Nat} {l : List UInt8} {x : UInt8} (h : Rep.byte.list.val (fun b => b = g) w (.slice (some ⟨g, 0, none⟩) n n) l) (hi : i < n) : Rep.byte.list.val (fun b => b = g) (w.setCell ⟨g, i, none⟩ (.int .u8 (x.toNat : Int))) (.slice (some ⟨g, 0, none⟩) n n) (l.set i x) := by
  obtain ⟨A, c, e, h1, h2, hat⟩ := Rep.val_list h
  cases e
  have hc : ∀ j y, l[j]? = some y → w.cell? ⟨g, j, none⟩ = some (.int .u8 (y.toNat : Int)) := fun j y hj => by
    obtain ⟨b, off, e, hc⟩ := hat.byte hj
    cases e
    simpa using hc
  obtain ⟨z, hz⟩ : ∃ z, l[i]? = some z := ⟨_, List.getElem?_eq_getElem hi⟩
  have hset : (w.setCell ⟨g, i, none⟩ (.int .u8 (x.toNat : Int))).cell? ⟨g, i, none⟩ = some (.int .u8 (x.toNat : Int)) := World.cell?_setCell_same w _ _ (hc i z hz)
  obtain ⟨es, h3, h4⟩ := Rep.At.of_cells (r := Rep.byte) (Q := fun b => b = g) (w := w.setCell ⟨g, i, none⟩ (.int .u8 (x.toNat : Int))) (b := g) (xs := l.set i x) 0 (fun j y hy => ⟨[.int .u8 (y.toNat : Int)], rfl, fun m u hm => by
    match m, hm with
    | 0, hm =>
      cases hm
      show World.cell? _ ⟨g, 0 + j * 1 + 0, none⟩ = _
      rw [show 0 + j * 1 + 0 = j by omega]
      by_cases e : j = i
      · subst e
        rw [List.getElem?_set_self hi] at hy
        cases hy
        exact hset
      · rw [List.getElem?_set_ne (by omega)] at hy
        rw [World.cell?_setCell_other w _ _ _ (fun h => e (by injection h with _ h; exact h.symm))]
        exact hc j y hy
    | m + 1, hm => cases hm⟩)
  exact Rep.list_val (by simp) h1 h2 ⟨es, h3, fun _ => ⟨g, 0, rfl, rfl, isC_of_cell hset, h4⟩⟩
theorem exec_make {P : Program} {o : Oper} {a : Act} {w : World} {t : TypeId} (ho : o.op = .makeSlice t (.const (.int .i64 1000)) (.const (.int .i64 1000))) (hm : (Instr.makeSlice t (.int .i64 1000) (.int .i64 1000)).run P w = .ok (.slice (some ⟨w.heap.size, 0, none⟩) 1000 1000) (w.alloc (.cells (zeroBytes 1000) 5))) :
    (execOp a.eval o).run P w = .ok (.value (.slice (some ⟨w.heap.size, 0, none⟩) 1000 1000)) (w.alloc (.cells (zeroBytes 1000) 5)) := by
  unfold execOp
  simp only [ho, Sem.run_bind, Act.eval, hm, Result.andThen_ok, Sem.run_pure]

set_option maxRecDepth 100000 in
set_option maxHeartbeats 2000000 in
/-- live -/
theorem live24_calls (w : World) : Calls Try.prog 9 #[] w fun e w' => e = .returned (.bool true) ∧ Below w.heap.size w w' := by
  have hmk : ∀ w, (Instr.makeSlice 33 (.int .i64 1000) (.int .i64 1000)).run Try.prog w = .ok (.slice (some ⟨w.heap.size, 0, none⟩) 1000 1000) (w.alloc (.cells (zeroBytes 1000) 5)) :=
    fun w => run_make_bytes Try.underlying33 info5 1000 (by omega) w
  have HMK := Lib.hid hmk
  clear hmk
  go_enter Try.func9, Try.ntmps9
  go_wp2_with fail
  obtain ⟨W2, hW2⟩ : ∃ W2, (w.drew.alloc (.cells (zeroBytes 1000) 5)).alloc (.cells (zeroBytes 1000) 5) = W2 := ⟨_, rfl⟩
  have hz : W2.heap.size = w.heap.size + 2 := by rw [← hW2]; simp
  have hb2 : Below w.heap.size w W2 := by rw [← hW2]; exact ((Below.refl _ _).drew.alloc (Nat.le_refl _) _).alloc (by simp) _
  have h0 : W2.heap[w.heap.size]? = some (.cells (zeroBytes 1000) 5 (0, 0)) := by rw [← hW2]; exact (Below.heap_alloc _ _ _ (by simp)).trans (heap_alloc_new w.drew _)
  have h1 : W2.heap[w.heap.size + 1]? = some (.cells (zeroBytes 1000) 5 (0, 0)) := by
    rw [← hW2]
    have := heap_alloc_new (w.drew.alloc (.cells (zeroBytes 1000) 5)) (.cells (zeroBytes 1000) 5)
    simpa using this
  refine wp_mono (Q := fun e a' w' => e = .normal ∧ ∃ g1 g2, ((g1 = w.heap.size ∧ g2 = w.heap.size + 1) ∨ (g1 = w.heap.size + 1 ∧ g2 = w.heap.size)) ∧ a' = { tmps := #[.bool false, .slice (some ⟨g1, 0, none⟩) 1000 1000, .slice (some ⟨g2, 0, none⟩) 1000 1000, undef, .slice (some ⟨g1, 0, none⟩) 1000 1000, .slice (some ⟨g2, 0, none⟩) 1000 1000, undef, undef, undef, undef, undef, undef, undef, undef, undef, undef, undef, undef, undef, undef, undef, undef, undef, undef, undef, undef, undef], defers := [] } ∧ w' = W2) ?region ?rest
  case region =>
    refine wp_region_any (by kernel_rfl) ?_
    try (change wpAny _ _ _ _ _ _ _ (World.drew _))
    refine any_step [0, 1] (by kernel_rfl) (by simp) ?_
    intro i hi
    rcases (by simpa using hi : i = 0 ∨ i = 1) with rfl | rfl
    · refine wpOp_step rfl (fun K hK => ?_)
      refine step_run rfl (exec_make rfl (HMK.out _)) ?_
      refine hK _ _ ?_
      clear hK K
      refine wpAny_take (i := 2) (v := .slice (some ⟨w.heap.size, 0, none⟩) 1000 1000) rfl (by kernel_rfl) (by kernel_rfl) (by kernel_rfl) (fun _ _ _ h => by cases h.1) (Or.inl ⟨by rfl, fun w' => by go_simp⟩) ?_
      refine any_step [1] (by kernel_rfl) (by simp) ?_
      intro i hi
      obtain rfl : i = 1 := by simpa using hi
      refine wpOp_step rfl (fun K hK => ?_)
      refine step_run rfl (exec_make rfl (HMK.out _)) ?_
      refine hK _ _ ?_
      clear hK K
      refine wpAny_take (i := 3) (v := .slice (some ⟨w.heap.size + 1, 0, none⟩) 1000 1000) rfl (by kernel_rfl) (by kernel_rfl) (by kernel_rfl) (fun _ _ _ h => by cases h.1) (Or.inl ⟨by rfl, fun w' => by go_simp⟩) ?_
      refine wpAny_done (by kernel_rfl) ?_ _
      exact ⟨rfl, w.heap.size, w.heap.size + 1, .inl ⟨rfl, rfl⟩, by go_simp, hW2⟩
    · refine wpOp_step rfl (fun K hK => ?_)
      refine step_run rfl (exec_make rfl (HMK.out _)) ?_
      refine hK _ _ ?_
      clear hK K
      refine any_step [0] (by kernel_rfl) (by simp) ?_
      intro i hi
      obtain rfl : i = 0 := by simpa using hi
      refine wpOp_step rfl (fun K hK => ?_)
      refine step_run rfl (exec_make rfl (HMK.out _)) ?_
      refine hK _ _ ?_
      clear hK K
      refine wpAny_take (i := 2) (v := .slice (some ⟨w.heap.size + 1, 0, none⟩) 1000 1000) rfl (by kernel_rfl) (by kernel_rfl) (by kernel_rfl) (fun _ _ _ h => by cases h.1) (Or.inl ⟨by rfl, fun w' => by go_simp⟩) ?_
      refine wpAny_take (i := 3) (v := .slice (some ⟨w.heap.size, 0, none⟩) 1000 1000) rfl (by kernel_rfl) (by kernel_rfl) (by kernel_rfl) (fun _ _ _ h => by cases h.1) (Or.inl ⟨by rfl, fun w' => by go_simp⟩) ?_
      refine wpAny_done (by kernel_rfl) ?_ _
      exact ⟨rfl, w.heap.size + 1, w.heap.size, .inr ⟨rfl, rfl⟩, by go_simp, hW2⟩
  case rest =>
    rintro e a' w' ⟨rfl, g1, g2, hg, rfl, rfl⟩
    have hg1 : w'.heap[g1]? = some (.cells (zeroBytes 1000) 5 (0, 0)) := by rcases hg with ⟨rfl, _⟩ | ⟨rfl, _⟩ <;> assumption
    have hg2 : w'.heap[g2]? = some (.cells (zeroBytes 1000) 5 (0, 0)) := by rcases hg with ⟨_, rfl⟩ | ⟨_, rfl⟩ <;> assumption
    have hv1 := make_val (by simp [maxLen]) hg1
    have hv2 := set_val (i := 500) (x := 1) (make_val (by simp [maxLen]) hg2) (by omega)
    have hne : g1 ≠ g2 := by omega
    have hlo : w.heap.size ≤ g1 ∧ w.heap.size ≤ g2 ∧ g1 < w'.heap.size ∧ g2 < w'.heap.size := by omega
    have c0 : w'.cell? ⟨g2, 500, none⟩ = some (.int .u8 0) := by
      obtain ⟨_, _, e, _, _, hat⟩ := Rep.val_list (make_val (by simp [maxLen]) hg2)
      cases e
      obtain ⟨b, off, e, hc⟩ := hat.byte (i := 500) (x := 0) (List.getElem?_replicate_of_lt (by omega))
      cases e
      simpa using hc
    have c1 := frozen_row hg2 500
    obtain ⟨W3, hW3⟩ : ∃ W3, w'.setCell ⟨g2, 500, none⟩ (.int .u8 1) = W3 := ⟨_, rfl⟩
    have hz3 : W3.heap.size = w'.heap.size := by rw [← hW3]; simp [World.setCell]
    have hb3 : Below w.heap.size w W3 := by rw [← hW3]; exact hb2.setCell (p := ⟨g2, 500, none⟩) hlo.2.1 _
    have hx1 : Rep.byte.list.val (fun b => b = g1) W3 (.slice (some ⟨g1, 0, none⟩) 1000 1000) zeros1000 := by
      rw [← hW3]
      exact Rep.val_keep (fun b hb _ => ⟨hb, Below.heap_setCell _ _ _ _ (by rw [show b = g1 from hb]; exact hne)⟩) hv1
    have hx2 : Rep.byte.list.val (fun b => b = g2) W3 (.slice (some ⟨g2, 0, none⟩) 1000 1000) ones500 := by
      rw [← hW3]; exact hv2
    have HX1 := Lib.hid hx1
    have HX2 := Lib.hid hx2
    have HB3 := Lib.hid hb3
    have HZ3 := Lib.hid (show w.heap.size ≤ W3.heap.size ∧ g1 < W3.heap.size ∧ g2 < W3.heap.size by omega)
    obtain ⟨n3, hn3⟩ : ∃ n3, W3.heap.size = n3 := ⟨_, rfl⟩
    have HN3 := Lib.hid hn3
    obtain ⟨W4, hW4⟩ : ∃ W4, W3.alloc (.cells #[.int .i64 7, .int .i64 8, .int .i64 9] 3) = W4 := ⟨_, rfl⟩
    have hz4 : W4.heap.size = n3 + 1 := by rw [← hW4]; simp [hn3]
    have hb4 : Below n3 W3 W4 := by rw [← hW4]; exact (Below.refl _ _).alloc (Nat.le_of_eq hn3.symm) _
    have hi4 : (Rep.int .i64).list.val (fun _ => True) W4 (.slice (some ⟨n3, 0, none⟩) 3 3) [7, 8, 9] := by
      rw [← hW4, ← hn3]
      exact lit_list (r := Rep.int .i64) (e := 3) (w := W3) (xs := [7, 8, 9]) (n := 3) (cs := [.int .i64 7, .int .i64 8, .int .i64 9]) (Q := fun _ => True) rfl (by simp [maxLen]) trivial ⟨[.int .i64 7], _, rfl, ⟨rfl, rfl⟩, ⟨[.int .i64 8], _, rfl, ⟨rfl, rfl⟩, ⟨[.int .i64 9], [], rfl, ⟨rfl, rfl⟩, rfl⟩⟩⟩
    obtain ⟨W5, hW5⟩ : ∃ W5, W4.alloc (.cells #[.int .i64 0, .int .u64 0, .int .i64 0, .slice (some ⟨g1, 0, none⟩) 1000 1000, .slice (some ⟨n3, 0, none⟩) 3 3] 35) = W5 := ⟨_, rfl⟩
    have hz5 : W5.heap.size = n3 + 2 := by rw [← hW5]; simp [hz4]
    have hb5 : Below (n3 + 1) W4 W5 := by rw [← hW5]; exact (Below.refl _ _).alloc (Nat.le_of_eq hz4.symm) _
    have hf5 : rFlow.list.val (fun _ => True) W5 (.slice (some ⟨n3 + 1, 0, none⟩) 1 1) [⟨key000, zeros1000, [7, 8, 9]⟩] := by
      have hd := Rep.val_slice (Rep.val_mono (Q' := fun _ => True) (fun _ _ _ => trivial) (Rep.val_below (Rep.val_below HX1.out hb4 (fun b hb _ => by have := HZ3.out.2.1; rw [show b = g1 from hb]; omega)) hb5 (fun b hb _ => by have := HZ3.out.2.1; rw [show b = g1 from hb]; omega)))
      have hp := Rep.val_slice (Rep.val_below hi4 hb5 (fun b _ hl => by have := hl.lt; omega))
      have := lit_list (r := rFlow) (e := 35) (w := W4) (xs := [⟨key000, zeros1000, [7, 8, 9]⟩]) (n := 1) (cs := [.int .i64 0, .int .u64 0, .int .i64 0, .slice (some ⟨g1, 0, none⟩) 1000 1000, .slice (some ⟨n3, 0, none⟩) 3 3]) (Q := fun _ => True) rfl (by simp [maxLen]) trivial
        (Rep.row_one_elem (rFlow_mk (x := ⟨key000, zeros1000, [7, 8, 9]⟩) rfl rfl rfl (by rw [← hW5] at hd; exact hd) (by rw [← hW5] at hp; exact hp)))
      rw [hz4] at this
      rw [← hW5]; exact this
    obtain ⟨W6, hW6⟩ : ∃ W6, W5.alloc (.cells #[.int .i64 0, .int .u64 0, .int .i64 0, .slice (some ⟨g2, 0, none⟩) 1000 1000] 37) = W6 := ⟨_, rfl⟩
    have hb6 : Below (n3 + 2) W5 W6 := by rw [← hW6]; exact (Below.refl _ _).alloc (Nat.le_of_eq hz5.symm) _
    have hs6 : rStream.list.val (fun _ => True) W6 (.slice (some ⟨n3 + 2, 0, none⟩) 1 1) [⟨key000, ones500⟩] := by
      have hd := Rep.val_slice (Rep.val_mono (Q' := fun _ => True) (fun _ _ _ => trivial) (Rep.val_below (Rep.val_below (Rep.val_below HX2.out hb4 (fun b hb _ => by have := HZ3.out.2.2; rw [show b = g2 from hb]; omega)) hb5 (fun b hb _ => by have := HZ3.out.2.2; rw [show b = g2 from hb]; omega)) hb6 (fun b hb _ => by have := HZ3.out.2.2; rw [show b = g2 from hb]; omega)))
      have := lit_list (r := rStream) (e := 37) (w := W5) (xs := [⟨key000, ones500⟩]) (n := 1) (cs := [.int .i64 0, .int .u64 0, .int .i64 0, .slice (some ⟨g2, 0, none⟩) 1000 1000]) (Q := fun _ => True) rfl (by simp [maxLen]) trivial
        (Rep.row_one_elem (rStream_mk (x := ⟨key000, ones500⟩) rfl rfl rfl (by rw [← hW6] at hd; exact hd)))
      rw [hz5] at this
      rw [← hW6]; exact this
    have HF6 := Lib.hid (Rep.val_any (Rep.val_below hf5 hb6 (fun b _ hl => by have := hl.lt; omega)))
    have HS6 := Lib.hid (Rep.val_any hs6)
    have HB6 := Lib.hid (show Below w.heap.size w W6 from HB3.out.trans ((hb4.trans ((hb5.mono (Nat.le_succ _)).trans (hb6.mono (by omega)))).mono (by have := HZ3.out.1; omega)))
    have hzz : W3.heap.size + 1 = n3 + 1 ∧ W3.heap.size + 1 + 1 = n3 + 2 := by rw [hn3]; exact ⟨rfl, rfl⟩
    clear hv1 hv2 hg1 hg2 hlo hne hg hx1 hx2 hb3 hz3 hi4 hf5 hs6 hb4 hb5 hb6 h0 h1 hz hb2
    have HD1 := Lib.hid (show ∀ f ∈ ([⟨key000, zeros1000, [7, 8, 9]⟩] : List DFlow), f.data.length ≤ 1000000 from fun f hf => by rw [List.mem_singleton.1 hf]; decide +kernel)
    have HD2 := Lib.hid (show ∀ s ∈ ([⟨key000, ones500⟩] : List DStream), s.data.length ≤ 1000000 from fun f hf => by rw [List.mem_singleton.1 hf]; decide +kernel)
    go_wp2_with fail
    refine (planOf_calls HF6.out HS6.out HD1.out HD2.out (by decide)).mono ?_
    clear hW3 hW4 hW5 hW6 hz4 hz5 hn3 hzz c0 c1
    rintro e w7 ⟨u7, rfl, hu7, hb7⟩
    rw [example24] at hu7
    have HB7 := Lib.hid (HB6.out.trans (hb7.mono HB6.out.size))
    obtain ⟨A7, c7, rfl, hc7, hm7, hat7⟩ := Rep.val_list hu7
    obtain ⟨b, off, Ad, cd, Ap, cp, rfl, hbc, _, _, _, _, d4, _, _, _, _, s4⟩ := rFlow_at hat7 (i := 0) rfl
    have hln : (([⟨key000, ones500, [7, -1, 9]⟩] : List DFlow).length : Int) = 1 := rfl
    have hP := Lib.hid (Rep.val_any (Rep.Sl.val s4))
    simp only [List.length_cons, List.length_nil, Nat.zero_add, Nat.reduceAdd, Nat.zero_mul, Nat.add_zero] at d4 hP hc7 ⊢
    clear hu7 hb7 hat7 s4 hbc HX1 HX2 HF6 HS6 HD1 HD2
    go_wp2_with fail
    have hl8 : (Rep.int .i64).list.val (fun _ => True) (w7.alloc (.cells #[.int .i64 7, .int .i64 (-1), .int .i64 9] 3)) (.slice (some ⟨w7.heap.size, 0, none⟩) 3 3) [7, -1, 9] :=
      lit_list (r := Rep.int .i64) (e := 3) (w := w7) (xs := [7, -1, 9]) (n := 3) (cs := [.int .i64 7, .int .i64 (-1), .int .i64 9]) (Q := fun _ => True) rfl (by simp [maxLen]) trivial ⟨[.int .i64 7], _, rfl, ⟨rfl, rfl⟩, ⟨[.int .i64 (-1)], _, rfl, ⟨rfl, rfl⟩, ⟨[.int .i64 9], [], rfl, ⟨rfl, rfl⟩, rfl⟩⟩⟩
    refine (sameList (Rep.val_below (B := w7.heap.size) hP.out ((Below.refl _ _).alloc (Nat.le_refl _) _) (fun b hb _ => hb)) hl8).mono ?_
    rintro e w8 ⟨rfl, nq, rfl⟩
    have HB8 := Lib.hid (HB7.out.trans (below_drewN ((Below.refl w.heap.size w7).alloc (o := .cells #[.int .i64 7, .int .i64 (-1), .int .i64 9] 3) HB7.out.size) nq))
    have HE := Lib.hid (show decide (([7, -1, 9] : List Int) = [7, -1, 9]) = true from rfl)
    rw [HE.out]
    clear hl8 d4
    go_wp2_with fail
    go_ret
    exact ⟨rfl, HB8.out⟩
end Go.Proofs.Yteljibjbndpncaa
/- Walk of whether flows hold a piece at a page. -/
namespace Go.Proofs.Yteljibjbndpncaa
open Go.RowKit

theorem holdsIn_at {f : DFlow} {p : Int} {b : List UInt8} {j : Nat} (hj : j < pieceCount f) (h : pageAt f j = p) (hn : ∀ i, i < j → pageAt f i ≠ p) : holdsIn f p b = some (decide (piece f.data j = b)) := by
  unfold holdsIn
  have : (List.range (pieceCount f)).find? (fun k => pageAt f k == p) = some j := by
    rw [List.find?_eq_some_iff_append]
    refine ⟨by simpa using h, (List.range (pieceCount f)).take j, (List.range (pieceCount f)).drop (j + 1), ?_, fun a ha => ?_⟩
    · have hl : j < (List.range (pieceCount f)).length := by simpa using hj
      have := List.getElem_cons_drop hl
      rw [List.getElem_range] at this
      rw [this, List.take_append_drop]
    · obtain ⟨i, hi, rfl⟩ := List.mem_take_iff_getElem.1 ha
      rw [List.getElem_range]
      have := hn i (by omega)
      simpa using this
  rw [this]; rfl
theorem holdsIn_no {f : DFlow} {p : Int} {b : List UInt8} (hn : ∀ i, i < pieceCount f → pageAt f i ≠ p) : holdsIn f p b = none := by
  unfold holdsIn
  rw [List.find?_eq_none.2 fun x hx => by have := hn x (by simpa using hx); simpa using this]; rfl
theorem holdsOf_at {p : Int} {b : List UInt8} {r : Bool} : ∀ {l : List DFlow} {k : Nat} {f : DFlow}, l[k]? = some f → (∀ g ∈ l.take k, holdsIn g p b = none) → holdsIn f p b = some r → holdsOf l p b = r
  | [], _, _, h, _, _ => by simp at h
  | g :: l, 0, f, h, _, hf => by
    have e : g = f := by simpa using h
    subst e
    simp only [holdsOf, hf]
  | g :: l, k + 1, f, h, hn, hf => by
    have h0 := hn g (by simp)
    simp only [holdsOf, h0]
    exact holdsOf_at (l := l) (k := k) (by simpa using h) (fun x hx => hn x (by simp [hx])) hf
theorem holdsOf_no {p : Int} {b : List UInt8} : ∀ {l : List DFlow}, (∀ g ∈ l, holdsIn g p b = none) → holdsOf l p b = false
  | [], _ => rfl
  | g :: l, h => by
    simp only [holdsOf, h g (by simp)]
    exact holdsOf_no fun x hx => h x (by simp [hx])

set_option maxRecDepth 100000 in
set_option maxHeartbeats 2000000 in
/-- holds -/
theorem holds24_calls {Q Qb : Nat → Prop} {w : World} {v vb : Value} {l : List DFlow} {p : Int} {x : List UInt8} (hx : rFlow.list.val Q w v l) (hb : Rep.byte.list.val Qb w vb x) (hd : ∀ f ∈ l, f.data.length ≤ 1000000) :
    Calls Try.prog 16 #[v, .int .i64 p, vb] w fun e w' => e = .returned (.bool (holdsOf l p x)) ∧ Below w.heap.size w w' := by
  obtain ⟨A, c, rfl, hc1, hc2, hA⟩ := Rep.val_list hx
  unfold maxLen at hc2
  have HA := Lib.hid hA
  have HD := Lib.hid hd
  have HVB := Lib.hid hb
  clear hx hA hd hb
  go_enter Try.func16, Try.ntmps16
  go_wp2_with fail
  go_loopw [7] (fun i wr => ∃ k : Nat, i = .int .i64 k ∧ k ≤ l.length ∧ Hid (∀ g ∈ l.take k, holdsIn g p x = none) ∧ Hid (Below w.heap.size w wr)) (fun i _ => l.length - (intOf i).toNat)
  case atStart => exact ⟨0, rfl, Nat.zero_le _, Lib.hid (by simp), Lib.hid (Below.refl _ _)⟩
  case round =>
    obtain ⟨k, rfl, hk, HN, HBW⟩ := hrel
    by_cases hlt : (k : Int) < l.length
    · obtain ⟨f, hf⟩ : ∃ f, l[k]? = some f := ⟨_, List.getElem?_eq_getElem (by omega)⟩
      obtain ⟨b, off, A1, c1, A2, c2, hA, hbc, _, _, _, d3, _, _, _, _, s3, _⟩ := rFlow_at (HA.out.below HBW.out (fun _ _ h => h.lt)) hf
      subst hA
      have HX := Lib.hid hf
      have HDF := Lib.hid (HD.out f (List.mem_of_getElem? hf))
      have HDV := Lib.hid s3.val
      clear hf hbc s3
      go_wp2_with fail
      refine (rcut_calls HDV.out HDF.out).mono ?_
      rintro e w3 ⟨u3, rfl, hu3, hb3⟩
      obtain ⟨A5, c5, rfl, h51, h52, hat5⟩ := Rep.val_list hu3
      have HB3 := Lib.hid (HBW.out.trans (hb3.mono HBW.out.size))
      have HGET := Lib.hid (fun (i : Nat) (h : i < (f.data.length + 471) / 472) => cut_get h)
      have hlen : (cut f.data).length = pieceCount f := cut_length _
      have HPC := Lib.hid (show pieceCount f = (f.data.length + 471) / 472 from rfl)
      have KAT := Lib.hid (show ∀ W, Below w3.heap.size w3 W → Rep.byte.list.At (fun b => b < w3.heap.size) W A5 (cut f.data) from fun W hb => Rep.At.keep (w := w3) (fun b _ hl => ⟨hl.lt, hb.block b hl.lt⟩) hat5)
      have hp3 := pieceCount_le HDF.out
      generalize cut f.data = P at *
      obtain ⟨n, hn⟩ : ∃ n, P.length = n := ⟨_, rfl⟩
      have HNP := Lib.hid (show n = pieceCount f by rw [← hn, hlen])
      have hn3 : n ≤ 3000 := by have := HNP.out; omega
      rw [hn] at h51 ⊢
      unfold maxLen at h52
      clear hu3 hb3 hlen hn hat5 d3 hp3
      go_wp2_with fail
      go_loopw [9] (fun i wr => ∃ j : Nat, i = .int .i64 j ∧ j ≤ n ∧ Hid (∀ i, i < j → pageAt f i ≠ p) ∧ Hid (Below w3.heap.size w3 wr)) (fun i _ => n - (intOf i).toNat)
      case atStart => exact ⟨0, rfl, Nat.zero_le _, Lib.hid (fun i hi => absurd hi (Nat.not_lt_zero _)), Lib.hid (Below.refl _ _)⟩
      case round =>
        obtain ⟨j, rfl, hj, HJ, HBX⟩ := hrel
        by_cases hjn : (j : Int) < n
        · have HBO := Lib.hid (HB3.out.trans (HBX.out.mono HB3.out.size))
          obtain ⟨b', off', A3, c3, A4, c4, hA, _, d0, d1, d2, d3, d4, f0, f1, f2, s3, s4⟩ := rFlow_at (HA.out.below HBO.out (fun _ _ h => h.lt)) HX.out
          cases hA
          have HFV := Lib.hid (rFlow_agg (x := f) f0 f1 f2 s3 s4)
          clear f0 f1 f2 s3 s4
          go_wp2_with fail
          refine (rpageAt_calls HFV.out).mono ?_
          rintro e w5 ⟨rfl, hb5⟩
          have HB5 := Lib.hid (HBX.out.trans (hb5.mono HBX.out.size))
          obtain ⟨q, hq⟩ : ∃ q, pageAt f j = q := ⟨_, rfl⟩
          have HQ := Lib.hid hq
          rw [hq]
          clear hq hb5 d0 d1 d2 d3 d4
          by_cases hqp : q = p
          · subst hqp
            have hgt := HGET.out j (by rw [← HPC.out, ← HNP.out]; omega)
            obtain ⟨bb, o5, B6, c6, rfl, hcell, hc6, hm6, hat6⟩ := Rep.At.list (KAT.out w5 HB5.out) hgt
            have HPV := Lib.hid (Rep.list_val (r := Rep.byte) rfl hc6 hm6 hat6)
            have HXV := Lib.hid (Rep.val_below HVB.out (HB3.out.trans (HB5.out.mono HB3.out.size)) (fun _ _ h => h.lt))
            have HR := Lib.hid (holdsOf_at HX.out HN.out (holdsIn_at (b := x) (by rw [← HNP.out]; omega) HQ.out HJ.out))
            clear hgt hat6
            go_wp2_with fail
            refine (sameBytes HPV.out HXV.out).mono ?_
            rintro e w6 ⟨rfl, hw⟩
            subst hw
            go_wp2_with fail
            go_ret
            exact ⟨by rw [HR.out]; rfl, HB3.out.trans (HB5.out.mono HB3.out.size)⟩
          · have HJ2 := Lib.hid (show ∀ i, i < j + 1 → pageAt f i ≠ p from fun i hi => by
              rcases Nat.lt_or_ge i j with h | h
              · exact HJ.out i h
              · rw [show i = j by omega, HQ.out]; exact hqp)
            have hqb : (q == p) = false := beq_eq_false_iff_ne.2 hqp
            clear hqp
            go_wp2_with fail
            exact ⟨⟨j + 1, by go_num, by omega, HJ2, HB5⟩, by simp [intOf]; omega⟩
        · obtain rfl : j = n := by omega
          have HN2 := Lib.hid (show ∀ g ∈ l.take (k + 1), holdsIn g p x = none from fun g hg => by
            obtain ⟨hk', he⟩ := List.getElem?_eq_some_iff.1 HX.out
            rw [List.take_succ_eq_append_getElem hk', List.mem_append, List.mem_singleton] at hg
            rcases hg with hg | rfl
            · exact HN.out g hg
            · rw [he]; exact holdsIn_no fun i hi => HJ.out i (by rw [HNP.out]; exact hi))
          go_wp2_with fail
          exact ⟨⟨k + 1, by go_num, by omega, HN2, Lib.hid (HB3.out.trans (HBX.out.mono HB3.out.size))⟩, by simp [intOf]; omega⟩
    · obtain rfl : k = l.length := by omega
      rw [List.take_length] at HN
      have HR := Lib.hid (holdsOf_no HN.out)
      go_wp2_with fail
      go_ret
      exact ⟨by rw [HR.out]; rfl, HBW.out⟩
end Go.Proofs.Yteljibjbndpncaa
