/- Texts on which the proofs stand: KeyOrder. No condition is laid on any input. -/
import Derived.Test.YtghbfbohnoebiaaGreatSnG17
import Derived.Test.YtghbfbohnoebiaaGreatSnG22
namespace Go.Proofs.YtghbfbohnoebiaaGreat
open Go.RowKit

/-- cmp.Compare of ints -/
theorem cmpInt_calls (a b : Int) (w : World) : Calls Tryz.prog 151 #[.int .i64 a, .int .i64 b] w fun e w' => e = .returned (.int .i64 (cmpI a b)) ∧ w' = w := by
  by_cases h1 : a < b
  · have HF := Lib.hid (show cmpI a b = -1 from if_pos h1)
    go_enter Tryz.func151, Tryz.ntmps151
    go_wp2
    go_ret
    exact ⟨by rw [HF.out]; rfl, rfl⟩
  · by_cases h2 : b < a
    · have HF := Lib.hid (show cmpI a b = 1 from (if_neg h1).trans (if_pos h2))
      go_enter Tryz.func151, Tryz.ntmps151
      go_wp2
      go_ret
      exact ⟨by rw [HF.out]; rfl, rfl⟩
    · have HF := Lib.hid (show cmpI a b = 0 from (if_neg h1).trans (if_neg h2))
      go_enter Tryz.func151, Tryz.ntmps151
      go_wp2
      go_ret
      exact ⟨by rw [HF.out]; rfl, rfl⟩

/-- cmp.Compare of uint64s -/
theorem cmpU_calls (a b : Int) (w : World) : Calls Tryz.prog 153 #[.int .u64 a, .int .u64 b] w fun e w' => e = .returned (.int .i64 (cmpI a b)) ∧ w' = w := by
  by_cases h1 : a < b
  · have HF := Lib.hid (show cmpI a b = -1 from if_pos h1)
    go_enter Tryz.func153, Tryz.ntmps153
    go_wp2
    go_ret
    exact ⟨by rw [HF.out]; rfl, rfl⟩
  · by_cases h2 : b < a
    · have HF := Lib.hid (show cmpI a b = 1 from (if_neg h1).trans (if_pos h2))
      go_enter Tryz.func153, Tryz.ntmps153
      go_wp2
      go_ret
      exact ⟨by rw [HF.out]; rfl, rfl⟩
    · have HF := Lib.hid (show cmpI a b = 0 from (if_neg h1).trans (if_neg h2))
      go_enter Tryz.func153, Tryz.ntmps153
      go_wp2
      go_ret
      exact ⟨by rw [HF.out]; rfl, rfl⟩

/-- The first one that is not 0. -/
def orL : List Int → Int
  | [] => 0
  | x :: l => if x = 0 then orL l else x
theorem orL_drop {l : List Int} {k : Nat} (hk : k < l.length) : orL (l.drop k) = if l[k] = 0 then orL (l.drop (k + 1)) else l[k] := by
  rw [← List.getElem_cons_drop hk]; rfl

set_option maxRecDepth 100000 in
/-- cmp.Or of ints -/
theorem orInt_calls {Q : Nat → Prop} {w : World} {v : Value} {l : List Int} (hx : (Rep.int .i64).list.val Q w v l) : Calls Tryz.prog 150 #[v] w fun e w' => e = .returned (.int .i64 (orL l)) ∧ w' = w := by
  obtain ⟨A, c, rfl, hc1, hc2, hA⟩ := Rep.val_list hx
  unfold maxLen at hc2
  have HA := Lib.hid hA
  clear hx hA
  go_enter Tryz.func150, Tryz.ntmps150
  go_wp2_with fail
  go_loop [8] (fun i => ∃ k : Nat, i = .int .i64 k ∧ k ≤ l.length ∧ Hid (orL l = orL (l.drop k))) (fun i => l.length - (intOf i).toNat)
  case atStart => exact ⟨0, rfl, Nat.zero_le _, Lib.hid (by rw [List.drop_zero])⟩
  case round =>
    obtain ⟨k, rfl, hk, hv⟩ := hrel
    by_cases hlt : (k : Int) < l.length
    · have hk' : k < l.length := by omega
      obtain ⟨b, off, rfl, hc, hw⟩ := HA.out.int (List.getElem?_eq_getElem hk')
      have HD := Lib.hid (hv.out.trans (orL_drop hk'))
      generalize l[k] = x at *
      clear hw
      by_cases h0 : x = 0
      · subst h0
        have HE := Lib.hid (HD.out.trans (if_pos rfl))
        go_wp2_with fail
        exact ⟨⟨k + 1, by go_num, by omega, HE⟩, by simp [intOf]; omega⟩
      · have g0 : (x != 0) = true := by simpa using h0
        have HE := Lib.hid (HD.out.trans (if_neg h0))
        clear h0
        go_wp2_with fail
        go_ret
        exact ⟨by rw [HE.out]; rfl, rfl⟩
    · obtain rfl : k = l.length := by omega
      have HE := Lib.hid (show orL l = 0 by rw [hv.out, List.drop_length]; rfl)
      go_wp2_with fail
      go_ret
      exact ⟨by rw [HE.out]; rfl, rfl⟩

set_option maxRecDepth 100000 in
/-- flow.rank -/
theorem rank_calls (n s c : Int) (w : World) : Calls Tryz.prog 152 #[.agg #[.int .i64 n, .int .u64 s, .int .i64 c]] w fun e w' => e = .returned (.int .i64 (min n 2)) ∧ Below w.heap.size w w' := by
  have HB := Lib.hid (show ∀ o, Below w.heap.size w (w.alloc o) from fun o => (Below.refl _ _).alloc (Nat.le_refl _) _)
  by_cases h : n ≤ 2
  · have HF := Lib.hid (show min n 2 = n from Int.min_eq_left h)
    by_cases h2 : n = 2
    · subst h2
      go_enter Tryz.func152, Tryz.ntmps152
      go_wp2_with fail
      all_goals (go_ret; exact ⟨by rw [HF.out]; rfl, HB.out _⟩)
    · have h3 : n < 2 := by omega
      clear h2
      go_enter Tryz.func152, Tryz.ntmps152
      go_wp2_with fail
      all_goals (go_ret; first | exact ⟨by rw [HF.out]; rfl, HB.out _⟩ | (exfalso; omega))
  · have HF := Lib.hid (show min n 2 = 2 from Int.min_eq_right (by omega))
    have h3 : 2 < n := by omega
    go_enter Tryz.func152, Tryz.ntmps152
    go_wp2_with fail
    all_goals (go_ret; first | exact ⟨by rw [HF.out]; rfl, HB.out _⟩ | (exfalso; omega))

theorem cmpI_wf (a b : Int) : (Lit.int .i64 (cmpI a b)).wf = true := by
  unfold cmpI
  split
  · rfl
  · split <;> rfl
theorem cmps4 (w : World) (a1 b1 a2 b2 a3 b3 a4 b4 : Int) : (Rep.int .i64).list.val (fun _ => True) (w.alloc (.cells #[.int .i64 (cmpI a1 b1), .int .i64 (cmpI a2 b2), .int .i64 (cmpI a3 b3), .int .i64 (cmpI a4 b4)] 3)) (.slice (some ⟨w.heap.size, 0, none⟩) 4 4) [cmpI a1 b1, cmpI a2 b2, cmpI a3 b3, cmpI a4 b4] :=
  lit_list (r := Rep.int .i64) (e := 3) (w := w) (xs := [cmpI a1 b1, cmpI a2 b2, cmpI a3 b3, cmpI a4 b4]) (n := 4) (cs := [.int .i64 (cmpI a1 b1), .int .i64 (cmpI a2 b2), .int .i64 (cmpI a3 b3), .int .i64 (cmpI a4 b4)]) (Q := fun _ => True) rfl (by simp [maxLen]) trivial
    ⟨[_], _, rfl, ⟨rfl, cmpI_wf _ _⟩, [_], _, rfl, ⟨rfl, cmpI_wf _ _⟩, [_], _, rfl, ⟨rfl, cmpI_wf _ _⟩, [_], _, rfl, ⟨rfl, cmpI_wf _ _⟩, rfl⟩
theorem orL_cmps (x1 x2 x3 x4 : Int) : orL [x1, x2, x3, x4] = orI x1 (orI x2 (orI x3 x4)) := by
  simp only [orL, orI]
  by_cases h : x4 = 0
  · simp [h]
  · simp [h]
/-- The cells of two keys lie in blocks of the call's own. -/
structure Keys (w0 W : World) (a b : DKey) : Prop where
  bel : Below w0.heap.size w0 W
  a0 : W.cell? ⟨w0.heap.size, 0, none⟩ = some (.int .i64 a.kind)
  a1 : W.cell? ⟨w0.heap.size, 1, none⟩ = some (.int .u64 a.sig)
  a2 : W.cell? ⟨w0.heap.size, 2, none⟩ = some (.int .i64 a.comp)
  b0 : W.cell? ⟨w0.heap.size + 1, 0, none⟩ = some (.int .i64 b.kind)
  b1 : W.cell? ⟨w0.heap.size + 1, 1, none⟩ = some (.int .u64 b.sig)
  b2 : W.cell? ⟨w0.heap.size + 1, 2, none⟩ = some (.int .i64 b.comp)
theorem keys_made {w W : World} {a b : DKey} (h : (w.alloc (.cells #[.int .i64 a.kind, .int .u64 a.sig, .int .i64 a.comp] 82)).alloc (.cells #[.int .i64 b.kind, .int .u64 b.sig, .int .i64 b.comp] 82) = W) :
    ∀ W', Below W.heap.size W W' → Keys w W' a b := by
  subst h
  intro W' hb
  have s1 : (w.alloc (.cells #[.int .i64 a.kind, .int .u64 a.sig, .int .i64 a.comp] 82)).heap.size = w.heap.size + 1 := by simp
  have e1 := (heap_alloc_old (w.alloc (.cells #[.int .i64 a.kind, .int .u64 a.sig, .int .i64 a.comp] 82)) (.cells #[.int .i64 b.kind, .int .u64 b.sig, .int .i64 b.comp] 82) (by rw [s1]; omega)).trans (heap_alloc_new w (.cells #[.int .i64 a.kind, .int .u64 a.sig, .int .i64 a.comp] 82))
  have e2 := heap_alloc_new (w.alloc (.cells #[.int .i64 a.kind, .int .u64 a.sig, .int .i64 a.comp] 82)) (.cells #[.int .i64 b.kind, .int .u64 b.sig, .int .i64 b.comp] 82)
  rw [s1] at e2
  have f1 := (hb.block w.heap.size (by simp; omega)).trans e1
  have f2 := (hb.block (w.heap.size + 1) (by simp)).trans e2
  exact ⟨(((Below.refl _ _).alloc (Nat.le_refl _) _).alloc (by rw [s1]; omega) _).trans (hb.mono (by simp; omega)), cell_row f1 0, cell_row f1 1, cell_row f1 2, cell_row f2 0, cell_row f2 1, cell_row f2 2⟩

set_option maxRecDepth 100000 in
set_option maxHeartbeats 1000000 in
/-- flow.Order -/
theorem order_calls (a b : DKey) (w : World) : Calls Tryz.prog 99 #[.agg #[.int .i64 a.kind, .int .u64 a.sig, .int .i64 a.comp], .agg #[.int .i64 b.kind, .int .u64 b.sig, .int .i64 b.comp]] w fun e w' => e = .returned (.int .i64 (keyOrder a b)) ∧ Below w.heap.size w w' := by
  obtain ⟨W1, hW1⟩ : ∃ W1, (w.alloc (.cells #[.int .i64 a.kind, .int .u64 a.sig, .int .i64 a.comp] 82)).alloc (.cells #[.int .i64 b.kind, .int .u64 b.sig, .int .i64 b.comp] 82) = W1 := ⟨_, rfl⟩
  have KB := Lib.hid (keys_made hW1)
  have KK : ∀ W', Below W1.heap.size W1 W' → W'.cell? ⟨w.heap.size, 0, none⟩ = some (.int .i64 a.kind) ∧ W'.cell? ⟨w.heap.size, 1, none⟩ = some (.int .u64 a.sig) ∧ W'.cell? ⟨w.heap.size, 2, none⟩ = some (.int .i64 a.comp) ∧ W'.cell? ⟨w.heap.size + 1, 0, none⟩ = some (.int .i64 b.kind) ∧ W'.cell? ⟨w.heap.size + 1, 1, none⟩ = some (.int .u64 b.sig) ∧ W'.cell? ⟨w.heap.size + 1, 2, none⟩ = some (.int .i64 b.comp) := fun W' h => let k := KB.out W' h; ⟨k.a0, k.a1, k.a2, k.b0, k.b1, k.b2⟩
  go_enter Tryz.func99, Tryz.ntmps99
  go_wp2_with fail
  try rw [hW1]
  clear hW1
  try go_wp2_with fail
  have hbd := (Below.refl W1.heap.size W1).drew
  go_region_held3 (fun W' => Below W1.heap.size W1 W')
    ((first | with_reducible assumption | with_reducible exact d2 | with_reducible exact d2.alloc d2.size _))
    (first
      | (go_at_call 152; refine (rank_calls _ _ _ _).mono ?_; rintro e w2 ⟨rfl, hb2⟩; have d2 := Below.trans ‹Below W1.heap.size W1 _› (hb2.mono (Below.size ‹Below W1.heap.size W1 _›)); clear hb2)
      | (go_at_call 151; refine (cmpInt_calls _ _ _).mono ?_; rintro e w3 ⟨rfl, hw⟩; subst hw)
      | (go_at_call 153; refine (cmpU_calls _ _ _).mono ?_; rintro e w3 ⟨rfl, hw⟩; subst hw)
      | (go_at_call 150; refine (orInt_calls (Q := fun _ => True) (cmps4 _ _ _ _ _ _ _ _ _)).mono ?_; rintro e w3 ⟨rfl, hw⟩; subst hw))
  go_wp2_with fail
  go_ret
  refine ⟨?_, (KB.out _ (d2.alloc d2.size _)).bel⟩
  unfold keyOrder
  rw [← orL_cmps]
  rfl

end Go.Proofs.YtghbfbohnoebiaaGreat
