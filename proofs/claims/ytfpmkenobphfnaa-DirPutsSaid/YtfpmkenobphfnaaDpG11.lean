/- Texts on which the proofs stand: KeyOrder, DirPages, SortInts. No condition is laid on any input. -/
import Derived.Test.YtfpmkenobphfnaaDpCore
import Derived.Test.YtfpmkenobphfnaaDpG10
import Derived.Test.YtfpmkenobphfnaaDpG9
import Derived.Test.YtfpmkenobphfnaaShelf
import Derived.Sort.OwnSortedInts
/- Walks: the order of keys. -/
namespace Go.Proofs.Ytfpmkenobphfnaa
open Go.RowKit

/-- cmp.Compare of ints -/
theorem cmpInt_calls (a b : Int) (w : World) : Calls Try.prog 162 #[.int .i64 a, .int .i64 b] w fun e w' => e = .returned (.int .i64 (cmpI a b)) ∧ w' = w := by
  by_cases h1 : a < b
  · have HF := Lib.hid (show cmpI a b = -1 from if_pos h1)
    go_enter Try.func162, Try.ntmps162
    go_wp2
    go_ret
    exact ⟨by rw [HF.out]; rfl, rfl⟩
  · by_cases h2 : b < a
    · have HF := Lib.hid (show cmpI a b = 1 from (if_neg h1).trans (if_pos h2))
      go_enter Try.func162, Try.ntmps162
      go_wp2
      go_ret
      exact ⟨by rw [HF.out]; rfl, rfl⟩
    · have HF := Lib.hid (show cmpI a b = 0 from (if_neg h1).trans (if_neg h2))
      go_enter Try.func162, Try.ntmps162
      go_wp2
      go_ret
      exact ⟨by rw [HF.out]; rfl, rfl⟩

/-- cmp.Compare of uint64s -/
theorem cmpU_calls (a b : Int) (w : World) : Calls Try.prog 164 #[.int .u64 a, .int .u64 b] w fun e w' => e = .returned (.int .i64 (cmpI a b)) ∧ w' = w := by
  by_cases h1 : a < b
  · have HF := Lib.hid (show cmpI a b = -1 from if_pos h1)
    go_enter Try.func164, Try.ntmps164
    go_wp2
    go_ret
    exact ⟨by rw [HF.out]; rfl, rfl⟩
  · by_cases h2 : b < a
    · have HF := Lib.hid (show cmpI a b = 1 from (if_neg h1).trans (if_pos h2))
      go_enter Try.func164, Try.ntmps164
      go_wp2
      go_ret
      exact ⟨by rw [HF.out]; rfl, rfl⟩
    · have HF := Lib.hid (show cmpI a b = 0 from (if_neg h1).trans (if_neg h2))
      go_enter Try.func164, Try.ntmps164
      go_wp2
      go_ret
      exact ⟨by rw [HF.out]; rfl, rfl⟩

/-- The first one that is not 0. -/
def orL : List Int → Int
  | [] => 0
  | x :: l => if x = 0 then orL l else x
theorem orL_drop {l : List Int} {k : Nat} (hk : k < l.length) : orL (l.drop k) = if l[k] = 0 then orL (l.drop (k + 1)) else l[k] := by
  rw [← List.getElem_cons_drop hk]; rfl

set_option maxRecDepth 100000 in
/-- cmp.Or of ints -/
theorem orInt_calls {Q : Nat → Prop} {w : World} {v : Value} {l : List Int} (hx : (Rep.int .i64).list.val Q w v l) : Calls Try.prog 161 #[v] w fun e w' => e = .returned (.int .i64 (orL l)) ∧ w' = w := by
  obtain ⟨A, c, rfl, hc1, hc2, hA⟩ := Rep.val_list hx
  unfold maxLen at hc2
  have HA := Lib.hid hA
  clear hx hA
  go_enter Try.func161, Try.ntmps161
  go_wp2_with fail
  go_loop [8] (fun i => ∃ k : Nat, i = .int .i64 k ∧ k ≤ l.length ∧ Hid (orL l = orL (l.drop k))) (fun i => l.length - (intOf i).toNat)
  case atStart => exact ⟨0, rfl, Nat.zero_le _, Lib.hid (by rw [List.drop_zero])⟩
  case round =>
    obtain ⟨k, rfl, hk, hv⟩ := hrel
    by_cases hlt : (k : Int) < l.length
    · have hk' : k < l.length := by omega
      obtain ⟨b, off, rfl, hc, hw⟩ := HA.out.int (List.getElem?_eq_getElem hk')
      have HD := Lib.hid (hv.out.trans (orL_drop hk'))
      generalize l[k] = x at *
      clear hw
      by_cases h0 : x = 0
      · subst h0
        have HE := Lib.hid (HD.out.trans (if_pos rfl))
        go_wp2_with fail
        exact ⟨⟨k + 1, by go_num, by omega, HE⟩, by simp [intOf]; omega⟩
      · have g0 : (x != 0) = true := by simpa using h0
        have HE := Lib.hid (HD.out.trans (if_neg h0))
        clear h0
        go_wp2_with fail
        go_ret
        exact ⟨by rw [HE.out]; rfl, rfl⟩
    · obtain rfl : k = l.length := by omega
      have HE := Lib.hid (show orL l = 0 by rw [hv.out, List.drop_length]; rfl)
      go_wp2_with fail
      go_ret
      exact ⟨by rw [HE.out]; rfl, rfl⟩

set_option maxRecDepth 100000 in
/-- flow.rank -/
theorem rank_calls (n s c : Int) (w : World) : Calls Try.prog 163 #[.agg #[.int .i64 n, .int .u64 s, .int .i64 c]] w fun e w' => e = .returned (.int .i64 (min n 2)) ∧ Below w.heap.size w w' := by
  have HB := Lib.hid (show ∀ o, Below w.heap.size w (w.alloc o) from fun o => (Below.refl _ _).alloc (Nat.le_refl _) _)
  by_cases h : n ≤ 2
  · have HF := Lib.hid (show min n 2 = n from Int.min_eq_left h)
    by_cases h2 : n = 2
    · subst h2
      go_enter Try.func163, Try.ntmps163
      go_wp2_with fail
      all_goals (go_ret; exact ⟨by rw [HF.out]; rfl, HB.out _⟩)
    · have h3 : n < 2 := by omega
      clear h2
      go_enter Try.func163, Try.ntmps163
      go_wp2_with fail
      all_goals (go_ret; first | exact ⟨by rw [HF.out]; rfl, HB.out _⟩ | (exfalso; omega))
  · have HF := Lib.hid (show min n 2 = 2 from Int.min_eq_right (by omega))
    have h3 : 2 < n := by omega
    go_enter Try.func163, Try.ntmps163
    go_wp2_with fail
    all_goals (go_ret; first | exact ⟨by rw [HF.out]; rfl, HB.out _⟩ | (exfalso; omega))

theorem cmpI_wf (a b : Int) : (Lit.int .i64 (cmpI a b)).wf = true := by
  unfold cmpI
  split
  · rfl
  · split <;> rfl
theorem cmps4 (w : World) (a1 b1 a2 b2 a3 b3 a4 b4 : Int) : (Rep.int .i64).list.val (fun _ => True) (w.alloc (.cells #[.int .i64 (cmpI a1 b1), .int .i64 (cmpI a2 b2), .int .i64 (cmpI a3 b3), .int .i64 (cmpI a4 b4)] 3)) (.slice (some ⟨w.heap.size, 0, none⟩) 4 4) [cmpI a1 b1, cmpI a2 b2, cmpI a3 b3, cmpI a4 b4] :=
  lit_list (r := Rep.int .i64) (e := 3) (w := w) (xs := [cmpI a1 b1, cmpI a2 b2, cmpI a3 b3, cmpI a4 b4]) (n := 4) (cs := [.int .i64 (cmpI a1 b1), .int .i64 (cmpI a2 b2), .int .i64 (cmpI a3 b3), .int .i64 (cmpI a4 b4)]) (Q := fun _ => True) rfl (by simp [maxLen]) trivial
    ⟨[_], _, rfl, ⟨rfl, cmpI_wf _ _⟩, [_], _, rfl, ⟨rfl, cmpI_wf _ _⟩, [_], _, rfl, ⟨rfl, cmpI_wf _ _⟩, [_], _, rfl, ⟨rfl, cmpI_wf _ _⟩, rfl⟩
theorem orL_cmps (x1 x2 x3 x4 : Int) : orL [x1, x2, x3, x4] = orI x1 (orI x2 (orI x3 x4)) := by
  simp only [orL, orI]
  by_cases h : x4 = 0
  · simp [h]
  · simp [h]
/-- The cells of two keys lie in blocks of the call's own. -/
structure Keys (w0 W : World) (a b : DKey) : Prop where
  bel : Below w0.heap.size w0 W
  a0 : W.cell? ⟨w0.heap.size, 0, none⟩ = some (.int .i64 a.kind)
  a1 : W.cell? ⟨w0.heap.size, 1, none⟩ = some (.int .u64 a.sig)
  a2 : W.cell? ⟨w0.heap.size, 2, none⟩ = some (.int .i64 a.comp)
  b0 : W.cell? ⟨w0.heap.size + 1, 0, none⟩ = some (.int .i64 b.kind)
  b1 : W.cell? ⟨w0.heap.size + 1, 1, none⟩ = some (.int .u64 b.sig)
  b2 : W.cell? ⟨w0.heap.size + 1, 2, none⟩ = some (.int .i64 b.comp)
theorem keys_made {w W : World} {a b : DKey} (h : (w.alloc (.cells #[.int .i64 a.kind, .int .u64 a.sig, .int .i64 a.comp] 67)).alloc (.cells #[.int .i64 b.kind, .int .u64 b.sig, .int .i64 b.comp] 67) = W) :
    ∀ W', Below W.heap.size W W' → Keys w W' a b := by
  subst h
  intro W' hb
  have s1 : (w.alloc (.cells #[.int .i64 a.kind, .int .u64 a.sig, .int .i64 a.comp] 67)).heap.size = w.heap.size + 1 := by simp
  have e1 := (heap_alloc_old (w.alloc (.cells #[.int .i64 a.kind, .int .u64 a.sig, .int .i64 a.comp] 67)) (.cells #[.int .i64 b.kind, .int .u64 b.sig, .int .i64 b.comp] 67) (by rw [s1]; omega)).trans (heap_alloc_new w (.cells #[.int .i64 a.kind, .int .u64 a.sig, .int .i64 a.comp] 67))
  have e2 := heap_alloc_new (w.alloc (.cells #[.int .i64 a.kind, .int .u64 a.sig, .int .i64 a.comp] 67)) (.cells #[.int .i64 b.kind, .int .u64 b.sig, .int .i64 b.comp] 67)
  rw [s1] at e2
  have f1 := (hb.block w.heap.size (by simp; omega)).trans e1
  have f2 := (hb.block (w.heap.size + 1) (by simp)).trans e2
  exact ⟨(((Below.refl _ _).alloc (Nat.le_refl _) _).alloc (by rw [s1]; omega) _).trans (hb.mono (by simp; omega)), cell_row f1 0, cell_row f1 1, cell_row f1 2, cell_row f2 0, cell_row f2 1, cell_row f2 2⟩

set_option maxRecDepth 100000 in
set_option maxHeartbeats 1000000 in
/-- flow.Order -/
theorem order_calls (a b : DKey) (w : World) : Calls Try.prog 101 #[.agg #[.int .i64 a.kind, .int .u64 a.sig, .int .i64 a.comp], .agg #[.int .i64 b.kind, .int .u64 b.sig, .int .i64 b.comp]] w fun e w' => e = .returned (.int .i64 (keyOrder a b)) ∧ Below w.heap.size w w' := by
  obtain ⟨W1, hW1⟩ : ∃ W1, (w.alloc (.cells #[.int .i64 a.kind, .int .u64 a.sig, .int .i64 a.comp] 67)).alloc (.cells #[.int .i64 b.kind, .int .u64 b.sig, .int .i64 b.comp] 67) = W1 := ⟨_, rfl⟩
  have KB := Lib.hid (keys_made hW1)
  have KK : ∀ W', Below W1.heap.size W1 W' → W'.cell? ⟨w.heap.size, 0, none⟩ = some (.int .i64 a.kind) ∧ W'.cell? ⟨w.heap.size, 1, none⟩ = some (.int .u64 a.sig) ∧ W'.cell? ⟨w.heap.size, 2, none⟩ = some (.int .i64 a.comp) ∧ W'.cell? ⟨w.heap.size + 1, 0, none⟩ = some (.int .i64 b.kind) ∧ W'.cell? ⟨w.heap.size + 1, 1, none⟩ = some (.int .u64 b.sig) ∧ W'.cell? ⟨w.heap.size + 1, 2, none⟩ = some (.int .i64 b.comp) := fun W' h => let k := KB.out W' h; ⟨k.a0, k.a1, k.a2, k.b0, k.b1, k.b2⟩
  go_enter Try.func101, Try.ntmps101
  go_wp2_with fail
  try rw [hW1]
  clear hW1
  try go_wp2_with fail
  have hbd := (Below.refl W1.heap.size W1).drew
  go_region_held3 (fun W' => Below W1.heap.size W1 W')
    ((first | with_reducible assumption | with_reducible exact d2 | with_reducible exact d2.alloc d2.size _))
    (first
      | (go_at_call 163; refine (rank_calls _ _ _ _).mono ?_; rintro e w2 ⟨rfl, hb2⟩; have d2 := Below.trans ‹Below W1.heap.size W1 _› (hb2.mono (Below.size ‹Below W1.heap.size W1 _›)); clear hb2)
      | (go_at_call 162; refine (cmpInt_calls _ _ _).mono ?_; rintro e w3 ⟨rfl, hw⟩; subst hw)
      | (go_at_call 164; refine (cmpU_calls _ _ _).mono ?_; rintro e w3 ⟨rfl, hw⟩; subst hw)
      | (go_at_call 161; refine (orInt_calls (Q := fun _ => True) (cmps4 _ _ _ _ _ _ _ _ _)).mono ?_; rintro e w3 ⟨rfl, hw⟩; subst hw))
  go_wp2_with fail
  go_ret
  refine ⟨?_, (KB.out _ (d2.alloc d2.size _)).bel⟩
  unfold keyOrder
  rw [← orL_cmps]
  rfl

theorem rorder_fields (a b : DKey) : keyROrder a b = if a.kind = b.kind ∧ a.sig = b.sig ∧ a.comp = b.comp then 0 else if a.kind < 2 ∨ b.kind < 2 then (if a.kind < b.kind then -1 else 1)
    else if a.sig < b.sig ∨ (a.sig = b.sig ∧ (a.kind < b.kind ∨ (a.kind = b.kind ∧ a.comp < b.comp))) then -1 else 1 := by
  unfold keyROrder
  by_cases h : a = b
  · rw [if_pos h, if_pos (by rw [h]; exact ⟨rfl, rfl, rfl⟩)]
  · rw [if_neg h, if_neg (c := a.kind = b.kind ∧ a.sig = b.sig ∧ a.comp = b.comp) (fun e => h (DKey.ext e.1 e.2.1 e.2.2))]

set_option maxRecDepth 100000 in
set_option maxHeartbeats 1000000 in
/-- ref22.Order -/
theorem rorder_calls (a b : DKey) (w : World) : Calls Try.prog 105 #[.agg #[.int .i64 a.kind, .int .u64 a.sig, .int .i64 a.comp], .agg #[.int .i64 b.kind, .int .u64 b.sig, .int .i64 b.comp]] w fun e w' => e = .returned (.int .i64 (keyROrder a b)) ∧ Below w.heap.size w w' := by
  obtain ⟨W1, hW1⟩ : ∃ W1, (w.alloc (.cells #[.int .i64 a.kind, .int .u64 a.sig, .int .i64 a.comp] 67)).alloc (.cells #[.int .i64 b.kind, .int .u64 b.sig, .int .i64 b.comp] 67) = W1 := ⟨_, rfl⟩
  have KB := Lib.hid (keys_made hW1)
  obtain ⟨b1, x0, x1, x2, y0, y1, y2⟩ := KB.out W1 (Below.refl _ _)
  have HB := Lib.hid b1
  clear b1
  go_enter Try.func105, Try.ntmps105
  go_wp2_with fail
  try rw [hW1]
  clear hW1
  try go_wp2_with fail
  clear x0 x1 x2 y0 y1 y2 KB
  all_goals
    go_ret
    refine ⟨?_, HB.out⟩
    first
      | (have hk : keyROrder a b = 0 := by (rw [rorder_fields]; (repeat' split) <;> omega)
         rw [hk]; rfl)
      | (have hk : keyROrder a b = -1 := by (rw [rorder_fields]; (repeat' split) <;> omega)
         rw [hk]; rfl)
      | (have hk : keyROrder a b = 1 := by (rw [rorder_fields]; (repeat' split) <;> omega)
         rw [hk]; rfl)
end Go.Proofs.Ytfpmkenobphfnaa
/- Walks: all pages of entries; whether entries are more than is asked. -/
namespace Go.Proofs.Ytfpmkenobphfnaa
open Go.RowKit

theorem allPages_le {l : List DEntry} (k : Nat) : (allPages (l.take k)).length ≤ (allPages l).length := by
  have : l = l.take k ++ l.drop k := (List.take_append_drop k l).symm
  conv => rhs; rw [this]
  unfold allPages
  rw [List.map_append, List.flatten_append, List.length_append]
  exact Nat.le_add_right _ _

set_option maxRecDepth 100000 in
set_option maxHeartbeats 1000000 in
/-- dir.Pages -/
theorem dpages_calls {Q : Nat → Prop} {w : World} {v : Value} {l : List DEntry} (hx : rEntry.list.val Q w v l) (hn : (allPages l).length ≤ 1000000000) :
    Calls Try.prog 34 #[v] w (ResA (Rep.int .i64) 3 w (allPages l)) := by
  obtain ⟨A, c, rfl, hc1, hc2, hA⟩ := Rep.val_list hx
  unfold maxLen at hc2
  have HX := Lib.hid hA
  have HN := Lib.hid hn
  clear hx hA hn
  go_enter Try.func34, Try.ntmps34
  go_wp2_with fail
  go_loopw [3, 8] (fun s i wr => ∃ k : Nat, i = .int .i64 k ∧ k ≤ l.length ∧ (Rep.int .i64).acc 3 w.heap.size (fun _ => False) wr s (allPages (l.take k)) ∧ Below w.heap.size w wr)
    (fun _ i _ => l.length - (intOf i).toNat)
  case atStart => exact ⟨0, rfl, Nat.zero_le _, Rep.acc_nil, Below.refl _ _⟩
  case round =>
    obtain ⟨k, rfl, hk, hv, hb1⟩ := hrel
    have HB1 := Lib.hid hb1
    by_cases hlt : (k : Int) < l.length
    · have hk' : k < l.length := by omega
      have hAw : rEntry.At (fun b => b < w.heap.size) wr A l := Rep.At.keep (w := w) (fun b _ hb => ⟨hb.lt, hb1.block b hb.lt⟩) HX.out
      obtain ⟨b, off, Ap, cp, rfl, hbc, cx0, cx1, cx2, cx3, cx4, g0, g1, g2, g3, hs⟩ := rEntry_at hAw (List.getElem?_eq_getElem hk')
      have T := Lib.hid (allPages_succ hk')
      have L0 := Lib.hid (show (allPages (l.take k)).length + l[k].pages.length ≤ 1000000000 by
        have h1 := allPages_le (l := l) (k + 1)
        rw [allPages_succ hk', List.length_append] at h1
        have := HN.out; omega)
      generalize l[k] = x at *
      generalize allPages (l.take k) = q at *
      have L1 := Lib.hid (show q.length + x.pages.length ≤ maxLen ∧ (q.length + x.pages.length) * 8 ≤ 140737488355328 by have := L0.out; unfold maxLen; omega)
      have hb3 : Below wr.heap.size wr (wr.alloc (.cells #[.int .i64 x.key.kind, .int .u64 x.key.sig, .int .i64 x.key.comp, .int .i64 x.long, .slice Ap x.pages.length cp] 69)) := (Below.refl _ _).alloc (Nat.le_refl _) _
      have HV := Lib.hid (Rep.acc_later hv hb3)
      have HS := Lib.hid (show (Rep.int .i64).list.val (fun b => b < w.heap.size) (wr.alloc (.cells #[.int .i64 x.key.kind, .int .u64 x.key.sig, .int .i64 x.key.comp, .int .i64 x.long, .slice Ap x.pages.length cp] 69)) (.slice Ap x.pages.length cp) x.pages from (hs.below hb3 (fun _ _ h => h.lt)).val)
      have HB3 := Lib.hid (HB1.out.trans (hb3.mono HB1.out.size))
      obtain ⟨A2, c2, rfl, _, _⟩ := Rep.acc_form hv
      clear hv hb1 hAw hs hb3 g0 g1 g2 g3
      go_wp2_with (refine wpList_spread_leaf (e := 3) (base := w.heap.size) (Q := fun _ => False) (Rep.leaf_int .i64) rfl _ _ 54 rfl (.int .i64 0) 1 8 Try.underlying54 info3 rfl (by decide) rfl _ q (by exact rfl) HV.out _ x.pages (by exact rfl) HS.out L1.out.1 L1.out.2 HB3.out.size ?_; intro v' w' hacc' hgr hat)
      exact ⟨⟨k + 1, by go_num, by omega, by rw [T.out]; exact hacc', Rep.acc_below HV.out HB3.out hgr HB3.out.size⟩, by simp [intOf]; omega⟩
    · obtain rfl : k = l.length := by omega
      rw [List.take_length] at hv
      have HV := Lib.hid hv
      clear hv hb1
      go_wp2_with fail
      go_ret
      exact ⟨_, rfl, HV.out, HB1.out⟩

set_option maxRecDepth 100000 in
set_option maxHeartbeats 1000000 in
/-- ref25.Pages -/
theorem rdpages_calls {Q : Nat → Prop} {w : World} {v : Value} {l : List DEntry} (hx : rEntry.list.val Q w v l) (hn : (allPages l).length ≤ 1000000000) :
    Calls Try.prog 35 #[v] w (ResA (Rep.int .i64) 3 w (allPages l)) := by
  obtain ⟨A, c, rfl, hc1, hc2, hA⟩ := Rep.val_list hx
  unfold maxLen at hc2
  have HX := Lib.hid hA
  have HN := Lib.hid hn
  clear hx hA hn
  go_enter Try.func35, Try.ntmps35
  go_wp2_with fail
  go_loopw [3, 4] (fun s i wr => ∃ k : Nat, i = .int .i64 k ∧ k ≤ l.length ∧ (Rep.int .i64).acc 3 w.heap.size (fun _ => False) wr s (allPages (l.take k)) ∧ Below w.heap.size w wr)
    (fun _ i _ => l.length - (intOf i).toNat)
  case atStart => exact ⟨0, rfl, Nat.zero_le _, Rep.acc_nil, Below.refl _ _⟩
  case round =>
    obtain ⟨k, rfl, hk, hv, hb1⟩ := hrel
    have HB1 := Lib.hid hb1
    by_cases hlt : (k : Int) < l.length
    · have hk' : k < l.length := by omega
      have hAw : rEntry.At (fun b => b < w.heap.size) wr A l := Rep.At.keep (w := w) (fun b _ hb => ⟨hb.lt, hb1.block b hb.lt⟩) HX.out
      obtain ⟨b, off, Ap, cp, rfl, hbc, cx0, cx1, cx2, cx3, cx4, g0, g1, g2, g3, hs⟩ := rEntry_at hAw (List.getElem?_eq_getElem hk')
      have T := Lib.hid (allPages_succ hk')
      have L0 := Lib.hid (show (allPages (l.take k)).length + l[k].pages.length ≤ 1000000000 by
        have h1 := allPages_le (l := l) (k + 1)
        rw [allPages_succ hk', List.length_append] at h1
        have := HN.out; omega)
      generalize l[k] = x at *
      generalize allPages (l.take k) = q at *
      have L1 := Lib.hid (show q.length + x.pages.length ≤ maxLen ∧ (q.length + x.pages.length) * 8 ≤ 140737488355328 by have := L0.out; unfold maxLen; omega)
      have HV := Lib.hid hv
      have HS := Lib.hid (show (Rep.int .i64).list.val (fun b => b < w.heap.size) wr (.slice Ap x.pages.length cp) x.pages from hs.val)
      obtain ⟨A2, c2, rfl, _, _⟩ := Rep.acc_form hv
      clear hv hb1 hAw hs g0 g1 g2 g3
      go_wp2_with (refine wpList_spread_leaf (e := 3) (base := w.heap.size) (Q := fun _ => False) (Rep.leaf_int .i64) rfl _ _ 54 rfl (.int .i64 0) 1 8 Try.underlying54 info3 rfl (by decide) rfl _ q (by exact rfl) HV.out _ x.pages (by exact rfl) HS.out L1.out.1 L1.out.2 HB1.out.size ?_; intro v' w' hacc' hgr hat)
      exact ⟨⟨k + 1, by go_num, by omega, by rw [T.out]; exact hacc', Rep.acc_below HV.out HB1.out hgr HB1.out.size⟩, by simp [intOf]; omega⟩
    · obtain rfl : k = l.length := by omega
      rw [List.take_length] at hv
      have HV := Lib.hid hv
      clear hv hb1
      go_wp2_with fail
      go_ret
      exact ⟨_, rfl, HV.out, HB1.out⟩

/-- More than is asked of entries. -/
def muchEnts (l : List DEntry) : Bool := decide (30 < l.length) || (l.take 50).any fun x => decide (50 < x.pages.length)

set_option maxRecDepth 100000 in
/-- ref25.Much -/
theorem muchEnts_calls {Q : Nat → Prop} {w : World} {v : Value} {l : List DEntry} (hx : rEntry.list.val Q w v l) :
    Calls Try.prog 27 #[v] w fun e w' => e = .returned (.bool (muchEnts l)) ∧ w' = w := by
  obtain ⟨A, c, rfl, hc1, hc2, hA⟩ := Rep.val_list hx
  unfold maxLen at hc2
  have HA := Lib.hid hA
  clear hx hA
  go_enter Try.func27, Try.ntmps27
  go_wp2_with fail
  go_loop [3] (fun i => ∃ k : Nat, i = .int .i64 k ∧ k ≤ l.length ∧ k ≤ 50 ∧ Hid ((l.take k).any (fun x => decide (50 < x.pages.length)) = false)) (fun i => l.length - (intOf i).toNat)
  case atStart => exact ⟨0, rfl, by omega, by omega, by simp [Hid]⟩
  case round =>
    obtain ⟨k, rfl, hk, hk5, hany⟩ := hrel
    by_cases hlt : (k : Int) < l.length
    · by_cases h50 : (k : Int) < 50
      · have hk' : k < l.length := by omega
        obtain ⟨b, off, Ap, cp, rfl, hbc, cx0, cx1, cx2, cx3, cx4, g0, g1, g2, g3, hs⟩ := rEntry_at HA.out (List.getElem?_eq_getElem hk')
        have hs1 := hs.1
        have hs2 := hs.2.1
        unfold maxLen at hs2
        have NX := Lib.hid (fun h => any_take_succ hk' hany h)
        have YS := Lib.hid (fun h => any_of (n := 50) (p := fun x : DEntry => decide (50 < x.pages.length)) hk' (by omega) h)
        generalize l[k] = x at *
        clear g0 g1 g2 g3 hs
        by_cases h2 : (50 : Int) < x.pages.length
        · have F := Lib.hid (show muchEnts l = true by unfold muchEnts; rw [YS.out (by simp; omega)]; simp)
          go_wp2_with fail
          go_ret
          exact ⟨by rw [F.out]; rfl, rfl⟩
        · have N2 := Lib.hid (NX.out (by simp; omega))
          go_wp2_with fail
          exact ⟨⟨k + 1, by go_num, by omega, by omega, N2⟩, by simp [intOf]; omega⟩
      · have hk50 : k = 50 := by omega
        have F := Lib.hid (show muchEnts l = true by unfold muchEnts; simp; omega)
        have h20 : (30 : Int) < l.length := by omega
        go_wp2_with fail
        go_ret
        exact ⟨by rw [F.out]; rfl, rfl⟩
    · have F := Lib.hid (show muchEnts l = decide ((30 : Int) < l.length) by
        unfold muchEnts
        have hkl : k = l.length := by omega
        have h50 : (l.take 50) = l.take k := by rw [hkl, List.take_length, List.take_of_length_le (by omega)]
        rw [h50, hany.out, Bool.or_false]
        rw [decide_eq_decide]; omega)
      go_wp2_with fail
      go_ret
      exact ⟨by rw [F.out]; rfl, rfl⟩
end Go.Proofs.Ytfpmkenobphfnaa
/- The library's slices.Sort of a slice of the call's own. -/
namespace Go.Proofs.Ytfpmkenobphfnaa
open Go.RowKit

theorem int_row {Q : Nat → Prop} {w : World} : ∀ {xs : List Int} {cs : List Value}, (Rep.int .i64).row Q w cs xs ↔ cs = xs.map (Value.int .i64) ∧ ∀ x ∈ xs, (Lit.int .i64 x).wf = true
  | [], cs => ⟨fun h => ⟨h, fun x hx => by cases hx⟩, fun h => h.1⟩
  | x :: xs, cs => by
    constructor
    · rintro ⟨es, rest, rfl, ⟨rfl, hw⟩, h⟩
      obtain ⟨rfl, hr⟩ := int_row.1 h
      exact ⟨rfl, fun y hy => (List.mem_cons.1 hy).elim (fun e => e ▸ hw) (hr y)⟩
    · rintro ⟨rfl, h⟩
      exact ⟨[_], _, rfl, ⟨rfl, h x (by simp)⟩, int_row.2 ⟨rfl, fun y hy => h y (by simp [hy])⟩⟩

theorem sortInts_calls {base : Nat} {Q : Nat → Prop} {w : World} {v : Value} {ks : List Int} (h : (Rep.int .i64).acc 3 base Q w v ks) (hl : ks.length ≤ 1000000000000) :
    Calls Try.prog 96 #[v] w fun e w' => e = .returned (.tuple #[]) ∧ (Rep.int .i64).acc 3 base Q w' v (ks.mergeSort fun x y => decide (x ≤ y)) ∧ w.grownBy w' v.ownBlock := by
  obtain ⟨cells, h1, h2⟩ := h
  obtain ⟨rfl, hwf⟩ := int_row.1 h2
  rcases h1.2 with ⟨rfl, h0⟩ | ⟨g, cap, cur, rfl, hb, hg, g1, g2, g3, g4⟩
  · have : ks = [] := List.eq_nil_of_length_eq_zero (by omega)
    subst this
    refine (Try.slices_Sort_int_none none 0 w).mono ?_
    rintro e w' ⟨rfl, rfl⟩
    exact ⟨rfl, by rw [List.mergeSort_nil]; exact Rep.acc_nil, ⟨rfl, rfl, rfl, Nat.le_refl _, fun _ _ _ => rfl⟩⟩
  · refine (Try.slices_Sort_int g 0 cap ks w (holds_of_blockI hg (by simpa [Rep.int] using g4)) (Array.getElem?_eq_some_iff.1 hg).1 (by omega)).mono ?_
    rintro e w' ⟨rfl, n, os, rfl⟩
    refine ⟨rfl, ⟨(ks.mergeSort fun x y => decide (x ≤ y)).map (Value.int .i64), ?_, int_row.2 ⟨rfl, fun x hx => hwf x (List.mem_mergeSort.1 hx)⟩⟩, grownBy_sortedI _⟩
    rw [List.length_mergeSort]
    exact ownsRow_sortedI (ts := ks.mergeSort fun x y => decide (x ≤ y)) (List.length_mergeSort ..) hb hg g1 g2 g3
end Go.Proofs.Ytfpmkenobphfnaa
