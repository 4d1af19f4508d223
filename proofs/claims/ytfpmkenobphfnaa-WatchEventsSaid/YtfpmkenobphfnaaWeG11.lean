/- Texts on which the proofs stand: KeyOrder, IDs. No condition is laid on any input. -/
import Derived.Test.YtfpmkenobphfnaaWeG10
import Derived.Test.YtfpmkenobphfnaaWeG2
import Derived.Test.YtfpmkenobphfnaaWeG7
import Derived.Test.YtfpmkenobphfnaaWeG9
import Derived.Laws.StructEq
import Derived.Laws.Externs
import Derived.Lib.Bytealg
/- Walks: the order of keys. -/
namespace Go.Proofs.Ytfpmkenobphfnaa
open Go.RowKit

/-- cmp.Compare of ints -/
theorem cmpInt_calls (a b : Int) (w : World) : Calls Try.prog 162 #[.int .i64 a, .int .i64 b] w fun e w' => e = .returned (.int .i64 (cmpI a b)) ∧ w' = w := by
  by_cases h1 : a < b
  · have HF := Lib.hid (show cmpI a b = -1 from if_pos h1)
    go_enter Try.func162, Try.ntmps162
    go_wp2
    go_ret
    exact ⟨by rw [HF.out]; rfl, rfl⟩
  · by_cases h2 : b < a
    · have HF := Lib.hid (show cmpI a b = 1 from (if_neg h1).trans (if_pos h2))
      go_enter Try.func162, Try.ntmps162
      go_wp2
      go_ret
      exact ⟨by rw [HF.out]; rfl, rfl⟩
    · have HF := Lib.hid (show cmpI a b = 0 from (if_neg h1).trans (if_neg h2))
      go_enter Try.func162, Try.ntmps162
      go_wp2
      go_ret
      exact ⟨by rw [HF.out]; rfl, rfl⟩

/-- cmp.Compare of uint64s -/
theorem cmpU_calls (a b : Int) (w : World) : Calls Try.prog 164 #[.int .u64 a, .int .u64 b] w fun e w' => e = .returned (.int .i64 (cmpI a b)) ∧ w' = w := by
  by_cases h1 : a < b
  · have HF := Lib.hid (show cmpI a b = -1 from if_pos h1)
    go_enter Try.func164, Try.ntmps164
    go_wp2
    go_ret
    exact ⟨by rw [HF.out]; rfl, rfl⟩
  · by_cases h2 : b < a
    · have HF := Lib.hid (show cmpI a b = 1 from (if_neg h1).trans (if_pos h2))
      go_enter Try.func164, Try.ntmps164
      go_wp2
      go_ret
      exact ⟨by rw [HF.out]; rfl, rfl⟩
    · have HF := Lib.hid (show cmpI a b = 0 from (if_neg h1).trans (if_neg h2))
      go_enter Try.func164, Try.ntmps164
      go_wp2
      go_ret
      exact ⟨by rw [HF.out]; rfl, rfl⟩

/-- The first one that is not 0. -/
def orL : List Int → Int
  | [] => 0
  | x :: l => if x = 0 then orL l else x
theorem orL_drop {l : List Int} {k : Nat} (hk : k < l.length) : orL (l.drop k) = if l[k] = 0 then orL (l.drop (k + 1)) else l[k] := by
  rw [← List.getElem_cons_drop hk]; rfl

set_option maxRecDepth 100000 in
/-- cmp.Or of ints -/
theorem orInt_calls {Q : Nat → Prop} {w : World} {v : Value} {l : List Int} (hx : (Rep.int .i64).list.val Q w v l) : Calls Try.prog 161 #[v] w fun e w' => e = .returned (.int .i64 (orL l)) ∧ w' = w := by
  obtain ⟨A, c, rfl, hc1, hc2, hA⟩ := Rep.val_list hx
  unfold maxLen at hc2
  have HA := Lib.hid hA
  clear hx hA
  go_enter Try.func161, Try.ntmps161
  go_wp2_with fail
  go_loop [8] (fun i => ∃ k : Nat, i = .int .i64 k ∧ k ≤ l.length ∧ Hid (orL l = orL (l.drop k))) (fun i => l.length - (intOf i).toNat)
  case atStart => exact ⟨0, rfl, Nat.zero_le _, Lib.hid (by rw [List.drop_zero])⟩
  case round =>
    obtain ⟨k, rfl, hk, hv⟩ := hrel
    by_cases hlt : (k : Int) < l.length
    · have hk' : k < l.length := by omega
      obtain ⟨b, off, rfl, hc, hw⟩ := HA.out.int (List.getElem?_eq_getElem hk')
      have HD := Lib.hid (hv.out.trans (orL_drop hk'))
      generalize l[k] = x at *
      clear hw
      by_cases h0 : x = 0
      · subst h0
        have HE := Lib.hid (HD.out.trans (if_pos rfl))
        go_wp2_with fail
        exact ⟨⟨k + 1, by go_num, by omega, HE⟩, by simp [intOf]; omega⟩
      · have g0 : (x != 0) = true := by simpa using h0
        have HE := Lib.hid (HD.out.trans (if_neg h0))
        clear h0
        go_wp2_with fail
        go_ret
        exact ⟨by rw [HE.out]; rfl, rfl⟩
    · obtain rfl : k = l.length := by omega
      have HE := Lib.hid (show orL l = 0 by rw [hv.out, List.drop_length]; rfl)
      go_wp2_with fail
      go_ret
      exact ⟨by rw [HE.out]; rfl, rfl⟩

set_option maxRecDepth 100000 in
/-- flow.rank -/
theorem rank_calls (n s c : Int) (w : World) : Calls Try.prog 163 #[.agg #[.int .i64 n, .int .u64 s, .int .i64 c]] w fun e w' => e = .returned (.int .i64 (min n 2)) ∧ Below w.heap.size w w' := by
  have HB := Lib.hid (show ∀ o, Below w.heap.size w (w.alloc o) from fun o => (Below.refl _ _).alloc (Nat.le_refl _) _)
  by_cases h : n ≤ 2
  · have HF := Lib.hid (show min n 2 = n from Int.min_eq_left h)
    by_cases h2 : n = 2
    · subst h2
      go_enter Try.func163, Try.ntmps163
      go_wp2_with fail
      all_goals (go_ret; exact ⟨by rw [HF.out]; rfl, HB.out _⟩)
    · have h3 : n < 2 := by omega
      clear h2
      go_enter Try.func163, Try.ntmps163
      go_wp2_with fail
      all_goals (go_ret; first | exact ⟨by rw [HF.out]; rfl, HB.out _⟩ | (exfalso; omega))
  · have HF := Lib.hid (show min n 2 = 2 from Int.min_eq_right (by omega))
    have h3 : 2 < n := by omega
    go_enter Try.func163, Try.ntmps163
    go_wp2_with fail
    all_goals (go_ret; first | exact ⟨by rw [HF.out]; rfl, HB.out _⟩ | (exfalso; omega))

theorem cmpI_wf (a b : Int) : (Lit.int .i64 (cmpI a b)).wf = true := by
  unfold cmpI
  split
  · rfl
  · split <;> rfl
theorem cmps4 (w : World) (a1 b1 a2 b2 a3 b3 a4 b4 : Int) : (Rep.int .i64).list.val (fun _ => True) (w.alloc (.cells #[.int .i64 (cmpI a1 b1), .int .i64 (cmpI a2 b2), .int .i64 (cmpI a3 b3), .int .i64 (cmpI a4 b4)] 3)) (.slice (some ⟨w.heap.size, 0, none⟩) 4 4) [cmpI a1 b1, cmpI a2 b2, cmpI a3 b3, cmpI a4 b4] :=
  lit_list (r := Rep.int .i64) (e := 3) (w := w) (xs := [cmpI a1 b1, cmpI a2 b2, cmpI a3 b3, cmpI a4 b4]) (n := 4) (cs := [.int .i64 (cmpI a1 b1), .int .i64 (cmpI a2 b2), .int .i64 (cmpI a3 b3), .int .i64 (cmpI a4 b4)]) (Q := fun _ => True) rfl (by simp [maxLen]) trivial
    ⟨[_], _, rfl, ⟨rfl, cmpI_wf _ _⟩, [_], _, rfl, ⟨rfl, cmpI_wf _ _⟩, [_], _, rfl, ⟨rfl, cmpI_wf _ _⟩, [_], _, rfl, ⟨rfl, cmpI_wf _ _⟩, rfl⟩
theorem orL_cmps (x1 x2 x3 x4 : Int) : orL [x1, x2, x3, x4] = orI x1 (orI x2 (orI x3 x4)) := by
  simp only [orL, orI]
  by_cases h : x4 = 0
  · simp [h]
  · simp [h]
/-- The cells of two keys lie in blocks of the call's own. -/
structure Keys (w0 W : World) (a b : DKey) : Prop where
  bel : Below w0.heap.size w0 W
  a0 : W.cell? ⟨w0.heap.size, 0, none⟩ = some (.int .i64 a.kind)
  a1 : W.cell? ⟨w0.heap.size, 1, none⟩ = some (.int .u64 a.sig)
  a2 : W.cell? ⟨w0.heap.size, 2, none⟩ = some (.int .i64 a.comp)
  b0 : W.cell? ⟨w0.heap.size + 1, 0, none⟩ = some (.int .i64 b.kind)
  b1 : W.cell? ⟨w0.heap.size + 1, 1, none⟩ = some (.int .u64 b.sig)
  b2 : W.cell? ⟨w0.heap.size + 1, 2, none⟩ = some (.int .i64 b.comp)
theorem keys_made {w W : World} {a b : DKey} (h : (w.alloc (.cells #[.int .i64 a.kind, .int .u64 a.sig, .int .i64 a.comp] 67)).alloc (.cells #[.int .i64 b.kind, .int .u64 b.sig, .int .i64 b.comp] 67) = W) :
    ∀ W', Below W.heap.size W W' → Keys w W' a b := by
  subst h
  intro W' hb
  have s1 : (w.alloc (.cells #[.int .i64 a.kind, .int .u64 a.sig, .int .i64 a.comp] 67)).heap.size = w.heap.size + 1 := by simp
  have e1 := (heap_alloc_old (w.alloc (.cells #[.int .i64 a.kind, .int .u64 a.sig, .int .i64 a.comp] 67)) (.cells #[.int .i64 b.kind, .int .u64 b.sig, .int .i64 b.comp] 67) (by rw [s1]; omega)).trans (heap_alloc_new w (.cells #[.int .i64 a.kind, .int .u64 a.sig, .int .i64 a.comp] 67))
  have e2 := heap_alloc_new (w.alloc (.cells #[.int .i64 a.kind, .int .u64 a.sig, .int .i64 a.comp] 67)) (.cells #[.int .i64 b.kind, .int .u64 b.sig, .int .i64 b.comp] 67)
  rw [s1] at e2
  have f1 := (hb.block w.heap.size (by simp; omega)).trans e1
  have f2 := (hb.block (w.heap.size + 1) (by simp)).trans e2
  exact ⟨(((Below.refl _ _).alloc (Nat.le_refl _) _).alloc (by rw [s1]; omega) _).trans (hb.mono (by simp; omega)), cell_row f1 0, cell_row f1 1, cell_row f1 2, cell_row f2 0, cell_row f2 1, cell_row f2 2⟩

set_option maxRecDepth 100000 in
set_option maxHeartbeats 1000000 in
/-- flow.Order -/
theorem order_calls (a b : DKey) (w : World) : Calls Try.prog 101 #[.agg #[.int .i64 a.kind, .int .u64 a.sig, .int .i64 a.comp], .agg #[.int .i64 b.kind, .int .u64 b.sig, .int .i64 b.comp]] w fun e w' => e = .returned (.int .i64 (keyOrder a b)) ∧ Below w.heap.size w w' := by
  obtain ⟨W1, hW1⟩ : ∃ W1, (w.alloc (.cells #[.int .i64 a.kind, .int .u64 a.sig, .int .i64 a.comp] 67)).alloc (.cells #[.int .i64 b.kind, .int .u64 b.sig, .int .i64 b.comp] 67) = W1 := ⟨_, rfl⟩
  have KB := Lib.hid (keys_made hW1)
  have KK : ∀ W', Below W1.heap.size W1 W' → W'.cell? ⟨w.heap.size, 0, none⟩ = some (.int .i64 a.kind) ∧ W'.cell? ⟨w.heap.size, 1, none⟩ = some (.int .u64 a.sig) ∧ W'.cell? ⟨w.heap.size, 2, none⟩ = some (.int .i64 a.comp) ∧ W'.cell? ⟨w.heap.size + 1, 0, none⟩ = some (.int .i64 b.kind) ∧ W'.cell? ⟨w.heap.size + 1, 1, none⟩ = some (.int .u64 b.sig) ∧ W'.cell? ⟨w.heap.size + 1, 2, none⟩ = some (.int .i64 b.comp) := fun W' h => let k := KB.out W' h; ⟨k.a0, k.a1, k.a2, k.b0, k.b1, k.b2⟩
  go_enter Try.func101, Try.ntmps101
  go_wp2_with fail
  try rw [hW1]
  clear hW1
  try go_wp2_with fail
  have hbd := (Below.refl W1.heap.size W1).drew
  go_region_held3 (fun W' => Below W1.heap.size W1 W')
    ((first | with_reducible assumption | with_reducible exact d2 | with_reducible exact d2.alloc d2.size _))
    (first
      | (go_at_call 163; refine (rank_calls _ _ _ _).mono ?_; rintro e w2 ⟨rfl, hb2⟩; have d2 := Below.trans ‹Below W1.heap.size W1 _› (hb2.mono (Below.size ‹Below W1.heap.size W1 _›)); clear hb2)
      | (go_at_call 162; refine (cmpInt_calls _ _ _).mono ?_; rintro e w3 ⟨rfl, hw⟩; subst hw)
      | (go_at_call 164; refine (cmpU_calls _ _ _).mono ?_; rintro e w3 ⟨rfl, hw⟩; subst hw)
      | (go_at_call 161; refine (orInt_calls (Q := fun _ => True) (cmps4 _ _ _ _ _ _ _ _ _)).mono ?_; rintro e w3 ⟨rfl, hw⟩; subst hw))
  go_wp2_with fail
  go_ret
  refine ⟨?_, (KB.out _ (d2.alloc d2.size _)).bel⟩
  unfold keyOrder
  rw [← orL_cmps]
  rfl

theorem rorder_fields (a b : DKey) : keyROrder a b = if a.kind = b.kind ∧ a.sig = b.sig ∧ a.comp = b.comp then 0 else if a.kind < 2 ∨ b.kind < 2 then (if a.kind < b.kind then -1 else 1)
    else if a.sig < b.sig ∨ (a.sig = b.sig ∧ (a.kind < b.kind ∨ (a.kind = b.kind ∧ a.comp < b.comp))) then -1 else 1 := by
  unfold keyROrder
  by_cases h : a = b
  · rw [if_pos h, if_pos (by rw [h]; exact ⟨rfl, rfl, rfl⟩)]
  · rw [if_neg h, if_neg (c := a.kind = b.kind ∧ a.sig = b.sig ∧ a.comp = b.comp) (fun e => h (DKey.ext e.1 e.2.1 e.2.2))]

set_option maxRecDepth 100000 in
set_option maxHeartbeats 1000000 in
/-- ref22.Order -/
theorem rorder_calls (a b : DKey) (w : World) : Calls Try.prog 105 #[.agg #[.int .i64 a.kind, .int .u64 a.sig, .int .i64 a.comp], .agg #[.int .i64 b.kind, .int .u64 b.sig, .int .i64 b.comp]] w fun e w' => e = .returned (.int .i64 (keyROrder a b)) ∧ Below w.heap.size w w' := by
  obtain ⟨W1, hW1⟩ : ∃ W1, (w.alloc (.cells #[.int .i64 a.kind, .int .u64 a.sig, .int .i64 a.comp] 67)).alloc (.cells #[.int .i64 b.kind, .int .u64 b.sig, .int .i64 b.comp] 67) = W1 := ⟨_, rfl⟩
  have KB := Lib.hid (keys_made hW1)
  obtain ⟨b1, x0, x1, x2, y0, y1, y2⟩ := KB.out W1 (Below.refl _ _)
  have HB := Lib.hid b1
  clear b1
  go_enter Try.func105, Try.ntmps105
  go_wp2_with fail
  try rw [hW1]
  clear hW1
  try go_wp2_with fail
  clear x0 x1 x2 y0 y1 y2 KB
  all_goals
    go_ret
    refine ⟨?_, HB.out⟩
    first
      | (have hk : keyROrder a b = 0 := by (rw [rorder_fields]; (repeat' split) <;> omega)
         rw [hk]; rfl)
      | (have hk : keyROrder a b = -1 := by (rw [rorder_fields]; (repeat' split) <;> omega)
         rw [hk]; rfl)
      | (have hk : keyROrder a b = 1 := by (rw [rorder_fields]; (repeat' split) <;> omega)
         rw [hk]; rfl)
end Go.Proofs.Ytfpmkenobphfnaa
/- Walks of the comparisons that the statements on views reach. -/

namespace Go.Proofs.Ytfpmkenobphfnaa
open Go.RowKit

def idV (x : DID) : Value := .agg #[.int .i64 x.index, .int .i64 x.gen]
theorem run_eql_id (x y : DID) (w : World) : (binOp .eql 175 (idV x) (idV y)).run Try.prog w = .ok (.bool (decide (x = y))) w := by
  have u3 := Try.underlying3
  have a3 := Try.isAgg3
  have z3 := Try.sizeOf3
  have hS : Try.prog.underlying 175 = some (.struct (Try.prog.fieldsOf 175)) := by kernel_rfl
  have hp : Try.prog.stoodInHeld 175 = false := by kernel_rfl
  simp only [idV]
  rw [run_eql_struct, show (10000 : Nat) = 9999 + 1 from rfl, run_equalIn_agg w 9999 175 _ _ hS hp]
  simp only [Program.fieldsOf, Try.underlying175]
  go_simp
  by_cases h1 : x.index = y.index <;> by_cases h2 : x.gen = y.gen <;> simp [h1, h2, DID.ext_iff]
theorem run_neq_id (x y : DID) (w : World) : (binOp .neq 175 (idV x) (idV y)).run Try.prog w = .ok (.bool (decide (x ≠ y))) w := by
  have h := run_eql_id x y w
  simp only [idV] at h ⊢
  rw [run_eql_struct] at h
  rw [run_neq_struct]
  cases hh : (Op.equalIn 10000 175 (.agg #[.int .i64 x.index, .int .i64 x.gen]) (.agg #[.int .i64 y.index, .int .i64 y.gen])).run Try.prog w with
  | ok b w' =>
    rw [hh] at h
    simp only [Result.andThen_ok, Result.ok.injEq, Value.bool.injEq] at h ⊢
    obtain ⟨rfl, rfl⟩ := h
    exact ⟨by simp, rfl⟩
  | halt s w' => rw [hh] at h; simp at h
theorem idGuard : Try.prog.eqGuardType Try.prog.depth 175 = false := by kernel_rfl

/-- The place of a component among parts; -1: there is none. -/
def partAt (l : List DPart) (k : Int) : Int := match l.findIdx? (fun p => p.comp == k) with
  | some i => i
  | none => -1
theorem partAt_found {l : List DPart} {k : Int} {j : Nat} (hj : j < l.length) (h : l[j].comp = k) (hb : ∀ p ∈ l.take j, p.comp ≠ k) : partAt l k = j := by
  unfold partAt
  have : l.findIdx? (fun p => p.comp == k) = some j := by
    rw [List.findIdx?_eq_some_iff_getElem]
    refine ⟨hj, by simp [h], fun i hi => ?_⟩
    have := hb l[i] (List.mem_take_iff_getElem.2 ⟨i, by omega, rfl⟩)
    simpa using this
  rw [this]
theorem partAt_none {l : List DPart} {k : Int} (hb : ∀ p ∈ l, p.comp ≠ k) : partAt l k = -1 := by
  unfold partAt
  have : l.findIdx? (fun p => p.comp == k) = none := by
    rw [List.findIdx?_eq_none_iff]
    intro p hp
    have := hb p hp
    simpa using this
  rw [this]
theorem forall_take_succ {α : Type} {P : α → Prop} {l : List α} {k : Nat} (hk : k < l.length) (h : ∀ p ∈ l.take k, P p) (hc : P l[k]) : ∀ p ∈ l.take (k + 1), P p := by
  rw [List.take_succ_eq_append_getElem hk]
  intro p hp
  rcases List.mem_append.1 hp with hp | hp
  · exact h p hp
  · rw [List.mem_singleton.1 hp]; exact hc

set_option maxRecDepth 100000 in
/-- ref11.Part -/
theorem part_calls {Q : Nat → Prop} {w : World} {v : Value} {l : List DPart} {k : Int} (hx : rPart.list.val Q w v l) :
    Calls Try.prog 265 #[v, .int .i64 k] w fun e w' => e = .returned (.int .i64 (partAt l k)) ∧ w' = w := by
  obtain ⟨A, c, rfl, hc1, hc2, hA⟩ := Rep.val_list hx
  unfold maxLen at hc2
  have HA := Lib.hid hA
  clear hx hA
  go_enter Try.func265, Try.ntmps265
  go_wp2_with fail
  go_loop [5] (fun i => ∃ j : Nat, i = .int .i64 j ∧ j ≤ l.length ∧ Hid (∀ p ∈ l.take j, p.comp ≠ k)) (fun i => l.length - (intOf i).toNat)
  case atStart => exact ⟨0, rfl, by omega, Lib.hid (by simp)⟩
  case round =>
    obtain ⟨j, rfl, hj, hb⟩ := hrel
    by_cases hlt : (j : Int) < l.length
    · have hj' : j < l.length := by omega
      obtain ⟨b, off, A2, c2, rfl, _, c0, c1, _, _⟩ := rPart_at HA.out (List.getElem?_eq_getElem hj')
      have F1 := Lib.hid (fun h => partAt_found hj' h hb.out)
      have F2 := Lib.hid (fun h => forall_take_succ (P := fun p : DPart => p.comp ≠ k) hj' hb.out h)
      generalize l[j] = x at *
      by_cases hc : x.comp = k
      · have F := Lib.hid (F1.out hc)
        have g : (x.comp == k) = true := by simp [hc]
        clear hc
        go_wp2_with fail
        go_ret
        exact ⟨by rw [F.out]; rfl, rfl⟩
      · have F := Lib.hid (F2.out hc)
        have g : (x.comp == k) = false := by simp [hc]
        clear hc
        go_wp2_with fail
        go_round
        case rel => exact ⟨j + 1, by go_num, by omega, F⟩
        case measure => simp [intOf]; omega
    · have F := Lib.hid (partAt_none (l := l) (k := k) (by have := hb.out; rwa [List.take_of_length_le (by omega)] at this))
      go_wp2_with fail
      go_ret
      exact ⟨by rw [F.out]; rfl, rfl⟩

/-- bytes.Equal -/
theorem bytesEqual {Q Q' : Nat → Prop} {w : World} {v u : Value} {xs ys : List UInt8} (hx : Rep.byte.list.val Q w v xs) (hy : Rep.byte.list.val Q' w u ys) :
    Calls Try.prog 171 #[v, u] w fun e w' => e = .returned (.bool (decide (xs = ys))) ∧ w' = w := by
  obtain ⟨A, c, rfl, hc1, hc2, hA⟩ := Rep.val_list hx
  obtain ⟨B, d, rfl, hd1, hd2, hB⟩ := Rep.val_list hy
  have h1 := hA.toText (P := Try.prog) Try.underlying36 Try.underlying5 Try.underlying9 c
  have h2 := hB.toText (P := Try.prog) Try.underlying36 Try.underlying5 Try.underlying9 d
  clear hx hy hA hB hc1 hc2 hd1 hd2
  go_enter Try.func171, Try.ntmps171
  go_wp2_with fail
  go_ret
  exact ⟨by simp [Bool.beq_eq_decide_eq], rfl⟩

theorem run_loadBytes {P : Program} {w : World} {b : Nat} : ∀ (l : List UInt8) (off : Nat) (acc : List UInt8), (∀ j x, l[j]? = some x → w.cell? ⟨b, off + j, none⟩ = some (.int .u8 (x.toNat : Int))) →
    (Extern.Bytes.loadBytes ⟨b, off, none⟩ l.length ⟨acc.toArray⟩).run P w = .ok ⟨(acc ++ l).toArray⟩ w
  | [], off, acc, _ => by simp [Extern.Bytes.loadBytes]
  | x :: l, off, acc, h => by
    have h0 := h 0 x rfl
    rw [Nat.add_zero] at h0
    have ih := run_loadBytes (P := P) l (off + 1) (acc ++ [x]) (fun j y hj => by rw [Nat.add_assoc, Nat.add_comm 1 j]; exact h (j + 1) y (by simpa using hj))
    rw [List.length_cons]
    unfold Extern.Bytes.loadBytes
    simp only [Sem.run_bind, run_load, h0, Result.andThen_ok]
    have e : (⟨b, off, none⟩ : Addr).add 1 = ⟨b, off + 1, none⟩ := by simp [Addr.add]
    have e2 : (ByteArray.mk acc.toArray).push ((x.toNat : Int).toNat.toUInt8) = ⟨(acc ++ [x]).toArray⟩ := by
      simp [ByteArray.push]
    rw [e, e2, ih, List.append_assoc]
    rfl
theorem run_bytesOf {P : Program} {Q : Nat → Prop} {w : World} {v : Value} {l : List UInt8} (hx : Rep.byte.list.val Q w v l) : (Extern.Bytes.bytesOf v).run P w = .ok ⟨l.toArray⟩ w := by
  obtain ⟨A, c, rfl, _, _, hA⟩ := Rep.val_list hx
  cases A with
  | none =>
    have hnil : l = [] := by
      rcases Nat.eq_zero_or_pos l.length with h | h
      · exact List.eq_nil_of_length_eq_zero h
      · obtain ⟨b, off, h⟩ := hA.addr h; cases h
    subst hnil
    rfl
  | some a =>
    obtain ⟨es, h1, h2⟩ := hA
    rw [Rep.row_byte h1] at h2
    rcases Nat.eq_zero_or_pos l.length with h0 | h0
    · have := List.eq_nil_of_length_eq_zero h0
      subst this
      rfl
    · obtain ⟨b, off, he, _, _, hc⟩ := h2 h0
      cases he
      exact run_loadBytes (P := P) l off [] (fun j x hj => hc j _ (by rw [List.getElem?_map, hj]; rfl))

end Go.Proofs.Ytfpmkenobphfnaa
