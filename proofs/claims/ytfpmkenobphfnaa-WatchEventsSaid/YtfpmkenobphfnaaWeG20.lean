/- Texts on which the proofs stand: RSame37, Live37, MuchState. No condition is laid on any input. -/
import Derived.Test.YtfpmkenobphfnaaWeG19
import Derived.Test.YtfpmkenobphfnaaWeNames
/- Walk of ref37.Same, at lists that are alike. Printed by gen_rsame37.py. -/
namespace Go.Proofs.Ytfpmkenobphfnaa
open Go.RowKit

set_option maxRecDepth 100000 in
set_option maxHeartbeats 2000000 in
/-- ref37.Same -/
theorem rsame37_calls {Q Q' : Nat → Prop} {w : World} {u v : Value} {xs : List DEvent} (hx : rEvent.list.val Q w u xs) (hy : rEvent.list.val Q' w v xs) :
    Calls Try.prog 79 #[u, v] w fun en w' => en = .returned (.bool true) ∧ Below w.heap.size w w' := by
  obtain ⟨A, c, rfl, hc1, hc2, hA⟩ := Rep.val_list hx
  obtain ⟨B, d, rfl, hd1, hd2, hB⟩ := Rep.val_list hy
  unfold maxLen at hc2 hd2
  have HA := Lib.hid hA
  have HB := Lib.hid hB
  obtain ⟨n, hn⟩ : ∃ n, xs.length = n := ⟨_, rfl⟩
  have HN := Lib.hid hn
  rw [hn] at hc1 hd1 ⊢
  have hne : ((n : Int) != (n : Int)) = false := by simp
  clear hx hy hA hB hn
  go_enter Try.func79, Try.ntmps79
  go_wp2_with fail
  clear hne
  go_loopw [5] (fun i wr => ∃ k : Nat, i = .int .i64 k ∧ k ≤ n ∧ Hid (Below w.heap.size w wr)) (fun i _ => n - (intOf i).toNat)
  case atStart => exact ⟨0, rfl, Nat.zero_le _, Lib.hid (Below.refl _ _)⟩
  case round =>
    obtain ⟨k, rfl, hk, HW⟩ := hrel
    by_cases hlt : (k : Int) < n
    · obtain ⟨x, hx⟩ : ∃ x, xs[k]? = some x := ⟨_, List.getElem?_eq_getElem (by have := HN.out; omega)⟩
      obtain ⟨b, off, rfl, _, e0, e1, e2, e3, _⟩ := rEvent_at (HA.out.below HW.out (fun _ _ h => h.lt)) hx
      obtain ⟨b', off', rfl, _, f0, f1, f2, f3, _⟩ := rEvent_at (HB.out.below HW.out (fun _ _ h => h.lt)) hx
      clear hx
      go_wp2_with fail
      refine wp_region_held_drew (S := fun W => W = wr.drew) (by kernel_rfl) rfl (fun s0 => ?_)
      refine wpAnyH_take (i := 0) (v := .slice (some ⟨b, off, none⟩) n c) rfl (by kernel_rfl) (by kernel_rfl) (by kernel_rfl) (fun _ _ _ h => h) (Or.inl ⟨by rfl, fun w' _ => by go_simp <;> omega⟩) s0 ?_
      go_simp
      refine wpAnyH_take (i := 1) (v := .int .i64 k) rfl (by kernel_rfl) (by kernel_rfl) (by kernel_rfl) (fun _ _ _ h => h) (Or.inl ⟨by rfl, fun w' _ => by go_simp <;> omega⟩) s0 ?_
      go_simp
      refine wpAnyH_take (i := 2) (v := .pointer (some ⟨b, off + k * 4, none⟩)) rfl (by kernel_rfl) (by kernel_rfl) (by kernel_rfl) (fun _ _ _ h => h) (Or.inl ⟨by rfl, fun w' _ => by go_simp <;> omega⟩) s0 ?_
      go_simp
      refine wpAnyH_take (i := 3) (v := .agg #[.int .i64 x.kind, .int .i64 x.id.index, .int .i64 x.id.gen, .int .i64 x.frame]) rfl (by kernel_rfl) (by kernel_rfl) (by kernel_rfl) (fun _ _ _ h => h) (Or.inl ⟨by rfl, fun w' h => by have h' : w' = wr.drew := h; subst h'; go_simp⟩) s0 ?_
      go_simp
      refine wpAnyH_take (i := 4) (v := .slice (some ⟨b', off', none⟩) n d) rfl (by kernel_rfl) (by kernel_rfl) (by kernel_rfl) (fun _ _ _ h => h) (Or.inl ⟨by rfl, fun w' _ => by go_simp <;> omega⟩) s0 ?_
      go_simp
      refine wpAnyH_take (i := 5) (v := .int .i64 k) rfl (by kernel_rfl) (by kernel_rfl) (by kernel_rfl) (fun _ _ _ h => h) (Or.inl ⟨by rfl, fun w' _ => by go_simp <;> omega⟩) s0 ?_
      go_simp
      refine wpAnyH_take (i := 6) (v := .pointer (some ⟨b', off' + k * 4, none⟩)) rfl (by kernel_rfl) (by kernel_rfl) (by kernel_rfl) (fun _ _ _ h => h) (Or.inl ⟨by rfl, fun w' _ => by go_simp <;> omega⟩) s0 ?_
      go_simp
      refine wpAnyH_take (i := 7) (v := .agg #[.int .i64 x.kind, .int .i64 x.id.index, .int .i64 x.id.gen, .int .i64 x.frame]) rfl (by kernel_rfl) (by kernel_rfl) (by kernel_rfl) (fun _ _ _ h => h) (Or.inl ⟨by rfl, fun w' h => by have h' : w' = wr.drew := h; subst h'; go_simp⟩) s0 ?_
      go_simp
      refine wpAnyH_take (i := 8) (v := .bool false) rfl (by kernel_rfl) (by kernel_rfl) (by kernel_rfl) (fun _ _ _ h => h) (Or.inl ⟨by rfl, fun w' _ => by go_simp <;> omega⟩) s0 ?_
      go_simp
      refine wpAnyH_done (by kernel_rfl) ?_ _
      go_wp2_with fail
      exact ⟨⟨k + 1, by go_num, by omega, Lib.hid HW.out.drew⟩, by simp [intOf]; omega⟩
    · obtain rfl : k = n := by omega
      go_wp2_with fail
      go_ret
      exact ⟨rfl, HW.out⟩
end Go.Proofs.Ytfpmkenobphfnaa
/- The example of the statements on who is watched, walked. -/
namespace Go.Proofs.Ytfpmkenobphfnaa
open Go.RowKit

theorem sl_nil {α : Type} {r : Rep α} {Q : Nat → Prop} {w : World} : r.Sl Q w none 0 ([] : List α) := ⟨Nat.le_refl _, by simp [maxLen], [], rfl, fun h => absurd h (by simp)⟩
def zeroEnt : DEnt := ⟨⟨0, 0⟩, []⟩
theorem live37_val {w : World} : rState.val (fun b => b < w.heap.size + 1) (w.alloc (.cells #[.int .i64 0, .int .i64 0, .slice none 0 0] 189)) (.agg #[.slice none 0 0, .slice none 0 0, .slice (some ⟨w.heap.size, 0, none⟩) 1 1]) ⟨[], [], [zeroEnt]⟩ := by
  have h := lit_list (r := rEnt) (e := 189) (w := w) (xs := [zeroEnt]) (n := 1) (cs := [.int .i64 0, .int .i64 0, .slice none 0 0]) (Q := fun b => b < w.heap.size + 1) rfl (by simp [maxLen]) (by omega)
    ⟨_, [], rfl, rEnt_mk (x := zeroEnt) (by decide) (by decide) sl_nil, rfl⟩
  obtain ⟨A, c, e, hs⟩ := Rep.val_sl h
  injection e with e1 e2 e3
  subst e1
  obtain rfl : c = 1 := e3.symm
  exact rState_agg (x := ⟨[], [], [zeroEnt]⟩) sl_nil sl_nil hs
theorem live37_events {ns : List DID} (h1 : ns.Pairwise idLt) (h2 : ∀ x, x ∈ ns ↔ x ∈ (([] : List DEnt) ++ [zeroEnt]).map (·.id)) : eventsOf ⟨[], [], []⟩ ⟨[], [], [zeroEnt]⟩ 0 0 4 ns = [⟨0, ⟨0, 0⟩, 4⟩] := by
  have : ns = [⟨0, 0⟩] := strict_same h1 (List.pairwise_singleton _ _) (fun x => by rw [h2]; simp [zeroEnt])
  subst this
  decide

set_option maxRecDepth 100000 in
set_option maxHeartbeats 1000000 in
/-- law37.live -/
theorem live37_calls (w : World) : Calls Try.prog 78 #[] w fun e w' => e = .returned (.bool true) ∧ Below w.heap.size w w' := by
  obtain ⟨W1, hW1⟩ : ∃ W1, w.alloc (.cells #[.int .i64 0, .int .i64 0, .slice none 0 0] 189) = W1 := ⟨_, rfl⟩
  have HV := Lib.hid (live37_val (w := w))
  rw [hW1] at HV
  have HB1 := Lib.hid (show Below w.heap.size w W1 by rw [← hW1]; exact (Below.refl _ _).alloc (Nat.le_refl _) _)
  have HN := Lib.hid (show rState.val (fun b => b < w.heap.size + 1) W1 (.agg #[.slice none 0 0, .slice none 0 0, .slice none 0 0]) ⟨[], [], []⟩ from rState_agg (x := ⟨[], [], []⟩) sl_nil sl_nil sl_nil)
  have hc := wevents_calls (yes := 0) (no := 0) (f := 4) HN.out HV.out (by decide) (by decide) (by decide) (by simp)
  have HC := Lib.hid hc
  clear hc
  go_enter Try.func78, Try.ntmps78
  go_wp2_with fail
  try rw [hW1]
  clear hW1
  refine HC.out.mono ?_
  rintro e w2 ⟨u2, ns, rfl, hpw, hmem, hu2, hb2⟩
  rw [live37_events hpw hmem] at hu2
  obtain ⟨A, c, rfl, h1, h2, hat⟩ := Rep.val_list hu2
  obtain ⟨b, off, rfl, _, e0, e1, e2, e3, _⟩ := rEvent_at hat (i := 0) rfl
  have HB2 := Lib.hid (HB1.out.trans (hb2.mono HB1.out.size))
  simp only [Nat.zero_mul, Nat.add_zero, List.length_singleton] at e0 e1 e2 e3 h1 h2 ⊢
  unfold maxLen at h2
  clear hu2 hat hb2 hpw hmem
  go_wp2_with fail
  go_ret
  exact ⟨rfl, HB2.out⟩
end Go.Proofs.Ytfpmkenobphfnaa
/- Walk of what is more than is asked in statements: states, with a bound on each entity's parts. -/
namespace Go.Proofs.Ytfpmkenobphfnaa
open Go.RowKit

def MuchSt (w : World) (s : DState) (e : Ending) (w' : World) : Prop := ∃ r : Bool, e = .returned (.bool r) ∧ (r = false → s.ents.length ≤ 60 ∧ ∀ e ∈ s.ents, e.parts.length ≤ 40) ∧ Below w.heap.size w w'
theorem MuchSt.yes {w w' : World} {s : DState} (h : Below w.heap.size w w') : MuchSt w s (.returned (.bool true)) w' := ⟨true, rfl, (fun h => (by cases h)), h⟩

set_option maxRecDepth 100000 in
set_option maxHeartbeats 1000000 in
/-- ref12.Much -/
theorem muchSt_calls {Q : Nat → Prop} {w : World} {v : Value} {s : DState} (hx : rState.val Q w v s) :
    Calls Try.prog 67 #[v] w (MuchSt w s) := by
  obtain ⟨A1, c1, A2, c2, A3, c3, rfl, sg, sf, se⟩ := rState_val hx
  obtain ⟨W2, hW2⟩ : ∃ W2, w.alloc (.cells #[.slice A1 s.gens.length c1, .slice A2 s.free.length c2, .slice A3 s.ents.length c3] 109) = W2 := ⟨_, rfl⟩
  have hb2 : Below w.heap.size w W2 := by rw [← hW2]; exact (Below.refl _ _).alloc (Nat.le_refl _) _
  have e0 : W2.cell? ⟨w.heap.size, 0, none⟩ = some (.slice A1 s.gens.length c1) := by rw [← hW2]; simp
  have e1 : W2.cell? ⟨w.heap.size, 1, none⟩ = some (.slice A2 s.free.length c2) := by rw [← hW2]; simp
  have e2 : W2.cell? ⟨w.heap.size, 2, none⟩ = some (.slice A3 s.ents.length c3) := by rw [← hW2]; simp
  have hc3 := se.1
  have hc4 := se.2.1
  have hg1 := sg.1
  have hg2 := sg.2.1
  have hf1 := sf.1
  have hf2 := sf.2.1
  unfold maxLen at hc4 hg2 hf2
  have HS := Lib.hid (se.below hb2 fun _ _ h => h.lt)
  have HB2 := Lib.hid hb2
  clear hx sg sf se hb2
  go_enter Try.func67, Try.ntmps67
  go_wp2_with fail
  try rw [hW2]
  clear hW2
  go_wp2_with fail
  go_loop [3] (fun i => ∃ k : Nat, i = .int .i64 k ∧ k ≤ s.ents.length ∧ k ≤ 70 ∧ Hid (∀ (j : Nat) (x : DEnt), j < k → s.ents[j]? = some x → x.parts.length ≤ 40)) (fun i => s.ents.length - (intOf i).toNat)
  case atStart => exact ⟨0, rfl, by omega, by omega, Lib.hid fun j x hj _ => by omega⟩
  case round =>
    obtain ⟨k, rfl, hk, hk7, HB⟩ := hrel
    by_cases hlt : (k : Int) < s.ents.length
    · by_cases h70 : (k : Int) < 70
      · have hk' : k < s.ents.length := by omega
        obtain ⟨b, off, A6, c6, rfl, _, d0, d1, d2, _, _, sp⟩ := rEnt_at HS.out.2.2 (List.getElem?_eq_getElem hk')
        have hp1 := sp.1
        have hp2 := sp.2.1
        unfold maxLen at hp2
        have HP := Lib.hid sp
        have HX := Lib.hid (show s.ents[k]? = some s.ents[k] from List.getElem?_eq_getElem hk')
        generalize s.ents[k] = x at *
        clear sp
        by_cases h40 : (40 : Int) < x.parts.length
        · go_wp2_with fail
          go_ret
          exact MuchSt.yes HB2.out
        · have HN := Lib.hid (show ∀ (j : Nat) (y : DEnt), j < k + 1 → s.ents[j]? = some y → y.parts.length ≤ 40 from fun j y hj hy => by
            rcases Nat.lt_or_ge j k with h | h
            · exact HB.out j y h hy
            · have : j = k := by omega
              subst this
              have := HX.out
              rw [hy] at this
              rw [Option.some.inj this]
              omega)
          go_wp2_with fail
          go_loop [4] (fun i => ∃ j : Nat, i = .int .i64 j ∧ j ≤ x.parts.length) (fun i => x.parts.length - (intOf i).toNat)
          case atStart => exact ⟨0, rfl, by omega⟩
          case round =>
            obtain ⟨j, rfl, hj⟩ := hrel
            by_cases hlt2 : (j : Int) < x.parts.length
            · have hj' : j < x.parts.length := by omega
              obtain ⟨b', off', A7, c7, rfl, _, q0, q1, _, sd⟩ := rPart_at HP.out.2.2 (List.getElem?_eq_getElem hj')
              have hd1 := sd.1
              have hd2 := sd.2.1
              unfold maxLen at hd2
              generalize x.parts[j] = y at *
              clear sd
              by_cases h200 : (200 : Int) < y.data.length
              · go_wp2_with fail
                go_ret
                exact MuchSt.yes HB2.out
              · go_wp2_with fail
                go_round
                case rel => exact ⟨j + 1, by go_num, by omega⟩
                case measure => simp [intOf]; omega
            · go_wp2_with fail
              exact ⟨⟨k + 1, by go_num, by omega, by omega, HN⟩, by simp [intOf]; omega⟩
      · have h60 : (60 : Int) < s.ents.length := by omega
        by_cases g1 : (60 : Int) < s.gens.length
        · go_wp2_with fail
          go_ret
          exact MuchSt.yes HB2.out
        · by_cases g2 : (60 : Int) < s.free.length
          · go_wp2_with fail
            go_ret
            exact MuchSt.yes HB2.out
          · go_wp2_with fail
            go_ret
            exact MuchSt.yes HB2.out
    · by_cases g1 : (60 : Int) < s.gens.length
      · go_wp2_with fail
        go_ret
        exact MuchSt.yes HB2.out
      · by_cases g2 : (60 : Int) < s.free.length
        · go_wp2_with fail
          go_ret
          exact MuchSt.yes HB2.out
        · by_cases g3 : (60 : Int) < s.ents.length
          · go_wp2_with fail
            go_ret
            exact MuchSt.yes HB2.out
          · go_wp2_with fail
            go_ret
            refine ⟨false, rfl, fun _ => ⟨by omega, fun e he => ?_⟩, HB2.out⟩
            obtain ⟨j, hj, rfl⟩ := List.getElem_of_mem he
            exact HB.out j _ (by omega) (List.getElem?_eq_getElem hj)

end Go.Proofs.Ytfpmkenobphfnaa
