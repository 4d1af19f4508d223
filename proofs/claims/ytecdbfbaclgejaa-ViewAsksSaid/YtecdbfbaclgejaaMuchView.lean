/- Walks of what is more than is asked in statements: states and terms. -/
import Derived.Test.YtecdbfbaclgejaaAsk
namespace Go.Proofs.Ytecdbfbaclgejaa
open Go.RowKit

def MuchState (w : World) (s : DState) (e : Ending) (w' : World) : Prop := ∃ r : Bool, e = .returned (.bool r) ∧ (r = false → s.ents.length ≤ 60) ∧ Below w.heap.size w w'
theorem MuchState.yes {w w' : World} {s : DState} (h : Below w.heap.size w w') : MuchState w s (.returned (.bool true)) w' := ⟨true, rfl, (fun h => (by cases h)), h⟩

set_option maxRecDepth 100000 in
set_option maxHeartbeats 1000000 in
/-- ref12.Much -/
theorem muchState_calls {Q : Nat → Prop} {w : World} {v : Value} {s : DState} (hx : rState.val Q w v s) :
    Calls Try.prog 22 #[v] w (MuchState w s) := by
  obtain ⟨A1, c1, A2, c2, A3, c3, rfl, sg, sf, se⟩ := rState_val hx
  obtain ⟨W2, hW2⟩ : ∃ W2, w.alloc (.cells #[.slice A1 s.gens.length c1, .slice A2 s.free.length c2, .slice A3 s.ents.length c3] 33) = W2 := ⟨_, rfl⟩
  have hb2 : Below w.heap.size w W2 := by rw [← hW2]; exact (Below.refl _ _).alloc (Nat.le_refl _) _
  have e0 : W2.cell? ⟨w.heap.size, 0, none⟩ = some (.slice A1 s.gens.length c1) := by rw [← hW2]; simp
  have e1 : W2.cell? ⟨w.heap.size, 1, none⟩ = some (.slice A2 s.free.length c2) := by rw [← hW2]; simp
  have e2 : W2.cell? ⟨w.heap.size, 2, none⟩ = some (.slice A3 s.ents.length c3) := by rw [← hW2]; simp
  have hc3 := se.1
  have hc4 := se.2.1
  have hg1 := sg.1
  have hg2 := sg.2.1
  have hf1 := sf.1
  have hf2 := sf.2.1
  unfold maxLen at hc4 hg2 hf2
  have HS := Lib.hid (se.below hb2 fun _ _ h => h.lt)
  have HB2 := Lib.hid hb2
  clear hx sg sf se hb2
  go_enter Try.func22, Try.ntmps22
  go_wp2_with fail
  try rw [hW2]
  clear hW2
  go_wp2_with fail
  go_loop [3] (fun i => ∃ k : Nat, i = .int .i64 k ∧ k ≤ s.ents.length ∧ k ≤ 70) (fun i => s.ents.length - (intOf i).toNat)
  case atStart => exact ⟨0, rfl, by omega, by omega⟩
  case round =>
    obtain ⟨k, rfl, hk, hk7⟩ := hrel
    by_cases hlt : (k : Int) < s.ents.length
    · by_cases h70 : (k : Int) < 70
      · have hk' : k < s.ents.length := by omega
        obtain ⟨b, off, A6, c6, rfl, _, d0, d1, d2, _, _, sp⟩ := rEnt_at HS.out.2.2 (List.getElem?_eq_getElem hk')
        have hp1 := sp.1
        have hp2 := sp.2.1
        unfold maxLen at hp2
        have HP := Lib.hid sp
        generalize s.ents[k] = x at *
        clear sp
        by_cases h40 : (40 : Int) < x.parts.length
        · go_wp2_with fail
          go_ret
          exact MuchState.yes HB2.out
        · go_wp2_with fail
          go_loop [4] (fun i => ∃ j : Nat, i = .int .i64 j ∧ j ≤ x.parts.length) (fun i => x.parts.length - (intOf i).toNat)
          case atStart => exact ⟨0, rfl, by omega⟩
          case round =>
            obtain ⟨j, rfl, hj⟩ := hrel
            by_cases hlt2 : (j : Int) < x.parts.length
            · have hj' : j < x.parts.length := by omega
              obtain ⟨b', off', A7, c7, rfl, _, q0, q1, _, sd⟩ := rPart_at HP.out.2.2 (List.getElem?_eq_getElem hj')
              have hd1 := sd.1
              have hd2 := sd.2.1
              unfold maxLen at hd2
              generalize x.parts[j] = y at *
              clear sd
              by_cases h200 : (200 : Int) < y.data.length
              · go_wp2_with fail
                go_ret
                exact MuchState.yes HB2.out
              · go_wp2_with fail
                go_round
                case rel => exact ⟨j + 1, by go_num, by omega⟩
                case measure => simp [intOf]; omega
            · go_wp2_with fail
              exact ⟨⟨k + 1, by go_num, by omega, by omega⟩, by simp [intOf]; omega⟩
      · have h60 : (60 : Int) < s.ents.length := by omega
        by_cases g1 : (60 : Int) < s.gens.length
        · go_wp2_with fail
          go_ret
          exact MuchState.yes HB2.out
        · by_cases g2 : (60 : Int) < s.free.length
          · go_wp2_with fail
            go_ret
            exact MuchState.yes HB2.out
          · go_wp2_with fail
            go_ret
            exact MuchState.yes HB2.out
    · by_cases g1 : (60 : Int) < s.gens.length
      · go_wp2_with fail
        go_ret
        exact MuchState.yes HB2.out
      · by_cases g2 : (60 : Int) < s.free.length
        · go_wp2_with fail
          go_ret
          exact MuchState.yes HB2.out
        · by_cases g3 : (60 : Int) < s.ents.length
          · go_wp2_with fail
            go_ret
            exact MuchState.yes HB2.out
          · go_wp2_with fail
            go_ret
            exact ⟨false, rfl, fun _ => by omega, HB2.out⟩

def MuchTerms (w : World) (l : List DTerm) (e : Ending) (w' : World) : Prop := ∃ r : Bool, e = .returned (.bool r) ∧ (r = false → l.length ≤ 20) ∧ w' = w
set_option maxRecDepth 100000 in
/-- ref35.Much -/
theorem muchTerms_calls {Q : Nat → Prop} {w : World} {v : Value} {l : List DTerm} (hx : rTerm.list.val Q w v l) :
    Calls Try.prog 23 #[v] w (MuchTerms w l) := by
  obtain ⟨A, c, rfl, hc1, hc2, hA⟩ := Rep.val_list hx
  unfold maxLen at hc2
  have HA := Lib.hid hA
  clear hx hA
  go_enter Try.func23, Try.ntmps23
  go_wp2_with fail
  go_loop [3] (fun i => ∃ k : Nat, i = .int .i64 k ∧ k ≤ l.length ∧ k ≤ 50) (fun i => l.length - (intOf i).toNat)
  case atStart => exact ⟨0, rfl, by omega, by omega⟩
  case round =>
    obtain ⟨k, rfl, hk, hk5⟩ := hrel
    by_cases hlt : (k : Int) < l.length
    · by_cases h50 : (k : Int) < 50
      · have hk' : k < l.length := by omega
        obtain ⟨b, off, A6, c6, rfl, _, d0, d1, d2, _, _, sp⟩ := rTerm_at HA.out (List.getElem?_eq_getElem hk')
        have hp1 := sp.1
        have hp2 := sp.2.1
        unfold maxLen at hp2
        generalize l[k] = x at *
        clear sp
        by_cases h2 : (200 : Int) < x.data.length
        · go_wp2_with fail
          go_ret
          exact ⟨true, rfl, (fun h => (by cases h)), rfl⟩
        · go_wp2_with fail
          go_round
          case rel => exact ⟨k + 1, by go_num, by omega, by omega⟩
          case measure => simp [intOf]; omega
      · have h20 : (20 : Int) < l.length := by omega
        go_wp2_with fail
        go_ret
        exact ⟨true, rfl, (fun h => (by cases h)), rfl⟩
    · by_cases h20 : (20 : Int) < l.length
      · go_wp2_with fail
        go_ret
        exact ⟨true, rfl, (fun h => (by cases h)), rfl⟩
      · go_wp2_with fail
        go_ret
        exact ⟨false, rfl, fun _ => by omega, rfl⟩
end Go.Proofs.Ytecdbfbaclgejaa
