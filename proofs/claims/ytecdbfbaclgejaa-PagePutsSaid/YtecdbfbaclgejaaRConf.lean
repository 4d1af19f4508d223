/- Walks of the reference's checks of a layout. -/
import Derived.Test.YtecdbfbaclgejaaConf
namespace Go.Proofs.Ytecdbfbaclgejaa
open Go.RowKit

/-- What ref07.Find answers. -/
def FindRes (l : List DComp) (s : List UInt8) (w : World) (e : Ending) (w' : World) : Prop := Below w.heap.size w w' ∧ ∃ (i : Nat) (b : Bool), e = .returned (.tuple #[.int .i64 i, .bool b]) ∧
  ((b = true ∧ (l.take i).all (fun y => decide (y.name ≠ s)) = true ∧ ∃ h : i < l.length, l[i].name = s) ∨ (b = false ∧ l.all (fun y => decide (y.name ≠ s)) = true))

set_option maxRecDepth 100000 in
set_option maxHeartbeats 4000000 in
/-- ref07.Find -/
theorem find_calls {Q : Nat → Prop} {w : World} {v : Value} {c : DConf} {s : List UInt8} (hx : rConf.val Q w v c) :
    Calls Try.prog 136 #[v, .string ⟨s.toArray⟩] w (FindRes c.comps s w) := by
  obtain ⟨A, cap, rfl, f0, f1, f2, f3, hc1, hc2, hA⟩ := rConf_val hx
  unfold maxLen at hc2
  have hlen : (c.comps.length : Int) ≤ 9223372036854775807 := by omega
  obtain ⟨W1, hW1⟩ : ∃ W1, w.alloc (.cells #[.int .i64 c.log, .int .i64 c.pages, .int .i64 c.entities, .int .i64 c.gens, .slice A c.comps.length cap] 88) = W1 := ⟨_, rfl⟩
  have hcell : W1.cell? ⟨w.heap.size, 4, none⟩ = some (.slice A c.comps.length cap) := by rw [← hW1]; simp
  have hbel : Below w.heap.size w W1 := by rw [← hW1]; exact (Below.refl _ _).alloc (Nat.le_refl _) _
  have hsz : W1.heap.size = w.heap.size + 1 := by rw [← hW1]; simp
  have HX := Lib.hid hA
  clear hx hA
  go_enter Try.func136, Try.ntmps136
  go_wp2_with fail
  try rw [hW1]
  clear hW1
  go_loopw [6] (fun i wr => ∃ k : Nat, i = .int .i64 k ∧ k ≤ c.comps.length ∧ Hid ((c.comps.take k).all (fun y => decide (y.name ≠ s)) = true) ∧ wr = W1)
    (fun i _ => c.comps.length - (intOf i).toNat)
  case atStart => exact ⟨0, rfl, by omega, rfl, rfl⟩
  case round =>
    obtain ⟨k, rfl, hk, hall, rfl⟩ := hrel
    by_cases hlt : (k : Int) < c.comps.length
    · have hk' : k < c.comps.length := by omega
      have hAw : rComp.At (fun b => b < w.heap.size) wr A c.comps := Rep.At.keep (w := w) (fun b _ hb => ⟨hb.lt, hbel.block b hb.lt⟩) HX.out
      obtain ⟨b, off, rfl, hb, cx0, cx1, g0, g1⟩ := rComp_at hAw (List.getElem?_eq_getElem hk')
      generalize hxx : c.comps[k] = x at *
      have HXX := Lib.hid hxx
      clear hxx hAw
      by_cases hq : x.name = s
      · have HQ := Lib.hid hq
        replace hq : (x.name == s) = true := by simp [hq]
        go_wp2_with fail
        go_ret2
        refine ⟨hbel, k, true, rfl, .inl ⟨rfl, hall, hk', by rw [HXX.out]; exact HQ.out⟩⟩
      · have HD := Lib.hid (show ((c.comps.take (k + 1)).all fun y => decide (y.name ≠ s)) = true from all_take_succ (p := fun y : DComp => decide (y.name ≠ s)) hk' hall (by rw [HXX.out]; simpa using hq))
        replace hq : (x.name == s) = false := by simpa using hq
        go_wp2_with fail
        exact ⟨⟨k + 1, by go_num, by omega, HD, trivial⟩, by simp [intOf]; omega⟩
    · obtain rfl : k = c.comps.length := by omega
      have HF := Lib.hid (show (c.comps.all fun y => decide (y.name ≠ s)) = true by have := hall.out; rwa [List.take_length] at this)
      clear hall
      go_wp2_with fail
      go_ret2
      exact ⟨hbel, 0, false, rfl, .inr ⟨rfl, HF.out⟩⟩

def muchConf (c : DConf) : Bool := (c.comps.take 50).any (fun y => decide (100 < y.name.length)) || decide (40 < c.comps.length)

set_option maxRecDepth 100000 in
set_option maxHeartbeats 4000000 in
/-- ref07.Much -/
theorem much_calls {Q : Nat → Prop} {w : World} {v : Value} {c : DConf} (hx : rConf.val Q w v c) :
    Calls Try.prog 52 #[v] w fun e w' => e = .returned (.bool (muchConf c)) ∧ Below w.heap.size w w' := by
  obtain ⟨A, cap, rfl, f0, f1, f2, f3, hc1, hc2, hA⟩ := rConf_val hx
  unfold maxLen at hc2
  have hlen : (c.comps.length : Int) ≤ 9223372036854775807 := by omega
  obtain ⟨W1, hW1⟩ : ∃ W1, w.alloc (.cells #[.int .i64 c.log, .int .i64 c.pages, .int .i64 c.entities, .int .i64 c.gens, .slice A c.comps.length cap] 88) = W1 := ⟨_, rfl⟩
  have hcell : W1.cell? ⟨w.heap.size, 4, none⟩ = some (.slice A c.comps.length cap) := by rw [← hW1]; simp
  have hbel : Below w.heap.size w W1 := by rw [← hW1]; exact (Below.refl _ _).alloc (Nat.le_refl _) _
  have hsz : W1.heap.size = w.heap.size + 1 := by rw [← hW1]; simp
  have HX := Lib.hid hA
  clear hx hA
  go_enter Try.func52, Try.ntmps52
  go_wp2_with fail
  try rw [hW1]
  clear hW1
  go_loopw [3] (fun i wr => ∃ k : Nat, i = .int .i64 k ∧ k ≤ c.comps.length ∧ k ≤ 50 ∧ Hid ((c.comps.take k).any (fun y => decide (100 < y.name.length)) = false) ∧ wr = W1)
    (fun i _ => c.comps.length - (intOf i).toNat)
  case atStart => exact ⟨0, rfl, by omega, by omega, rfl, rfl⟩
  case round =>
    obtain ⟨k, rfl, hk, hk50, hall, rfl⟩ := hrel
    by_cases hlt : (k : Int) < c.comps.length
    · have hk' : k < c.comps.length := by omega
      by_cases hlt5 : (k : Int) < 50
      · have hAw : rComp.At (fun b => b < w.heap.size) wr A c.comps := Rep.At.keep (w := w) (fun b _ hb => ⟨hb.lt, hbel.block b hb.lt⟩) HX.out
        obtain ⟨b, off, rfl, hb, cx0, cx1, g0, g1⟩ := rComp_at hAw (List.getElem?_eq_getElem hk')
        generalize hxx : c.comps[k] = x at *
        have HXX := Lib.hid hxx
        clear hxx hAw
        by_cases hq : (100 : Int) < x.name.length
        · have HR := Lib.hid (show muchConf c = true by
            unfold muchConf
            have : (c.comps.take 50).any (fun y => decide (100 < y.name.length)) = true := List.any_eq_true.2 ⟨x, List.mem_take_iff_getElem.2 ⟨k, by omega, HXX.out⟩, by simp; omega⟩
            rw [this]; rfl)
          go_wp2_with fail
          go_ret
          exact ⟨by rw [HR.out]; rfl, hbel⟩
        · have HD := Lib.hid (show (c.comps.take (k + 1)).any (fun y => decide (100 < y.name.length)) = false by
            rw [List.take_succ_eq_append_getElem hk', List.any_append, hall.out, HXX.out]; simp; omega)
          go_wp2_with fail
          exact ⟨⟨k + 1, by go_num, by omega, by omega, HD, trivial⟩, by simp [intOf]; omega⟩
      · have HR := Lib.hid (show muchConf c = true by unfold muchConf; rw [decide_eq_true (show 40 < c.comps.length by omega), Bool.or_true])
        have h40 : (40 : Int) < c.comps.length := by omega
        go_wp2_with fail
        go_ret
        exact ⟨by rw [HR.out]; rfl, hbel⟩
    · obtain rfl : k = c.comps.length := by omega
      have HR := Lib.hid (show muchConf c = decide ((40 : Int) < c.comps.length) by
        unfold muchConf
        have := hall.out
        rw [List.take_length] at this
        rw [List.take_of_length_le hk50, this, Bool.false_or]
        congr 1
        simp; omega)
      clear hall
      go_wp2_with fail
      go_ret
      exact ⟨by rw [HR.out]; rfl, hbel⟩
end Go.Proofs.Ytecdbfbaclgejaa
