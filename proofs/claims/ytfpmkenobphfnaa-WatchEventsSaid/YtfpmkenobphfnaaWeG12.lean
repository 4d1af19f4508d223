/- Texts on which the proofs stand: Sets, WatchFind. No condition is laid on any input. -/
import Derived.Test.YtfpmkenobphfnaaWeG11
import Derived.Test.YtfpmkenobphfnaaWeG8
/- Walks of the functions that tell which components terms ask for. -/
namespace Go.Proofs.Ytfpmkenobphfnaa
open Go.RowKit

set_option maxRecDepth 100000 in
/-- ref05.Of -/
theorem maskOf_calls {Q : Nat → Prop} {w : World} {v : Value} {l : List Int} (hx : (Rep.int .i64).list.val Q w v l) :
    Calls Try.prog 232 #[v] w fun e w' => e = .returned (.int .u64 ((maskOf l : Nat) : Int)) ∧ w' = w := by
  obtain ⟨A, c, rfl, hc1, hc2, hA⟩ := Rep.val_list hx
  unfold maxLen at hc2
  have HA := Lib.hid hA
  clear hx hA
  go_enter Try.func232, Try.ntmps232
  go_wp2_with fail
  go_loop [3, 4, 5] (fun s b i => ∃ (k S B : Nat), i = .int .i64 k ∧ k ≤ 64 ∧ s = .int .u64 (S : Int) ∧ Hid (S = maskUp k l) ∧ b = .int .u64 (B : Int) ∧ Hid (k < 64 → B = 2 ^ k) ∧ B < 18446744073709551616) (fun _ _ i => 64 - (intOf i).toNat)
  case atStart => exact ⟨0, 0, 1, rfl, by omega, rfl, rfl, rfl, Lib.hid (fun _ => rfl), by omega⟩
  case round =>
    obtain ⟨k, S, B, rfl, hk, rfl, hS, rfl, hB, hB64⟩ := hrel
    by_cases hlt : (k : Int) < 64
    · have hk' : k < 64 := by omega
      have hSl := maskUp_lt l k
      have hP : 2 ^ (k + 1) ≤ 18446744073709551616 := Nat.le_trans (Nat.pow_le_pow_right (by decide) (show k + 1 ≤ 64 by omega)) (by decide)
      have hadd : S + B < 18446744073709551616 := by have h1 := hS.out; have h2 := hB.out hk'; rw [← h1] at hSl; rw [← h2] at hSl; rw [Nat.pow_succ, ← h2] at hP; omega
      have HM := Lib.hid (show k + 1 < 64 → B * 2 % 18446744073709551616 = 2 ^ (k + 1) by
        intro h
        have h2 := hB.out hk'
        have h3 : 2 ^ (k + 2) ≤ 18446744073709551616 := Nat.le_trans (Nat.pow_le_pow_right (by decide) (show k + 2 ≤ 64 by omega)) (by decide)
        rw [Nat.pow_succ, Nat.pow_succ, ← h2] at h3
        rw [Nat.pow_succ, ← h2]; omega)
      have hSi : (S : Int) + (B : Int) ≤ 18446744073709551615 := by omega
      clear hSl hP hB64
      go_wp2_with fail
      go_loop [3, 6] (fun s i => ∃ j : Nat, i = .int .i64 j ∧ j ≤ l.length ∧ s = .int .u64 (S : Int) ∧ Hid (∀ p ∈ l.take j, p ≠ (k : Int))) (fun _ i => l.length - (intOf i).toNat)
      case atStart => exact ⟨0, rfl, by omega, rfl, Lib.hid (by simp)⟩
      case round =>
        obtain ⟨j, rfl, hj, rfl, hb⟩ := hrel
        by_cases hlt2 : (j : Int) < l.length
        · have hj' : j < l.length := by omega
          obtain ⟨b0, o0, rfl, c0, wx⟩ := HA.out.int (List.getElem?_eq_getElem hj')
          have F1 := Lib.hid (fun h : l[j] = (k : Int) => (show (k : Int) ∈ l from h ▸ List.getElem_mem hj'))
          have F2 := Lib.hid (fun h => forall_take_succ (P := fun p : Int => p ≠ (k : Int)) hj' hb.out h)
          generalize l[j] = x at *
          clear wx
          by_cases hc : x = (k : Int)
          · have F := Lib.hid (show S + B = maskUp (k + 1) l by rw [maskUp, if_pos (F1.out hc), ← hS.out, hB.out hk'])
            have g : (x == (k : Int)) = true := by simp [hc]
            clear hc
            go_wp2_with fail
            exact ⟨⟨k + 1, S + B, B * 2 % 18446744073709551616, by go_num, by omega, by go_num, F, by rw [wrap_u64]; congr 1, HM, Nat.mod_lt _ (by decide)⟩, by simp [intOf]; omega⟩
          · have F := Lib.hid (F2.out hc)
            have g : (x == (k : Int)) = false := by simp [hc]
            clear hc
            go_wp2_with fail
            go_round
            case rel => exact ⟨j + 1, by go_num, by omega, rfl, F⟩
            case measure => simp [intOf]; omega
        · have F := Lib.hid (show S = maskUp (k + 1) l by
            have h1 := hb.out
            rw [List.take_of_length_le (by omega)] at h1
            rw [maskUp, if_neg (fun h => h1 _ h rfl), ← hS.out, Nat.add_zero])
          go_wp2_with fail
          exact ⟨⟨k + 1, S, B * 2 % 18446744073709551616, by go_num, by omega, rfl, F, by rw [wrap_u64]; congr 1, HM, Nat.mod_lt _ (by decide)⟩, by simp [intOf]; omega⟩
    · obtain rfl : k = 64 := by omega
      have F := Lib.hid (show S = maskOf l from hS.out)
      go_wp2_with fail
      go_ret
      exact ⟨by rw [← F.out]; rfl, rfl⟩

def hasTerm (t : DTerm) : Bool := decide (t.kind = 0 ∨ t.kind = 2 ∨ t.kind = 3)
def lackTerm (t : DTerm) : Bool := decide (t.kind = 1)
def withL (l : List DTerm) : List Int := (l.filter hasTerm).map (·.comp)
def lackL (l : List DTerm) : List Int := (l.filter lackTerm).map (·.comp)
theorem withL_yes {l : List DTerm} {k : Nat} (hk : k < l.length) (h : hasTerm l[k] = true) : withL (l.take (k + 1)) = withL (l.take k) ++ [l[k].comp] := by
  unfold withL; rw [List.take_succ_eq_append_getElem hk, List.filter_append, List.map_append]; simp [h]
theorem withL_no {l : List DTerm} {k : Nat} (hk : k < l.length) (h : hasTerm l[k] = false) : withL (l.take (k + 1)) = withL (l.take k) := by
  unfold withL; rw [List.take_succ_eq_append_getElem hk, List.filter_append, List.map_append]; simp [h]
theorem lackL_yes {l : List DTerm} {k : Nat} (hk : k < l.length) (h : lackTerm l[k] = true) : lackL (l.take (k + 1)) = lackL (l.take k) ++ [l[k].comp] := by
  unfold lackL; rw [List.take_succ_eq_append_getElem hk, List.filter_append, List.map_append]; simp [h]
theorem lackL_no {l : List DTerm} {k : Nat} (hk : k < l.length) (h : lackTerm l[k] = false) : lackL (l.take (k + 1)) = lackL (l.take k) := by
  unfold lackL; rw [List.take_succ_eq_append_getElem hk, List.filter_append, List.map_append]; simp [h]
theorem withL_len (l : List DTerm) : (withL l).length ≤ l.length := by unfold withL; rw [List.length_map]; exact List.length_filter_le _ _
theorem lackL_len (l : List DTerm) : (lackL l).length ≤ l.length := by unfold lackL; rw [List.length_map]; exact List.length_filter_le _ _

end Go.Proofs.Ytfpmkenobphfnaa
/- Walks: finding an entity by its name; whether it is watched. -/
namespace Go.Proofs.Ytfpmkenobphfnaa
open Go.RowKit

set_option maxRecDepth 100000 in
/-- watch.find's predicate -/
theorem find1_calls {w : World} {e : DEnt} {A : Option Addr} {c : Nat} {B : Nat} {id : DID} (h0 : w.cell? ⟨B, 0, none⟩ = some (.int .i64 id.index)) (h1 : w.cell? ⟨B, 1, none⟩ = some (.int .i64 id.gen)) (hB : B < w.heap.size) :
    Calls Try.prog 194 #[.agg #[.int .i64 e.id.index, .int .i64 e.id.gen, .slice A e.parts.length c], .pointer (some ⟨B, 0, none⟩)] w fun en w' => en = .returned (.bool (decide (e.id = id))) ∧ Below w.heap.size w w' := by
  obtain ⟨W1, hW1⟩ : ∃ W1, w.alloc (.cells #[.int .i64 e.id.index, .int .i64 e.id.gen, .slice A e.parts.length c] 189) = W1 := ⟨_, rfl⟩
  have hb : Below w.heap.size w W1 := by rw [← hW1]; exact (Below.refl _ _).alloc (Nat.le_refl _) _
  have hn : W1.heap[w.heap.size]? = some (.cells #[.int .i64 e.id.index, .int .i64 e.id.gen, .slice A e.parts.length c] 189 (0, 0)) := by rw [← hW1]; exact heap_alloc_new _ _
  have e0 := cell_row hn 0
  have e1 := cell_row hn 1
  have e2 := cell_row hn 2
  have g0 := (hb.cell (p := ⟨B, 0, none⟩) hB).trans h0
  have g1 := (hb.cell (p := ⟨B, 1, none⟩) hB).trans h1
  have HB := Lib.hid hb
  clear hb hn h0 h1
  go_enter Try.func194, Try.ntmps194
  go_wp2_with fail
  try rw [hW1]
  clear hW1
  try go_wp2_with fail
  all_goals
    go_ret
    refine ⟨?_, HB.out⟩
    first
      | (have hk : e.id = id := DID.ext (by omega) (by omega)
         rw [decide_eq_true hk]; rfl)
      | (have hk : ¬ e.id = id := fun h => by (rw [DID.ext_iff] at h; omega)
         rw [decide_eq_false hk]; rfl)

/-- The first place of a name; -1: there is none. -/
def placeI (l : List DEnt) (id : DID) : Int := match l.findIdx? (fun e => decide (e.id = id)) with
  | none => -1
  | some i => (i : Int)
theorem placeI_none {l : List DEnt} {id : DID} (h : ∀ e ∈ l, e.id ≠ id) : placeI l id = -1 := by
  unfold placeI
  rw [List.findIdx?_eq_none_iff.2 (fun e he => by simpa using h e he)]
theorem placeI_some {l : List DEnt} {id : DID} {k : Nat} {e : DEnt} (he : l[k]? = some e) (hid : e.id = id) (h : ∀ e ∈ l.take k, e.id ≠ id) : placeI l id = k := by
  obtain ⟨hk, rfl⟩ := List.getElem?_eq_some_iff.1 he
  unfold placeI
  rw [List.findIdx?_eq_some_iff_getElem.2 ⟨hk, by simpa using hid, fun j hj => by
    have := h l[j] (List.mem_take_iff_getElem.2 ⟨j, by omega, rfl⟩)
    simpa using this⟩]
theorem ne_take_succ {l : List DEnt} {id : DID} {k : Nat} {e : DEnt} (he : l[k]? = some e) (hid : ¬ e.id = id) (h : ∀ e ∈ l.take k, e.id ≠ id) : ∀ e ∈ l.take (k + 1), e.id ≠ id := by
  obtain ⟨hk, rfl⟩ := List.getElem?_eq_some_iff.1 he
  intro x hx
  rw [List.take_succ_eq_append_getElem hk, List.mem_append, List.mem_singleton] at hx
  rcases hx with hx | rfl
  · exact h x hx
  · exact hid

set_option maxRecDepth 100000 in
set_option maxHeartbeats 1000000 in
/-- slices.IndexFunc, as0 watch.find uses it -/
theorem entIndex_calls {Q : Nat → Prop} {w : World} {A : Option Addr} {c : Nat} {l : List DEnt} {B : Nat} {id : DID} (hA : rEnt.At Q w A l) (hc : l.length ≤ maxLen) (h0 : w.cell? ⟨B, 0, none⟩ = some (.int .i64 id.index)) (h1 : w.cell? ⟨B, 1, none⟩ = some (.int .i64 id.gen)) (hB : B < w.heap.size) :
    Calls Try.prog 193 #[.slice A l.length c, .func (.func 194) #[] #[.pointer (some ⟨B, 0, none⟩)]] w fun en w' => en = .returned (.int .i64 (placeI l id)) ∧ Below w.heap.size w w' := by
  unfold maxLen at hc
  have HA := Lib.hid hA
  have H0 := Lib.hid h0
  have H1 := Lib.hid h1
  have HBB := Lib.hid hB
  clear hA h0 h1 hB
  go_enter Try.func193, Try.ntmps193
  go_wp2_with fail
  go_loopw [8] (fun i wr => ∃ k : Nat, i = .int .i64 k ∧ k ≤ l.length ∧ Hid (∀ e ∈ l.take k, e.id ≠ id) ∧ Hid (Below w.heap.size w wr)) (fun i _ => l.length - (intOf i).toNat)
  case atStart => exact ⟨0, rfl, Nat.zero_le _, Lib.hid (by simp), Lib.hid (Below.refl _ _)⟩
  case round =>
    obtain ⟨k, rfl, hk, HN, HBW⟩ := hrel
    by_cases hlt : (k : Int) < l.length
    · obtain ⟨e, he⟩ : ∃ e, l[k]? = some e := ⟨_, List.getElem?_eq_getElem (by omega)⟩
      obtain ⟨b, off, Ap, cp, rfl, hbc, e0, e1, e2, f0, f1, hs⟩ := rEnt_at (HA.out.below HBW.out (fun _ _ h => h.lt)) he
      have HE := Lib.hid he
      clear hs he hbc f0 f1
      go_wp2_with fail
      refine (find1_calls (e := e) ((HBW.out.cell (p := ⟨B, 0, none⟩) HBB.out).trans H0.out) ((HBW.out.cell (p := ⟨B, 1, none⟩) HBB.out).trans H1.out) (Nat.lt_of_lt_of_le HBB.out HBW.out.size)).mono ?_
      rintro en w2 ⟨rfl, hb2⟩
      have HB2 := Lib.hid (HBW.out.trans (hb2.mono HBW.out.size))
      clear hb2 e0 e1 e2
      by_cases hid : e.id = id
      · have HF := Lib.hid (placeI_some HE.out hid HN.out)
        rw [decide_eq_true hid]
        clear hid
        go_wp2_with fail
        go_ret
        exact ⟨by rw [HF.out]; rfl, HB2.out⟩
      · have HF := Lib.hid (ne_take_succ HE.out hid HN.out)
        rw [decide_eq_false hid]
        clear hid
        go_wp2_with fail
        exact ⟨⟨k + 1, by go_num, by omega, HF, HB2⟩, by simp [intOf]; omega⟩
    · obtain rfl : k = l.length := by omega
      rw [List.take_length] at HN
      have HF := Lib.hid (placeI_none HN.out)
      go_wp2_with fail
      go_ret
      exact ⟨by rw [HF.out]; rfl, HBW.out⟩

theorem andNot_zero {a b : Nat} (ha : a < 2 ^ 64) (hb : b < 2 ^ 64) : a &&& (2 ^ 64 - (b + 1)) = 0 ↔ a &&& b = a := by
  have hbit : ∀ i, (a &&& (2 ^ 64 - (b + 1))).testBit i = (a.testBit i && (decide (i < 64) && !b.testBit i)) := fun i => by rw [Nat.testBit_and, Nat.testBit_two_pow_sub_succ hb]
  have hlow : ∀ i, a.testBit i = true → i < 64 := fun i h => by
    rcases Nat.lt_or_ge i 64 with h1 | h1
    · exact h1
    · rw [Nat.testBit_lt_two_pow (Nat.lt_of_lt_of_le ha (Nat.pow_le_pow_right (by decide) h1))] at h; cases h
  constructor
  · intro h
    apply Nat.eq_of_testBit_eq
    intro i
    rw [Nat.testBit_and]
    cases hi : a.testBit i with
    | false => rfl
    | true =>
      have h1 := hbit i
      rw [h, Nat.zero_testBit, hi, decide_eq_true (hlow i hi)] at h1
      cases hb2 : b.testBit i with
      | true => rfl
      | false => rw [hb2] at h1; cases h1
  · intro h
    apply Nat.eq_of_testBit_eq
    intro i
    rw [hbit, Nat.zero_testBit]
    have h1 := congrArg (fun n => Nat.testBit n i) h
    simp only [Nat.testBit_and] at h1
    cases hi : a.testBit i with
    | false => rfl
    | true =>
      rw [hi, Bool.true_and] at h1
      rw [h1]; simp
theorem bits_andNot {a b : Nat} (ha : a < 18446744073709551616) (hb : b < 18446744073709551616) : (bits BinOp.andNot IntKind.u64 (a : Int) (b : Int) == 0) = decide (a &&& b = a) := by
  have e : ((BitVec.ofInt 64 (a : Int) &&& ~~~BitVec.ofInt 64 (b : Int) : BitVec 64).toNat) = a &&& (2 ^ 64 - (b + 1)) := by
    rw [BitVec.toNat_and, BitVec.toNat_not, BitVec.toNat_ofInt, BitVec.toNat_ofInt]
    congr 1 <;> omega
  have h : a &&& (2 ^ 64 - (b + 1)) < 18446744073709551616 := Nat.lt_of_le_of_lt Nat.and_le_left ha
  have h2 : bits BinOp.andNot IntKind.u64 (a : Int) (b : Int) = ((a &&& (2 ^ 64 - (b + 1)) : Nat) : Int) := by
    unfold bits
    have := congrArg (fun n : Nat => IntKind.u64.wrap (n : Int)) e
    exact this.trans (IntWalk.u64_in _ ⟨by omega, by omega⟩)
  rw [h2, Bool.beq_eq_decide_eq, decide_eq_decide, ← andNot_zero (a := a) (b := b) ha hb]
  omega

/-- bits.Within -/
theorem bwithin_calls {a b : Nat} (ha : a < 18446744073709551616) (hb : b < 18446744073709551616) (w : World) : Calls Try.prog 196 #[.int .u64 (a : Int), .int .u64 (b : Int)] w fun e w' => e = .returned (.bool (decide (a &&& b = a))) ∧ w' = w := by
  have HA := Lib.hid (bits_andNot ha hb)
  go_enter Try.func196, Try.ntmps196
  go_wp2_with fail
  go_ret
  exact ⟨by rw [← HA.out]; rfl, rfl⟩

/-- bits.Apart -/
theorem bapart_calls {a b : Nat} (ha : a < 18446744073709551616) (hb : b < 18446744073709551616) (w : World) : Calls Try.prog 197 #[.int .u64 (a : Int), .int .u64 (b : Int)] w fun e w' => e = .returned (.bool (decide (a &&& b = 0))) ∧ w' = w := by
  have HA := Lib.hid (bits_and_u64 ha hb)
  go_enter Try.func197, Try.ntmps197
  go_wp2_with fail
  rw [HA.out]
  go_ret
  refine ⟨?_, rfl⟩
  have : (((a &&& b : Nat) : Int) == 0) = decide (a &&& b = 0) := by rw [Bool.beq_eq_decide_eq, decide_eq_decide]; omega
  rw [← this]
  rfl
end Go.Proofs.Ytfpmkenobphfnaa
