/- Texts on which the proofs stand: DiskSync, SortInts, Dirty, DiskCrash, DiskBytes. No condition is laid on any input. -/
import Derived.Test.YtfpmkenobphfnaaPstCore
import Derived.Test.YtfpmkenobphfnaaPstG15
import Derived.Test.YtfpmkenobphfnaaPstG16
import Derived.Test.YtfpmkenobphfnaaShelf
import Derived.Sort.OwnSortedInts
/- Walk of a sync. -/
namespace Go.Proofs.Ytfpmkenobphfnaa
open Go.RowKit

theorem Only.drew {F : Nat → Prop} {X Y : World} (h : Only F X Y) : Only F X Y.drew := ⟨h.os, h.tape, h.output, h.size, h.block⟩
/-- The sectors where those that are not left are written. -/
def syncTo (s : DiskSt) (left : Lit → Bool) : List (List UInt8) := (List.range s.safe.length).map fun i => if left (.int .i64 (i : Nat)) then s.safe.getD i [] else lastSt s (i : Nat)
def syncSt (s : DiskSt) : DiskSt := { s with safe := (List.range s.safe.length).map fun i => lastSt s (i : Nat), wait := fun _ => [] }
def syncRes (st : DiskSt) : DiskSt × Int := if (burnSt st).2 = 0 then (syncSt (burnSt st).1, 0) else burnSt st
theorem syncTo_length (s : DiskSt) (left : Lit → Bool) : (syncTo s left).length = s.safe.length := by unfold syncTo; rw [List.length_map, List.length_range]
theorem syncTo_all (s : DiskSt) {left : Lit → Bool} (h : ∀ i : Nat, left (.int .i64 (i : Int)) = false → s.wait i = []) : syncTo s left = s.safe := by
  unfold syncTo
  apply List.ext_getElem
  · simp
  · intro i h1 h2
    rw [List.getElem_map, List.getElem_range]
    split
    · rw [List.getD_eq_getElem?_getD, List.getElem?_eq_getElem h2]; rfl
    · rename_i hl
      unfold lastSt
      rw [h i (by simpa using hl), List.getD_eq_getElem?_getD, Int.toNat_natCast, List.getElem?_eq_getElem h2]; rfl
theorem syncTo_none (s : DiskSt) {left : Lit → Bool} (h : ∀ z, left z = false) : syncTo s left = (syncSt s).safe := by
  unfold syncTo syncSt
  dsimp only
  apply List.map_congr_left
  intro i _
  rw [h]; rfl
theorem sameKey_int (i j : Int) : (Lit.int .i64 i).sameKey (.int .i64 j) = decide (i = j) := by
  by_cases h : i = j
  · subst h; rw [decide_eq_true rfl]; exact WideAt.sameKey_self (key_lit i)
  · rw [decide_eq_false h]
    cases hs : (Lit.int .i64 i).sameKey (.int .i64 j) with
    | false => rfl
    | true => exact absurd (by have := WideAt.sameKey_eq hs; cases this; rfl) h
theorem syncTo_step (s : DiskSt) (left : Lit → Bool) {k : Nat} : syncTo s (fun z => left z && !z.sameKey (.int .i64 (k : Int))) = (syncTo s left).set k (lastSt s k) := by
  unfold syncTo
  apply List.ext_getElem
  · simp
  · intro i h1 h2
    rw [List.getElem_set]
    simp only [List.getElem_map, List.getElem_range, sameKey_int]
    by_cases hk : k = i
    · subst hk; simp
    · have : ¬ (i : Int) = (k : Int) := by omega
      rw [if_neg hk]; simp [this]

end Go.Proofs.Ytfpmkenobphfnaa
/- The library's slices.Sort of a slice of the call's own. -/
namespace Go.Proofs.Ytfpmkenobphfnaa
open Go.RowKit

theorem int_row {Q : Nat → Prop} {w : World} : ∀ {xs : List Int} {cs : List Value}, (Rep.int .i64).row Q w cs xs ↔ cs = xs.map (Value.int .i64) ∧ ∀ x ∈ xs, (Lit.int .i64 x).wf = true
  | [], cs => ⟨fun h => ⟨h, fun x hx => by cases hx⟩, fun h => h.1⟩
  | x :: xs, cs => by
    constructor
    · rintro ⟨es, rest, rfl, ⟨rfl, hw⟩, h⟩
      obtain ⟨rfl, hr⟩ := int_row.1 h
      exact ⟨rfl, fun y hy => (List.mem_cons.1 hy).elim (fun e => e ▸ hw) (hr y)⟩
    · rintro ⟨rfl, h⟩
      exact ⟨[_], _, rfl, ⟨rfl, h x (by simp)⟩, int_row.2 ⟨rfl, fun y hy => h y (by simp [hy])⟩⟩

theorem sortInts_calls {base : Nat} {Q : Nat → Prop} {w : World} {v : Value} {ks : List Int} (h : (Rep.int .i64).acc 3 base Q w v ks) (hl : ks.length ≤ 1000000000000) :
    Calls Try.prog 96 #[v] w fun e w' => e = .returned (.tuple #[]) ∧ (Rep.int .i64).acc 3 base Q w' v (ks.mergeSort fun x y => decide (x ≤ y)) ∧ w.grownBy w' v.ownBlock := by
  obtain ⟨cells, h1, h2⟩ := h
  obtain ⟨rfl, hwf⟩ := int_row.1 h2
  rcases h1.2 with ⟨rfl, h0⟩ | ⟨g, cap, cur, rfl, hb, hg, g1, g2, g3, g4⟩
  · have : ks = [] := List.eq_nil_of_length_eq_zero (by omega)
    subst this
    refine (Try.slices_Sort_int_none none 0 w).mono ?_
    rintro e w' ⟨rfl, rfl⟩
    exact ⟨rfl, by rw [List.mergeSort_nil]; exact Rep.acc_nil, ⟨rfl, rfl, rfl, Nat.le_refl _, fun _ _ _ => rfl⟩⟩
  · refine (Try.slices_Sort_int g 0 cap ks w (holds_of_blockI hg (by simpa [Rep.int] using g4)) (Array.getElem?_eq_some_iff.1 hg).1 (by omega)).mono ?_
    rintro e w' ⟨rfl, n, os, rfl⟩
    refine ⟨rfl, ⟨(ks.mergeSort fun x y => decide (x ≤ y)).map (Value.int .i64), ?_, int_row.2 ⟨rfl, fun x hx => hwf x (List.mem_mergeSort.1 hx)⟩⟩, grownBy_sortedI _⟩
    rw [List.length_mergeSort]
    exact ownsRow_sortedI (ts := ks.mergeSort fun x y => decide (x ≤ y)) (List.length_mergeSort ..) hb hg g1 g2 g3
end Go.Proofs.Ytfpmkenobphfnaa
/- Walk of the list of sectors that have waiting writes. -/
namespace Go.Proofs.Ytfpmkenobphfnaa
open Go.RowKit

def dirtyOf (s : DiskSt) : List Int := ((List.range s.safe.length).filter fun i => !(s.wait (i : Nat)).isEmpty).map fun i : Nat => (i : Int)
theorem dirty_mem {s : DiskSt} {z : Int} (hk : ∀ i, s.wait i ≠ [] → 0 ≤ i ∧ i < s.safe.length) : z ∈ dirtyOf s ↔ s.wait z ≠ [] := by
  unfold dirtyOf
  rw [List.mem_map]
  constructor
  · rintro ⟨i, hi, rfl⟩
    have := (List.mem_filter.1 hi).2
    intro e; rw [e] at this; cases this
  · intro hz
    obtain ⟨h0, h1⟩ := hk z hz
    refine ⟨z.toNat, List.mem_filter.2 ⟨List.mem_range.2 (by omega), ?_⟩, by omega⟩
    rw [show ((z.toNat : Nat) : Int) = z by omega]
    cases hw : s.wait z with
    | nil => exact absurd hw hz
    | cons _ _ => rfl
theorem dirty_sorted (s : DiskSt) : (dirtyOf s).Pairwise (· < ·) := by
  unfold dirtyOf
  rw [List.pairwise_map]
  exact (List.pairwise_lt_range.filter _).imp (fun h => Int.ofNat_lt.2 h)
theorem sorted_unique : ∀ {xs ys : List Int}, xs.Pairwise (· ≤ ·) → ys.Pairwise (· ≤ ·) → xs.Perm ys → xs = ys
  | [], ys, _, _, h => by rw [List.nil_perm.1 h]
  | x :: xs, [], _, _, h => by have := h.length_eq; simp at this
  | x :: xs, y :: ys, hx, hy, h => by
    obtain ⟨hx1, hx2⟩ := List.pairwise_cons.1 hx
    obtain ⟨hy1, hy2⟩ := List.pairwise_cons.1 hy
    have e : x = y := by
      have m1 : x ∈ y :: ys := h.mem_iff.1 (by simp)
      have m2 : y ∈ x :: xs := h.mem_iff.2 (by simp)
      rcases List.mem_cons.1 m1 with r | m1
      · exact r
      · rcases List.mem_cons.1 m2 with r | m2
        · exact r.symm
        · have := hx1 y m2; have := hy1 x m1; omega
    subst e
    rw [sorted_unique hx2 hy2 ((List.perm_cons x).1 h)]
theorem sort_dirty {s : DiskSt} {ks : List Int} (hn : ks.Nodup) (hm : ∀ z, z ∈ ks ↔ z ∈ dirtyOf s) : ks.mergeSort (fun x y => decide (x ≤ y)) = dirtyOf s := by
  have h1 : (ks.mergeSort (fun x y => decide (x ≤ y))).Pairwise (fun x y => decide (x ≤ y) = true) := List.pairwise_mergeSort (by simp; omega) (by simp; omega) ks
  refine sorted_unique (h1.imp (fun h => by simpa using h)) ((dirty_sorted s).imp (fun h => by omega)) ((List.mergeSort_perm ks _).trans ?_)
  exact (List.perm_ext_iff_of_nodup hn ((dirty_sorted s).imp (fun h => by omega))).2 hm

set_option maxRecDepth 100000 in
set_option maxHeartbeats 4000000 in
/-- (*disk.Disk).Dirty -/
theorem ddirty_calls {W : World} {P : Nat} {F B : Nat → Prop} {n : Nat} {st : DiskSt} (h : DiskAt W P F B n st) (hn : n ≤ 1000000000) :
    Calls Try.prog 23 #[.pointer (some ⟨P, 0, none⟩)] W (ResA (Rep.int .i64) 3 W (dirtyOf st)) := by
  obtain ⟨Sf, cs, M, D, hd⟩ := h
  have HD := Lib.hid hd
  have e1 := cell_row hd.blk 1
  have HSZ := Lib.hid (Nat.le_trans hd.map.size_le hn)
  clear hd hn
  go_enter Try.func23, Try.ntmps23
  go_wp2_with (at_range; refine wpList_range_own _ rfl _ 129 rfl 3 30 int_law Try.underlying129 heldElem M n D (by exact rfl) HD.out.map ?_; intro w2 hrg2 hg2 hs2)
  go_frame
  generalize hr : W.heap.size = r at *
  have HR := Lib.hid hr
  have HB2 := Lib.hid (show Below r W w2 from ⟨hg2.os, hg2.tape, hg2.output, hg2.size, fun b hb => hg2.block b (by omega) (by simp)⟩)
  have HLT := Lib.hid (show M < r by have := HD.out.lt M (.inl HD.out.fM); omega)
  have HS2 := Lib.hid (show w2.heap.size = r + 1 by omega)
  clear hr e1 hg2 hs2
  go_loopw [3] (fun u wr => ∃ left cnt ks, wr.ranges Try.prog 3 heldElem M r n D left cnt ∧ (Rep.int .i64).acc 3 (r + 1) (fun _ => False) wr u ks ∧ Below r W wr ∧ r + 1 ≤ wr.heap.size ∧ Hid (ks.length + cnt ≤ Go.Maps.size D) ∧ Hid (ks.Nodup) ∧ Hid (∀ z : Int, z ∈ ks ↔ (Go.Maps.has D (.int .i64 z) = true ∧ left (.int .i64 z) = false))) (fun _ wr => wr.rangeLeft M r)
  case atStart => exact ⟨Go.Maps.has D, _, [], hrg2, Rep.acc_nil, HB2.out, Nat.le_of_eq HS2.out.symm, by unfold Hid; simp, List.nodup_nil, fun z => by simp⟩
  case round =>
    obtain ⟨left, cnt, ks, hrg, hacc, hbel, hsz, hlen, hnd, hmem⟩ := hrel
    have HRG := Lib.hid hrg
    have HACC := Lib.hid hacc
    have HBEL := Lib.hid hbel
    have HSW := Lib.hid hsz
    obtain ⟨A3, c3, rfl, _, _⟩ := Rep.acc_form hacc
    clear hrg hacc hbel hsz
    go_wp2_with (at_next; refine wpList_next_ranges _ rfl _ rfl 3 int_law heldElem (Value.int .i64) (fun v : Value => v) (fun key kl hkey => by obtain ⟨x, rfl, _⟩ := Go.Maps.keyOf_int_inv Try.underlying3 hkey; exact ⟨x, rfl⟩) (fun v y hv => ⟨v, rfl⟩) M r n D left cnt (by exact rfl) HRG.out ?_ ?_)
    · intro hc0 hl0
      have HKS := Lib.hid (show ks.mergeSort (fun x y => decide (x ≤ y)) = dirtyOf st from sort_dirty hnd.out (fun z => by rw [hmem.out, dirty_mem HD.out.keys]; exact ⟨fun h => HD.out.has z h.1, fun h => ⟨HD.out.of_wait h, hl0 _⟩⟩))
      clear hc0 hl0
      go_wp2_with fail
      refine (sortInts_calls HACC.out (by have := hlen.out; have := HSZ.out; omega)).mono ?_
      rintro e w4 ⟨rfl, hacc4, hg4⟩
      rw [HKS.out] at hacc4
      have HA4 := Lib.hid hacc4
      have HB4 := Lib.hid (HBEL.out.grown hg4 (by have := HSW.out; omega) (fun k hk => by have := (Rep.acc_own HACC.out k hk).1; omega))
      clear hacc4 hg4
      go_wp2_with fail
      go_ret
      exact ⟨_, rfl, by rw [HR.out]; exact Rep.acc_base (Nat.le_succ r) HA4.out, by rw [HR.out]; exact HB4.out⟩
    · intro x c kl ya yb w3 cnt3 hkey hlk hv hat hrg3 hlt3 hg3 hs3 hen
      obtain ⟨x', ex, rfl, hwx⟩ := Go.Maps.keyOf_int_inv Try.underlying3 hkey
      cases ex
      obtain ⟨rfl, rfl⟩ : ya = .held c ∧ yb = [] := by unfold heldElem at hv; have := Option.some.inj hv; exact ⟨(congrArg Prod.fst this).symm, (congrArg Prod.snd this).symm⟩
      have HHX := Lib.hid (show Go.Maps.has D (.int .i64 x) = true from Go.Maps.has_true_of_atKey hat)
      have hown := Rep.acc_own HACC.out
      have HA3 := Lib.hid (Rep.acc_keep (w' := w3) (fun b hb hl => hg3.block b hl.lt (fun e => by rcases hb with hb | hb; exact hb.elim; have := (hown b hb).1; have := Option.some.inj e; omega)) (fun _ h _ => h) HACC.out)
      have HB3 := Lib.hid (HBEL.out.grown hg3 (by have := HSW.out; omega) (fun k hk => by have := Option.some.inj hk; omega))
      have L := Lib.hid (show ks.length + 1 ≤ maxLen ∧ (ks.length + 1) * 8 ≤ 140737488355328 by have := hlen.out; have := HSZ.out; unfold maxLen; omega)
      have HX := Lib.hid hwx
      have HS3 := Lib.hid (show r + 1 ≤ w3.heap.size by have := HSW.out; omega)
      have HLK := Lib.hid hlk
      have HRG3 := Lib.hid hrg3
      have HLT3 := Lib.hid hlt3
      clear hkey hlk hv hat hrg3 hlt3 hg3 hs3 hown hwx
      go_wp2_with (refine wpList_snoc (e := 3) (base := r + 1) (Q := fun _ => False) (r := Rep.int .i64) rfl rfl _ _ 54 _ rfl rfl rfl (.int .i64 0) 1 8 Try.underlying54 info3 rfl (by decide) rfl _ ks HA3.out x _ (by exact rfl) ⟨_, rfl, rfl, HX.out⟩ (by exact rfl) (by exact rfl) L.out.1 L.out.2 HS3.out ?_; intro v5 w5 hacc5 hgr5 hat5)
      have hown3 := Rep.acc_own HA3.out
      have hrg5 := HRG3.out.kept hgr5 (fun e => by have := (hown3 M e.symm).1; have := HLT.out; omega) (fun e => by have := (hown3 r e.symm).1; omega)
      refine ⟨⟨_, cnt3, ks ++ [x], hrg5, hacc5, HB3.out.grown hgr5 (by have := HS3.out; omega) (fun k hk => by have := (hown3 k hk).1; omega), Nat.le_trans HS3.out hgr5.size, ?_, ?_, ?_⟩, ?_⟩
      · show (ks ++ [x]).length + cnt3 ≤ Go.Maps.size D
        have := hlen.out; have := HLT3.out; rw [List.length_append]; simp; omega
      · refine List.nodup_append.2 ⟨hnd.out, by simp, fun a ha b hb => ?_⟩
        have hb' := List.mem_singleton.1 hb
        subst hb'
        rintro rfl
        have h1 := ((hmem.out a).1 ha).2
        rw [HLK.out] at h1; cases h1
      · intro z
        rw [List.mem_append, hmem.out z, List.mem_singleton, sameKey_int]
        constructor
        · rintro (⟨h1, h2⟩ | rfl)
          · exact ⟨h1, by rw [h2]; rfl⟩
          · exact ⟨HHX.out, by simp⟩
        · rintro ⟨h1, h2⟩
          by_cases hz : z = x
          · exact .inr hz
          · exact .inl ⟨h1, by simpa [hz] using h2⟩
      · rw [hrg5.left_eq, HRG.out.left_eq]
        exact HLT3.out
end Go.Proofs.Ytfpmkenobphfnaa
/- Walk of a failure of the power. -/
namespace Go.Proofs.Ytfpmkenobphfnaa
open Go.RowKit

/-- The sectors behind the first k that had waiting writes. -/
def crashTo (s : DiskSt) (fates : List DFate) : Nat → List (List UInt8)
  | 0 => s.safe
  | k + 1 => (crashTo s fates k).set ((dirtyOf s).getD k 0).toNat (settleOf ((crashTo s fates k).getD ((dirtyOf s).getD k 0).toNat []) (s.wait ((dirtyOf s).getD k 0)) (fates.getD k ⟨0, 0⟩))
def crashSt (s : DiskSt) (fates : List DFate) : DiskSt := ⟨crashTo s fates (dirtyOf s).length, fun _ => [], -1, false, s.reads, s.writes⟩
theorem crashTo_length (s : DiskSt) (fates : List DFate) : ∀ k, (crashTo s fates k).length = s.safe.length
  | 0 => rfl
  | k + 1 => by unfold crashTo; rw [List.length_set]; exact crashTo_length s fates k
theorem dirty_bounds {s : DiskSt} {z : Int} (hz : z ∈ dirtyOf s) : 0 ≤ z ∧ z < s.safe.length := by
  unfold dirtyOf at hz
  obtain ⟨i, hi, rfl⟩ := List.mem_map.1 hz
  have := List.mem_range.1 (List.mem_filter.1 hi).1
  omega
def CrashPost (F B : Nat → Prop) (P n : Nat) (W : World) (st : DiskSt) (e : Ending) (W' : World) : Prop :=
  e = .returned (.tuple #[]) ∧ Only F W W' ∧ ∃ B' : Nat → Prop, DiskAt W' P F B' n st ∧ (∀ b, B' b → B b ∨ W.heap.size ≤ b)

end Go.Proofs.Ytfpmkenobphfnaa
/- Walks of the library's slices.Grow of nil and slices.Concat at bytes, and of a device's bytes. -/
namespace Go.Proofs.Ytfpmkenobphfnaa
open Go.RowKit

/-- 'append([]T(nil), make([]T, n)...)'. -/
theorem run_append_zeros {P : Program} (w : World) (t u ty e : TypeId) (i : TypeInfo) (z : Value) (ht : P.underlying t = some (.slice e)) (hu : P.underlying u = some (.int .i64)) (hi : P.info? e = some i) (hz : i.zero = some z) (hz1 : i.size = 1)
    (n : Nat) (h0 : 0 < n) (h63 : (n : Int) ≤ 9223372036854775807) (h48 : n * i.bytes ≤ 281474976710656) :
    (Builtin.append_ #[t, u] ty #[.slice none 0 0, .int .i64 (n : Int)]).run P w =
      .ok (.slice (some ⟨w.heap.size, 0, none⟩) n (grownCap w n 0 e)) (w.drew.alloc (.cells (Builtin.zeroCells z.cells n ++ Builtin.zeroCells z.cells (grownCap w n 0 e - n)) e)) := by
  have hn : n ≠ 0 := by omega
  have h63' : ¬ (9223372036854775807 < (n : Int)) := by omega
  have hw : IntKind.i64.wrap (n : Int) = n := IntWalk.i64_in _ ⟨by omega, by omega⟩
  have hb : ¬ (281474976710656 < (n : Int) * (i.bytes : Int)) := by
    have : ((n * i.bytes : Nat) : Int) ≤ 281474976710656 := Int.ofNat_le.2 h48
    rw [Int.natCast_mul] at this; omega
  have h48' : ¬ (281474976710656 < Builtin.nextslicecap n 0 * i.bytes) := by rw [nextslicecap_zero h0]; omega
  have hneg : ¬ (n : Int) < 0 := by omega
  simp [Builtin.append_, asInt, asIntOf, hneg, run_underlying ht, run_underlying hu, sizeOf, typeInfo, zeroValue, hi, hz, hz1, hn, hw, hb, h63', h48', Question.forced, run_firstCells_none, newRow, grownCap]

theorem wpList_run_append {P : Program} {w w' : World} {ops : Array Oper} {rest : List Oper} {o : Oper} {a : Act} {R : Exit → Act → World → Prop} (hg : o.guard = none) (s x : Operand) (t u : TypeId)
    (ho : o.op = .call { callee := .builtin .append, args := #[s, x], argTypes := #[t, u] }) (vs vx v' : Value) (hs : a.eval s = vs) (hx : a.eval x = vx)
    (hrun : (Builtin.append_ #[t, u] o.type #[vs, vx]).run P w = .ok v' w') (K : wpList P ops R rest (a.put o.dst v') w') : wpList P ops R (o :: rest) a w := by
  refine wpList_plain hg fun K2 hK2 => ?_
  unfold Oper.wp execOp
  simp only [ho, resolve, invoke, builtin, Sem.run_bind, Sem.run_pure, Result.andThen_ok, List.map_toArray, List.map_cons, List.map_nil, hs, hx, hrun]
  exact hK2 _ _ K
theorem grown_nil {w : World} {n : Nat} (h0 : 0 < n) (hn : n ≤ 100000000000000) :
    ∃ cap w', (Builtin.append_ #[36, 3] 36 #[.slice none 0 0, .int .i64 (n : Int)]).run Try.prog w = .ok (.slice (some ⟨w.heap.size, 0, none⟩) n cap) w' ∧ n ≤ cap ∧ cap ≤ maxLen ∧ Rep.byte.acc 5 w.heap.size (fun _ => False) w' (.slice (some ⟨w.heap.size, 0, none⟩) 0 cap) [] ∧ Below w.heap.size w w' := by
  obtain ⟨i, hi, hh⟩ := Option.map_eq_some_iff.1 info5
  simp only [Prod.mk.injEq] at hh
  obtain ⟨hz, hs, hby⟩ := hh
  have hr := run_append_zeros (P := Try.prog) w 36 3 36 5 i (.int .u8 0) Try.underlying36 Try.underlying3 hi hz hs n h0 (by omega) (by rw [hby]; omega)
  have hge := grownCap_ge w n 0 5
  have hcm : grownCap w n 0 5 ≤ maxLen := grownCap_le_maxLen w n 0 5 (by unfold maxLen; omega)
  refine ⟨_, _, hr, hge, hcm, ?_, (((Below.refl w.heap.size w).drew).alloc (Nat.le_refl _) _)⟩
  have := Rep.acc_made (r := Rep.byte) (e := 5) (base := w.heap.size) (Q := fun _ => False) w.drew (Builtin.zeroCells (Value.int .u8 0).cells n ++ Builtin.zeroCells (Value.int .u8 0).cells (grownCap w n 0 5 - n)) (grownCap w n 0 5) (Nat.le_refl _) hcm (by
    simp only [Array.size_append, size_zeroCells]
    show n * 1 + (grownCap w n 0 5 - n) * 1 = grownCap w n 0 5 * 1
    omega)
  exact this

def NilPost {α : Type} (r : Rep α) (e : Nat) (w : World) (en : Ending) (w' : World) : Prop := ∃ u, en = .returned u ∧ r.acc e w.heap.size (fun _ => False) w' u [] ∧ Below w.heap.size w w'
/-- How long the first k are together. -/
def flatLen (ls : List (List UInt8)) (k : Nat) : Nat := ((ls.take k).flatten).length
theorem flatten_take_le (ls : List (List UInt8)) (k : Nat) : ((ls.take k).flatten).length ≤ ls.flatten.length := by
  have h : ls.flatten = (ls.take k).flatten ++ (ls.drop k).flatten := by rw [← List.flatten_append, List.take_append_drop]
  rw [h, List.length_append]; omega
theorem flatten_take_succ {ls : List (List UInt8)} {k : Nat} {y : List UInt8} (h : ls[k]? = some y) : (ls.take (k + 1)).flatten = (ls.take k).flatten ++ y := by
  obtain ⟨hk, he⟩ := List.getElem?_eq_some_iff.1 h
  rw [List.take_succ_eq_append_getElem hk, List.flatten_append, he]; simp

end Go.Proofs.Ytfpmkenobphfnaa
