/- Texts on which the proofs stand: SortInts. No condition is laid on any input. -/
import Derived.Test.YtghbfbohnoebiaaGreatSnG2
import Derived.Test.YtghbfbohnoebiaaGreatShelf
import Derived.Sort.OwnSortedInts
namespace Go.Proofs.YtghbfbohnoebiaaGreat
open Go.RowKit

theorem int_row {Q : Nat → Prop} {w : World} : ∀ {xs : List Int} {cs : List Value}, (Rep.int .i64).row Q w cs xs ↔ cs = xs.map (Value.int .i64) ∧ ∀ x ∈ xs, (Lit.int .i64 x).wf = true
  | [], cs => ⟨fun h => ⟨h, fun x hx => by cases hx⟩, fun h => h.1⟩
  | x :: xs, cs => by
    constructor
    · rintro ⟨es, rest, rfl, ⟨rfl, hw⟩, h⟩
      obtain ⟨rfl, hr⟩ := int_row.1 h
      exact ⟨rfl, fun y hy => (List.mem_cons.1 hy).elim (fun e => e ▸ hw) (hr y)⟩
    · rintro ⟨rfl, h⟩
      exact ⟨[_], _, rfl, ⟨rfl, h x (by simp)⟩, int_row.2 ⟨rfl, fun y hy => h y (by simp [hy])⟩⟩

theorem sortInts_calls {base : Nat} {Q : Nat → Prop} {w : World} {v : Value} {ks : List Int} (h : (Rep.int .i64).acc 3 base Q w v ks) (hl : ks.length ≤ 1000000000000) :
    Calls Tryz.prog 61 #[v] w fun e w' => e = .returned (.tuple #[]) ∧ (Rep.int .i64).acc 3 base Q w' v (ks.mergeSort fun x y => decide (x ≤ y)) ∧ w.grownBy w' v.ownBlock := by
  obtain ⟨cells, h1, h2⟩ := h
  obtain ⟨rfl, hwf⟩ := int_row.1 h2
  rcases h1.2 with ⟨rfl, h0⟩ | ⟨g, cap, cur, rfl, hb, hg, g1, g2, g3, g4⟩
  · have : ks = [] := List.eq_nil_of_length_eq_zero (by omega)
    subst this
    refine (Tryz.slices_Sort_int_none none 0 w).mono ?_
    rintro e w' ⟨rfl, rfl⟩
    exact ⟨rfl, by rw [List.mergeSort_nil]; exact Rep.acc_nil, ⟨rfl, rfl, rfl, Nat.le_refl _, fun _ _ _ => rfl⟩⟩
  · refine (Tryz.slices_Sort_int g 0 cap ks w (holds_of_blockI hg (by simpa [Rep.int] using g4)) (Array.getElem?_eq_some_iff.1 hg).1 (by omega)).mono ?_
    rintro e w' ⟨rfl, n, os, rfl⟩
    refine ⟨rfl, ⟨(ks.mergeSort fun x y => decide (x ≤ y)).map (Value.int .i64), ?_, int_row.2 ⟨rfl, fun x hx => hwf x (List.mem_mergeSort.1 hx)⟩⟩, grownBy_sortedI _⟩
    rw [List.length_mergeSort]
    exact ownsRow_sortedI (ts := ks.mergeSort fun x y => decide (x ≤ y)) (List.length_mergeSort ..) hb hg g1 g2 g3
end Go.Proofs.YtghbfbohnoebiaaGreat
