/- Texts on which the proofs stand: SortMath, Compact, RPutConf, Count, PCount, RCounts, Most. No condition is laid on any input. -/
import Derived.Test.YtfpmkenobphfnaaDpCore
import Derived.Test.YtfpmkenobphfnaaDpG11
import Derived.Test.YtfpmkenobphfnaaDpG4
import Derived.Test.YtfpmkenobphfnaaDpG8
import Derived.Lib.OwnBridge
import Derived.Lib.SlicesCompact
/- Sorted numbers: the plain law. No program is named here. -/
namespace Go.Proofs.Ytfpmkenobphfnaa

/-- No neighbours alike. -/
def adjNe : List Int → Bool
  | [] => true
  | [_] => true
  | x :: y :: l => decide (x ≠ y) && adjNe (y :: l)
def sortedOf (l : List Int) : List Int := l.mergeSort fun x y => decide (x ≤ y)
theorem sortedOf_perm (l : List Int) : (sortedOf l).Perm l := List.mergeSort_perm _ _
theorem sortedOf_sorted (l : List Int) : (sortedOf l).Pairwise (· ≤ ·) := by
  have := List.pairwise_mergeSort (le := fun x y : Int => decide (x ≤ y)) (fun a b c h1 h2 => by simp at *; omega) (fun a b => by simp; omega) l
  exact this.imp fun h => by simpa using h
theorem sortedOf_length (l : List Int) : (sortedOf l).length = l.length := List.length_mergeSort ..
theorem adjNe_strict : ∀ {s : List Int} (_ : s.Pairwise (· ≤ ·)), adjNe s = true ↔ s.Pairwise (· < ·)
  | [], _ => by simp [adjNe]
  | [_], _ => by simp [adjNe]
  | x :: y :: l, h => by
    obtain ⟨h1, h2⟩ := List.pairwise_cons.1 h
    have ih := adjNe_strict h2
    unfold adjNe
    rw [Bool.and_eq_true, decide_eq_true_eq, ih, List.pairwise_cons (a := x)]
    constructor
    · rintro ⟨hne, hs⟩
      refine ⟨fun z hz => ?_, hs⟩
      have hxy := h1 y (by simp)
      rcases List.mem_cons.1 hz with rfl | hz
      · omega
      · have := (List.pairwise_cons.1 hs).1 z hz
        omega
    · rintro ⟨h3, hs⟩
      exact ⟨by have := h3 y (by simp); omega, hs⟩
theorem strict_nodup : ∀ {s : List Int} (_ : s.Pairwise (· ≤ ·)), s.Pairwise (· < ·) ↔ s.Nodup
  | [], _ => by simp
  | x :: l, h => by
    obtain ⟨h1, h2⟩ := List.pairwise_cons.1 h
    rw [List.pairwise_cons, List.nodup_cons, strict_nodup h2]
    constructor
    · rintro ⟨h3, h4⟩
      exact ⟨fun hx => by have := h3 x hx; omega, h4⟩
    · rintro ⟨h3, h4⟩
      refine ⟨fun y hy => ?_, h4⟩
      have := h1 y hy
      have : x ≠ y := fun e => h3 (e ▸ hy)
      omega
theorem adjNe_sorted (l : List Int) : adjNe (sortedOf l) = decide l.Nodup := by
  rw [Bool.eq_iff_iff, adjNe_strict (sortedOf_sorted l), strict_nodup (sortedOf_sorted l), (sortedOf_perm l).nodup_iff]
  simp
theorem sorted_first : ∀ {s : List Int} (_ : s.Pairwise (· ≤ ·)) {x : Int} (_ : s[0]? = some x), ∀ y ∈ s, x ≤ y
  | [], _, _, h, _, _ => by cases h
  | z :: l, hp, x, h, y, hy => by
    have e : z = x := by simpa using h
    subst e
    rcases List.mem_cons.1 hy with rfl | hy
    · omega
    · exact (List.pairwise_cons.1 hp).1 y hy
theorem sorted_last {s : List Int} (hs : s.Pairwise (· ≤ ·)) {x : Int} (h : s[s.length - 1]? = some x) : ∀ y ∈ s, y ≤ x := by
  intro y hy
  obtain ⟨i, hi, rfl⟩ := List.getElem_of_mem hy
  obtain ⟨hl, rfl⟩ := List.getElem?_eq_some_iff.1 h
  rcases Nat.lt_or_ge i (s.length - 1) with e | e
  · exact List.pairwise_iff_getElem.1 hs i (s.length - 1) hi hl e
  · have : i = s.length - 1 := by omega
    subst this; omega
end Go.Proofs.Ytfpmkenobphfnaa
/- The library's slices.Compact of a slice of the call's own: how many stay. -/
namespace Go.Proofs.Ytfpmkenobphfnaa
open Go.RowKit

theorem adjNe_iff : ∀ {s : List Int}, adjNe s = true ↔ ∀ i x y, s[i]? = some x → s[i + 1]? = some y → x ≠ y
  | [] => by simp [adjNe]
  | [_] => by simp [adjNe]
  | a :: b :: l => by
    have ih := adjNe_iff (s := b :: l)
    unfold adjNe
    rw [Bool.and_eq_true, decide_eq_true_eq, ih]
    constructor
    · rintro ⟨h1, h2⟩ i x y hx hy
      cases i with
      | zero =>
        have e1 : a = x := by simpa using hx
        have e2 : b = y := by simpa using hy
        subst e1 e2; exact h1
      | succ i => exact h2 i x y (by simpa using hx) (by simpa using hy)
    · intro h
      exact ⟨h 0 a b rfl rfl, fun i x y hx hy => h (i + 1) x y (by simpa using hx) (by simpa using hy)⟩
theorem compact_len (s : List Int) : ((Lib.compact s).length = s.length) ↔ adjNe s = true := by
  have h1 : (Lib.compact s).length = ((List.range s.length).filter (Lib.keeps s.toArray)).length := by
    unfold Lib.compact Lib.compactUpTo; rw [List.length_map]
  rw [h1, adjNe_iff]
  have h2 : ((List.range s.length).filter (Lib.keeps s.toArray)).length = s.length ↔ ∀ j, j < s.length → Lib.keeps s.toArray j = true := by
    constructor
    · intro h j hj
      have h3 : ((List.range s.length).filter (Lib.keeps s.toArray)).length = (List.range s.length).length := by rw [h, List.length_range]
      exact List.length_filter_eq_length_iff.1 h3 j (List.mem_range.2 hj)
    · intro h
      have := (List.length_filter_eq_length_iff (l := List.range s.length) (p := Lib.keeps s.toArray)).2 (fun j hj => h j (List.mem_range.1 hj))
      rw [this, List.length_range]
  rw [h2]
  constructor
  · intro h i x y hx hy
    have hi : i + 1 < s.length := (List.getElem?_eq_some_iff.1 hy).1
    have := h (i + 1) hi
    unfold Lib.keeps at this
    have h3 := of_decide_eq_true this
    rcases h3 with h3 | h3
    · omega
    · have e1 : s.toArray[i + 1]! = y := by simp [hy]
      have e2 : s.toArray[i + 1 - 1]! = x := by simp [hx]
      rw [e1, e2] at h3
      exact fun e => h3 e.symm
  · intro h j hj
    unfold Lib.keeps
    apply decide_eq_true
    rcases Nat.eq_zero_or_pos j with h0 | h0
    · exact .inl h0
    · right
      obtain ⟨i, rfl⟩ : ∃ i, j = i + 1 := ⟨j - 1, by omega⟩
      have hx : s[i]? = some s[i] := List.getElem?_eq_getElem (by omega)
      have hy : s[i + 1]? = some s[i + 1] := List.getElem?_eq_getElem hj
      have e1 : s.toArray[i + 1]! = s[i + 1] := by simp [hy]
      have e2 : s.toArray[i + 1 - 1]! = s[i] := by simp [hx]
      rw [e1, e2]
      exact fun e => h i _ _ hx hy e.symm

/-- slices.Compact of numbers of the call's own. -/
theorem compactInts_calls {base : Nat} {Q : Nat → Prop} {w : World} {v : Value} {ks : List Int} (h : (Rep.int .i64).acc 3 base Q w v ks) (hl : ks.length ≤ 1000000000000) :
    Calls Try.prog 103 #[v] w fun e w' => (∃ A c, e = .returned (.slice A (Lib.compact ks).length c)) ∧ Below base w w' := by
  obtain ⟨cells, h1, h2⟩ := h
  obtain ⟨rfl, hwf⟩ := int_row.1 h2
  rcases h1.2 with ⟨rfl, h0⟩ | ⟨g, cap, cur, rfl, hb, hg, g1, g2, g3, g4⟩
  · have : ks = [] := List.eq_nil_of_length_eq_zero (by omega)
    subst this
    refine (Try.slices_Compact_int_empty none 0 w).mono ?_
    rintro e w' ⟨rfl, rfl⟩
    exact ⟨⟨_, _, rfl⟩, Below.refl _ _⟩
  · refine (Try.slices_Compact_int g 0 cap ks w (holds_of_blockI hg (by simpa [Rep.int] using g4)) (by omega) g1).mono ?_
    rintro e w' ⟨rfl, n, rfl⟩
    exact ⟨⟨_, _, rfl⟩, Lib.below_putRow (Below.refl _ _) hb⟩
end Go.Proofs.Ytfpmkenobphfnaa
/- Walk of the reference's layout as0 bytes. -/
namespace Go.Proofs.Ytfpmkenobphfnaa
open Go.RowKit

theorem rnum_at {w : World} {width n : Int} {B : Nat} (hB : B ≤ w.heap.size) (hw : (Lit.int .i64 width).wf = true) (hn : (Lit.int .i64 n).wf = true) :
    Calls Try.prog 99 #[.int .i64 width, .int .i64 n] w fun e w' => ∃ u, e = .returned u ∧ Rep.byte.acc 5 B (fun _ => False) w' u (num width n) ∧ Below w.heap.size w w' :=
  (rnum_calls hw hn).mono fun _ _ ⟨u, h1, h2, h3⟩ => ⟨u, h1, Rep.acc_base hB h2, h3⟩
end Go.Proofs.Ytfpmkenobphfnaa
/- Walks of the counts of pages. -/
namespace Go.Proofs.Ytfpmkenobphfnaa
open Go.RowKit

def setsAt (c : DConf) (k : Nat) : Int := min (2 ^ k) c.entities
def sumSizes : List DComp → Int
  | [] => 0
  | x :: l => x.size + sumSizes l
theorem sumSizes_append : ∀ l m : List DComp, sumSizes (l ++ m) = sumSizes l + sumSizes m
  | [], m => by simp [sumSizes]
  | x :: l, m => by simp only [List.cons_append, sumSizes, sumSizes_append l m]; omega
theorem sumSizes_succ {l : List DComp} {k : Nat} (hk : k < l.length) : sumSizes (l.take (k + 1)) = sumSizes (l.take k) + l[k].size := by
  rw [List.take_succ_eq_append_getElem hk, sumSizes_append]; simp [sumSizes]
def streamsOf (c : DConf) : Int := 2 + setsAt c c.comps.length * (c.comps.length + 1)
def dataOf (c : DConf) : Int := (confBytes c).length + 8 + c.entities * (16 + sumSizes c.comps)
def pagesOf (c : DConf) : Int := streamsOf c + dataOf c / 472
def dirOf (c : DConf) : Int := pageCount (2 + 16 * streamsOf c + 2 * pagesOf c)
def mostOf (c : DConf) : Int := if confRight c then pagesOf c + dirOf c else 0
def ampleOf (c : DConf) : Bool := confRight c && decide (3 * (pagesOf c + dirOf c) ≤ c.pages) && decide (dirOf c ≤ 222)

theorem right_facts {c : DConf} (h : confRight c = true) : (2 ≤ c.log ∧ c.log ≤ 1024 ∧ 4 ≤ c.pages ∧ c.pages ≤ 1024 ∧ 1 ≤ c.entities ∧ c.entities ≤ 1024 ∧ 1 ≤ c.gens ∧ c.gens ≤ 1073741824 ∧ c.comps.length ≤ 32) ∧
    ∀ (k : Nat) (hk : k < c.comps.length), 0 ≤ c.comps[k].size ∧ c.comps[k].size ≤ 64 ∧ c.comps[k].name.length ≤ 16 := by
  simp only [confRight, Bool.and_eq_true] at h
  obtain ⟨h1, h2⟩ := h
  refine ⟨?_, fun k hk => ?_⟩
  · simp only [confRange, withinB, Bool.and_eq_true, decide_eq_true_eq] at h1; omega
  · have h3 := List.all_eq_true.1 h2 k (List.mem_range.2 hk)
    unfold compOk at h3
    rw [List.getElem?_eq_getElem hk] at h3
    simp only [Bool.and_eq_true] at h3
    obtain ⟨⟨_, h4⟩, h5⟩ := h3
    simp only [withinB, decide_eq_true_eq] at h5
    simp only [nameB, Bool.and_eq_true, decide_eq_true_eq] at h4
    exact ⟨h5.1, h5.2, h4.1.2⟩

theorem sumSizes_bound {c : DConf} (h : confRight c = true) : ∀ k, k ≤ c.comps.length → 0 ≤ sumSizes (c.comps.take k) ∧ sumSizes (c.comps.take k) ≤ 64 * k
  | 0, _ => by simp [sumSizes]
  | k + 1, hk => by
    have h1 := sumSizes_bound h k (by omega)
    have h2 := (right_facts h).2 k (by omega)
    rw [sumSizes_succ (by omega)]; omega

theorem setsAt_bound {c : DConf} (h : confRight c = true) (k : Nat) : 1 ≤ setsAt c k ∧ setsAt c k ≤ 1024 ∧ setsAt c k ≤ c.entities := by
  have h1 := (right_facts h).1
  have h2 : (1 : Int) ≤ 2 ^ k := by exact_mod_cast Nat.one_le_two_pow
  unfold setsAt; omega
theorem setsAt_zero {c : DConf} (h : confRight c = true) : setsAt c 0 = 1 := by
  have h1 := (right_facts h).1
  unfold setsAt
  simp only [Int.pow_zero]; omega
theorem setsAt_succ {c : DConf} (h : confRight c = true) (k : Nat) : setsAt c (k + 1) = min (2 * setsAt c k) c.entities := by
  have h1 := (right_facts h).1
  have h2 : (1 : Int) ≤ 2 ^ k := by exact_mod_cast Nat.one_le_two_pow
  unfold setsAt
  rw [Int.pow_succ]; omega

theorem mul_bounds {a b A B : Int} (h1 : 0 ≤ a) (h2 : a ≤ A) (h3 : 0 ≤ b) (h4 : b ≤ B) : 0 ≤ a * b ∧ a * b ≤ A * B :=
  ⟨Int.mul_nonneg h1 h3, Int.mul_le_mul h2 h4 h3 (by omega)⟩

theorem confBytes_length {c : DConf} (h : c.comps.length ≤ 32) : (confBytes c).length ≤ 2100000 := by
  have h1 := flatten_le compBytes 65551 compBytes_length c.comps
  have h2 := flatten_le (num 4) 8 (num_length 4) (headOf c)
  have h3 := num_length 1 c.comps.length
  have h4 : (headOf c).length = 4 := rfl
  simp only [confBytes, headBytes, List.length_append] at *; omega

theorem count_bounds {c : DConf} (h : confRight c = true) : 2 ≤ streamsOf c ∧ streamsOf c ≤ 33794 ∧ 0 ≤ dataOf c ∧ dataOf c ≤ 4300000 ∧ 0 ≤ pagesOf c ∧ pagesOf c ≤ 50000 ∧ 0 ≤ dirOf c ∧ dirOf c ≤ 10000 := by
  have h1 := right_facts h
  have h2 := setsAt_bound h c.comps.length
  have h3 := mul_bounds (a := setsAt c c.comps.length) (b := (c.comps.length : Int) + 1) (A := 1024) (B := 33) (by omega) (by omega) (by omega) (by omega)
  have h4 := sumSizes_bound h c.comps.length (Nat.le_refl _)
  rw [List.take_length] at h4
  have h5 := mul_bounds (a := c.entities) (b := 16 + sumSizes c.comps) (A := 1024) (B := 2064) (by omega) (by omega) (by omega) (by omega)
  have h6 := confBytes_length (c := c) (by omega)
  have hs : 2 ≤ streamsOf c ∧ streamsOf c ≤ 33794 := by unfold streamsOf; omega
  have hd : 0 ≤ dataOf c ∧ dataOf c ≤ 4300000 := by unfold dataOf; omega
  have hp : 0 ≤ pagesOf c ∧ pagesOf c ≤ 50000 := by unfold pagesOf; omega
  refine ⟨hs.1, hs.2, hd.1, hd.2, hp.1, hp.2, ?_⟩
  unfold dirOf pageCount
  split <;> omega
end Go.Proofs.Ytfpmkenobphfnaa
/- Walk of policy.count. -/
namespace Go.Proofs.Ytfpmkenobphfnaa
open Go.RowKit

theorem heap_setCell_row {w : World} {b i e : Nat} {cs : Array Value} {v : Value} {f : Nat × Nat} (h : w.heap[b]? = some (.cells cs e f)) : (w.setCell ⟨b, i, none⟩ v).heap[b]? = some (.cells (cs.setIfInBounds i v) e f) := by
  simp [World.setCell, Array.getElem?_modify, h]

end Go.Proofs.Ytfpmkenobphfnaa
/- Walk of the reference's counts. -/
namespace Go.Proofs.Ytfpmkenobphfnaa
open Go.RowKit

theorem pow_le {k n : Nat} (h : k ≤ n) : (2 : Int) ^ k ≤ 2 ^ n := by exact_mod_cast Nat.pow_le_pow_right (by decide) h
theorem setsAt_full {c : DConf} {k n : Nat} (hk : k ≤ n) (h : c.entities ≤ 2 ^ k) : setsAt c n = c.entities := by
  have := pow_le hk
  unfold setsAt; omega
theorem setsAt_pow {c : DConf} {n : Nat} (h : 2 ^ n ≤ c.entities) : setsAt c n = 2 ^ n := by unfold setsAt; omega
theorem data_sum (e s l : Int) : l + 8 + 16 * e + e * s = l + 8 + e * (16 + s) := by rw [Int.mul_add]; omega
theorem mul_step (e s x b : Int) : b + e * s + e * x = b + e * (s + x) := by rw [Int.mul_add]; omega

end Go.Proofs.Ytfpmkenobphfnaa
/- Walks of Most, Ample and Due, both. -/
namespace Go.Proofs.Ytfpmkenobphfnaa
open Go.RowKit

/-- A layout in a box, and what reads it. -/
structure InBox (W : World) (B : Nat) (c : DConf) (A : Option Addr) (cap : Nat) : Prop where
  c0 : W.cell? ⟨B, 0, none⟩ = some (.int .i64 c.log)
  c1 : W.cell? ⟨B, 1, none⟩ = some (.int .i64 c.pages)
  c2 : W.cell? ⟨B, 2, none⟩ = some (.int .i64 c.entities)
  c3 : W.cell? ⟨B, 3, none⟩ = some (.int .i64 c.gens)
  c4 : W.cell? ⟨B, 4, none⟩ = some (.slice A c.comps.length cap)
  val : rConf.val (fun b => b < B) W (.agg #[.int .i64 c.log, .int .i64 c.pages, .int .i64 c.entities, .int .i64 c.gens, .slice A c.comps.length cap]) c
theorem InBox.later {W W' : World} {B : Nat} {c : DConf} {A : Option Addr} {cap : Nat} (h : InBox W B c A cap) (hb : Below (B + 1) W W') : InBox W' B c A cap :=
  ⟨(hb.cell (p := ⟨B, 0, none⟩) (Nat.lt_succ_self _)).trans h.c0, (hb.cell (p := ⟨B, 1, none⟩) (Nat.lt_succ_self _)).trans h.c1, (hb.cell (p := ⟨B, 2, none⟩) (Nat.lt_succ_self _)).trans h.c2,
   (hb.cell (p := ⟨B, 3, none⟩) (Nat.lt_succ_self _)).trans h.c3, (hb.cell (p := ⟨B, 4, none⟩) (Nat.lt_succ_self _)).trans h.c4, Rep.val_keep (fun b hq _ => ⟨hq, hb.block b (by omega)⟩) h.val⟩
theorem InBox.made {Q : Nat → Prop} {w : World} {c : DConf} {A : Option Addr} {cap : Nat} (h : rConf.val Q w (.agg #[.int .i64 c.log, .int .i64 c.pages, .int .i64 c.entities, .int .i64 c.gens, .slice A c.comps.length cap]) c) (t : TypeId) :
    InBox (w.alloc (.cells #[.int .i64 c.log, .int .i64 c.pages, .int .i64 c.entities, .int .i64 c.gens, .slice A c.comps.length cap] t)) w.heap.size c A cap :=
  ⟨by simp, by simp, by simp, by simp, by simp, Rep.val_keep (w := w) (fun _ _ hl => ⟨hl.lt, Below.heap_alloc _ _ _ hl.lt⟩) h⟩

end Go.Proofs.Ytfpmkenobphfnaa
