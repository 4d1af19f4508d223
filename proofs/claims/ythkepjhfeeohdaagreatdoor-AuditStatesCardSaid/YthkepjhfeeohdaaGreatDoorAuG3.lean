/- Texts on which the proofs stand: Size, AuditMath, CParts, StateAcc, SlotType, Has06, IdsWalk, MOwn, Load06, CIdsLoad, AuditIds, CIdsAt. No condition is laid on any input. -/
import Derived.Test.YthkepjhfeeohdaaGreatDoorAuG2
import Derived.Laws.CopyRow
import Derived.Deep.DeepAppendRoom
import Derived.Lib.AppendZerosOnto
import Derived.Lib.Overlaps
namespace Go.Proofs.YthkepjhfeeohdaaGreatDoor
open Go.RowKit

theorem compSize_none {c : DConf} {k : Int} (h : k < 0 ∨ (c.comps.length : Int) ≤ k) : compSize c k = none := by
  unfold compSize
  split
  · rw [List.getElem?_eq_none (by omega)]; rfl
  · rfl
theorem compSize_some {c : DConf} {k : Nat} {x : DComp} (h : c.comps[k]? = some x) : compSize c k = some x.size := by
  unfold compSize
  rw [if_pos (by omega), Int.toNat_natCast, h]; rfl

set_option maxRecDepth 100000 in
set_option maxHeartbeats 1000000 in
/-- r07.Size -/
theorem rsize_calls {Q : Nat → Prop} {w : World} {v : Value} {c : DConf} {k : Int} (hx : rConf.val Q w v c) :
    Calls Tryz.prog 24 #[v, .int .i64 k] w fun e w' => e = .returned (.tuple #[.int .i64 ((compSize c k).getD 0), .bool (compSize c k).isSome]) ∧ Below w.heap.size w w' := by
  obtain ⟨A, cap, rfl, _, _, _, _, hA⟩ := rConf_val hx
  have hlen := hA.2.1
  have hle := hA.1
  unfold maxLen at hlen
  by_cases h0 : 0 ≤ k
  · by_cases h1 : k < (c.comps.length : Int)
    · obtain ⟨j, rfl⟩ : ∃ j : Nat, k = (j : Int) := ⟨k.toNat, by omega⟩
      obtain ⟨x, hxx⟩ : ∃ x, c.comps[j]? = some x := ⟨_, List.getElem?_eq_getElem (by omega)⟩
      obtain ⟨W0, hW0⟩ : ∃ W, (w.alloc (.cells #[.int .i64 c.log, .int .i64 c.pages, .int .i64 c.entities, .int .i64 c.gens, .slice A c.comps.length cap] 24)) = W := ⟨_, rfl⟩
      have hz0 : W0.heap.size = w.heap.size + 1 := by rw [← hW0]; simp
      have hb0 : Below w.heap.size w W0 := by rw [← hW0]; exact (Below.refl _ _).alloc (Nat.le_refl _) _
      have HZ := Lib.hid hz0
      have HB0 := Lib.hid hb0
      have R0_0 := Lib.hid (show W0.heap[w.heap.size]? = some (.cells #[.int .i64 c.log, .int .i64 c.pages, .int .i64 c.entities, .int .i64 c.gens, .slice A c.comps.length cap] 24 (0, 0)) by rw [← hW0]; exact alloc_at rfl)
      have O0 := Lib.hid (Only.refl (Box w 1) W0)
      have hAt := Rep.At.keep (Q' := fun _ => True) (w' := W0) (fun b _ hl => ⟨trivial, hb0.block b hl.lt⟩) hA.2.2
      obtain ⟨b, off, rfl, _, e0, e1, _⟩ := rComp_at hAt hxx
      have HF := Lib.hid (compSize_some hxx)
      clear hxx hAt
      clear hz0 hb0 hx hA
      obtain ⟨q0_0, z0_0, q0_1, z0_1, q0_2, z0_2, q0_3, z0_3, q0_4, z0_4⟩ := rw5 R0_0.out
      go_enter Tryz.func24, Tryz.ntmps24
      go_wp2_with fail
      try rw [hW0]
      clear hW0
      try go_wp2_with fail
      go_ret2
      exact ⟨by rw [HF.out]; rfl, Only.fin HB0.out O0.out⟩
    · have HF := Lib.hid (compSize_none (c := c) (k := k) (.inr (by omega)))
      obtain ⟨W0, hW0⟩ : ∃ W, (w.alloc (.cells #[.int .i64 c.log, .int .i64 c.pages, .int .i64 c.entities, .int .i64 c.gens, .slice A c.comps.length cap] 24)) = W := ⟨_, rfl⟩
      have hz0 : W0.heap.size = w.heap.size + 1 := by rw [← hW0]; simp
      have hb0 : Below w.heap.size w W0 := by rw [← hW0]; exact (Below.refl _ _).alloc (Nat.le_refl _) _
      have HZ := Lib.hid hz0
      have HB0 := Lib.hid hb0
      have R0_0 := Lib.hid (show W0.heap[w.heap.size]? = some (.cells #[.int .i64 c.log, .int .i64 c.pages, .int .i64 c.entities, .int .i64 c.gens, .slice A c.comps.length cap] 24 (0, 0)) by rw [← hW0]; exact alloc_at rfl)
      have O0 := Lib.hid (Only.refl (Box w 1) W0)
      skip
      clear hz0 hb0 hx hA
      obtain ⟨q0_0, z0_0, q0_1, z0_1, q0_2, z0_2, q0_3, z0_3, q0_4, z0_4⟩ := rw5 R0_0.out
      go_enter Tryz.func24, Tryz.ntmps24
      go_wp2_with fail
      try rw [hW0]
      clear hW0
      try go_wp2_with fail
      go_ret2
      exact ⟨by rw [HF.out]; rfl, Only.fin HB0.out O0.out⟩
  · have HF := Lib.hid (compSize_none (c := c) (k := k) (.inl (by omega)))
    obtain ⟨W0, hW0⟩ : ∃ W, (w.alloc (.cells #[.int .i64 c.log, .int .i64 c.pages, .int .i64 c.entities, .int .i64 c.gens, .slice A c.comps.length cap] 24)) = W := ⟨_, rfl⟩
    have hz0 : W0.heap.size = w.heap.size + 1 := by rw [← hW0]; simp
    have hb0 : Below w.heap.size w W0 := by rw [← hW0]; exact (Below.refl _ _).alloc (Nat.le_refl _) _
    have HZ := Lib.hid hz0
    have HB0 := Lib.hid hb0
    have R0_0 := Lib.hid (show W0.heap[w.heap.size]? = some (.cells #[.int .i64 c.log, .int .i64 c.pages, .int .i64 c.entities, .int .i64 c.gens, .slice A c.comps.length cap] 24 (0, 0)) by rw [← hW0]; exact alloc_at rfl)
    have O0 := Lib.hid (Only.refl (Box w 1) W0)
    skip
    clear hz0 hb0 hx hA
    obtain ⟨q0_0, z0_0, q0_1, z0_1, q0_2, z0_2, q0_3, z0_3, q0_4, z0_4⟩ := rw5 R0_0.out
    go_enter Tryz.func24, Tryz.ntmps24
    go_wp2_with fail
    try rw [hW0]
    clear hW0
    try go_wp2_with fail
    go_ret2
    exact ⟨by rw [HF.out]; rfl, Only.fin HB0.out O0.out⟩

set_option maxRecDepth 100000 in
set_option maxHeartbeats 1000000 in
/-- comp.Size -/
theorem csize_calls {Q : Nat → Prop} {w : World} {v : Value} {c : DConf} {k : Int} (hx : rConf.val Q w v c) :
    Calls Tryz.prog 39 #[v, .int .i64 k] w fun e w' => e = .returned (.tuple #[.int .i64 ((compSize c k).getD 0), .bool (compSize c k).isSome]) ∧ Below w.heap.size w w' := by
  obtain ⟨A, cap, rfl, _, _, _, _, hA⟩ := rConf_val hx
  have hlen := hA.2.1
  have hle := hA.1
  unfold maxLen at hlen
  by_cases h0 : 0 ≤ k
  · by_cases h1 : k < (c.comps.length : Int)
    · obtain ⟨j, rfl⟩ : ∃ j : Nat, k = (j : Int) := ⟨k.toNat, by omega⟩
      obtain ⟨x, hxx⟩ : ∃ x, c.comps[j]? = some x := ⟨_, List.getElem?_eq_getElem (by omega)⟩
      obtain ⟨W0, hW0⟩ : ∃ W, (w.alloc (.cells #[.int .i64 c.log, .int .i64 c.pages, .int .i64 c.entities, .int .i64 c.gens, .slice A c.comps.length cap] 24)) = W := ⟨_, rfl⟩
      have hz0 : W0.heap.size = w.heap.size + 1 := by rw [← hW0]; simp
      have hb0 : Below w.heap.size w W0 := by rw [← hW0]; exact (Below.refl _ _).alloc (Nat.le_refl _) _
      have HZ := Lib.hid hz0
      have HB0 := Lib.hid hb0
      have R0_0 := Lib.hid (show W0.heap[w.heap.size]? = some (.cells #[.int .i64 c.log, .int .i64 c.pages, .int .i64 c.entities, .int .i64 c.gens, .slice A c.comps.length cap] 24 (0, 0)) by rw [← hW0]; exact alloc_at rfl)
      have O0 := Lib.hid (Only.refl (Box w 1) W0)
      have hAt := Rep.At.keep (Q' := fun _ => True) (w' := W0) (fun b _ hl => ⟨trivial, hb0.block b hl.lt⟩) hA.2.2
      obtain ⟨b, off, rfl, _, e0, e1, _⟩ := rComp_at hAt hxx
      have HF := Lib.hid (compSize_some hxx)
      clear hxx hAt
      clear hz0 hb0 hx hA
      obtain ⟨q0_0, z0_0, q0_1, z0_1, q0_2, z0_2, q0_3, z0_3, q0_4, z0_4⟩ := rw5 R0_0.out
      go_enter Tryz.func39, Tryz.ntmps39
      go_wp2_with fail
      try rw [hW0]
      clear hW0
      try go_wp2_with fail
      go_ret2
      exact ⟨by rw [HF.out]; rfl, Only.fin HB0.out O0.out⟩
    · have HF := Lib.hid (compSize_none (c := c) (k := k) (.inr (by omega)))
      obtain ⟨W0, hW0⟩ : ∃ W, (w.alloc (.cells #[.int .i64 c.log, .int .i64 c.pages, .int .i64 c.entities, .int .i64 c.gens, .slice A c.comps.length cap] 24)) = W := ⟨_, rfl⟩
      have hz0 : W0.heap.size = w.heap.size + 1 := by rw [← hW0]; simp
      have hb0 : Below w.heap.size w W0 := by rw [← hW0]; exact (Below.refl _ _).alloc (Nat.le_refl _) _
      have HZ := Lib.hid hz0
      have HB0 := Lib.hid hb0
      have R0_0 := Lib.hid (show W0.heap[w.heap.size]? = some (.cells #[.int .i64 c.log, .int .i64 c.pages, .int .i64 c.entities, .int .i64 c.gens, .slice A c.comps.length cap] 24 (0, 0)) by rw [← hW0]; exact alloc_at rfl)
      have O0 := Lib.hid (Only.refl (Box w 1) W0)
      skip
      clear hz0 hb0 hx hA
      obtain ⟨q0_0, z0_0, q0_1, z0_1, q0_2, z0_2, q0_3, z0_3, q0_4, z0_4⟩ := rw5 R0_0.out
      go_enter Tryz.func39, Tryz.ntmps39
      go_wp2_with fail
      try rw [hW0]
      clear hW0
      try go_wp2_with fail
      go_ret2
      exact ⟨by rw [HF.out]; rfl, Only.fin HB0.out O0.out⟩
  · have HF := Lib.hid (compSize_none (c := c) (k := k) (.inl (by omega)))
    obtain ⟨W0, hW0⟩ : ∃ W, (w.alloc (.cells #[.int .i64 c.log, .int .i64 c.pages, .int .i64 c.entities, .int .i64 c.gens, .slice A c.comps.length cap] 24)) = W := ⟨_, rfl⟩
    have hz0 : W0.heap.size = w.heap.size + 1 := by rw [← hW0]; simp
    have hb0 : Below w.heap.size w W0 := by rw [← hW0]; exact (Below.refl _ _).alloc (Nat.le_refl _) _
    have HZ := Lib.hid hz0
    have HB0 := Lib.hid hb0
    have R0_0 := Lib.hid (show W0.heap[w.heap.size]? = some (.cells #[.int .i64 c.log, .int .i64 c.pages, .int .i64 c.entities, .int .i64 c.gens, .slice A c.comps.length cap] 24 (0, 0)) by rw [← hW0]; exact alloc_at rfl)
    have O0 := Lib.hid (Only.refl (Box w 1) W0)
    skip
    clear hz0 hb0 hx hA
    obtain ⟨q0_0, z0_0, q0_1, z0_1, q0_2, z0_2, q0_3, z0_3, q0_4, z0_4⟩ := rw5 R0_0.out
    go_enter Tryz.func39, Tryz.ntmps39
    go_wp2_with fail
    try rw [hW0]
    clear hW0
    try go_wp2_with fail
    go_ret2
    exact ⟨by rw [HF.out]; rfl, Only.fin HB0.out O0.out⟩
end Go.Proofs.YthkepjhfeeohdaaGreatDoor
namespace Go.Proofs.YthkepjhfeeohdaaGreatDoor
open Go.RowKit

/-- The first that is not zero. -/
def firstE (f : Nat → Int) : Nat → Int
  | 0 => 0
  | n + 1 => if firstE f n = 0 then f n else firstE f n
theorem firstE_next {f : Nat → Int} {n : Nat} (h : firstE f n = 0) : firstE f (n + 1) = f n := by
  show (if firstE f n = 0 then f n else firstE f n) = _
  rw [if_pos h]
theorem firstE_stop {f : Nat → Int} {e : Int} {j : Nat} (h : firstE f j = e) (he : e ≠ 0) : ∀ n, j ≤ n → firstE f n = e
  | 0, hn => by obtain rfl : j = 0 := by omega
                exact h
  | n + 1, hn => by
    by_cases hj : j = n + 1
    · subst hj; exact h
    · have ih := firstE_stop h he n (by omega)
      show (if firstE f n = 0 then f n else firstE f n) = _
      rw [if_neg (by rw [ih]; exact he), ih]
theorem firstE_zero {f : Nat → Int} : ∀ {n : Nat}, firstE f n = 0 ↔ ∀ j, j < n → f j = 0
  | 0 => ⟨fun _ j h => by omega, fun _ => rfl⟩
  | n + 1 => by
    have ih := firstE_zero (f := f) (n := n)
    show (if firstE f n = 0 then f n else firstE f n) = 0 ↔ _
    constructor
    · intro h j hj
      split at h
      · rename_i h0
        by_cases hjn : j = n
        · subst hjn; exact h
        · exact ih.1 h0 j (by omega)
      · rename_i h0; exact absurd h h0
    · intro h
      have h0 := ih.2 fun j hj => h j (by omega)
      rw [if_pos h0]
      exact h n (by omega)

/-- One part of a list: what is wrong with it. -/
def partE (c : DConf) (l : List DPart) (j : Nat) : Int :=
  match l[j]? with
  | none => 0
  | some p => match compSize c p.comp with
    | none => 6
    | some n => if 0 < j ∧ p.comp ≤ (l.map (·.comp)).getD (j - 1) 0 then 6 else if n = (p.data.length : Int) then 0 else 7
def partsE (c : DConf) (l : List DPart) : Int := firstE (partE c l) l.length
/-- Names that may be read. -/
structure LoadOk (c : DConf) (s : DState) : Prop where
  many : (s.gens.length : Int) ≤ c.entities
  lim : ∀ g ∈ s.gens, 0 ≤ g ∧ g ≤ c.gens
  free : ∀ (j : Nat) k, s.free[j]? = some k → 0 ≤ k ∧ k < s.gens.length ∧ k ∉ s.free.take j ∧ s.gens.getD k.toNat 0 ≠ 0 ∧ s.gens.getD k.toNat 0 < c.gens
/-- Is an index alive? -/
def aliveB (c : DConf) (s : DState) (i : Int) : Bool := decide (0 ≤ i) && decide (i < s.gens.length) && decide (i ∉ s.free) && decide (s.gens.getD i.toNat 0 < c.gens)
def idAt (s : DState) (i : Nat) : DID := ⟨i, s.gens.getD i 0⟩
/-- The names that are alive, of the first indexes. -/
def alives (c : DConf) (s : DState) (n : Nat) : List DID := ((List.range n).filter fun i => aliveB c s (i : Nat)).map (idAt s)
def liveB (c : DConf) (s : DState) (d : DID) : Bool := aliveB c s d.index && decide (s.gens.getD d.index.toNat 0 = d.gen)
def entE (c : DConf) (s : DState) (i : Nat) : Int :=
  match s.ents[i]? with
  | none => 0
  | some e => if liveB c s e.id = true ∧ (0 < i → (s.ents.map (·.id.index)).getD (i - 1) 0 < e.id.index) then partsE c e.parts else 5
open Classical in
/-- What is found of a state. -/
noncomputable def auditS (c : DConf) (s : DState) : Int :=
  if confRight c = true then if LoadOk c s then if (alives c s s.gens.length).length = s.ents.length then firstE (entE c s) s.ents.length else 5 else 11 else 1

theorem alives_next (c : DConf) (s : DState) (n : Nat) : alives c s (n + 1) = alives c s n ++ (if aliveB c s (n : Nat) then [idAt s n] else []) := by
  unfold alives
  rw [List.range_succ, List.filter_append, List.map_append]
  congr 1
  by_cases h : aliveB c s (n : Nat) = true <;> simp [h]
theorem alives_mem {c : DConf} {s : DState} {n : Nat} {d : DID} : d ∈ alives c s n ↔ ∃ i, i < n ∧ aliveB c s (i : Nat) = true ∧ d = idAt s i := by
  unfold alives
  simp only [List.mem_map, List.mem_filter, List.mem_range]
  constructor
  · rintro ⟨i, ⟨h1, h2⟩, rfl⟩; exact ⟨i, h1, h2, rfl⟩
  · rintro ⟨i, h1, h2, rfl⟩; exact ⟨i, ⟨h1, h2⟩, rfl⟩
theorem alives_live {c : DConf} {s : DState} {d : DID} : d ∈ alives c s s.gens.length ↔ liveB c s d = true := by
  rw [alives_mem]
  unfold liveB
  constructor
  · rintro ⟨i, h1, h2, rfl⟩
    rw [Bool.and_eq_true]
    refine ⟨h2, ?_⟩
    simp [idAt]
  · intro h
    rw [Bool.and_eq_true] at h
    have ha := h.1
    unfold aliveB at ha
    simp only [Bool.and_eq_true, decide_eq_true_eq] at ha
    obtain ⟨⟨⟨a0, a1⟩, _⟩, _⟩ := ha
    have e : ((d.index.toNat : Nat) : Int) = d.index := by omega
    refine ⟨d.index.toNat, by omega, by rw [e]; exact h.1, ?_⟩
    have hg : s.gens.getD d.index.toNat 0 = d.gen := by simpa using h.2
    unfold idAt
    rw [hg, e]
theorem alives_up (c : DConf) (s : DState) : ∀ n, (alives c s n).Pairwise fun a b => a.index < b.index
  | 0 => by simp [alives]
  | n + 1 => by
    rw [alives_next, List.pairwise_append]
    refine ⟨alives_up c s n, ?_, ?_⟩
    · split <;> simp
    · intro a ha b hb
      obtain ⟨i, hi, _, rfl⟩ := alives_mem.1 ha
      split at hb
      · rw [List.mem_singleton] at hb
        subst hb
        simp [idAt]; omega
      · cases hb
theorem alives_pre {c : DConf} {s : DState} {n m : Nat} (h : n ≤ m) : ∃ r, alives c s m = alives c s n ++ r := by
  induction m with
  | zero => obtain rfl : n = 0 := by omega
            exact ⟨[], by simp⟩
  | succ m ih =>
    by_cases hn : n = m + 1
    · subst hn; exact ⟨[], by simp⟩
    · obtain ⟨r, hr⟩ := ih (by omega)
      exact ⟨r ++ _, by rw [alives_next, hr, List.append_assoc]⟩
/-- Of lists that rise, one that lies within another one is left of it. -/
theorem up_sub : ∀ {l m : List DID}, (l.Pairwise fun a b => a.index < b.index) → (m.Pairwise fun a b => a.index < b.index) → (∀ x ∈ l, x ∈ m) → l.Sublist m
  | [], m, _, _, _ => List.nil_sublist m
  | x :: r, [], _, _, h => absurd (h x (by simp)) (by simp)
  | x :: r, y :: t, hl, hm, h => by
    have hl2 := List.pairwise_cons.1 hl
    have hm2 := List.pairwise_cons.1 hm
    by_cases e : x = y
    · subst e
      refine (up_sub hl2.2 hm2.2 fun z hz => ?_).cons_cons _
      have h1 := hl2.1 z hz
      rcases List.mem_cons.1 (h z (by simp [hz])) with rfl | h2
      · omega
      · exact h2
    · have hx : x ∈ t := by
        rcases List.mem_cons.1 (h x (by simp)) with h2 | h2
        · exact absurd h2 e
        · exact h2
      have hyx := hm2.1 x hx
      refine (up_sub hl hm2.2 fun z hz => ?_).cons _
      rcases List.mem_cons.1 (h z hz) with rfl | h2
      · rcases List.mem_cons.1 hz with rfl | hz
        · omega
        · have := hl2.1 z hz; omega
      · exact h2
theorem ents_up {s : DState} (h : ∀ i e, s.ents[i]? = some e → 0 < i → (s.ents.map (·.id.index)).getD (i - 1) 0 < e.id.index) : (s.ents.map (·.id)).Pairwise fun a b => a.index < b.index := by
  generalize s.ents = l at h
  rw [List.pairwise_map, List.pairwise_iff_getElem]
  have key : ∀ d (i : Nat) (h1 : i + d + 1 < l.length), l[i].id.index < (l[i + d + 1]'h1).id.index := by
    intro d
    induction d with
    | zero =>
      intro i h1
      have := h (i + 1) _ (List.getElem?_eq_getElem h1) (by omega)
      simpa [List.getD_eq_getElem?_getD, List.getElem?_eq_getElem (show i < l.length by omega)] using this
    | succ d ih =>
      intro i h1
      have h2 := ih i (by omega)
      have := h (i + d + 1 + 1) _ (List.getElem?_eq_getElem h1) (by omega)
      simp only [Nat.add_sub_cancel, List.getD_eq_getElem?_getD, List.getElem?_map, List.getElem?_eq_getElem (show i + d + 1 < l.length by omega), Option.map_some, Option.getD_some] at this
      exact Int.lt_trans h2 this
  intro i j hi hj hij
  obtain ⟨d, rfl⟩ : ∃ d, j = i + d + 1 := ⟨j - i - 1, by omega⟩
  exact key d i hj
/-- The names of a state are just those that are alive, in order, if each is alive, they rise, and there are as0 many. -/
theorem ents_all {c : DConf} {s : DState} (h : ∀ i, i < s.ents.length → entE c s i = 0) (hn : (alives c s s.gens.length).length = s.ents.length) : s.ents.map (·.id) = alives c s s.gens.length := by
  have hh : ∀ i e, s.ents[i]? = some e → liveB c s e.id = true ∧ (0 < i → (s.ents.map (·.id.index)).getD (i - 1) 0 < e.id.index) := by
    intro i e he
    have h1 := h i (List.getElem?_eq_some_iff.1 he).1
    unfold entE at h1
    rw [he] at h1
    simp only at h1
    split at h1
    · assumption
    · omega
  refine (up_sub (ents_up fun i e he h0 => (hh i e he).2 h0) (alives_up c s _) fun x hx => ?_).eq_of_length (by simp [hn])
  obtain ⟨e, he, rfl⟩ := List.mem_map.1 hx
  obtain ⟨i, hi, rfl⟩ := List.mem_iff_getElem.1 he
  exact alives_live.2 (hh i _ (List.getElem?_eq_getElem hi)).1
theorem ents_conv {c : DConf} {s : DState} (h : s.ents.map (·.id) = alives c s s.gens.length) (hp : ∀ e ∈ s.ents, partsE c e.parts = 0) : ∀ i, i < s.ents.length → entE c s i = 0 := by
  intro i hi
  have hu := alives_up c s s.gens.length
  rw [← h, List.pairwise_map, List.pairwise_iff_getElem] at hu
  unfold entE
  rw [List.getElem?_eq_getElem hi]
  simp only
  rw [if_pos]
  · exact hp _ (List.getElem_mem hi)
  · refine ⟨alives_live.1 (by rw [← h]; exact List.mem_map.2 ⟨_, List.getElem_mem hi, rfl⟩), fun h0 => ?_⟩
    have := hu (i - 1) i (by omega) hi (by omega)
    simpa [List.getD_eq_getElem?_getD, List.getElem?_eq_getElem (show i - 1 < s.ents.length by omega)] using this
/-- May a state be? -/
def RightS (c : DConf) (s : DState) : Prop := confRight c = true ∧ LoadOk c s ∧ s.ents.map (·.id) = alives c s s.gens.length ∧ ∀ e ∈ s.ents, partsE c e.parts = 0
theorem audit_right (c : DConf) (s : DState) : auditS c s = 0 ↔ RightS c s := by
  unfold auditS RightS
  by_cases h1 : confRight c = true
  · by_cases h2 : LoadOk c s
    · rw [if_pos h1, if_pos h2]
      split
      · rename_i h3
        rw [firstE_zero]
        constructor
        · intro h
          refine ⟨h1, h2, ents_all h h3, fun e he => ?_⟩
          obtain ⟨i, hi, rfl⟩ := List.mem_iff_getElem.1 he
          have h4 := h i hi
          unfold entE at h4
          rw [List.getElem?_eq_getElem hi] at h4
          simp only at h4
          split at h4
          · exact h4
          · omega
        · rintro ⟨_, _, h4, h5⟩
          exact ents_conv h4 h5
      · rename_i h3
        constructor
        · intro h; omega
        · rintro ⟨_, _, h4, _⟩
          exact absurd (by rw [← h4]; simp) h3
    · rw [if_pos h1, if_neg h2]
      exact ⟨fun h => by omega, fun h => absurd h.2.1 h2⟩
  · rw [if_neg h1]
    exact ⟨fun h => by omega, fun h => absurd h.1 h1⟩
theorem audit_1 {c : DConf} {s : DState} (h : confRight c = false) : auditS c s = 1 := by
  unfold auditS; rw [if_neg (by rw [h]; decide)]
theorem audit_11 {c : DConf} {s : DState} (h : confRight c = true) (hl : ¬ LoadOk c s) : auditS c s = 11 := by
  unfold auditS; rw [if_pos h, if_neg hl]
theorem audit_5 {c : DConf} {s : DState} (h : confRight c = true) (hl : LoadOk c s) (hn : (alives c s s.gens.length).length ≠ s.ents.length) : auditS c s = 5 := by
  unfold auditS; rw [if_pos h, if_pos hl, if_neg hn]
theorem audit_ent {c : DConf} {s : DState} (h : confRight c = true) (hl : LoadOk c s) (hn : (alives c s s.gens.length).length = s.ents.length) : auditS c s = firstE (entE c s) s.ents.length := by
  unfold auditS; rw [if_pos h, if_pos hl, if_pos hn]
/-- An entity that is not there, or does not rise. -/
theorem entE_bad {c : DConf} {s : DState} {i : Nat} {e : DEnt} (he : s.ents[i]? = some e) (h : ¬ (liveB c s e.id = true ∧ (0 < i → (s.ents.map (·.id.index)).getD (i - 1) 0 < e.id.index))) : entE c s i = 5 := by
  unfold entE; rw [he]; dsimp only; rw [if_neg h]
theorem entE_parts {c : DConf} {s : DState} {i : Nat} {e : DEnt} (he : s.ents[i]? = some e) (h : liveB c s e.id = true ∧ (0 < i → (s.ents.map (·.id.index)).getD (i - 1) 0 < e.id.index)) : entE c s i = partsE c e.parts := by
  unfold entE; rw [he]; dsimp only; rw [if_pos h]
theorem prev_index {l : List DEnt} {i : Nat} {e : DEnt} (he : l[i]? = some e) : (l.map (·.id.index)).getD (i + 1 - 1) 0 = e.id.index := by
  rw [Nat.add_sub_cancel, List.getD_eq_getElem?_getD, List.getElem?_map, he]; rfl
theorem prev_comp {l : List DPart} {i : Nat} {p : DPart} (he : l[i]? = some p) : (l.map (·.comp)).getD (i + 1 - 1) 0 = p.comp := by
  rw [Nat.add_sub_cancel, List.getD_eq_getElem?_getD, List.getElem?_map, he]; rfl
theorem partE_none {c : DConf} {l : List DPart} {j : Nat} {p : DPart} (hp : l[j]? = some p) (h : compSize c p.comp = none) : partE c l j = 6 := by
  unfold partE; rw [hp]; dsimp only; rw [h]
theorem partE_low {c : DConf} {l : List DPart} {j : Nat} {p : DPart} {n : Int} (hp : l[j]? = some p) (h : compSize c p.comp = some n) (hj : 0 < j ∧ p.comp ≤ (l.map (·.comp)).getD (j - 1) 0) : partE c l j = 6 := by
  unfold partE; rw [hp]; dsimp only; rw [h]; dsimp only; rw [if_pos hj]
theorem partE_size {c : DConf} {l : List DPart} {j : Nat} {p : DPart} {n : Int} (hp : l[j]? = some p) (h : compSize c p.comp = some n) (hj : ¬ (0 < j ∧ p.comp ≤ (l.map (·.comp)).getD (j - 1) 0)) : partE c l j = if n = (p.data.length : Int) then 0 else 7 := by
  unfold partE; rw [hp]; dsimp only; rw [h]; dsimp only; rw [if_neg hj]
theorem LoadOk.of {c : DConf} {s : DState} (h1 : (s.gens.length : Int) ≤ c.entities) (h2 : ∀ (j : Nat) g, s.gens[j]? = some g → 0 ≤ g ∧ g ≤ c.gens) (h3 : ∀ (j : Nat) k, s.free[j]? = some k → 0 ≤ k ∧ k < s.gens.length ∧ k ∉ s.free.take j ∧ s.gens.getD k.toNat 0 ≠ 0 ∧ s.gens.getD k.toNat 0 < c.gens) : LoadOk c s :=
  ⟨h1, fun g hg => by obtain ⟨j, hj⟩ := List.getElem?_of_mem hg; exact h2 j g hj, h3⟩
end Go.Proofs.YthkepjhfeeohdaaGreatDoor
namespace Go.Proofs.YthkepjhfeeohdaaGreatDoor
open Go.RowKit

/-- What a function answers that may end by a panic with an error. -/
def MayEnd (w : World) (r : Int) (e : Ending) (w' : World) : Prop := (r = 0 ∧ e = .returned (.tuple #[]) ∨ r ≠ 0 ∧ e = .panicked (errPanic r)) ∧ Below w.heap.size w w'

set_option maxRecDepth 100000 in
set_option maxHeartbeats 4000000 in
/-- audit.parts -/
theorem cparts_calls {Q Q' : Nat → Prop} {w : World} {u v : Value} {c : DConf} {l : List DPart} (hu : rConf.val Q w u c) (hx : rPart.list.val Q' w v l) (hl : l.length ≤ 1000) :
    Calls Tryz.prog 19 #[u, v] w (MayEnd w (partsE c l)) := by
  obtain ⟨A, cap, rfl, _, _, _, _, _, _, _⟩ := rConf_val hu
  obtain ⟨Al, cl, rfl, hc1, hc2, hA⟩ := Rep.val_list hx
  have HU := Lib.hid hu
  have HA := Lib.hid hA
  unfold maxLen at hc2
  clear hu hx hA
  obtain ⟨W0, hW0⟩ : ∃ W, (w.alloc (.cells #[.int .i64 c.log, .int .i64 c.pages, .int .i64 c.entities, .int .i64 c.gens, .slice A c.comps.length cap] 24)) = W := ⟨_, rfl⟩
  have hz0 : W0.heap.size = w.heap.size + 1 := by rw [← hW0]; simp
  have hb0 : Below w.heap.size w W0 := by rw [← hW0]; exact (Below.refl _ _).alloc (Nat.le_refl _) _
  have HZ := Lib.hid hz0
  have HB0 := Lib.hid hb0
  have R0_0 := Lib.hid (show W0.heap[w.heap.size]? = some (.cells #[.int .i64 c.log, .int .i64 c.pages, .int .i64 c.entities, .int .i64 c.gens, .slice A c.comps.length cap] 24 (0, 0)) by rw [← hW0]; exact alloc_at rfl)
  have O0 := Lib.hid (Only.refl (Box w 1) W0)
  have HVC := Lib.hid (show ∀ V, Below W0.heap.size W0 V → rConf.val (fun b => Q b ∧ b < w.heap.size) V (.agg #[.int .i64 c.log, .int .i64 c.pages, .int .i64 c.entities, .int .i64 c.gens, .slice A c.comps.length cap]) c from fun V hv => Rep.val_keep (fun b hq hl => ⟨⟨hq, hl.lt⟩, (hv.block b (by have := hl.lt; omega)).trans (hb0.block b hl.lt)⟩) HU.out)
  have HVP := Lib.hid (show ∀ V, Below W0.heap.size W0 V → rPart.At (fun b => Q' b ∧ b < w.heap.size) V Al l from fun V hv => Rep.At.keep (fun b hq hl => ⟨⟨hq, hl.lt⟩, (hv.block b (by have := hl.lt; omega)).trans (hb0.block b hl.lt)⟩) HA.out)
  clear hz0 hb0
  obtain ⟨q0_0, z0_0, q0_1, z0_1, q0_2, z0_2, q0_3, z0_3, q0_4, z0_4⟩ := rw5 R0_0.out
  go_enter Tryz.func19, Tryz.ntmps19
  go_wp2_with fail
  try rw [hW0]
  clear hW0
  try go_wp2_with fail
  clear q0_0 z0_0 q0_1 z0_1 q0_2 z0_2 q0_3 z0_3 q0_4 z0_4
  go_loopw [10] (fun i wr => ∃ j : Nat, i = .int .i64 j ∧ j ≤ l.length ∧ Hid (firstE (partE c l) j = 0) ∧ Hid (Below W0.heap.size W0 wr)) (fun i _ => l.length - (intOf i).toNat)
  case atStart => exact ⟨0, rfl, Nat.zero_le _, Lib.hid rfl, Lib.hid (Below.refl _ _)⟩
  case round =>
    obtain ⟨j, rfl, hj, HFZ, HBR⟩ := hrel
    have S1 := Lib.hid (show Only (Box w 1) W0 wr from Only.of_below HBR.out)
    have O1 := Lib.hid (O0.out.trans S1.out)
    have R0_1 := Lib.hid (row_call HBR.out R0_0.out)
    by_cases hlt : (j : Int) < l.length
    · obtain ⟨x, hxx⟩ : ∃ x, l[j]? = some x := ⟨_, List.getElem?_eq_getElem (by omega)⟩
      obtain ⟨b, off, Ad, cd, rfl, _, d0, d1, _, sd⟩ := rPart_at (HVP.out _ HBR.out) hxx
      have HXX := Lib.hid hxx
      have HVQ := Lib.hid (show ∀ V, Below W0.heap.size W0 V → ∀ y (k : Nat), l[k]? = some y → World.cell? V ⟨b, off + k * 2, none⟩ = some (.int .i64 y.comp) from fun V hv y k hy => by
        obtain ⟨b2, off2, _, _, he2, _, e0, _⟩ := rPart_at (HVP.out V hv) hy
        obtain ⟨rfl, rfl⟩ : b = b2 ∧ off = off2 := by simpa using he2
        exact e0)
      have s1 := sd.1
      have s2 := sd.2.1
      unfold maxLen at s2
      clear hxx sd
      have k1 : (wr.alloc (.cells #[.int .i64 x.comp, .slice Ad x.data.length cd] 46)).heap[w.heap.size]? = some (.cells #[.int .i64 c.log, .int .i64 c.pages, .int .i64 c.entities, .int .i64 c.gens, .slice A c.comps.length cap] 24 (0, 0)) := alloc_old (R0_1.out)
      obtain ⟨k1_0, l1_0, k1_1, l1_1, k1_2, l1_2, k1_3, l1_3, k1_4, l1_4⟩ := rw5 k1
      clear k1
      have k2 : (wr.alloc (.cells #[.int .i64 x.comp, .slice Ad x.data.length cd] 46)).heap[wr.heap.size]? = some (.cells #[.int .i64 x.comp, .slice Ad x.data.length cd] 46 (0, 0)) := alloc_at rfl
      obtain ⟨k2_0, l2_0, k2_1, l2_1⟩ := rw2 k2
      clear k2
      obtain ⟨q0_0, z0_0, q0_1, z0_1, q0_2, z0_2, q0_3, z0_3, q0_4, z0_4⟩ := rw5 R0_1.out
      go_wp2_with fail
      clear k1_0 l1_0 k1_1 l1_1 k1_2 l1_2 k1_3 l1_3 k1_4 l1_4 k2_0 l2_0 k2_1 l2_1 q0_0 z0_0 q0_1 z0_1 q0_2 z0_2 q0_3 z0_3 q0_4 z0_4
      refine nm_calls (fun w2 hnm => ?_)
      have HF1 := Lib.hid (show w.heap.size + 1 ≤ wr.heap.size by have := O1.out.size; have := HZ.out; omega)
      have S2 := Lib.hid (show Only (Box w 1) wr w2 from (by rw [hnm]; exact (Only.refl (Box w 1) wr).alloc _))
      have O2 := Lib.hid (O1.out.trans S2.out)
      have R0_2 := Lib.hid (row_nm hnm (alloc_old (R0_1.out)))
      have Rwr_heap_size_2 := Lib.hid (show w2.heap[wr.heap.size]? = some (.cells #[.int .i64 x.comp, .slice Ad x.data.length cd] 46 (0, 0)) from (by rw [hnm]; exact alloc_at rfl))
      have HB2 := Lib.hid (show Below W0.heap.size W0 w2 by rw [hnm]; exact HBR.out.trans (((Below.refl _ _).alloc (Nat.le_refl _) _).mono HBR.out.size))
      clear hnm
      refine (csize_calls (k := x.comp) (HVC.out _ HB2.out)).mono ?_
      rintro e w3 ⟨rfl, hb⟩
      have HB3 := Lib.hid (HB2.out.trans (hb.mono HB2.out.size))
      have S3 := Lib.hid (show Only (Box w 1) w2 w3 from Only.of_below hb)
      have O3 := Lib.hid (O2.out.trans S3.out)
      have R0_3 := Lib.hid (row_call hb R0_2.out)
      have Rwr_heap_size_3 := Lib.hid (row_call hb Rwr_heap_size_2.out)
      clear hb
      cases hcs : compSize c x.comp with
      | none =>
        have HE := Lib.hid (show partsE c l = 6 from firstE_stop (by rw [firstE_next HFZ.out, partE_none HXX.out hcs]) (by decide) l.length (by omega))
        clear hcs
        dsimp only [Option.getD_none, Option.isSome_none]
        obtain ⟨q0_0, z0_0, q0_1, z0_1, q0_2, z0_2, q0_3, z0_3, q0_4, z0_4⟩ := rw5 R0_3.out
        obtain ⟨qn0_0, zn0_0, qn0_1, zn0_1⟩ := rw2 Rwr_heap_size_3.out
        go_wp2_with fail
        clear q0_0 z0_0 q0_1 z0_1 q0_2 z0_2 q0_3 z0_3 q0_4 z0_4 qn0_0 zn0_0 qn0_1 zn0_1
        refine wp_region_held_drew (S := fun W => Below w3.heap.size w3 W) (by kernel_rfl) ((Below.refl _ _).drew) (fun s0 => ?_)
        obtain ⟨v1, hv0⟩ : ∃ V, V = w3.drew := ⟨_, rfl⟩
        rw [← hv0] at s0 ⊢
        have t1 : Below w3.heap.size w3 v1 := s0
        clear hv0 s0
        refine tkHV (i := 0) (v := .bool false) rfl t1 ?_
        go_simp
        refine tkHV (i := 1) (v := .bool false) rfl t1 ?_
        go_simp
        refine tkH (i := 2) (v := undef) rfl (Or.inr ⟨by rfl, rfl⟩) t1 ?_
        go_simp
        refine tkH (i := 3) (v := undef) rfl (Or.inr ⟨by rfl, rfl⟩) t1 ?_
        go_simp
        refine tkH (i := 4) (v := undef) rfl (Or.inr ⟨by rfl, rfl⟩) t1 ?_
        go_simp
        refine tkH (i := 5) (v := undef) rfl (Or.inr ⟨by rfl, rfl⟩) t1 ?_
        go_simp
        refine tkH (i := 6) (v := undef) rfl (Or.inr ⟨by rfl, rfl⟩) t1 ?_
        go_simp
        refine tkH (i := 7) (v := undef) rfl (Or.inr ⟨by rfl, rfl⟩) t1 ?_
        go_simp
        refine tkH (i := 8) (v := undef) rfl (Or.inr ⟨by rfl, rfl⟩) t1 ?_
        go_simp
        refine tkH (i := 9) (v := undef) rfl (Or.inr ⟨by rfl, rfl⟩) t1 ?_
        go_simp
        refine tkH (i := 10) (v := undef) rfl (Or.inr ⟨by rfl, rfl⟩) t1 ?_
        go_simp
        refine tkH (i := 11) (v := undef) rfl (Or.inr ⟨by rfl, rfl⟩) t1 ?_
        go_simp
        refine tkH (i := 12) (v := undef) rfl (Or.inr ⟨by rfl, rfl⟩) t1 ?_
        go_simp
        refine tkH (i := 13) (v := undef) rfl (Or.inr ⟨by rfl, rfl⟩) t1 ?_
        go_simp
        refine tkH (i := 14) (v := undef) rfl (Or.inr ⟨by rfl, rfl⟩) t1 ?_
        go_simp
        refine tkHV (i := 15) (v := .bool false) rfl t1 ?_
        go_simp
        refine wpAnyH_all (rs := [16]) (by kernel_rfl) (by simp) ?_
        intro i hi
        obtain rfl : i = 16 := by simpa using hi
        clear hi
        refine wpOp_step rfl (fun K hK => ?_)
        go_simp
        refine (must_no _ _).mono ?_
        rintro e v2 ⟨rfl, hw⟩
        have hb : Below v1.heap.size v1 v2 := by rw [hw]; exact Below.refl _ _
        clear hw
        have HBE := Lib.hid (show Below W0.heap.size W0 v2 from HB3.out.trans ((Below.trans t1 (hb.mono (Below.size t1))).mono HB3.out.size))
        have HM : MayEnd w (partsE c l) (.panicked (errPanic 6)) v2 := by rw [HE.out]; exact ⟨.inr ⟨by decide, rfl⟩, (Only.fin HB0.out O0.out).trans (HBE.out.mono (Only.fin HB0.out O0.out).size)⟩
        exact ⟨rfl, HM⟩
      | some n =>
        dsimp only [Option.getD_some, Option.isSome_some]
        have HCS := Lib.hid hcs
        clear hcs
        obtain ⟨q0_0, z0_0, q0_1, z0_1, q0_2, z0_2, q0_3, z0_3, q0_4, z0_4⟩ := rw5 R0_3.out
        obtain ⟨qn0_0, zn0_0, qn0_1, zn0_1⟩ := rw2 Rwr_heap_size_3.out
        go_wp2_with fail
        clear q0_0 z0_0 q0_1 z0_1 q0_2 z0_2 q0_3 z0_3 q0_4 z0_4 qn0_0 zn0_0 qn0_1 zn0_1
        rcases j with _ | m
        · skip
          have HPR := Lib.hid (show ¬ (0 < 0 ∧ x.comp ≤ (l.map (·.comp)).getD (0 - 1) 0) from fun h => absurd h.1 (by decide))
          refine wp_region_held_drew (S := fun W => Below w3.heap.size w3 W) (by kernel_rfl) ((Below.refl _ _).drew) (fun s0 => ?_)
          obtain ⟨v1, hv0⟩ : ∃ V, V = w3.drew := ⟨_, rfl⟩
          rw [← hv0] at s0 ⊢
          have t1 : Below w3.heap.size w3 v1 := s0
          clear hv0 s0
          refine tkHV (i := 0) (v := .bool true) rfl t1 ?_
          go_simp
          refine tkHV (i := 1) (v := .bool true) rfl t1 ?_
          go_simp
          refine tkHV (i := 2) (v := .int .i64 0) rfl t1 ?_
          go_simp
          refine tkHV (i := 3) (v := .bool true) rfl t1 ?_
          go_simp
          refine tkHV (i := 4) (v := .bool true) rfl t1 ?_
          go_simp
          refine tkH (i := 5) (v := undef) rfl (Or.inr ⟨by rfl, rfl⟩) t1 ?_
          go_simp
          refine tkH (i := 6) (v := undef) rfl (Or.inr ⟨by rfl, rfl⟩) t1 ?_
          go_simp
          refine tkH (i := 7) (v := undef) rfl (Or.inr ⟨by rfl, rfl⟩) t1 ?_
          go_simp
          refine tkH (i := 8) (v := undef) rfl (Or.inr ⟨by rfl, rfl⟩) t1 ?_
          go_simp
          refine tkH (i := 9) (v := undef) rfl (Or.inr ⟨by rfl, rfl⟩) t1 ?_
          go_simp
          refine tkH (i := 10) (v := undef) rfl (Or.inr ⟨by rfl, rfl⟩) t1 ?_
          go_simp
          refine tkH (i := 11) (v := undef) rfl (Or.inr ⟨by rfl, rfl⟩) t1 ?_
          go_simp
          refine tkH (i := 12) (v := undef) rfl (Or.inr ⟨by rfl, rfl⟩) t1 ?_
          go_simp
          refine tkH (i := 13) (v := undef) rfl (Or.inr ⟨by rfl, rfl⟩) t1 ?_
          go_simp
          refine tkHV (i := 14) (v := .bool true) rfl t1 ?_
          go_simp
          refine tkHV (i := 15) (v := .bool true) rfl t1 ?_
          go_simp
          refine wpAnyH_all (rs := [16]) (by kernel_rfl) (by simp) ?_
          intro i hi
          obtain rfl : i = 16 := by simpa using hi
          clear hi
          refine wpOp_step rfl (fun K hK => ?_)
          go_simp
          refine (must_yes _ _).mono ?_
          rintro e v2 ⟨rfl, hw⟩
          have hb : Below v1.heap.size v1 v2 := by rw [hw]; exact Below.refl _ _
          clear hw
          have t2 : Below w3.heap.size w3 v2 := Below.trans t1 (hb.mono (Below.size t1))
          refine hK _ _ ⟨t2, ?_⟩
          clear hb
          clear hK K
          refine wpAnyH_done (by kernel_rfl) ?_ _
          have S4 := Lib.hid (show Only (Box w 1) w3 v2 from Only.of_below t2)
          have O4 := Lib.hid (O3.out.trans S4.out)
          have R0_4 := Lib.hid (row_call t2 R0_3.out)
          have Rwr_heap_size_4 := Lib.hid (row_call t2 Rwr_heap_size_3.out)
          have HBV := Lib.hid (show Below W0.heap.size W0 v2 from HB3.out.trans ((show Below w3.heap.size w3 v2 from t2).mono HB3.out.size))
          by_cases hn : n = (x.data.length : Int)
          · skip
            have hn2 : ((x.data.length : Int) == n) = true := by simp [hn]
            have HE := Lib.hid (show firstE (partE c l) (0 + 1) = 0 by rw [firstE_next HFZ.out, partE_size HXX.out HCS.out HPR.out, if_pos hn])
            clear hn
            obtain ⟨q0_0, z0_0, q0_1, z0_1, q0_2, z0_2, q0_3, z0_3, q0_4, z0_4⟩ := rw5 R0_4.out
            obtain ⟨qn0_0, zn0_0, qn0_1, zn0_1⟩ := rw2 Rwr_heap_size_4.out
            go_wp2_with fail
            clear q0_0 z0_0 q0_1 z0_1 q0_2 z0_2 q0_3 z0_3 q0_4 z0_4 qn0_0 zn0_0 qn0_1 zn0_1
            refine (must_yes _ _).mono ?_
            rintro e w8 ⟨rfl, hw⟩
            obtain rfl := hw.symm
            have iw : IntKind.i64.wrap ((0 : Int) + 1) = (0 : Int) + 1 := IntWalk.i64_in _ ⟨by omega, by omega⟩
            go_wp2_with fail
            exact ⟨⟨0 + 1, by go_num, by omega, HE, HBV⟩, by simp [intOf]; omega⟩
          · skip
            have hn2 : ((x.data.length : Int) == n) = false := by simp; exact fun h => hn h.symm
            have HE := Lib.hid (show partsE c l = 7 from firstE_stop (by rw [firstE_next HFZ.out, partE_size HXX.out HCS.out HPR.out, if_neg hn]) (by decide) l.length (by omega))
            clear hn
            obtain ⟨q0_0, z0_0, q0_1, z0_1, q0_2, z0_2, q0_3, z0_3, q0_4, z0_4⟩ := rw5 R0_4.out
            obtain ⟨qn0_0, zn0_0, qn0_1, zn0_1⟩ := rw2 Rwr_heap_size_4.out
            go_wp2_with fail
            clear q0_0 z0_0 q0_1 z0_1 q0_2 z0_2 q0_3 z0_3 q0_4 z0_4 qn0_0 zn0_0 qn0_1 zn0_1
            refine (must_no _ _).mono ?_
            rintro e w8 ⟨rfl, hw⟩
            obtain rfl := hw.symm
            have HM : MayEnd w (partsE c l) (.panicked (errPanic 7)) v2 := by rw [HE.out]; exact ⟨.inr ⟨by decide, rfl⟩, (Only.fin HB0.out O0.out).trans (HBV.out.mono (Only.fin HB0.out O0.out).size)⟩
            exact ⟨rfl, HM⟩
        · skip
          obtain ⟨y, hy⟩ : ∃ y, l[m]? = some y := ⟨_, List.getElem?_eq_getElem (by omega)⟩
          have HYY := Lib.hid hy
          have HPC := Lib.hid (prev_comp hy)
          have iw3 : IntKind.i64.wrap ((m : Int) + 1 - 1) = (m : Int) := by rw [show (m : Int) + 1 - 1 = (m : Int) by omega]; exact IntWalk.i64_in _ ⟨by omega, by omega⟩
          have iw4 : IntKind.i64.wrap (m : Int) = (m : Int) := IntWalk.i64_in _ ⟨by omega, by omega⟩
          have hmp1 : (m : Int) + 1 < l.length := by omega
          have hmp2 : (m : Int) < l.length := by omega
          have hmne : ((m : Int) + 1 == 0) = false := by rw [beq_eq_false_iff_ne]; omega
          clear hy
          by_cases hyx : y.comp < x.comp
          · skip
            have HPR := Lib.hid (show ¬ (0 < m + 1 ∧ x.comp ≤ (l.map (·.comp)).getD (m + 1 - 1) 0) from fun h => by have := h.2; rw [HPC.out] at this; omega)
            refine wp_region_held_drew (S := fun W => Below w3.heap.size w3 W) (by kernel_rfl) ((Below.refl _ _).drew) (fun s0 => ?_)
            obtain ⟨v1, hv0⟩ : ∃ V, V = w3.drew := ⟨_, rfl⟩
            rw [← hv0] at s0 ⊢
            have t1 : Below w3.heap.size w3 v1 := s0
            clear hv0 s0
            refine tkHV (i := 0) (v := .bool true) rfl t1 ?_
            go_simp
            refine tkHV (i := 1) (v := .bool true) rfl t1 ?_
            go_simp
            refine tkHV (i := 2) (v := .int .i64 (m + 1)) rfl t1 ?_
            go_simp
            refine tkHV (i := 3) (v := .bool false) rfl t1 ?_
            go_simp
            refine tkHV (i := 4) (v := .bool false) rfl t1 ?_
            go_simp
            refine tkHV (i := 5) (v := .slice (some ⟨b, off, none⟩) l.length cl) rfl t1 ?_
            go_simp
            refine tkHV (i := 6) (v := .int .i64 (m + 1)) rfl t1 ?_
            go_simp
            refine tkHV (i := 7) (v := .int .i64 m) rfl t1 ?_
            go_simp
            refine tkHV (i := 8) (v := .pointer (some ⟨b, off + m * 2, none⟩)) rfl t1 ?_
            go_simp
            refine tkHV (i := 9) (v := .pointer (some ⟨b, off + m * 2, none⟩)) rfl t1 ?_
            go_simp
            refine tkH (i := 10) (v := .int .i64 y.comp) rfl (Or.inl ⟨by rfl, fun w' h => by have e := HVQ.out w' (HB3.out.trans ((h : Below w3.heap.size w3 w').mono HB3.out.size)) _ _ HYY.out; go_simp⟩) t1 ?_
            go_simp
            refine tkHV (i := 11) (v := .pointer (some ⟨wr.heap.size, 0, none⟩)) rfl t1 ?_
            go_simp
            refine tkH (i := 12) (v := .int .i64 x.comp) rfl (Or.inl ⟨by rfl, fun w' h => by have e := row_call (h : Below w3.heap.size w3 w') Rwr_heap_size_3.out; have e0 := cell_row e 0; have e1 := cell_row e 1; go_simp⟩) t1 ?_
            go_simp
            refine tkHV (i := 13) (v := .bool true) rfl t1 ?_
            go_simp
            refine tkHV (i := 14) (v := .bool true) rfl t1 ?_
            go_simp
            refine tkHV (i := 15) (v := .bool true) rfl t1 ?_
            go_simp
            refine wpAnyH_all (rs := [16]) (by kernel_rfl) (by simp) ?_
            intro i hi
            obtain rfl : i = 16 := by simpa using hi
            clear hi
            refine wpOp_step rfl (fun K hK => ?_)
            go_simp
            refine (must_yes _ _).mono ?_
            rintro e v2 ⟨rfl, hw⟩
            have hb : Below v1.heap.size v1 v2 := by rw [hw]; exact Below.refl _ _
            clear hw
            have t2 : Below w3.heap.size w3 v2 := Below.trans t1 (hb.mono (Below.size t1))
            refine hK _ _ ⟨t2, ?_⟩
            clear hb
            clear hK K
            refine wpAnyH_done (by kernel_rfl) ?_ _
            have S4 := Lib.hid (show Only (Box w 1) w3 v2 from Only.of_below t2)
            have O4 := Lib.hid (O3.out.trans S4.out)
            have R0_4 := Lib.hid (row_call t2 R0_3.out)
            have Rwr_heap_size_4 := Lib.hid (row_call t2 Rwr_heap_size_3.out)
            have HBV := Lib.hid (show Below W0.heap.size W0 v2 from HB3.out.trans ((show Below w3.heap.size w3 v2 from t2).mono HB3.out.size))
            by_cases hn : n = (x.data.length : Int)
            · skip
              have hn2 : ((x.data.length : Int) == n) = true := by simp [hn]
              have HE := Lib.hid (show firstE (partE c l) ((m + 1) + 1) = 0 by rw [firstE_next HFZ.out, partE_size HXX.out HCS.out HPR.out, if_pos hn])
              clear hn
              obtain ⟨q0_0, z0_0, q0_1, z0_1, q0_2, z0_2, q0_3, z0_3, q0_4, z0_4⟩ := rw5 R0_4.out
              obtain ⟨qn0_0, zn0_0, qn0_1, zn0_1⟩ := rw2 Rwr_heap_size_4.out
              go_wp2_with fail
              clear q0_0 z0_0 q0_1 z0_1 q0_2 z0_2 q0_3 z0_3 q0_4 z0_4 qn0_0 zn0_0 qn0_1 zn0_1
              refine (must_yes _ _).mono ?_
              rintro e w8 ⟨rfl, hw⟩
              obtain rfl := hw.symm
              have iw : IntKind.i64.wrap (((m : Int) + 1) + 1) = ((m : Int) + 1) + 1 := IntWalk.i64_in _ ⟨by omega, by omega⟩
              go_wp2_with fail
              exact ⟨⟨(m + 1) + 1, by go_num, by omega, HE, HBV⟩, by simp [intOf]; omega⟩
            · skip
              have hn2 : ((x.data.length : Int) == n) = false := by simp; exact fun h => hn h.symm
              have HE := Lib.hid (show partsE c l = 7 from firstE_stop (by rw [firstE_next HFZ.out, partE_size HXX.out HCS.out HPR.out, if_neg hn]) (by decide) l.length (by omega))
              clear hn
              obtain ⟨q0_0, z0_0, q0_1, z0_1, q0_2, z0_2, q0_3, z0_3, q0_4, z0_4⟩ := rw5 R0_4.out
              obtain ⟨qn0_0, zn0_0, qn0_1, zn0_1⟩ := rw2 Rwr_heap_size_4.out
              go_wp2_with fail
              clear q0_0 z0_0 q0_1 z0_1 q0_2 z0_2 q0_3 z0_3 q0_4 z0_4 qn0_0 zn0_0 qn0_1 zn0_1
              refine (must_no _ _).mono ?_
              rintro e w8 ⟨rfl, hw⟩
              obtain rfl := hw.symm
              have HM : MayEnd w (partsE c l) (.panicked (errPanic 7)) v2 := by rw [HE.out]; exact ⟨.inr ⟨by decide, rfl⟩, (Only.fin HB0.out O0.out).trans (HBV.out.mono (Only.fin HB0.out O0.out).size)⟩
              exact ⟨rfl, HM⟩
          · skip
            have HE := Lib.hid (show partsE c l = 6 from firstE_stop (by rw [firstE_next HFZ.out, partE_low HXX.out HCS.out ⟨by omega, by rw [HPC.out]; omega⟩]) (by decide) l.length (by omega))
            refine wp_region_held_drew (S := fun W => Below w3.heap.size w3 W) (by kernel_rfl) ((Below.refl _ _).drew) (fun s0 => ?_)
            obtain ⟨v1, hv0⟩ : ∃ V, V = w3.drew := ⟨_, rfl⟩
            rw [← hv0] at s0 ⊢
            have t1 : Below w3.heap.size w3 v1 := s0
            clear hv0 s0
            refine tkHV (i := 0) (v := .bool true) rfl t1 ?_
            go_simp
            refine tkHV (i := 1) (v := .bool true) rfl t1 ?_
            go_simp
            refine tkHV (i := 2) (v := .int .i64 (m + 1)) rfl t1 ?_
            go_simp
            refine tkHV (i := 3) (v := .bool false) rfl t1 ?_
            go_simp
            refine tkHV (i := 4) (v := .bool false) rfl t1 ?_
            go_simp
            refine tkHV (i := 5) (v := .slice (some ⟨b, off, none⟩) l.length cl) rfl t1 ?_
            go_simp
            refine tkHV (i := 6) (v := .int .i64 (m + 1)) rfl t1 ?_
            go_simp
            refine tkHV (i := 7) (v := .int .i64 m) rfl t1 ?_
            go_simp
            refine tkHV (i := 8) (v := .pointer (some ⟨b, off + m * 2, none⟩)) rfl t1 ?_
            go_simp
            refine tkHV (i := 9) (v := .pointer (some ⟨b, off + m * 2, none⟩)) rfl t1 ?_
            go_simp
            refine tkH (i := 10) (v := .int .i64 y.comp) rfl (Or.inl ⟨by rfl, fun w' h => by have e := HVQ.out w' (HB3.out.trans ((h : Below w3.heap.size w3 w').mono HB3.out.size)) _ _ HYY.out; go_simp⟩) t1 ?_
            go_simp
            refine tkHV (i := 11) (v := .pointer (some ⟨wr.heap.size, 0, none⟩)) rfl t1 ?_
            go_simp
            refine tkH (i := 12) (v := .int .i64 x.comp) rfl (Or.inl ⟨by rfl, fun w' h => by have e := row_call (h : Below w3.heap.size w3 w') Rwr_heap_size_3.out; have e0 := cell_row e 0; have e1 := cell_row e 1; go_simp⟩) t1 ?_
            go_simp
            refine tkHV (i := 13) (v := .bool false) rfl t1 ?_
            go_simp
            refine tkHV (i := 14) (v := .bool false) rfl t1 ?_
            go_simp
            refine tkHV (i := 15) (v := .bool false) rfl t1 ?_
            go_simp
            refine wpAnyH_all (rs := [16]) (by kernel_rfl) (by simp) ?_
            intro i hi
            obtain rfl : i = 16 := by simpa using hi
            clear hi
            refine wpOp_step rfl (fun K hK => ?_)
            go_simp
            refine (must_no _ _).mono ?_
            rintro e v2 ⟨rfl, hw⟩
            have hb : Below v1.heap.size v1 v2 := by rw [hw]; exact Below.refl _ _
            clear hw
            have HBE := Lib.hid (show Below W0.heap.size W0 v2 from HB3.out.trans ((Below.trans t1 (hb.mono (Below.size t1))).mono HB3.out.size))
            have HM : MayEnd w (partsE c l) (.panicked (errPanic 6)) v2 := by rw [HE.out]; exact ⟨.inr ⟨by decide, rfl⟩, (Only.fin HB0.out O0.out).trans (HBE.out.mono (Only.fin HB0.out O0.out).size)⟩
            exact ⟨rfl, HM⟩
    · obtain rfl : j = l.length := by omega
      obtain ⟨q0_0, z0_0, q0_1, z0_1, q0_2, z0_2, q0_3, z0_3, q0_4, z0_4⟩ := rw5 R0_1.out
      go_wp2_with fail
      go_end0
      exact ⟨.inl ⟨HFZ.out, rfl⟩, (Only.fin HB0.out O0.out).trans (HBR.out.mono (Only.fin HB0.out O0.out).size)⟩
end Go.Proofs.YthkepjhfeeohdaaGreatDoor
namespace Go.Proofs.YthkepjhfeeohdaaGreatDoor
open Go.RowKit

/-- What the arguments read. -/
def Lo (Q : Nat → Prop) (w : World) (b : Nat) : Prop := Q b ∧ b < w.heap.size
section
variable {α : Type} {r : Rep α} {e base : Nat} {Q : Nat → Prop} {w W W' : World} {v : Value} {xs : List α}
theorem val_lo {x : α} (h : r.val Q w v x) (hb : Below w.heap.size w W) : r.val (Lo Q w) W v x :=
  Rep.val_keep (fun b hq hl => ⟨⟨hq, hl.lt⟩, hb.block b hl.lt⟩) h
theorem val_lo_later {x : α} (h : r.val (Lo Q w) W v x) (hb : Below W.heap.size W W') : r.val (Lo Q w) W' v x :=
  Rep.val_keep (fun _ hq hl => ⟨hq, hb.block _ hl.lt⟩) h
end
end Go.Proofs.YthkepjhfeeohdaaGreatDoor
namespace Go.Proofs.YthkepjhfeeohdaaGreatDoor
open Go.RowKit

@[ext] structure DSlot where
  gen : Int
  alive : Bool
  deriving DecidableEq

def rSlot : Rep DSlot := ((Rep.int .i64).pair Rep.bool).iso fun x => (x.gen, x.alive)
theorem rSlot_size : rSlot.size = 2 := rfl
theorem rSlot_open {Q : Nat → Prop} {w : World} {cs : List Value} {x : DSlot} (h : rSlot.rd Q w cs x) : cs = [.int .i64 x.gen, .bool x.alive] ∧ (Lit.int .i64 x.gen).wf = true := by
  obtain ⟨a0, b0, rfl, h0, g0⟩ := h
  obtain ⟨e0, w0⟩ := h0
  subst e0
  have e1 := g0
  subst e1
  exact ⟨rfl, w0⟩
theorem rSlot_mk {Q : Nat → Prop} {w : World} {x : DSlot}  (f0 : (Lit.int .i64 x.gen).wf = true) : rSlot.rd Q w [.int .i64 x.gen, .bool x.alive] x := by
  exact ⟨_, _, rfl, ⟨rfl, f0⟩, rfl⟩
theorem rSlot_at {Q : Nat → Prop} {w : World} {A : Option Addr} {xs : List DSlot} (h : rSlot.At Q w A xs) {i : Nat} {x : DSlot} (hx : xs[i]? = some x) :
    ∃ (b off : Nat), A = some ⟨b, off, none⟩ ∧ IsC w b ∧ w.cell? ⟨b, off + i * 2, none⟩ = some (.int .i64 x.gen) ∧ w.cell? ⟨b, off + i * 2 + 1, none⟩ = some (.bool x.alive) ∧ (Lit.int .i64 x.gen).wf = true := by
  obtain ⟨b, off, es, h1, _, h2, h3, h4⟩ := h.get hx
  obtain ⟨e, f0⟩ := rSlot_open h3
  subst e
  rw [rSlot_size] at h4
  exact ⟨b, off, h1, h2, h4 0 _ rfl, h4 1 _ rfl, f0⟩
theorem rSlot_agg {Q : Nat → Prop} {w : World} {x : DSlot}  (f0 : (Lit.int .i64 x.gen).wf = true) : rSlot.val Q w (.agg #[.int .i64 x.gen, .bool x.alive]) x := ⟨_, rfl, rSlot_mk f0⟩

/-- The slots of names, where so many of the free ones are told already. -/
def slotsS (c : DConf) (s : DState) (j : Nat) : List DSlot := (List.range s.gens.length).map fun i => ⟨s.gens.getD i 0, decide (s.gens.getD i 0 < c.gens) && decide ((i : Int) ∉ s.free.take j)⟩
theorem slotsS_len (c : DConf) (s : DState) (j : Nat) : (slotsS c s j).length = s.gens.length := by simp [slotsS]
theorem slotsS_at {c : DConf} {s : DState} {j i : Nat} (h : i < s.gens.length) : (slotsS c s j)[i]? = some ⟨s.gens.getD i 0, decide (s.gens.getD i 0 < c.gens) && decide ((i : Int) ∉ s.free.take j)⟩ := by
  unfold slotsS
  rw [List.getElem?_map, List.getElem?_range h]
  rfl
theorem slotsS_next {c : DConf} {s : DState} {j k : Nat} (hj : s.free[j]? = some (k : Int)) (hk : k < s.gens.length) : (slotsS c s j).set k ⟨s.gens.getD k 0, false⟩ = slotsS c s (j + 1) := by
  apply List.ext_getElem?
  intro i
  rw [List.getElem?_set, slotsS_len]
  by_cases hi : i < s.gens.length
  · rw [slotsS_at hi, slotsS_at hi, List.take_add_one, hj]
    by_cases e : k = i
    · subst e; simp [hi]
    · have e2 : ¬ (i : Int) = (k : Int) := by omega
      simp [e, e2]
  · rw [List.getElem?_eq_none (by rw [slotsS_len]; omega)]
    by_cases e : k = i
    · subst e; exact absurd hk hi
    · rw [if_neg e, List.getElem?_eq_none (by rw [slotsS_len]; omega)]
theorem slotsS_all {c : DConf} {s : DState} {i : Nat} (h : i < s.gens.length) : (slotsS c s s.free.length)[i]? = some ⟨s.gens.getD i 0, aliveB c s (i : Nat)⟩ := by
  rw [slotsS_at h, List.take_length]
  unfold aliveB
  have h2 : (i : Int) < s.gens.length := by omega
  simp [h2, Bool.and_comm]
/-- A slot of the names' own is closed. -/
theorem acc_slot_off {e base : Nat} {Q : Nat → Prop} {w : World} {v : Value} {xs : List DSlot} {g i : Nat} {x : DSlot} (h : rSlot.acc e base Q w v xs) (hv : v.ownBlock = some g) (hx : xs[i]? = some x) :
    rSlot.acc e base Q (w.setCell ⟨g, i * 2 + 1, none⟩ (.bool false)) v (xs.set i ⟨x.gen, false⟩) := by
  have a := acc_cell (o := 1) (u := .bool false) (x' := ⟨x.gen, false⟩) h hv hx (by decide) (fun es he => by
    obtain ⟨rfl, f0⟩ := rSlot_open he
    exact rSlot_mk (x := ⟨x.gen, false⟩) f0)
  simpa [rSlot_size] using a
/-- A slot of the names' own, as0 it lies. -/
theorem slot_own {e base : Nat} {Q : Nat → Prop} {W : World} {v : Value} {xs : List DSlot} {k : Nat} {y : DSlot} (h : rSlot.acc e base Q W v xs) (hy : xs[k]? = some y) :
    ∃ g cap, v = .slice (some ⟨g, 0, none⟩) xs.length cap ∧ xs.length ≤ cap ∧ cap ≤ maxLen ∧ base ≤ g ∧ g < W.heap.size ∧ W.cell? ⟨g, k * 2, none⟩ = some (.int .i64 y.gen) ∧ W.cell? ⟨g, k * 2 + 1, none⟩ = some (.bool y.alive) ∧ W.frozen? ⟨g, k * 2 + 1, none⟩ = false := by
  have hp := (List.getElem?_eq_some_iff.1 hy).1
  have hr := Rep.acc_val h
  obtain ⟨A, c, hv, h1, h2⟩ := Rep.acc_form h
  obtain ⟨cells, q1, q2⟩ := h
  rcases q1.2 with ⟨rfl, h0⟩ | ⟨g, cap, cur, rfl, q3, q4, q5, q6, q7⟩
  · omega
  · have hg := (Array.getElem?_eq_some_iff.1 q4).1
    cases hv
    obtain ⟨b, off, he, _, e0, e1, _⟩ := rSlot_at (sl_of hr).2.2 hy
    obtain ⟨rfl, rfl⟩ : g = b ∧ 0 = off := by simpa using he
    rw [Nat.zero_add] at e0 e1
    exact ⟨g, c, rfl, h1, h2, q3, hg, e0, e1, frozen_row q4 _⟩
theorem free_len {l : List Int} {n : Nat} (h : ∀ (j : Nat) k, l[j]? = some k → 0 ≤ k ∧ k < n ∧ k ∉ l.take j) : l.length ≤ n := by
  refine nodup_length (List.pairwise_iff_getElem.2 fun i j hi hj hij e => ?_) (fun x hx => ?_) (fun x hx => ?_)
  · refine (h j _ (List.getElem?_eq_getElem hj)).2.2 ?_
    rw [← e]
    exact List.mem_take_iff_getElem.2 ⟨i, by omega, rfl⟩
  · obtain ⟨j, hj⟩ := List.getElem?_of_mem hx
    exact (h j x hj).1
  · obtain ⟨j, hj⟩ := List.getElem?_of_mem hx
    exact (h j x hj).2.1
end Go.Proofs.YthkepjhfeeohdaaGreatDoor
namespace Go.Proofs.YthkepjhfeeohdaaGreatDoor
open Go.RowKit

/-- ref06.Has -/
theorem has06_calls {Q : Nat → Prop} {w : World} {v : Value} {l : List Int} {n : Int} (hx : (Rep.int .i64).list.val Q w v l) :
    Calls Tryz.prog 43 #[v, .int .i64 n] w fun e w' => e = .returned (.bool (decide (n ∈ l))) ∧ w' = w := by
  obtain ⟨A, c, rfl, hc1, hc2, hA⟩ := Rep.val_list hx
  unfold maxLen at hc2
  have HA := Lib.hid hA
  clear hx hA
  go_enter Tryz.func43, Tryz.ntmps43
  go_wp2_with fail
  go_loop [5] (fun i => ∃ k : Nat, i = .int .i64 k ∧ k ≤ l.length ∧ Hid (n ∉ l.take k)) (fun i => l.length - (intOf i).toNat)
  case atStart => exact ⟨0, rfl, Nat.zero_le _, Lib.hid (by simp)⟩
  case round =>
    obtain ⟨k, rfl, hk, hn⟩ := hrel
    by_cases hlt : (k : Int) < l.length
    · have hk' : k < l.length := by omega
      obtain ⟨b, off, rfl, hcell, _⟩ := HA.out.int (List.getElem?_eq_getElem hk')
      have HT := Lib.hid (show l.take (k + 1) = l.take k ++ [l[k]] from List.take_succ_eq_append_getElem hk')
      have HM := Lib.hid (List.getElem_mem hk')
      generalize l[k] = x at *
      by_cases hx : x = n
      · have HF := Lib.hid (show decide (n ∈ l) = true from decide_eq_true (hx ▸ HM.out))
        have g : (x == n) = true := by simp [hx]
        clear hx
        go_wp2_with fail
        go_ret
        exact ⟨by first | rfl | (rw [HF.out]; rfl), rfl⟩
      · have HF := Lib.hid (show n ∉ l.take (k + 1) by rw [HT.out, List.mem_append]; intro h; rcases h with h | h; (· exact hn.out h); (· exact hx (List.mem_singleton.1 h).symm))
        have g : (x == n) = false := by simp [hx]
        clear hx
        go_wp2_with fail
        go_round
        case rel => exact ⟨k + 1, by go_num, by omega, Lib.hid HF.out⟩
        case measure => simp [intOf]; omega
    · have HF := Lib.hid (show decide (n ∈ l) = false from decide_eq_false (by have := hn.out; rwa [List.take_of_length_le (by omega)] at this))
      go_wp2_with fail
      go_ret
      exact ⟨by first | rfl | (rw [HF.out]; rfl), rfl⟩

end Go.Proofs.YthkepjhfeeohdaaGreatDoor
namespace Go.Proofs.YthkepjhfeeohdaaGreatDoor
open Go.RowKit

def idsOf (c : DConf) (s : DState) : DIds := ⟨c.entities, c.gens, s.gens, s.free⟩


/-- Who lives at an index. -/
def atI (x : DIds) (i : Int) : Option DID := if 0 ≤ i ∧ i ∉ x.free then match x.gens[i.toNat]? with
    | some g => if g < x.limit then some ⟨i, g⟩ else none
    | none => none
  else none
theorem atI_low {x : DIds} {i : Int} (h : i < 0) : atI x i = none := if_neg (fun h2 => by omega)
theorem atI_high {x : DIds} {i : Int} (h : (x.gens.length : Int) ≤ i) : atI x i = none := by
  unfold atI
  split
  · rw [List.getElem?_eq_none (by omega)]
  · rfl
theorem atI_free {x : DIds} {i : Int} (h : i ∈ x.free) : atI x i = none := if_neg (fun h2 => h2.2 h)
theorem atI_dead {x : DIds} {j : Nat} {g : Int} (h : x.gens[j]? = some g) (hg : x.limit ≤ g) : atI x j = none := by
  unfold atI
  split
  · rw [Int.toNat_natCast, h]; exact if_neg (by omega)
  · rfl
theorem atI_lives {x : DIds} {j : Nat} {g : Int} (h : x.gens[j]? = some g) (hf : (j : Int) ∉ x.free) (hg : g < x.limit) : atI x j = some ⟨j, g⟩ := by
  unfold atI
  rw [if_pos ⟨by omega, hf⟩, Int.toNat_natCast, h]; exact if_pos hg

set_option maxRecDepth 100000 in
set_option maxHeartbeats 1000000 in
/-- r06.At -/
theorem at_calls {Q : Nat → Prop} {w : World} {v : Value} {x : DIds} {i : Int} (hx : rIds.val Q w v x) :
    Calls Tryz.prog 25 #[v, .int .i64 i] w fun e w' => e = .returned (.tuple #[.agg #[.int .i64 ((atI x i).getD noID).index, .int .i64 ((atI x i).getD noID).gen], .bool (atI x i).isSome]) ∧ Below w.heap.size w w' := by
  obtain ⟨A1, c1, A2, c2, rfl, w0, w1, f1, f2⟩ := rIds_val hx
  have l1 := f1.2.1
  have l2 := f2.2.1
  have HG := Lib.hid f1
  have HF2 := Lib.hid f2
  unfold maxLen at l1 l2
  have hfr : Tryz.f25.results = #[.cell 4 40, .tmp 5] := rfl
  clear f1 f2 hx
  by_cases h0 : i < 0
  · have HE := Lib.hid (atI_low (x := x) h0)
    obtain ⟨W0, hW0⟩ : ∃ W, ((w.alloc (.cells #[.int .i64 x.entities, .int .i64 x.limit, .slice A1 x.gens.length c1, .slice A2 x.free.length c2] 61)).alloc (.cells #[.int .i64 0, .int .i64 0] 40)) = W := ⟨_, rfl⟩
    have hz0 : W0.heap.size = w.heap.size + 2 := by rw [← hW0]; simp
    have hb0 : Below w.heap.size w W0 := by rw [← hW0]; exact ((Below.refl _ _).alloc (Nat.le_refl _) _).alloc (by first | (simp; done) | (simp; omega)) _
    have HZ := Lib.hid hz0
    have HB0 := Lib.hid hb0
    have R0_0 := Lib.hid (show W0.heap[w.heap.size]? = some (.cells #[.int .i64 x.entities, .int .i64 x.limit, .slice A1 x.gens.length c1, .slice A2 x.free.length c2] 61 (0, 0)) by rw [← hW0]; exact alloc_old (alloc_at rfl))
    have R1_0 := Lib.hid (show W0.heap[w.heap.size + 1]? = some (.cells #[.int .i64 0, .int .i64 0] 40 (0, 0)) by rw [← hW0]; exact alloc_at (by simp))
    have O0 := Lib.hid (Only.refl (Box w 2) W0)
    have Ag_0 := Lib.hid (show (Rep.int .i64).At (In Q w 2) W0 A1 x.gens from at_in HG.out.2.2 hb0)
    have VF := Lib.hid (show ∀ V, Below W0.heap.size W0 V → (Rep.int .i64).list.val (fun _ => True) V (.slice A2 x.free.length c2) x.free from fun V hv => Rep.val_keep (fun b _ hl => ⟨trivial, (hb0.trans (hv.mono hb0.size)).block b hl.lt⟩) HF2.out.val)
    skip
    clear hz0 hb0
    obtain ⟨q0_0, z0_0, q0_1, z0_1, q0_2, z0_2, q0_3, z0_3⟩ := rw4 R0_0.out
    obtain ⟨q1_0, z1_0, q1_1, z1_1⟩ := rw2 R1_0.out
    go_enter Tryz.func25, Tryz.ntmps25
    go_wp2_with fail
    try rw [hW0]
    clear hW0
    try go_wp2_with fail
    clear q0_0 z0_0 q0_1 z0_1 q0_2 z0_2 q0_3 z0_3 q1_0 z1_0 q1_1 z1_1
    refine wp_region_held_drew (S := fun W => Below W0.heap.size W0 W) (by kernel_rfl) ((Below.refl _ _).drew) (fun s0 => ?_)
    obtain ⟨v1, hv0⟩ : ∃ V, V = W0.drew := ⟨_, rfl⟩
    rw [← hv0] at s0 ⊢
    have t1 : Below W0.heap.size W0 v1 := s0
    clear hv0 s0
    refine tkHV (i := 0) (v := .int .i64 i) rfl t1 ?_
    go_simp
    refine tkHV (i := 1) (v := .bool true) rfl t1 ?_
    go_simp
    refine tkHV (i := 2) (v := .bool true) rfl t1 ?_
    go_simp
    refine tkH (i := 3) (v := undef) rfl (Or.inr ⟨by rfl, rfl⟩) t1 ?_
    go_simp
    refine tkH (i := 4) (v := undef) rfl (Or.inr ⟨by rfl, rfl⟩) t1 ?_
    go_simp
    refine tkH (i := 5) (v := undef) rfl (Or.inr ⟨by rfl, rfl⟩) t1 ?_
    go_simp
    refine tkH (i := 6) (v := undef) rfl (Or.inr ⟨by rfl, rfl⟩) t1 ?_
    go_simp
    refine tkH (i := 7) (v := undef) rfl (Or.inr ⟨by rfl, rfl⟩) t1 ?_
    go_simp
    refine tkHV (i := 8) (v := .bool true) rfl t1 ?_
    go_simp
    refine tkHV (i := 9) (v := .bool true) rfl t1 ?_
    go_simp
    refine tkH (i := 10) (v := undef) rfl (Or.inr ⟨by rfl, rfl⟩) t1 ?_
    go_simp
    refine tkH (i := 11) (v := undef) rfl (Or.inr ⟨by rfl, rfl⟩) t1 ?_
    go_simp
    refine tkH (i := 12) (v := undef) rfl (Or.inr ⟨by rfl, rfl⟩) t1 ?_
    go_simp
    refine tkH (i := 13) (v := undef) rfl (Or.inr ⟨by rfl, rfl⟩) t1 ?_
    go_simp
    refine tkHV (i := 14) (v := .bool true) rfl t1 ?_
    go_simp
    refine tkHV (i := 15) (v := .bool true) rfl t1 ?_
    go_simp
    refine tkH (i := 16) (v := undef) rfl (Or.inr ⟨by rfl, rfl⟩) t1 ?_
    go_simp
    refine tkH (i := 17) (v := undef) rfl (Or.inr ⟨by rfl, rfl⟩) t1 ?_
    go_simp
    refine tkH (i := 18) (v := undef) rfl (Or.inr ⟨by rfl, rfl⟩) t1 ?_
    go_simp
    refine tkH (i := 19) (v := undef) rfl (Or.inr ⟨by rfl, rfl⟩) t1 ?_
    go_simp
    refine tkH (i := 20) (v := undef) rfl (Or.inr ⟨by rfl, rfl⟩) t1 ?_
    go_simp
    refine tkH (i := 21) (v := undef) rfl (Or.inr ⟨by rfl, rfl⟩) t1 ?_
    go_simp
    refine tkH (i := 22) (v := undef) rfl (Or.inr ⟨by rfl, rfl⟩) t1 ?_
    go_simp
    refine tkH (i := 23) (v := undef) rfl (Or.inr ⟨by rfl, rfl⟩) t1 ?_
    go_simp
    refine tkHV (i := 24) (v := .bool true) rfl t1 ?_
    go_simp
    refine wpAnyH_done (by kernel_rfl) ?_ _
    have S1 := Lib.hid (show Only (Box w 2) W0 v1 from Only.of_below t1)
    have O1 := Lib.hid (O0.out.trans S1.out)
    have R0_1 := Lib.hid (row_call t1 R0_0.out)
    have R1_1 := Lib.hid (row_call t1 R1_0.out)
    have Ag_1 := Lib.hid (at_only Ag_0.out S1.out)
    obtain ⟨q0_0, z0_0, q0_1, z0_1, q0_2, z0_2, q0_3, z0_3⟩ := rw4 R0_1.out
    obtain ⟨q1_0, z1_0, q1_1, z1_1⟩ := rw2 R1_1.out
    go_wp2_with fail
    clear q0_0 z0_0 q0_1 z0_1 q0_2 z0_2 q0_3 z0_3 q1_0 z1_0 q1_1 z1_1
    refine nm_post (fun wz hnm => ?_)
    have S2 := Lib.hid (show Only (Box w 2) v1 wz from (by rw [hnm]; exact ((Only.refl (Box w 2) v1).put ⟨by omega, by omega⟩).put ⟨by omega, by omega⟩))
    have O2 := Lib.hid (O1.out.trans S2.out)
    have R0_2 := Lib.hid (row_nm hnm (row_other (row_other (R0_1.out) (by omega)) (by omega)))
    have R1_2 := Lib.hid (show wz.heap[w.heap.size + 1]? = some (.cells #[.int .i64 0, .int .i64 0] 40 (0, 0)) from (by rw [hnm]; exact heap_setRow (heap_setRow (R1_1.out))))
    have Ag_2 := Lib.hid (at_only Ag_1.out S2.out)
    clear hnm
    obtain ⟨q1_0, q1_1⟩ := cl2 R1_2.out
    refine ⟨rfl, .tuple #[.agg #[.int .i64 0, .int .i64 0], .bool false], by simp only [results, hfr]; go_simp, ?_⟩
    clear q1_0 q1_1
    exact ⟨by rw [HE.out]; rfl, Only.fin HB0.out O2.out⟩
  obtain ⟨j, rfl⟩ : ∃ j : Nat, i = (j : Int) := ⟨i.toNat, by omega⟩
  by_cases h1 : (x.gens.length : Int) ≤ j
  · have HE := Lib.hid (atI_high h1)
    obtain ⟨W0, hW0⟩ : ∃ W, ((w.alloc (.cells #[.int .i64 x.entities, .int .i64 x.limit, .slice A1 x.gens.length c1, .slice A2 x.free.length c2] 61)).alloc (.cells #[.int .i64 0, .int .i64 0] 40)) = W := ⟨_, rfl⟩
    have hz0 : W0.heap.size = w.heap.size + 2 := by rw [← hW0]; simp
    have hb0 : Below w.heap.size w W0 := by rw [← hW0]; exact ((Below.refl _ _).alloc (Nat.le_refl _) _).alloc (by first | (simp; done) | (simp; omega)) _
    have HZ := Lib.hid hz0
    have HB0 := Lib.hid hb0
    have R0_0 := Lib.hid (show W0.heap[w.heap.size]? = some (.cells #[.int .i64 x.entities, .int .i64 x.limit, .slice A1 x.gens.length c1, .slice A2 x.free.length c2] 61 (0, 0)) by rw [← hW0]; exact alloc_old (alloc_at rfl))
    have R1_0 := Lib.hid (show W0.heap[w.heap.size + 1]? = some (.cells #[.int .i64 0, .int .i64 0] 40 (0, 0)) by rw [← hW0]; exact alloc_at (by simp))
    have O0 := Lib.hid (Only.refl (Box w 2) W0)
    have Ag_0 := Lib.hid (show (Rep.int .i64).At (In Q w 2) W0 A1 x.gens from at_in HG.out.2.2 hb0)
    have VF := Lib.hid (show ∀ V, Below W0.heap.size W0 V → (Rep.int .i64).list.val (fun _ => True) V (.slice A2 x.free.length c2) x.free from fun V hv => Rep.val_keep (fun b _ hl => ⟨trivial, (hb0.trans (hv.mono hb0.size)).block b hl.lt⟩) HF2.out.val)
    skip
    clear hz0 hb0
    obtain ⟨q0_0, z0_0, q0_1, z0_1, q0_2, z0_2, q0_3, z0_3⟩ := rw4 R0_0.out
    obtain ⟨q1_0, z1_0, q1_1, z1_1⟩ := rw2 R1_0.out
    go_enter Tryz.func25, Tryz.ntmps25
    go_wp2_with fail
    try rw [hW0]
    clear hW0
    try go_wp2_with fail
    clear q0_0 z0_0 q0_1 z0_1 q0_2 z0_2 q0_3 z0_3 q1_0 z1_0 q1_1 z1_1
    refine wp_region_held_drew (S := fun W => Below W0.heap.size W0 W) (by kernel_rfl) ((Below.refl _ _).drew) (fun s0 => ?_)
    obtain ⟨v1, hv0⟩ : ∃ V, V = W0.drew := ⟨_, rfl⟩
    rw [← hv0] at s0 ⊢
    have t1 : Below W0.heap.size W0 v1 := s0
    clear hv0 s0
    refine tkHV (i := 0) (v := .int .i64 j) rfl t1 ?_
    go_simp
    refine tkHV (i := 1) (v := .bool false) rfl t1 ?_
    go_simp
    refine tkHV (i := 2) (v := .bool false) rfl t1 ?_
    go_simp
    refine tkHV (i := 3) (v := .int .i64 j) rfl t1 ?_
    go_simp
    refine tkHV (i := 4) (v := .pointer (some ⟨w.heap.size, 2, none⟩)) rfl t1 ?_
    go_simp
    refine tkH (i := 5) (v := .slice A1 x.gens.length c1) rfl (Or.inl ⟨by rfl, fun w' h => by have e := row_call (h : Below W0.heap.size W0 w') R0_0.out; have e0 := cell_row e 0; have e1 := cell_row e 1; have e2 := cell_row e 2; have e3 := cell_row e 3; go_simp⟩) t1 ?_
    go_simp
    refine tkHV (i := 6) (v := .int .i64 x.gens.length) rfl t1 ?_
    go_simp
    refine tkHV (i := 7) (v := .bool true) rfl t1 ?_
    go_simp
    refine tkHV (i := 8) (v := .bool true) rfl t1 ?_
    go_simp
    refine tkHV (i := 9) (v := .bool true) rfl t1 ?_
    go_simp
    refine tkH (i := 10) (v := undef) rfl (Or.inr ⟨by rfl, rfl⟩) t1 ?_
    go_simp
    refine tkH (i := 11) (v := undef) rfl (Or.inr ⟨by rfl, rfl⟩) t1 ?_
    go_simp
    refine tkH (i := 12) (v := undef) rfl (Or.inr ⟨by rfl, rfl⟩) t1 ?_
    go_simp
    refine tkH (i := 13) (v := undef) rfl (Or.inr ⟨by rfl, rfl⟩) t1 ?_
    go_simp
    refine tkHV (i := 14) (v := .bool true) rfl t1 ?_
    go_simp
    refine tkHV (i := 15) (v := .bool true) rfl t1 ?_
    go_simp
    refine tkH (i := 16) (v := undef) rfl (Or.inr ⟨by rfl, rfl⟩) t1 ?_
    go_simp
    refine tkH (i := 17) (v := undef) rfl (Or.inr ⟨by rfl, rfl⟩) t1 ?_
    go_simp
    refine tkH (i := 18) (v := undef) rfl (Or.inr ⟨by rfl, rfl⟩) t1 ?_
    go_simp
    refine tkH (i := 19) (v := undef) rfl (Or.inr ⟨by rfl, rfl⟩) t1 ?_
    go_simp
    refine tkH (i := 20) (v := undef) rfl (Or.inr ⟨by rfl, rfl⟩) t1 ?_
    go_simp
    refine tkH (i := 21) (v := undef) rfl (Or.inr ⟨by rfl, rfl⟩) t1 ?_
    go_simp
    refine tkH (i := 22) (v := undef) rfl (Or.inr ⟨by rfl, rfl⟩) t1 ?_
    go_simp
    refine tkH (i := 23) (v := undef) rfl (Or.inr ⟨by rfl, rfl⟩) t1 ?_
    go_simp
    refine tkHV (i := 24) (v := .bool true) rfl t1 ?_
    go_simp
    refine wpAnyH_done (by kernel_rfl) ?_ _
    have S1 := Lib.hid (show Only (Box w 2) W0 v1 from Only.of_below t1)
    have O1 := Lib.hid (O0.out.trans S1.out)
    have R0_1 := Lib.hid (row_call t1 R0_0.out)
    have R1_1 := Lib.hid (row_call t1 R1_0.out)
    have Ag_1 := Lib.hid (at_only Ag_0.out S1.out)
    obtain ⟨q0_0, z0_0, q0_1, z0_1, q0_2, z0_2, q0_3, z0_3⟩ := rw4 R0_1.out
    obtain ⟨q1_0, z1_0, q1_1, z1_1⟩ := rw2 R1_1.out
    go_wp2_with fail
    clear q0_0 z0_0 q0_1 z0_1 q0_2 z0_2 q0_3 z0_3 q1_0 z1_0 q1_1 z1_1
    refine nm_post (fun wz hnm => ?_)
    have S2 := Lib.hid (show Only (Box w 2) v1 wz from (by rw [hnm]; exact ((Only.refl (Box w 2) v1).put ⟨by omega, by omega⟩).put ⟨by omega, by omega⟩))
    have O2 := Lib.hid (O1.out.trans S2.out)
    have R0_2 := Lib.hid (row_nm hnm (row_other (row_other (R0_1.out) (by omega)) (by omega)))
    have R1_2 := Lib.hid (show wz.heap[w.heap.size + 1]? = some (.cells #[.int .i64 0, .int .i64 0] 40 (0, 0)) from (by rw [hnm]; exact heap_setRow (heap_setRow (R1_1.out))))
    have Ag_2 := Lib.hid (at_only Ag_1.out S2.out)
    clear hnm
    obtain ⟨q1_0, q1_1⟩ := cl2 R1_2.out
    refine ⟨rfl, .tuple #[.agg #[.int .i64 0, .int .i64 0], .bool false], by simp only [results, hfr]; go_simp, ?_⟩
    clear q1_0 q1_1
    exact ⟨by rw [HE.out]; rfl, Only.fin HB0.out O2.out⟩
  obtain ⟨g, hgj⟩ : ∃ g, x.gens[j]? = some g := ⟨_, List.getElem?_eq_getElem (by omega)⟩
  replace hgj := Lib.hid hgj
  by_cases h2 : (j : Int) ∈ x.free
  · have HE := Lib.hid (atI_free h2)
    have HH := Lib.hid (decide_eq_true h2)
    clear h2
    obtain ⟨W0, hW0⟩ : ∃ W, ((w.alloc (.cells #[.int .i64 x.entities, .int .i64 x.limit, .slice A1 x.gens.length c1, .slice A2 x.free.length c2] 61)).alloc (.cells #[.int .i64 0, .int .i64 0] 40)) = W := ⟨_, rfl⟩
    have hz0 : W0.heap.size = w.heap.size + 2 := by rw [← hW0]; simp
    have hb0 : Below w.heap.size w W0 := by rw [← hW0]; exact ((Below.refl _ _).alloc (Nat.le_refl _) _).alloc (by first | (simp; done) | (simp; omega)) _
    have HZ := Lib.hid hz0
    have HB0 := Lib.hid hb0
    have R0_0 := Lib.hid (show W0.heap[w.heap.size]? = some (.cells #[.int .i64 x.entities, .int .i64 x.limit, .slice A1 x.gens.length c1, .slice A2 x.free.length c2] 61 (0, 0)) by rw [← hW0]; exact alloc_old (alloc_at rfl))
    have R1_0 := Lib.hid (show W0.heap[w.heap.size + 1]? = some (.cells #[.int .i64 0, .int .i64 0] 40 (0, 0)) by rw [← hW0]; exact alloc_at (by simp))
    have O0 := Lib.hid (Only.refl (Box w 2) W0)
    have Ag_0 := Lib.hid (show (Rep.int .i64).At (In Q w 2) W0 A1 x.gens from at_in HG.out.2.2 hb0)
    have VF := Lib.hid (show ∀ V, Below W0.heap.size W0 V → (Rep.int .i64).list.val (fun _ => True) V (.slice A2 x.free.length c2) x.free from fun V hv => Rep.val_keep (fun b _ hl => ⟨trivial, (hb0.trans (hv.mono hb0.size)).block b hl.lt⟩) HF2.out.val)
    skip
    clear hz0 hb0
    obtain ⟨q0_0, z0_0, q0_1, z0_1, q0_2, z0_2, q0_3, z0_3⟩ := rw4 R0_0.out
    obtain ⟨q1_0, z1_0, q1_1, z1_1⟩ := rw2 R1_0.out
    go_enter Tryz.func25, Tryz.ntmps25
    go_wp2_with fail
    try rw [hW0]
    clear hW0
    try go_wp2_with fail
    clear q0_0 z0_0 q0_1 z0_1 q0_2 z0_2 q0_3 z0_3 q1_0 z1_0 q1_1 z1_1
    refine wp_region_held_drew (S := fun W => Below W0.heap.size W0 W) (by kernel_rfl) ((Below.refl _ _).drew) (fun s0 => ?_)
    obtain ⟨v1, hv0⟩ : ∃ V, V = W0.drew := ⟨_, rfl⟩
    rw [← hv0] at s0 ⊢
    have t1 : Below W0.heap.size W0 v1 := s0
    clear hv0 s0
    refine tkHV (i := 0) (v := .int .i64 j) rfl t1 ?_
    go_simp
    refine tkHV (i := 1) (v := .bool false) rfl t1 ?_
    go_simp
    refine tkHV (i := 2) (v := .bool false) rfl t1 ?_
    go_simp
    refine tkHV (i := 3) (v := .int .i64 j) rfl t1 ?_
    go_simp
    refine tkHV (i := 4) (v := .pointer (some ⟨w.heap.size, 2, none⟩)) rfl t1 ?_
    go_simp
    refine tkH (i := 5) (v := .slice A1 x.gens.length c1) rfl (Or.inl ⟨by rfl, fun w' h => by have e := row_call (h : Below W0.heap.size W0 w') R0_0.out; have e0 := cell_row e 0; have e1 := cell_row e 1; have e2 := cell_row e 2; have e3 := cell_row e 3; go_simp⟩) t1 ?_
    go_simp
    refine tkHV (i := 6) (v := .int .i64 x.gens.length) rfl t1 ?_
    go_simp
    refine tkHV (i := 7) (v := .bool false) rfl t1 ?_
    go_simp
    refine tkHV (i := 8) (v := .bool false) rfl t1 ?_
    go_simp
    refine tkHV (i := 9) (v := .bool false) rfl t1 ?_
    go_simp
    refine tkHV (i := 10) (v := .pointer (some ⟨w.heap.size, 3, none⟩)) rfl t1 ?_
    go_simp
    refine tkH (i := 11) (v := .slice A2 x.free.length c2) rfl (Or.inl ⟨by rfl, fun w' h => by have e := row_call (h : Below W0.heap.size W0 w') R0_0.out; have e0 := cell_row e 0; have e1 := cell_row e 1; have e2 := cell_row e 2; have e3 := cell_row e 3; go_simp⟩) t1 ?_
    go_simp
    refine tkHV (i := 12) (v := .int .i64 j) rfl t1 ?_
    go_simp
    refine wpAnyH_all (rs := [13]) (by kernel_rfl) (by simp) ?_
    intro i hi
    obtain rfl : i = 13 := by simpa using hi
    clear hi
    refine wpOp_step rfl (fun K hK => ?_)
    go_simp
    refine (has06_calls (VF.out _ t1)).mono ?_
    rintro e v2 ⟨rfl, hw⟩
    have hb : Below v1.heap.size v1 v2 := by rw [hw]; exact Below.refl _ _
    rw [HH.out]
    clear hw
    have t2 : Below W0.heap.size W0 v2 := Below.trans t1 (hb.mono (Below.size t1))
    refine hK _ _ ⟨t2, ?_⟩
    clear hb
    clear hK K
    refine tkHV (i := 14) (v := .bool true) rfl t2 ?_
    go_simp
    refine tkHV (i := 15) (v := .bool true) rfl t2 ?_
    go_simp
    refine tkH (i := 16) (v := undef) rfl (Or.inr ⟨by rfl, rfl⟩) t2 ?_
    go_simp
    refine tkH (i := 17) (v := undef) rfl (Or.inr ⟨by rfl, rfl⟩) t2 ?_
    go_simp
    refine tkH (i := 18) (v := undef) rfl (Or.inr ⟨by rfl, rfl⟩) t2 ?_
    go_simp
    refine tkH (i := 19) (v := undef) rfl (Or.inr ⟨by rfl, rfl⟩) t2 ?_
    go_simp
    refine tkH (i := 20) (v := undef) rfl (Or.inr ⟨by rfl, rfl⟩) t2 ?_
    go_simp
    refine tkH (i := 21) (v := undef) rfl (Or.inr ⟨by rfl, rfl⟩) t2 ?_
    go_simp
    refine tkH (i := 22) (v := undef) rfl (Or.inr ⟨by rfl, rfl⟩) t2 ?_
    go_simp
    refine tkH (i := 23) (v := undef) rfl (Or.inr ⟨by rfl, rfl⟩) t2 ?_
    go_simp
    refine tkHV (i := 24) (v := .bool true) rfl t2 ?_
    go_simp
    refine wpAnyH_done (by kernel_rfl) ?_ _
    have S1 := Lib.hid (show Only (Box w 2) W0 v2 from Only.of_below t2)
    have O1 := Lib.hid (O0.out.trans S1.out)
    have R0_1 := Lib.hid (row_call t2 R0_0.out)
    have R1_1 := Lib.hid (row_call t2 R1_0.out)
    have Ag_1 := Lib.hid (at_only Ag_0.out S1.out)
    obtain ⟨q0_0, z0_0, q0_1, z0_1, q0_2, z0_2, q0_3, z0_3⟩ := rw4 R0_1.out
    obtain ⟨q1_0, z1_0, q1_1, z1_1⟩ := rw2 R1_1.out
    go_wp2_with fail
    clear q0_0 z0_0 q0_1 z0_1 q0_2 z0_2 q0_3 z0_3 q1_0 z1_0 q1_1 z1_1
    refine nm_post (fun wz hnm => ?_)
    have S2 := Lib.hid (show Only (Box w 2) v2 wz from (by rw [hnm]; exact ((Only.refl (Box w 2) v2).put ⟨by omega, by omega⟩).put ⟨by omega, by omega⟩))
    have O2 := Lib.hid (O1.out.trans S2.out)
    have R0_2 := Lib.hid (row_nm hnm (row_other (row_other (R0_1.out) (by omega)) (by omega)))
    have R1_2 := Lib.hid (show wz.heap[w.heap.size + 1]? = some (.cells #[.int .i64 0, .int .i64 0] 40 (0, 0)) from (by rw [hnm]; exact heap_setRow (heap_setRow (R1_1.out))))
    have Ag_2 := Lib.hid (at_only Ag_1.out S2.out)
    clear hnm
    obtain ⟨q1_0, q1_1⟩ := cl2 R1_2.out
    refine ⟨rfl, .tuple #[.agg #[.int .i64 0, .int .i64 0], .bool false], by simp only [results, hfr]; go_simp, ?_⟩
    clear q1_0 q1_1
    exact ⟨by rw [HE.out]; rfl, Only.fin HB0.out O2.out⟩
  have HH := Lib.hid (decide_eq_false h2)
  by_cases h3 : x.limit ≤ g
  · have HE := Lib.hid (atI_dead hgj.out h3)
    clear h2
    obtain ⟨W0, hW0⟩ : ∃ W, ((w.alloc (.cells #[.int .i64 x.entities, .int .i64 x.limit, .slice A1 x.gens.length c1, .slice A2 x.free.length c2] 61)).alloc (.cells #[.int .i64 0, .int .i64 0] 40)) = W := ⟨_, rfl⟩
    have hz0 : W0.heap.size = w.heap.size + 2 := by rw [← hW0]; simp
    have hb0 : Below w.heap.size w W0 := by rw [← hW0]; exact ((Below.refl _ _).alloc (Nat.le_refl _) _).alloc (by first | (simp; done) | (simp; omega)) _
    have HZ := Lib.hid hz0
    have HB0 := Lib.hid hb0
    have R0_0 := Lib.hid (show W0.heap[w.heap.size]? = some (.cells #[.int .i64 x.entities, .int .i64 x.limit, .slice A1 x.gens.length c1, .slice A2 x.free.length c2] 61 (0, 0)) by rw [← hW0]; exact alloc_old (alloc_at rfl))
    have R1_0 := Lib.hid (show W0.heap[w.heap.size + 1]? = some (.cells #[.int .i64 0, .int .i64 0] 40 (0, 0)) by rw [← hW0]; exact alloc_at (by simp))
    have O0 := Lib.hid (Only.refl (Box w 2) W0)
    have Ag_0 := Lib.hid (show (Rep.int .i64).At (In Q w 2) W0 A1 x.gens from at_in HG.out.2.2 hb0)
    have VF := Lib.hid (show ∀ V, Below W0.heap.size W0 V → (Rep.int .i64).list.val (fun _ => True) V (.slice A2 x.free.length c2) x.free from fun V hv => Rep.val_keep (fun b _ hl => ⟨trivial, (hb0.trans (hv.mono hb0.size)).block b hl.lt⟩) HF2.out.val)
    obtain ⟨gb, go, hA1, hgi, hgc, _⟩ := int_at Ag_0.out hgj.out
    have HBG := Lib.hid hgi
    clear hgi
    have HGC := Lib.hid hgc
    subst hA1
    clear hgc
    skip
    clear hz0 hb0
    obtain ⟨q0_0, z0_0, q0_1, z0_1, q0_2, z0_2, q0_3, z0_3⟩ := rw4 R0_0.out
    obtain ⟨q1_0, z1_0, q1_1, z1_1⟩ := rw2 R1_0.out
    go_enter Tryz.func25, Tryz.ntmps25
    go_wp2_with fail
    try rw [hW0]
    clear hW0
    try go_wp2_with fail
    clear q0_0 z0_0 q0_1 z0_1 q0_2 z0_2 q0_3 z0_3 q1_0 z1_0 q1_1 z1_1
    refine wp_region_held_drew (S := fun W => Below W0.heap.size W0 W) (by kernel_rfl) ((Below.refl _ _).drew) (fun s0 => ?_)
    obtain ⟨v1, hv0⟩ : ∃ V, V = W0.drew := ⟨_, rfl⟩
    rw [← hv0] at s0 ⊢
    have t1 : Below W0.heap.size W0 v1 := s0
    clear hv0 s0
    refine tkHV (i := 0) (v := .int .i64 j) rfl t1 ?_
    go_simp
    refine tkHV (i := 1) (v := .bool false) rfl t1 ?_
    go_simp
    refine tkHV (i := 2) (v := .bool false) rfl t1 ?_
    go_simp
    refine tkHV (i := 3) (v := .int .i64 j) rfl t1 ?_
    go_simp
    refine tkHV (i := 4) (v := .pointer (some ⟨w.heap.size, 2, none⟩)) rfl t1 ?_
    go_simp
    refine tkH (i := 5) (v := .slice (some ⟨gb, go, none⟩) x.gens.length c1) rfl (Or.inl ⟨by rfl, fun w' h => by have e := row_call (h : Below W0.heap.size W0 w') R0_0.out; have e0 := cell_row e 0; have e1 := cell_row e 1; have e2 := cell_row e 2; have e3 := cell_row e 3; go_simp⟩) t1 ?_
    go_simp
    refine tkHV (i := 6) (v := .int .i64 x.gens.length) rfl t1 ?_
    go_simp
    refine tkHV (i := 7) (v := .bool false) rfl t1 ?_
    go_simp
    refine tkHV (i := 8) (v := .bool false) rfl t1 ?_
    go_simp
    refine tkHV (i := 9) (v := .bool false) rfl t1 ?_
    go_simp
    refine tkHV (i := 10) (v := .pointer (some ⟨w.heap.size, 3, none⟩)) rfl t1 ?_
    go_simp
    refine tkH (i := 11) (v := .slice A2 x.free.length c2) rfl (Or.inl ⟨by rfl, fun w' h => by have e := row_call (h : Below W0.heap.size W0 w') R0_0.out; have e0 := cell_row e 0; have e1 := cell_row e 1; have e2 := cell_row e 2; have e3 := cell_row e 3; go_simp⟩) t1 ?_
    go_simp
    refine tkHV (i := 12) (v := .int .i64 j) rfl t1 ?_
    go_simp
    refine wpAnyH_all (rs := [13]) (by kernel_rfl) (by simp) ?_
    intro i hi
    obtain rfl : i = 13 := by simpa using hi
    clear hi
    refine wpOp_step rfl (fun K hK => ?_)
    go_simp
    refine (has06_calls (VF.out _ t1)).mono ?_
    rintro e v2 ⟨rfl, hw⟩
    have hb : Below v1.heap.size v1 v2 := by rw [hw]; exact Below.refl _ _
    rw [HH.out]
    clear hw
    have t2 : Below W0.heap.size W0 v2 := Below.trans t1 (hb.mono (Below.size t1))
    refine hK _ _ ⟨t2, ?_⟩
    clear hb
    clear hK K
    refine tkHV (i := 14) (v := .bool false) rfl t2 ?_
    go_simp
    refine tkHV (i := 15) (v := .bool false) rfl t2 ?_
    go_simp
    refine tkHV (i := 16) (v := .pointer (some ⟨w.heap.size, 2, none⟩)) rfl t2 ?_
    go_simp
    refine tkH (i := 17) (v := .slice (some ⟨gb, go, none⟩) x.gens.length c1) rfl (Or.inl ⟨by rfl, fun w' h => by have e := row_call (h : Below W0.heap.size W0 w') R0_0.out; have e0 := cell_row e 0; have e1 := cell_row e 1; have e2 := cell_row e 2; have e3 := cell_row e 3; go_simp⟩) t2 ?_
    go_simp
    refine tkHV (i := 18) (v := .int .i64 j) rfl t2 ?_
    go_simp
    refine tkHV (i := 19) (v := .pointer (some ⟨gb, go + j, none⟩)) rfl t2 ?_
    go_simp
    refine tkH (i := 20) (v := .int .i64 g) rfl (Or.inl ⟨by rfl, fun w' h => by have e := cell_call (h : Below W0.heap.size W0 w') HGC.out; go_simp⟩) t2 ?_
    go_simp
    refine tkHV (i := 21) (v := .pointer (some ⟨w.heap.size, 1, none⟩)) rfl t2 ?_
    go_simp
    refine tkH (i := 22) (v := .int .i64 x.limit) rfl (Or.inl ⟨by rfl, fun w' h => by have e := row_call (h : Below W0.heap.size W0 w') R0_0.out; have e0 := cell_row e 0; have e1 := cell_row e 1; have e2 := cell_row e 2; have e3 := cell_row e 3; go_simp⟩) t2 ?_
    go_simp
    refine tkHV (i := 23) (v := .bool true) rfl t2 ?_
    go_simp
    refine tkHV (i := 24) (v := .bool true) rfl t2 ?_
    go_simp
    refine wpAnyH_done (by kernel_rfl) ?_ _
    have S1 := Lib.hid (show Only (Box w 2) W0 v2 from Only.of_below t2)
    have O1 := Lib.hid (O0.out.trans S1.out)
    have R0_1 := Lib.hid (row_call t2 R0_0.out)
    have R1_1 := Lib.hid (row_call t2 R1_0.out)
    have Ag_1 := Lib.hid (at_only Ag_0.out S1.out)
    obtain ⟨q0_0, z0_0, q0_1, z0_1, q0_2, z0_2, q0_3, z0_3⟩ := rw4 R0_1.out
    obtain ⟨q1_0, z1_0, q1_1, z1_1⟩ := rw2 R1_1.out
    skip
    go_wp2_with fail
    clear q0_0 z0_0 q0_1 z0_1 q0_2 z0_2 q0_3 z0_3 q1_0 z1_0 q1_1 z1_1
    refine nm_post (fun wz hnm => ?_)
    have S2 := Lib.hid (show Only (Box w 2) v2 wz from (by rw [hnm]; exact ((Only.refl (Box w 2) v2).put ⟨by omega, by omega⟩).put ⟨by omega, by omega⟩))
    have O2 := Lib.hid (O1.out.trans S2.out)
    have R0_2 := Lib.hid (row_nm hnm (row_other (row_other (R0_1.out) (by omega)) (by omega)))
    have R1_2 := Lib.hid (show wz.heap[w.heap.size + 1]? = some (.cells #[.int .i64 0, .int .i64 0] 40 (0, 0)) from (by rw [hnm]; exact heap_setRow (heap_setRow (R1_1.out))))
    have Ag_2 := Lib.hid (at_only Ag_1.out S2.out)
    clear hnm
    obtain ⟨q1_0, q1_1⟩ := cl2 R1_2.out
    refine ⟨rfl, .tuple #[.agg #[.int .i64 0, .int .i64 0], .bool false], by simp only [results, hfr]; go_simp, ?_⟩
    clear q1_0 q1_1
    exact ⟨by rw [HE.out]; rfl, Only.fin HB0.out O2.out⟩
  · have HE := Lib.hid (atI_lives hgj.out h2 (by omega))
    clear h2
    obtain ⟨W0, hW0⟩ : ∃ W, ((w.alloc (.cells #[.int .i64 x.entities, .int .i64 x.limit, .slice A1 x.gens.length c1, .slice A2 x.free.length c2] 61)).alloc (.cells #[.int .i64 0, .int .i64 0] 40)) = W := ⟨_, rfl⟩
    have hz0 : W0.heap.size = w.heap.size + 2 := by rw [← hW0]; simp
    have hb0 : Below w.heap.size w W0 := by rw [← hW0]; exact ((Below.refl _ _).alloc (Nat.le_refl _) _).alloc (by first | (simp; done) | (simp; omega)) _
    have HZ := Lib.hid hz0
    have HB0 := Lib.hid hb0
    have R0_0 := Lib.hid (show W0.heap[w.heap.size]? = some (.cells #[.int .i64 x.entities, .int .i64 x.limit, .slice A1 x.gens.length c1, .slice A2 x.free.length c2] 61 (0, 0)) by rw [← hW0]; exact alloc_old (alloc_at rfl))
    have R1_0 := Lib.hid (show W0.heap[w.heap.size + 1]? = some (.cells #[.int .i64 0, .int .i64 0] 40 (0, 0)) by rw [← hW0]; exact alloc_at (by simp))
    have O0 := Lib.hid (Only.refl (Box w 2) W0)
    have Ag_0 := Lib.hid (show (Rep.int .i64).At (In Q w 2) W0 A1 x.gens from at_in HG.out.2.2 hb0)
    have VF := Lib.hid (show ∀ V, Below W0.heap.size W0 V → (Rep.int .i64).list.val (fun _ => True) V (.slice A2 x.free.length c2) x.free from fun V hv => Rep.val_keep (fun b _ hl => ⟨trivial, (hb0.trans (hv.mono hb0.size)).block b hl.lt⟩) HF2.out.val)
    obtain ⟨gb, go, hA1, hgi, hgc, _⟩ := int_at Ag_0.out hgj.out
    have HBG := Lib.hid hgi
    clear hgi
    have HGC := Lib.hid hgc
    subst hA1
    clear hgc
    skip
    clear hz0 hb0
    obtain ⟨q0_0, z0_0, q0_1, z0_1, q0_2, z0_2, q0_3, z0_3⟩ := rw4 R0_0.out
    obtain ⟨q1_0, z1_0, q1_1, z1_1⟩ := rw2 R1_0.out
    go_enter Tryz.func25, Tryz.ntmps25
    go_wp2_with fail
    try rw [hW0]
    clear hW0
    try go_wp2_with fail
    clear q0_0 z0_0 q0_1 z0_1 q0_2 z0_2 q0_3 z0_3 q1_0 z1_0 q1_1 z1_1
    refine wp_region_held_drew (S := fun W => Below W0.heap.size W0 W) (by kernel_rfl) ((Below.refl _ _).drew) (fun s0 => ?_)
    obtain ⟨v1, hv0⟩ : ∃ V, V = W0.drew := ⟨_, rfl⟩
    rw [← hv0] at s0 ⊢
    have t1 : Below W0.heap.size W0 v1 := s0
    clear hv0 s0
    refine tkHV (i := 0) (v := .int .i64 j) rfl t1 ?_
    go_simp
    refine tkHV (i := 1) (v := .bool false) rfl t1 ?_
    go_simp
    refine tkHV (i := 2) (v := .bool false) rfl t1 ?_
    go_simp
    refine tkHV (i := 3) (v := .int .i64 j) rfl t1 ?_
    go_simp
    refine tkHV (i := 4) (v := .pointer (some ⟨w.heap.size, 2, none⟩)) rfl t1 ?_
    go_simp
    refine tkH (i := 5) (v := .slice (some ⟨gb, go, none⟩) x.gens.length c1) rfl (Or.inl ⟨by rfl, fun w' h => by have e := row_call (h : Below W0.heap.size W0 w') R0_0.out; have e0 := cell_row e 0; have e1 := cell_row e 1; have e2 := cell_row e 2; have e3 := cell_row e 3; go_simp⟩) t1 ?_
    go_simp
    refine tkHV (i := 6) (v := .int .i64 x.gens.length) rfl t1 ?_
    go_simp
    refine tkHV (i := 7) (v := .bool false) rfl t1 ?_
    go_simp
    refine tkHV (i := 8) (v := .bool false) rfl t1 ?_
    go_simp
    refine tkHV (i := 9) (v := .bool false) rfl t1 ?_
    go_simp
    refine tkHV (i := 10) (v := .pointer (some ⟨w.heap.size, 3, none⟩)) rfl t1 ?_
    go_simp
    refine tkH (i := 11) (v := .slice A2 x.free.length c2) rfl (Or.inl ⟨by rfl, fun w' h => by have e := row_call (h : Below W0.heap.size W0 w') R0_0.out; have e0 := cell_row e 0; have e1 := cell_row e 1; have e2 := cell_row e 2; have e3 := cell_row e 3; go_simp⟩) t1 ?_
    go_simp
    refine tkHV (i := 12) (v := .int .i64 j) rfl t1 ?_
    go_simp
    refine wpAnyH_all (rs := [13]) (by kernel_rfl) (by simp) ?_
    intro i hi
    obtain rfl : i = 13 := by simpa using hi
    clear hi
    refine wpOp_step rfl (fun K hK => ?_)
    go_simp
    refine (has06_calls (VF.out _ t1)).mono ?_
    rintro e v2 ⟨rfl, hw⟩
    have hb : Below v1.heap.size v1 v2 := by rw [hw]; exact Below.refl _ _
    rw [HH.out]
    clear hw
    have t2 : Below W0.heap.size W0 v2 := Below.trans t1 (hb.mono (Below.size t1))
    refine hK _ _ ⟨t2, ?_⟩
    clear hb
    clear hK K
    refine tkHV (i := 14) (v := .bool false) rfl t2 ?_
    go_simp
    refine tkHV (i := 15) (v := .bool false) rfl t2 ?_
    go_simp
    refine tkHV (i := 16) (v := .pointer (some ⟨w.heap.size, 2, none⟩)) rfl t2 ?_
    go_simp
    refine tkH (i := 17) (v := .slice (some ⟨gb, go, none⟩) x.gens.length c1) rfl (Or.inl ⟨by rfl, fun w' h => by have e := row_call (h : Below W0.heap.size W0 w') R0_0.out; have e0 := cell_row e 0; have e1 := cell_row e 1; have e2 := cell_row e 2; have e3 := cell_row e 3; go_simp⟩) t2 ?_
    go_simp
    refine tkHV (i := 18) (v := .int .i64 j) rfl t2 ?_
    go_simp
    refine tkHV (i := 19) (v := .pointer (some ⟨gb, go + j, none⟩)) rfl t2 ?_
    go_simp
    refine tkH (i := 20) (v := .int .i64 g) rfl (Or.inl ⟨by rfl, fun w' h => by have e := cell_call (h : Below W0.heap.size W0 w') HGC.out; go_simp⟩) t2 ?_
    go_simp
    refine tkHV (i := 21) (v := .pointer (some ⟨w.heap.size, 1, none⟩)) rfl t2 ?_
    go_simp
    refine tkH (i := 22) (v := .int .i64 x.limit) rfl (Or.inl ⟨by rfl, fun w' h => by have e := row_call (h : Below W0.heap.size W0 w') R0_0.out; have e0 := cell_row e 0; have e1 := cell_row e 1; have e2 := cell_row e 2; have e3 := cell_row e 3; go_simp⟩) t2 ?_
    go_simp
    refine tkHV (i := 23) (v := .bool false) rfl t2 ?_
    go_simp
    refine tkHV (i := 24) (v := .bool false) rfl t2 ?_
    go_simp
    refine wpAnyH_done (by kernel_rfl) ?_ _
    have S1 := Lib.hid (show Only (Box w 2) W0 v2 from Only.of_below t2)
    have O1 := Lib.hid (O0.out.trans S1.out)
    have R0_1 := Lib.hid (row_call t2 R0_0.out)
    have R1_1 := Lib.hid (row_call t2 R1_0.out)
    have Ag_1 := Lib.hid (at_only Ag_0.out S1.out)
    obtain ⟨q0_0, z0_0, q0_1, z0_1, q0_2, z0_2, q0_3, z0_3⟩ := rw4 R0_1.out
    obtain ⟨q1_0, z1_0, q1_1, z1_1⟩ := rw2 R1_1.out
    skip
    have hgc := cell_only O1.out HBG.out.no HGC.out
    go_wp2_with fail
    clear q0_0 z0_0 q0_1 z0_1 q0_2 z0_2 q0_3 z0_3 q1_0 z1_0 q1_1 z1_1
    refine nm_post (fun wz hnm => ?_)
    have S2 := Lib.hid (show Only (Box w 2) v2 wz from (by rw [hnm]; exact ((Only.refl (Box w 2) v2).put ⟨by omega, by omega⟩).put ⟨by omega, by omega⟩))
    have O2 := Lib.hid (O1.out.trans S2.out)
    have R0_2 := Lib.hid (row_nm hnm (row_other (row_other (R0_1.out) (by omega)) (by omega)))
    have R1_2 := Lib.hid (show wz.heap[w.heap.size + 1]? = some (.cells #[.int .i64 j, .int .i64 g] 40 (0, 0)) from (by rw [hnm]; exact heap_setRow (heap_setRow (R1_1.out))))
    have Ag_2 := Lib.hid (at_only Ag_1.out S2.out)
    clear hnm
    obtain ⟨q1_0, q1_1⟩ := cl2 R1_2.out
    refine ⟨rfl, .tuple #[.agg #[.int .i64 j, .int .i64 g], .bool true], by simp only [results, hfr]; go_simp, ?_⟩
    clear q1_0 q1_1
    exact ⟨by rw [HE.out]; rfl, Only.fin HB0.out O2.out⟩

theorem atI_index {x : DIds} {i : Int} {d : DID} (h : atI x i = some d) : d.index = i := by
  unfold atI at h
  split at h
  · split at h
    · split at h
      · rw [← Option.some.inj h]
      · cases h
    · cases h
  · cases h

set_option maxRecDepth 100000 in
set_option maxHeartbeats 1000000 in
/-- r06.Alive -/
theorem alive_calls {Q : Nat → Prop} {w : World} {v : Value} {x : DIds} {d : DID} (hx : rIds.val Q w v x) :
    Calls Tryz.prog 23 #[v, .agg #[.int .i64 d.index, .int .i64 d.gen]] w fun e w' => e = .returned (.bool (decide (atI x d.index = some d))) ∧ Below w.heap.size w w' := by
  have HX := Lib.hid hx
  obtain ⟨A1, c1, A2, c2, rfl, w0, w1, f1, f2⟩ := rIds_val hx
  clear hx f1 f2
  rcases hat : atI x d.index with _ | y
  · have HA := Lib.hid hat
    have HE := Lib.hid (show decide ((none : Option DID) = some d) = false from rfl)
    clear hat
    skip
    obtain ⟨W0, hW0⟩ : ∃ W, ((w.alloc (.cells #[.int .i64 x.entities, .int .i64 x.limit, .slice A1 x.gens.length c1, .slice A2 x.free.length c2] 61)).alloc (.cells #[.int .i64 d.index, .int .i64 d.gen] 40)) = W := ⟨_, rfl⟩
    have hz0 : W0.heap.size = w.heap.size + 2 := by rw [← hW0]; simp
    have hb0 : Below w.heap.size w W0 := by rw [← hW0]; exact ((Below.refl _ _).alloc (Nat.le_refl _) _).alloc (by first | (simp; done) | (simp; omega)) _
    have HZ := Lib.hid hz0
    have HB0 := Lib.hid hb0
    have R0_0 := Lib.hid (show W0.heap[w.heap.size]? = some (.cells #[.int .i64 x.entities, .int .i64 x.limit, .slice A1 x.gens.length c1, .slice A2 x.free.length c2] 61 (0, 0)) by rw [← hW0]; exact alloc_old (alloc_at rfl))
    have R1_0 := Lib.hid (show W0.heap[w.heap.size + 1]? = some (.cells #[.int .i64 d.index, .int .i64 d.gen] 40 (0, 0)) by rw [← hW0]; exact alloc_at (by simp))
    have O0 := Lib.hid (Only.refl (Box w 2) W0)
    have Vx_0 := Lib.hid (show rIds.val (In Q w 2) W0 (.agg #[.int .i64 x.entities, .int .i64 x.limit, .slice A1 x.gens.length c1, .slice A2 x.free.length c2]) x from val_in HX.out hb0)
    clear hz0 hb0
    obtain ⟨q0_0, z0_0, q0_1, z0_1, q0_2, z0_2, q0_3, z0_3⟩ := rw4 R0_0.out
    obtain ⟨q1_0, z1_0, q1_1, z1_1⟩ := rw2 R1_0.out
    go_enter Tryz.func23, Tryz.ntmps23
    go_wp2_with fail
    try rw [hW0]
    clear hW0
    try go_wp2_with fail
    clear q0_0 z0_0 q0_1 z0_1 q0_2 z0_2 q0_3 z0_3 q1_0 z1_0 q1_1 z1_1
    refine (at_calls Vx_0.out).mono ?_
    rintro e w1 ⟨rfl, hb⟩
    have S1 := Lib.hid (show Only (Box w 2) W0 w1 from Only.of_below hb)
    have O1 := Lib.hid (O0.out.trans S1.out)
    have R0_1 := Lib.hid (row_call hb R0_0.out)
    have R1_1 := Lib.hid (row_call hb R1_0.out)
    have Vx_1 := Lib.hid (val_only Vx_0.out S1.out)
    clear hb
    rw [HA.out]
    have HF1 := Lib.hid (show w.heap.size + 2 ≤ w1.heap.size by have := O1.out.size; have := HZ.out; omega)
    obtain ⟨w2, hn1⟩ : ∃ W, (w1.alloc (.cells #[.int .i64 0, .int .i64 0] 40)) = W := ⟨_, rfl⟩
    have S2 := Lib.hid (show Only (Box w 2) w1 w2 from (by rw [← hn1]; exact (Only.refl (Box w 2) w1).alloc _))
    have O2 := Lib.hid (O1.out.trans S2.out)
    have R0_2 := Lib.hid (row_nm hn1.symm (alloc_old (R0_1.out)))
    have R1_2 := Lib.hid (row_nm hn1.symm (alloc_old (R1_1.out)))
    have Rw1.heap.size_2 := Lib.hid (show w2.heap[w1.heap.size]? = some (.cells #[.int .i64 0, .int .i64 0] 40 (0, 0)) from (by rw [← hn1]; exact alloc_at rfl))
    have Vx_2 := Lib.hid (val_only Vx_1.out S2.out)
    obtain ⟨y0_0, x0_0, y0_1, x0_1, y0_2, x0_2, y0_3, x0_3⟩ := rw4 R0_2.out
    obtain ⟨y1_0, x1_0, y1_1, x1_1⟩ := rw2 R1_2.out
    obtain ⟨yn0_0, xn0_0, yn0_1, xn0_1⟩ := rw2 Rw1.heap.size_2.out
    go_wp2_with fail
    try rw [hn1]
    clear hn1
    clear y0_0 x0_0 y0_1 x0_1 y0_2 x0_2 y0_3 x0_3 y1_0 x1_0 y1_1 x1_1 yn0_0 xn0_0 yn0_1 xn0_1
    go_ret
    exact ⟨by rw [HE.out]; rfl, by first | exact Only.fin HB0.out O2.out | exact below_put (below_put (Only.fin HB0.out O2.out) (by have := HF1.out; omega)) (by have := HF1.out; omega)⟩
  · have HA := Lib.hid hat
    have hy := atI_index hat
    by_cases hg : y.gen = d.gen
    · have HE := Lib.hid (show decide (some y = some d) = true from decide_eq_true (by rw [DID.ext hy hg]))
      have g1 : (y.gen == d.gen) = true := by simp [hg]
      clear hat hg
      clear hy
      obtain ⟨W0, hW0⟩ : ∃ W, ((w.alloc (.cells #[.int .i64 x.entities, .int .i64 x.limit, .slice A1 x.gens.length c1, .slice A2 x.free.length c2] 61)).alloc (.cells #[.int .i64 d.index, .int .i64 d.gen] 40)) = W := ⟨_, rfl⟩
      have hz0 : W0.heap.size = w.heap.size + 2 := by rw [← hW0]; simp
      have hb0 : Below w.heap.size w W0 := by rw [← hW0]; exact ((Below.refl _ _).alloc (Nat.le_refl _) _).alloc (by first | (simp; done) | (simp; omega)) _
      have HZ := Lib.hid hz0
      have HB0 := Lib.hid hb0
      have R0_0 := Lib.hid (show W0.heap[w.heap.size]? = some (.cells #[.int .i64 x.entities, .int .i64 x.limit, .slice A1 x.gens.length c1, .slice A2 x.free.length c2] 61 (0, 0)) by rw [← hW0]; exact alloc_old (alloc_at rfl))
      have R1_0 := Lib.hid (show W0.heap[w.heap.size + 1]? = some (.cells #[.int .i64 d.index, .int .i64 d.gen] 40 (0, 0)) by rw [← hW0]; exact alloc_at (by simp))
      have O0 := Lib.hid (Only.refl (Box w 2) W0)
      have Vx_0 := Lib.hid (show rIds.val (In Q w 2) W0 (.agg #[.int .i64 x.entities, .int .i64 x.limit, .slice A1 x.gens.length c1, .slice A2 x.free.length c2]) x from val_in HX.out hb0)
      clear hz0 hb0
      obtain ⟨q0_0, z0_0, q0_1, z0_1, q0_2, z0_2, q0_3, z0_3⟩ := rw4 R0_0.out
      obtain ⟨q1_0, z1_0, q1_1, z1_1⟩ := rw2 R1_0.out
      go_enter Tryz.func23, Tryz.ntmps23
      go_wp2_with fail
      try rw [hW0]
      clear hW0
      try go_wp2_with fail
      clear q0_0 z0_0 q0_1 z0_1 q0_2 z0_2 q0_3 z0_3 q1_0 z1_0 q1_1 z1_1
      refine (at_calls Vx_0.out).mono ?_
      rintro e w1 ⟨rfl, hb⟩
      have S1 := Lib.hid (show Only (Box w 2) W0 w1 from Only.of_below hb)
      have O1 := Lib.hid (O0.out.trans S1.out)
      have R0_1 := Lib.hid (row_call hb R0_0.out)
      have R1_1 := Lib.hid (row_call hb R1_0.out)
      have Vx_1 := Lib.hid (val_only Vx_0.out S1.out)
      clear hb
      rw [HA.out]
      have HF1 := Lib.hid (show w.heap.size + 2 ≤ w1.heap.size by have := O1.out.size; have := HZ.out; omega)
      obtain ⟨w2, hn1⟩ : ∃ W, (w1.alloc (.cells #[.int .i64 y.index, .int .i64 y.gen] 40)) = W := ⟨_, rfl⟩
      have S2 := Lib.hid (show Only (Box w 2) w1 w2 from (by rw [← hn1]; exact (Only.refl (Box w 2) w1).alloc _))
      have O2 := Lib.hid (O1.out.trans S2.out)
      have R0_2 := Lib.hid (row_nm hn1.symm (alloc_old (R0_1.out)))
      have R1_2 := Lib.hid (row_nm hn1.symm (alloc_old (R1_1.out)))
      have Rw1.heap.size_2 := Lib.hid (show w2.heap[w1.heap.size]? = some (.cells #[.int .i64 y.index, .int .i64 y.gen] 40 (0, 0)) from (by rw [← hn1]; exact alloc_at rfl))
      have Vx_2 := Lib.hid (val_only Vx_1.out S2.out)
      obtain ⟨y0_0, x0_0, y0_1, x0_1, y0_2, x0_2, y0_3, x0_3⟩ := rw4 R0_2.out
      obtain ⟨y1_0, x1_0, y1_1, x1_1⟩ := rw2 R1_2.out
      obtain ⟨yn0_0, xn0_0, yn0_1, xn0_1⟩ := rw2 Rw1.heap.size_2.out
      go_wp2_with fail
      try rw [hn1]
      clear hn1
      clear y0_0 x0_0 y0_1 x0_1 y0_2 x0_2 y0_3 x0_3 y1_0 x1_0 y1_1 x1_1 yn0_0 xn0_0 yn0_1 xn0_1
      go_ret
      exact ⟨by rw [HE.out]; rfl, by first | exact Only.fin HB0.out O2.out | exact below_put (below_put (Only.fin HB0.out O2.out) (by have := HF1.out; omega)) (by have := HF1.out; omega)⟩
    · have HE := Lib.hid (show decide (some y = some d) = false from decide_eq_false (fun h => hg (by rw [Option.some.inj h])))
      have g1 : (y.gen == d.gen) = false := by simp [hg]
      clear hat hg
      clear hy
      obtain ⟨W0, hW0⟩ : ∃ W, ((w.alloc (.cells #[.int .i64 x.entities, .int .i64 x.limit, .slice A1 x.gens.length c1, .slice A2 x.free.length c2] 61)).alloc (.cells #[.int .i64 d.index, .int .i64 d.gen] 40)) = W := ⟨_, rfl⟩
      have hz0 : W0.heap.size = w.heap.size + 2 := by rw [← hW0]; simp
      have hb0 : Below w.heap.size w W0 := by rw [← hW0]; exact ((Below.refl _ _).alloc (Nat.le_refl _) _).alloc (by first | (simp; done) | (simp; omega)) _
      have HZ := Lib.hid hz0
      have HB0 := Lib.hid hb0
      have R0_0 := Lib.hid (show W0.heap[w.heap.size]? = some (.cells #[.int .i64 x.entities, .int .i64 x.limit, .slice A1 x.gens.length c1, .slice A2 x.free.length c2] 61 (0, 0)) by rw [← hW0]; exact alloc_old (alloc_at rfl))
      have R1_0 := Lib.hid (show W0.heap[w.heap.size + 1]? = some (.cells #[.int .i64 d.index, .int .i64 d.gen] 40 (0, 0)) by rw [← hW0]; exact alloc_at (by simp))
      have O0 := Lib.hid (Only.refl (Box w 2) W0)
      have Vx_0 := Lib.hid (show rIds.val (In Q w 2) W0 (.agg #[.int .i64 x.entities, .int .i64 x.limit, .slice A1 x.gens.length c1, .slice A2 x.free.length c2]) x from val_in HX.out hb0)
      clear hz0 hb0
      obtain ⟨q0_0, z0_0, q0_1, z0_1, q0_2, z0_2, q0_3, z0_3⟩ := rw4 R0_0.out
      obtain ⟨q1_0, z1_0, q1_1, z1_1⟩ := rw2 R1_0.out
      go_enter Tryz.func23, Tryz.ntmps23
      go_wp2_with fail
      try rw [hW0]
      clear hW0
      try go_wp2_with fail
      clear q0_0 z0_0 q0_1 z0_1 q0_2 z0_2 q0_3 z0_3 q1_0 z1_0 q1_1 z1_1
      refine (at_calls Vx_0.out).mono ?_
      rintro e w1 ⟨rfl, hb⟩
      have S1 := Lib.hid (show Only (Box w 2) W0 w1 from Only.of_below hb)
      have O1 := Lib.hid (O0.out.trans S1.out)
      have R0_1 := Lib.hid (row_call hb R0_0.out)
      have R1_1 := Lib.hid (row_call hb R1_0.out)
      have Vx_1 := Lib.hid (val_only Vx_0.out S1.out)
      clear hb
      rw [HA.out]
      have HF1 := Lib.hid (show w.heap.size + 2 ≤ w1.heap.size by have := O1.out.size; have := HZ.out; omega)
      obtain ⟨w2, hn1⟩ : ∃ W, (w1.alloc (.cells #[.int .i64 y.index, .int .i64 y.gen] 40)) = W := ⟨_, rfl⟩
      have S2 := Lib.hid (show Only (Box w 2) w1 w2 from (by rw [← hn1]; exact (Only.refl (Box w 2) w1).alloc _))
      have O2 := Lib.hid (O1.out.trans S2.out)
      have R0_2 := Lib.hid (row_nm hn1.symm (alloc_old (R0_1.out)))
      have R1_2 := Lib.hid (row_nm hn1.symm (alloc_old (R1_1.out)))
      have Rw1.heap.size_2 := Lib.hid (show w2.heap[w1.heap.size]? = some (.cells #[.int .i64 y.index, .int .i64 y.gen] 40 (0, 0)) from (by rw [← hn1]; exact alloc_at rfl))
      have Vx_2 := Lib.hid (val_only Vx_1.out S2.out)
      obtain ⟨y0_0, x0_0, y0_1, x0_1, y0_2, x0_2, y0_3, x0_3⟩ := rw4 R0_2.out
      obtain ⟨y1_0, x1_0, y1_1, x1_1⟩ := rw2 R1_2.out
      obtain ⟨yn0_0, xn0_0, yn0_1, xn0_1⟩ := rw2 Rw1.heap.size_2.out
      go_wp2_with fail
      try rw [hn1]
      clear hn1
      clear y0_0 x0_0 y0_1 x0_1 y0_2 x0_2 y0_3 x0_3 y1_0 x1_0 y1_1 x1_1 yn0_0 xn0_0 yn0_1 xn0_1
      go_ret
      exact ⟨by rw [HE.out]; rfl, by first | exact Only.fin HB0.out O2.out | exact below_put (below_put (Only.fin HB0.out O2.out) (by have := HF1.out; omega)) (by have := HF1.out; omega)⟩

end Go.Proofs.YthkepjhfeeohdaaGreatDoor
namespace Go.Proofs.YthkepjhfeeohdaaGreatDoor
open Go.RowKit

theorem infoI3 : (Tryz.prog.info? 3).map (fun i => (i.zero, i.size, i.bytes)) = some (some (.int .i64 0), 1, 8) := by kernel_rfl
/-- slices.Clone of numbers -/
theorem cloneInts_calls {Q : Nat → Prop} {w : World} {v : Value} {l : List Int} (hx : (Rep.int .i64).list.val Q w v l) (hl : l.length ≤ 1000000) :
    Calls Tryz.prog 37 #[v] w fun e w' => ∃ v', e = .returned v' ∧ (Rep.int .i64).acc 3 w.heap.size (fun _ => False) w' v' l ∧ Below w.heap.size w w' := by
  obtain ⟨A, c, rfl, hc1, hc2, hA⟩ := Rep.val_list hx
  unfold maxLen at hc2
  cases A with
  | none =>
    have hnil : l = [] := by
      rcases Nat.eq_zero_or_pos l.length with h | h
      · exact List.eq_nil_of_length_eq_zero h
      · obtain ⟨b, off, h⟩ := hA.addr h; cases h
    subst hnil
    have he := fun w => Lib.run_eql_slice_nil (P := Tryz.prog) w 25 3 none 0 c 0 0 Tryz.underlying25
    go_enter Tryz.func37, Tryz.ntmps37
    go_wp2_with fail
    go_ret
    exact ⟨_, rfl, Rep.acc_nil, Below.refl _ _⟩
  | some a =>
    have he := fun w => Lib.run_eql_slice_nil (P := Tryz.prog) w 25 3 (some a) l.length c 0 0 Tryz.underlying25
    have HX := Lib.hid (show (Rep.int .i64).list.val (fun b => b < w.heap.size) (w.alloc (.cells #[] 3)) (.slice (some a) l.length c) l from Rep.val_keep (w := w) (fun b _ hl => ⟨hl.lt, Below.heap_alloc _ _ _ hl.lt⟩) hx)
    have HA := Lib.hid (show (Rep.int .i64).acc 3 w.heap.size (fun _ => False) (w.alloc (.cells #[] 3)) (.slice (some ⟨w.heap.size, 0, none⟩) 0 0) [] from Rep.acc_made w #[] 0 (Nat.le_refl _) (by simp [maxLen]) (by simp))
    have HB1 := Lib.hid (show ([] : List Int).length + l.length ≤ maxLen from by simp [maxLen]; omega)
    have HB2 := Lib.hid (show (([] : List Int).length + l.length) * 8 ≤ 140737488355328 from by simp; omega)
    have HB3 := Lib.hid (show w.heap.size ≤ (w.alloc (.cells #[] 3)).heap.size from by simp)
    clear hx hA
    go_enter Tryz.func37, Tryz.ntmps37
    go_wp2_with (refine wpList_spread_leaf (e := 3) (base := w.heap.size) (Q := fun _ => False) (Rep.leaf_int .i64) rfl _ _ 25 rfl (.int .i64 0) 1 8 Tryz.underlying25 infoI3 rfl (by decide) rfl _ [] (by exact rfl) HA.out _ l (by exact rfl) HX.out HB1.out HB2.out HB3.out ?_; intro v' w' hacc' hgr hat)
    go_ret
    exact ⟨_, rfl, by simpa using hacc', Rep.acc_below HA.out ((Below.refl _ w).alloc (Nat.le_refl _) _) hgr HB3.out⟩

end Go.Proofs.YthkepjhfeeohdaaGreatDoor
namespace Go.Proofs.YthkepjhfeeohdaaGreatDoor
open Go.RowKit

theorem nm_code {P : Program} {c : Code} {Q : Exit → Act → World → Prop} {a : Act} {w : World} (h : ∀ W, W = w → c.wp P Q a W) : c.wp P Q a w := h w rfl
set_option maxRecDepth 100000 in
/-- ref06.near -/
theorem near06_calls {n m : Int} (h1 : 1 ≤ n) (h2 : n ≤ m) (w : World) : Calls Tryz.prog 64 #[.int .i64 n, .int .i64 m] w fun e w' => e = .returned (.int .i64 n) ∧ w' = w := by
  have g1 : ¬ n < 1 := by omega
  have g2 : ¬ m < n := by omega
  go_enter Tryz.func64, Tryz.ntmps64
  go_wp2_with fail
  go_ret
  exact ⟨rfl, rfl⟩

set_option maxRecDepth 100000 in
/-- ref06.New -/
theorem new06_calls {n m : Int} (h1 : 1 ≤ n ∧ n ≤ 1024) (h2 : 1 ≤ m ∧ m ≤ 1073741824) (w : World) : Calls Tryz.prog 42 #[.int .i64 n, .int .i64 m] w fun e w' => e = .returned (.agg #[.int .i64 n, .int .i64 m, .slice none 0 0, .slice none 0 0]) ∧ Below w.heap.size w w' := by
  have H1 := Lib.hid h1
  have H2 := Lib.hid h2
  have hfr : Tryz.f42.results = #[.cell 4 61] := rfl
  clear h1 h2
  obtain ⟨W0, hW0⟩ : ∃ W, (w.alloc (.cells #[.int .i64 0, .int .i64 0, .slice none 0 0, .slice none 0 0] 61)) = W := ⟨_, rfl⟩
  have hz0 : W0.heap.size = w.heap.size + 1 := by rw [← hW0]; simp
  have hb0 : Below w.heap.size w W0 := by rw [← hW0]; exact (Below.refl _ _).alloc (Nat.le_refl _) _
  have HZ := Lib.hid hz0
  have HB0 := Lib.hid hb0
  have R0_0 := Lib.hid (show W0.heap[w.heap.size]? = some (.cells #[.int .i64 0, .int .i64 0, .slice none 0 0, .slice none 0 0] 61 (0, 0)) by rw [← hW0]; exact alloc_at rfl)
  have O0 := Lib.hid (Only.refl (Box w 1) W0)
  clear hz0 hb0
  obtain ⟨q0_0, z0_0, q0_1, z0_1, q0_2, z0_2, q0_3, z0_3⟩ := rw4 R0_0.out
  go_enter Tryz.func42, Tryz.ntmps42
  go_wp2_with fail
  try rw [hW0]
  clear hW0
  try go_wp2_with fail
  clear q0_0 z0_0 q0_1 z0_1 q0_2 z0_2 q0_3 z0_3
  refine (near06_calls H1.out.1 H1.out.2 _).mono ?_
  rintro e w1 ⟨rfl, hw⟩
  obtain rfl := hw.symm
  go_wp2_with fail
  refine (near06_calls H2.out.1 H2.out.2 _).mono ?_
  rintro e w1 ⟨rfl, hw⟩
  obtain rfl := hw.symm
  obtain ⟨q0_0, z0_0, q0_1, z0_1, q0_2, z0_2, q0_3, z0_3⟩ := rw4 R0_0.out
  go_wp2_with fail
  clear q0_0 z0_0 q0_1 z0_1 q0_2 z0_2 q0_3 z0_3
  refine nm_post (fun w2 hnm => ?_)
  have S1 := Lib.hid (show Only (Box w 1) W0 w2 from (by rw [hnm]; exact ((((Only.refl (Box w 1) W0).put ⟨by omega, by omega⟩).put ⟨by omega, by omega⟩).put ⟨by omega, by omega⟩).put ⟨by omega, by omega⟩))
  have O1 := Lib.hid (O0.out.trans S1.out)
  have R0_1 := Lib.hid (show w2.heap[w.heap.size]? = some (.cells #[.int .i64 n, .int .i64 m, .slice none 0 0, .slice none 0 0] 61 (0, 0)) from (by rw [hnm]; exact heap_setRow (heap_setRow (heap_setRow (heap_setRow (R0_0.out))))))
  clear hnm
  obtain ⟨q0_0, q0_1, q0_2, q0_3⟩ := cl4 R0_1.out
  refine ⟨rfl, .agg #[.int .i64 n, .int .i64 m, .slice none 0 0, .slice none 0 0], by simp only [results, hfr]; go_simp, ?_⟩
  clear q0_0 q0_1 q0_2 q0_3
  exact ⟨rfl, Only.fin HB0.out O1.out⟩

end Go.Proofs.YthkepjhfeeohdaaGreatDoor
namespace Go.Proofs.YthkepjhfeeohdaaGreatDoor
open Go.RowKit

theorem infoSlot : (Tryz.prog.info? 94).map (fun i => (i.zero, i.size, i.bytes)) = some (some (.agg #[.int .i64 0, .bool false]), 2, 16) := by kernel_rfl
/-- The names' block. -/
def IdsRow (W : World) (X : Nat) (v f : Value) (c : DConf) : Prop := W.heap[X]? = some (.cells #[v, f, .int .i64 c.entities, .int .i64 c.gens] 92 (0, 0))
def IdsAt (W : World) (base X : Nat) (c : DConf) (s : DState) : Prop := base ≤ X ∧ ∃ v f, IdsRow W X v f c ∧ rSlot.list.val (fun b => base ≤ b) W v (slotsS c s s.free.length)
/-- What Load answers. -/
def IdsAns (w : World) (c : DConf) (s : DState) (e : Ending) (W : World) : Prop := ((LoadOk c s ∧ ∃ X, e = .returned (.tuple #[.pointer (some ⟨X, 0, none⟩), .int .i64 0]) ∧ IdsAt W w.heap.size X c s) ∨ (¬ LoadOk c s ∧ e = .returned (.tuple #[.pointer none, .int .i64 11]))) ∧ Below w.heap.size w W

set_option maxRecDepth 100000 in
/-- ids.New -/
theorem cidsNew_calls {n m : Int} (h1 : 1 ≤ n ∧ n ≤ 1024) (h2 : 1 ≤ m ∧ m ≤ 1073741824) (w : World) : Calls Tryz.prog 36 #[.int .i64 n, .int .i64 m] w fun e w' => e = .returned (.pointer (some ⟨w.heap.size, 0, none⟩)) ∧ w' = w.alloc (.cells #[.slice none 0 0, .slice none 0 0, .int .i64 n, .int .i64 m] 92) := by
  have a1 : ¬ n < 1 := by omega
  have a2 : ¬ 1024 < n := by omega
  have a3 : ¬ m < 1 := by omega
  have a4 : ¬ 1073741824 < m := by omega
  have a5 : max n 1 = n := by omega
  have a6 : min n 1024 = n := by omega
  have a7 : max m 1 = m := by omega
  have a8 : min m 1073741824 = m := by omega
  go_enter Tryz.func36, Tryz.ntmps36
  go_wp2_with fail
  go_ret
  exact ⟨rfl, rfl⟩

set_option maxRecDepth 100000 in
set_option maxHeartbeats 4000000 in
/-- ids.Load -/
theorem cidsLoad_calls {Q : Nat → Prop} {w : World} {c : DConf} {s : DState} {A1 A2 : Option Addr} {c1 c2 : Nat} (hg : (Rep.int .i64).list.val Q w (.slice A1 s.gens.length c1) s.gens) (hf : (Rep.int .i64).list.val Q w (.slice A2 s.free.length c2) s.free) (hr : confRight c = true) :
    Calls Tryz.prog 16 #[.int .i64 c.entities, .int .i64 c.gens, .slice A1 s.gens.length c1, .slice A2 s.free.length c2] w (IdsAns w c s) := by
  have l1 := (sl_of hg).2.1
  have l2 := (sl_of hf).2.1
  have m1 := (sl_of hg).1
  have m2 := (sl_of hf).1
  unfold maxLen at l1 l2
  have hce := (right_facts hr).1
  obtain ⟨X, hX⟩ : ∃ X, w.heap.size = X := ⟨_, rfl⟩
  obtain ⟨W1, hW1⟩ : ∃ W, w.alloc (.cells #[.slice none 0 0, .slice none 0 0, .int .i64 c.entities, .int .i64 c.gens] 92) = W := ⟨_, rfl⟩
  have hb1 : Below w.heap.size w W1 := by rw [← hW1]; exact (Below.refl _ _).alloc (Nat.le_refl _) _
  have hz1 : W1.heap.size = w.heap.size + 1 := by rw [← hW1]; simp
  have R1 := Lib.hid (show IdsRow W1 X (.slice none 0 0) (.slice none 0 0) c by unfold IdsRow; rw [← hW1, ← hX]; exact alloc_at rfl)
  have HX := Lib.hid hX
  have HB1 := Lib.hid hb1
  have HZ1 := Lib.hid (show W1.heap.size = X + 1 by rw [hz1, hX])
  have HG := Lib.hid (show ∀ V, Only (fun b => b = X) W1 V → (Rep.int .i64).list.val (Lo Q w) V (.slice A1 s.gens.length c1) s.gens from fun V h => Rep.val_keep (fun b hb _ => ⟨hb, h.block b (by have := hb.2; omega) (by have := hb.2; omega)⟩) (val_lo hg hb1))
  have HF := Lib.hid (show ∀ V, Only (fun b => b = X) W1 V → (Rep.int .i64).list.val (Lo Q w) V (.slice A2 s.free.length c2) s.free from fun V h => Rep.val_keep (fun b hb _ => ⟨hb, h.block b (by have := hb.2; omega) (by have := hb.2; omega)⟩) (val_lo hf hb1))
  have HFIN := Lib.hid (show ∀ V, Only (fun b => b = X) W1 V → Below w.heap.size w V from fun V h => ⟨h.os.trans hb1.os, h.tape.trans hb1.tape, h.output.trans hb1.output, Nat.le_trans hb1.size h.size, fun b hl => (h.block b (by omega) (by omega)).trans (hb1.block b hl)⟩)
  go_enter Tryz.func16, Tryz.ntmps16
  go_wp2_with fail
  refine (cidsNew_calls (by omega) (by omega) _).mono ?_
  rintro e w1 ⟨rfl, hw⟩
  rw [hW1] at hw
  obtain rfl := hw.symm
  rw [hX]
  clear hW1 hX hb1 hz1 hg hf hw
  have r2 := cell_row R1.out 2
  have z2 := frozen_row R1.out 2
  by_cases hmany : c.entities < (s.gens.length : Int)
  · have HN := Lib.hid (show ¬ LoadOk c s from fun h => by have := h.many; omega)
    go_wp2_with fail
    go_ret2
    exact ⟨.inr ⟨HN.out, rfl⟩, HFIN.out _ (Only.refl _ _)⟩
  · go_wp2_with fail
    clear r2 z2

    have HMANY := Lib.hid (show (s.gens.length : Int) ≤ c.entities by omega)
    have HL := Lib.hid (show s.gens.length ≤ 1024 by omega)
    go_loopw [27] (fun i wr => ∃ (j : Nat) (v : Value), i = .int .i64 j ∧ j ≤ s.gens.length ∧ Hid (IdsRow wr X v (.slice none 0 0) c) ∧ Hid (rSlot.acc 94 (X + 1) (fun _ => False) wr v ((slotsS c s 0).take j)) ∧ Hid (Only (fun b => b = X) W1 wr) ∧ Hid (∀ (k : Nat) g, k < j → s.gens[k]? = some g → 0 ≤ g ∧ g ≤ c.gens)) (fun i _ => s.gens.length - (intOf i).toNat)
    case atStart => exact ⟨0, _, rfl, Nat.zero_le _, R1, Lib.hid Rep.acc_nil, Lib.hid (Only.refl _ _), Lib.hid (fun k g h => by omega)⟩
    case round =>
      obtain ⟨j, v, rfl, hj, HR, HAC, HO, HLIM⟩ := hrel
      have zz := HO.out.size
      have zx := HZ1.out
      have r0 := cell_row HR.out 0
      have r3 := cell_row HR.out 3
      have f3 := frozen_row HR.out 3
      have f0 := frozen_row HR.out 0
      by_cases hlt : (j : Int) < s.gens.length
      · obtain ⟨g, hgj⟩ : ∃ g, s.gens[j]? = some g := ⟨_, List.getElem?_eq_getElem (by omega)⟩
        obtain ⟨gb, go, rfl, _, kg, wg⟩ := int_at (sl_of (HG.out wr HO.out)).2.2 hgj
        have HGJ := Lib.hid hgj
        have HWG := Lib.hid wg
        clear hgj wg
        by_cases h1 : g < 0
        · have HN := Lib.hid (show ¬ LoadOk c s from fun h => by have := h.lim g (List.mem_of_getElem? HGJ.out); omega)
          go_wp2_with fail
          go_ret2
          exact ⟨.inr ⟨HN.out, rfl⟩, HFIN.out _ HO.out⟩
        · by_cases h2 : c.gens < g
          · have HN := Lib.hid (show ¬ LoadOk c s from fun h => by have := h.lim g (List.mem_of_getElem? HGJ.out); omega)
            go_wp2_with fail
            go_ret2
            exact ⟨.inr ⟨HN.out, rfl⟩, HFIN.out _ HO.out⟩
          · have HB := Lib.hid (show 0 ≤ g ∧ g ≤ c.gens by omega)
            by_cases hgc : g < c.gens
            · skip
              have HTK := Lib.hid (show (slotsS c s 0).take (j + 1) = (slotsS c s 0).take j ++ [⟨g, true⟩] by
                have hjl : j < s.gens.length := by omega
                have hgd : s.gens.getD j 0 = g := by rw [List.getD_eq_getElem?_getD, HGJ.out]; rfl
                rw [List.take_add_one, slotsS_at hjl, hgd]
                simp <;> omega)
              have HLJ := Lib.hid (show ((slotsS c s 0).take j).length = j by rw [List.length_take, slotsS_len]; omega)

              go_wp2_with fail
              clear r0 r3 f0 f3 kg
              refine wp_region_tail (S := fun W => Below wr.heap.size wr W) (T := [0, 14, 15, 16, 17]) (by kernel_rfl) ((Below.refl _ _).drew) (fun s0 => ?_)
              obtain ⟨u0, hu0⟩ : ∃ V, V = wr.drew := ⟨_, rfl⟩
              rw [← hu0] at s0 ⊢
              have t0 : Below wr.heap.size wr u0 := s0
              clear hu0 s0
              refine tk0 (i := 0) (v := .pointer (some ⟨X, 0, none⟩)) rfl (Or.inl ⟨by rfl, fun w' _ => by go_simp⟩) ?_
              go_simp
              refine tkTV (i := 1) (v := .pointer (some ⟨X, 0, none⟩)) rfl t0 ?_
              go_simp
              refine tkTV (i := 2) (v := .pointer (some ⟨X, 0, none⟩)) rfl t0 ?_
              go_simp
              refine tkTV (i := 3) (v := .pointer (some ⟨X, 0, none⟩)) rfl t0 ?_
              go_simp
              obtain ⟨AU, cU, rfl, hu1, hu2⟩ := Rep.acc_form HAC.out
              rw [HLJ.out] at hu1 HR
              unfold maxLen at hu2
              obtain ⟨q, hq⟩ : ∃ q, (slotsS c s 0).take j = q := ⟨_, rfl⟩
              rw [hq] at HAC HTK HLJ
              have HQ9 := Lib.hid hq
              rw [HLJ.out] at HAC
              clear hq
              refine tkT (i := 4) (v := .slice AU j cU) rfl (Or.inl ⟨by rfl, fun w' h => by have e := cell_row (row_call (h : Below wr.heap.size wr w') HR.out) 0; go_simp⟩) t0 ?_
              go_simp
              refine tkTV (i := 5) (v := .int .i64 g) rfl t0 ?_
              go_simp
              refine tkTV (i := 6) (v := .int .i64 g) rfl t0 ?_
              go_simp
              refine tkTV (i := 7) (v := .pointer (some ⟨X, 0, none⟩)) rfl t0 ?_
              go_simp
              refine tkTV (i := 8) (v := .pointer (some ⟨X, 0, none⟩)) rfl t0 ?_
              go_simp
              refine tkTV (i := 9) (v := .pointer (some ⟨X, 3, none⟩)) rfl t0 ?_
              go_simp
              refine tkT (i := 10) (v := .int .i64 c.gens) rfl (Or.inl ⟨by rfl, fun w' h => by have e := cell_row (row_call (h : Below wr.heap.size wr w') HR.out) 3; go_simp⟩) t0 ?_
              go_simp
              refine tkTV (i := 11) (v := .bool true) rfl t0 ?_
              go_simp
              refine tkTV (i := 12) (v := .agg #[.int .i64 g, .bool true]) rfl t0 ?_
              go_simp
              have HAU := Lib.hid (show rSlot.acc 94 (X + 1) (fun _ => False) u0 (.slice AU j cU) q from Rep.acc_later HAC.out t0)
              have HBZ := Lib.hid (show X + 1 ≤ u0.heap.size from by have := t0.size; omega)
              have HLN := Lib.hid (show q.length + 1 ≤ maxLen ∧ (q.length + 1) * 16 ≤ 140737488355328 by rw [HLJ.out]; have := HL.out; unfold maxLen; omega)
              have HR0 := Lib.hid (row_call t0 HR.out)
              have HO0 := Lib.hid (HO.out.trans (Only.of_below t0))
              refine wpAnyT_one (i := 13) rfl (by kernel_rfl) rfl (fun K hK => ?_)
              go_simp
              refine hK _ _ ⟨Below.alloc t0 (Below.size t0) _, ?_⟩
              clear hK K
              refine wpAnyT_last (i := 14) rfl (by kernel_rfl) rfl (fun K hK => ?_)
              refine step_snoc2 (w := u0) rfl _ _ 90 rfl (.agg #[.int .i64 0, .bool false]) 2 16 Tryz.underlying90 infoSlot rfl (by decide) rfl _ q (by exact rfl) HAU.out ⟨g, true⟩ (.agg #[.int .i64 g, .bool true]) (rSlot_agg (x := ⟨g, true⟩) HWG.out) (by exact rfl) HLN.out.1 HLN.out.2 HBZ.out ?_
              intro v7 w7 hacc7 hgr7 _
              have hnoX : (Value.slice AU j cU).ownBlock ≠ some X := fun e => by have := (Rep.acc_own HAU.out X e).1; omega
              have HO7 := Lib.hid (show Only (fun b => b = X) W1 w7 from ⟨hgr7.os.trans HO0.out.os, hgr7.tape.trans HO0.out.tape, hgr7.output.trans HO0.out.output, Nat.le_trans HO0.out.size hgr7.size, fun b hl hf => (hgr7.block b (by have := HO0.out.size; omega) (fun e => by have := (Rep.acc_own HAU.out b e.symm).1; have := HZ1.out; omega)).trans (HO0.out.block b hl hf)⟩)
              have HR7 := Lib.hid (show IdsRow w7 X (.slice AU j cU) (.slice none 0 0) c from (hgr7.block X (by have := HBZ.out; omega) (fun e => hnoX e.symm)).trans HR0.out)
              obtain ⟨A9, c9, rfl, _, _⟩ := Rep.acc_form hacc7
              rw [List.length_append, List.length_singleton, HLJ.out] at hacc7
              have HA7 := Lib.hid hacc7
              go_simp
              refine hK _ _ ?_
              clear hK K hacc7 hgr7 hnoX
              refine tk0 (i := 15) (v := .pointer (some ⟨X, 0, none⟩)) rfl (Or.inl ⟨by rfl, fun w' _ => by go_simp⟩) ?_
              go_simp
              refine tk0 (i := 16) (v := .pointer (some ⟨X, 0, none⟩)) rfl (Or.inl ⟨by rfl, fun w' _ => by go_simp⟩) ?_
              go_simp
              refine wpAnyT_last (i := 17) rfl (by kernel_rfl) rfl (fun K hK => ?_)
              obtain ⟨x0, xf0⟩ := rw1 HR7.out
              go_simp
              refine hK _ _ ?_
              clear hK K x0 xf0
              refine nm_anyT (fun w8 hnm => ?_)
              have HR8 := Lib.hid (show IdsRow w8 X (.slice A9 (j + 1) c9) (.slice none 0 0) c by rw [hnm, HLJ.out]; exact heap_setRow HR7.out)
              have HA8 := Lib.hid (show rSlot.acc 94 (X + 1) (fun _ => False) w8 (.slice A9 (j + 1) c9) ((slotsS c s 0).take (j + 1)) by rw [HTK.out]; exact Rep.acc_keep (fun b hb _ => by rw [hnm]; exact Below.heap_setCell _ _ _ _ (by rcases hb with h | h; exact absurd h id; have := (Rep.acc_own HA7.out b h).1; dsimp only; omega)) (fun _ h _ => h) HA7.out)
              have HO8 := Lib.hid (show Only (fun b => b = X) W1 w8 by rw [hnm]; exact HO7.out.put rfl)
              have HLM8 := Lib.hid (show ∀ (k : Nat) y, k < j + 1 → s.gens[k]? = some y → 0 ≤ y ∧ y ≤ c.gens from fun k y hk hy => by
                by_cases e : k = j
                · subst e; rw [HGJ.out] at hy; cases hy; exact HB.out
                · exact HLIM.out k y (by omega) hy)
              clear hnm
              refine wpAnyT_done (by kernel_rfl) ?_ _
              have iw : IntKind.i64.wrap ((j : Int) + 1) = (j : Int) + 1 := IntWalk.i64_in _ ⟨by omega, by omega⟩
              go_wp2_with fail
              exact ⟨⟨j + 1, _, by go_num, by omega, HR8, HA8, HO8, HLM8⟩, by simp [intOf]; omega⟩
            · skip
              have HTK := Lib.hid (show (slotsS c s 0).take (j + 1) = (slotsS c s 0).take j ++ [⟨g, false⟩] by
                have hjl : j < s.gens.length := by omega
                have hgd : s.gens.getD j 0 = g := by rw [List.getD_eq_getElem?_getD, HGJ.out]; rfl
                rw [List.take_add_one, slotsS_at hjl, hgd]
                simp <;> omega)
              have HLJ := Lib.hid (show ((slotsS c s 0).take j).length = j by rw [List.length_take, slotsS_len]; omega)
              have hgc2 : c.gens ≤ g := by omega
              go_wp2_with fail
              clear r0 r3 f0 f3 kg
              refine wp_region_tail (S := fun W => Below wr.heap.size wr W) (T := [0, 14, 15, 16, 17]) (by kernel_rfl) ((Below.refl _ _).drew) (fun s0 => ?_)
              obtain ⟨u0, hu0⟩ : ∃ V, V = wr.drew := ⟨_, rfl⟩
              rw [← hu0] at s0 ⊢
              have t0 : Below wr.heap.size wr u0 := s0
              clear hu0 s0
              refine tk0 (i := 0) (v := .pointer (some ⟨X, 0, none⟩)) rfl (Or.inl ⟨by rfl, fun w' _ => by go_simp⟩) ?_
              go_simp
              refine tkTV (i := 1) (v := .pointer (some ⟨X, 0, none⟩)) rfl t0 ?_
              go_simp
              refine tkTV (i := 2) (v := .pointer (some ⟨X, 0, none⟩)) rfl t0 ?_
              go_simp
              refine tkTV (i := 3) (v := .pointer (some ⟨X, 0, none⟩)) rfl t0 ?_
              go_simp
              obtain ⟨AU, cU, rfl, hu1, hu2⟩ := Rep.acc_form HAC.out
              rw [HLJ.out] at hu1 HR
              unfold maxLen at hu2
              obtain ⟨q, hq⟩ : ∃ q, (slotsS c s 0).take j = q := ⟨_, rfl⟩
              rw [hq] at HAC HTK HLJ
              have HQ9 := Lib.hid hq
              rw [HLJ.out] at HAC
              clear hq
              refine tkT (i := 4) (v := .slice AU j cU) rfl (Or.inl ⟨by rfl, fun w' h => by have e := cell_row (row_call (h : Below wr.heap.size wr w') HR.out) 0; go_simp⟩) t0 ?_
              go_simp
              refine tkTV (i := 5) (v := .int .i64 g) rfl t0 ?_
              go_simp
              refine tkTV (i := 6) (v := .int .i64 g) rfl t0 ?_
              go_simp
              refine tkTV (i := 7) (v := .pointer (some ⟨X, 0, none⟩)) rfl t0 ?_
              go_simp
              refine tkTV (i := 8) (v := .pointer (some ⟨X, 0, none⟩)) rfl t0 ?_
              go_simp
              refine tkTV (i := 9) (v := .pointer (some ⟨X, 3, none⟩)) rfl t0 ?_
              go_simp
              refine tkT (i := 10) (v := .int .i64 c.gens) rfl (Or.inl ⟨by rfl, fun w' h => by have e := cell_row (row_call (h : Below wr.heap.size wr w') HR.out) 3; go_simp⟩) t0 ?_
              go_simp
              refine tkTV (i := 11) (v := .bool false) rfl t0 ?_
              go_simp
              refine tkTV (i := 12) (v := .agg #[.int .i64 g, .bool false]) rfl t0 ?_
              go_simp
              have HAU := Lib.hid (show rSlot.acc 94 (X + 1) (fun _ => False) u0 (.slice AU j cU) q from Rep.acc_later HAC.out t0)
              have HBZ := Lib.hid (show X + 1 ≤ u0.heap.size from by have := t0.size; omega)
              have HLN := Lib.hid (show q.length + 1 ≤ maxLen ∧ (q.length + 1) * 16 ≤ 140737488355328 by rw [HLJ.out]; have := HL.out; unfold maxLen; omega)
              have HR0 := Lib.hid (row_call t0 HR.out)
              have HO0 := Lib.hid (HO.out.trans (Only.of_below t0))
              refine wpAnyT_one (i := 13) rfl (by kernel_rfl) rfl (fun K hK => ?_)
              go_simp
              refine hK _ _ ⟨Below.alloc t0 (Below.size t0) _, ?_⟩
              clear hK K
              refine wpAnyT_last (i := 14) rfl (by kernel_rfl) rfl (fun K hK => ?_)
              refine step_snoc2 (w := u0) rfl _ _ 90 rfl (.agg #[.int .i64 0, .bool false]) 2 16 Tryz.underlying90 infoSlot rfl (by decide) rfl _ q (by exact rfl) HAU.out ⟨g, false⟩ (.agg #[.int .i64 g, .bool false]) (rSlot_agg (x := ⟨g, false⟩) HWG.out) (by exact rfl) HLN.out.1 HLN.out.2 HBZ.out ?_
              intro v7 w7 hacc7 hgr7 _
              have hnoX : (Value.slice AU j cU).ownBlock ≠ some X := fun e => by have := (Rep.acc_own HAU.out X e).1; omega
              have HO7 := Lib.hid (show Only (fun b => b = X) W1 w7 from ⟨hgr7.os.trans HO0.out.os, hgr7.tape.trans HO0.out.tape, hgr7.output.trans HO0.out.output, Nat.le_trans HO0.out.size hgr7.size, fun b hl hf => (hgr7.block b (by have := HO0.out.size; omega) (fun e => by have := (Rep.acc_own HAU.out b e.symm).1; have := HZ1.out; omega)).trans (HO0.out.block b hl hf)⟩)
              have HR7 := Lib.hid (show IdsRow w7 X (.slice AU j cU) (.slice none 0 0) c from (hgr7.block X (by have := HBZ.out; omega) (fun e => hnoX e.symm)).trans HR0.out)
              obtain ⟨A9, c9, rfl, _, _⟩ := Rep.acc_form hacc7
              rw [List.length_append, List.length_singleton, HLJ.out] at hacc7
              have HA7 := Lib.hid hacc7
              go_simp
              refine hK _ _ ?_
              clear hK K hacc7 hgr7 hnoX
              refine tk0 (i := 15) (v := .pointer (some ⟨X, 0, none⟩)) rfl (Or.inl ⟨by rfl, fun w' _ => by go_simp⟩) ?_
              go_simp
              refine tk0 (i := 16) (v := .pointer (some ⟨X, 0, none⟩)) rfl (Or.inl ⟨by rfl, fun w' _ => by go_simp⟩) ?_
              go_simp
              refine wpAnyT_last (i := 17) rfl (by kernel_rfl) rfl (fun K hK => ?_)
              obtain ⟨x0, xf0⟩ := rw1 HR7.out
              go_simp
              refine hK _ _ ?_
              clear hK K x0 xf0
              refine nm_anyT (fun w8 hnm => ?_)
              have HR8 := Lib.hid (show IdsRow w8 X (.slice A9 (j + 1) c9) (.slice none 0 0) c by rw [hnm, HLJ.out]; exact heap_setRow HR7.out)
              have HA8 := Lib.hid (show rSlot.acc 94 (X + 1) (fun _ => False) w8 (.slice A9 (j + 1) c9) ((slotsS c s 0).take (j + 1)) by rw [HTK.out]; exact Rep.acc_keep (fun b hb _ => by rw [hnm]; exact Below.heap_setCell _ _ _ _ (by rcases hb with h | h; exact absurd h id; have := (Rep.acc_own HA7.out b h).1; dsimp only; omega)) (fun _ h _ => h) HA7.out)
              have HO8 := Lib.hid (show Only (fun b => b = X) W1 w8 by rw [hnm]; exact HO7.out.put rfl)
              have HLM8 := Lib.hid (show ∀ (k : Nat) y, k < j + 1 → s.gens[k]? = some y → 0 ≤ y ∧ y ≤ c.gens from fun k y hk hy => by
                by_cases e : k = j
                · subst e; rw [HGJ.out] at hy; cases hy; exact HB.out
                · exact HLIM.out k y (by omega) hy)
              clear hnm
              refine wpAnyT_done (by kernel_rfl) ?_ _
              have iw : IntKind.i64.wrap ((j : Int) + 1) = (j : Int) + 1 := IntWalk.i64_in _ ⟨by omega, by omega⟩
              go_wp2_with fail
              exact ⟨⟨j + 1, _, by go_num, by omega, HR8, HA8, HO8, HLM8⟩, by simp [intOf]; omega⟩
      · obtain rfl : j = s.gens.length := by omega
        rw [List.take_of_length_le (by rw [slotsS_len]; exact Nat.le_refl _)] at HAC
        clear hlt
        go_wp2_with fail
        clear r0 r3 f0 f3
        rename World => wo
        rename Value => vo
        go_loopw [61] (fun i wr => ∃ (j : Nat) (v : Value), i = .int .i64 j ∧ j ≤ s.free.length ∧ Hid (IdsRow wr X v (.slice none 0 0) c) ∧ Hid (rSlot.acc 94 (X + 1) (fun _ => False) wr v (slotsS c s j)) ∧ Hid (Only (fun b => b = X) W1 wr) ∧ Hid (∀ (i : Nat) k, i < j → s.free[i]? = some k → 0 ≤ k ∧ k < s.gens.length ∧ k ∉ s.free.take i ∧ s.gens.getD k.toNat 0 ≠ 0 ∧ s.gens.getD k.toNat 0 < c.gens)) (fun i _ => s.free.length - (intOf i).toNat)
        case atStart => exact ⟨0, _, rfl, Nat.zero_le _, HR, HAC, HO, Lib.hid (fun k g h => by omega)⟩
        case round =>
          obtain ⟨i, v, rfl, hi, HR2, HAC2, HO2, HFR⟩ := hrel
          have zz2 := HO2.out.size
          obtain ⟨r0, f0, r1, f1⟩ := rw2 HR2.out
          by_cases hlt : (i : Int) < s.free.length
          · obtain ⟨k, hki⟩ : ∃ k, s.free[i]? = some k := ⟨_, List.getElem?_eq_getElem (by omega)⟩
            obtain ⟨fb, fo, rfl, _, kf, _⟩ := int_at (sl_of (HF.out wr HO2.out)).2.2 hki
            have HKI := Lib.hid hki
            clear hki
            by_cases h1 : k < 0
            · have HN := Lib.hid (show ¬ LoadOk c s from fun h => by have := (h.free i k HKI.out).1; omega)
              go_wp2_with fail
              go_ret2
              exact ⟨.inr ⟨HN.out, rfl⟩, HFIN.out _ HO2.out⟩
            · by_cases h2 : (s.gens.length : Int) ≤ k
              · have HN := Lib.hid (show ¬ LoadOk c s from fun h => by have := (h.free i k HKI.out).2.1; omega)
                go_wp2_with fail
                go_ret2
                exact ⟨.inr ⟨HN.out, rfl⟩, HFIN.out _ HO2.out⟩
              · obtain ⟨n, rfl⟩ : ∃ n : Nat, k = (n : Int) := ⟨k.toNat, by omega⟩
                have hn : n < s.gens.length := by omega
                have hnz : (n : Int) < s.gens.length := by omega
                obtain ⟨sb, cap, rfl, h3, h4, h5, h6, e0, e1, e2⟩ := slot_own HAC2.out (slotsS_at hn)
                have HSB := Lib.hid (And.intro h5 h6)
                unfold maxLen at h4
                have HAS := Lib.hid (slotsS_len c s i)
                rw [HAS.out] at h3 HR2 HAC2 r0
                obtain ⟨g, hgn⟩ : ∃ g, s.gens[n]? = some g := ⟨_, List.getElem?_eq_getElem hn⟩
                have hgd : s.gens.getD n 0 = g := by rw [List.getD_eq_getElem?_getD, hgn]; rfl
                obtain ⟨gb, go, rfl, _, kg, _⟩ := int_at (sl_of (HG.out wr HO2.out)).2.2 hgn
                rw [hgd] at e0 e1
                have HGD := Lib.hid hgd
                clear hgn hgd
                dsimp only at e0 e1
                by_cases h7 : g < c.gens ∧ (n : Int) ∉ s.free.take i
                · rw [show (decide (g < c.gens) && decide ((n : Int) ∉ s.free.take i)) = true by simp [h7.1]; exact h7.2] at e1
                  by_cases h8 : g = 0
                  · have b8 : (g == 0) = true := by simp [h8]
                    have HN := Lib.hid (show ¬ LoadOk c s from fun h => (h.free i _ HKI.out).2.2.2.1 (by rw [Int.toNat_natCast, HGD.out, h8]))
                    clear h8 h7
                    go_wp2_with fail
                    go_ret2
                    exact ⟨.inr ⟨HN.out, rfl⟩, HFIN.out _ HO2.out⟩
                  · have b8 : (g == 0) = false := by simpa using h8
                    have HFN := Lib.hid (show ∀ (m : Nat) k, m < i + 1 → s.free[m]? = some k → 0 ≤ k ∧ k < s.gens.length ∧ k ∉ s.free.take m ∧ s.gens.getD k.toNat 0 ≠ 0 ∧ s.gens.getD k.toNat 0 < c.gens from fun m k hm hk => by
                      by_cases e : m = i
                      · subst e; rw [HKI.out] at hk; cases hk; exact ⟨by omega, by omega, h7.2, by rw [Int.toNat_natCast, HGD.out]; exact h8, by rw [Int.toNat_natCast, HGD.out]; exact h7.1⟩
                      · exact HFR.out m k (by omega) hk)
                    clear h8 h7
                    have hsb := HSB.out
                    have iw : IntKind.i64.wrap ((i : Int) + 1) = (i : Int) + 1 := IntWalk.i64_in _ ⟨by omega, by omega⟩
                    go_wp2_with fail
                    exact ⟨⟨i + 1, _, by go_num, by omega, Lib.hid (row_other HR2.out (by omega)), Lib.hid (by rw [← slotsS_next HKI.out hn]; exact acc_slot_off HAC2.out rfl (slotsS_at hn)), Lib.hid (HO2.out.late (by have := hsb.1; omega)), HFN⟩, by simp [intOf]; omega⟩
                · rw [show (decide (g < c.gens) && decide ((n : Int) ∉ s.free.take i)) = false by
                    rw [Bool.eq_false_iff]; intro h; rw [Bool.and_eq_true, decide_eq_true_eq, decide_eq_true_eq] at h; exact h7 h] at e1
                  have HN := Lib.hid (show ¬ LoadOk c s from fun h => h7 ⟨by have := (h.free i _ HKI.out).2.2.2.2; rwa [Int.toNat_natCast, HGD.out] at this, (h.free i _ HKI.out).2.2.1⟩)
                  clear h7
                  go_wp2_with fail
                  go_ret2
                  exact ⟨.inr ⟨HN.out, rfl⟩, HFIN.out _ HO2.out⟩
          · obtain rfl : i = s.free.length := by omega
            clear hlt
            have HLO := Lib.hid (show LoadOk c s from LoadOk.of HMANY.out (fun j g hg => HLIM.out j g (List.getElem?_eq_some_iff.1 hg).1 hg) (fun j k hk => HFR.out j k (List.getElem?_eq_some_iff.1 hk).1 hk))
            have HFL := Lib.hid (show s.free.length ≤ 1000000 by
              have := free_len (n := s.gens.length) fun j k hk => by have := HLO.out.free j k hk; exact ⟨this.1, this.2.1, this.2.2.1⟩
              have := HL.out
              omega)
            go_wp2_with fail
            refine (cloneInts_calls (HF.out _ HO2.out) HFL.out).mono ?_
            rintro e w3 ⟨f, rfl, hac, hb⟩
            have HR3 := Lib.hid (row_call hb HR2.out)
            have HA3 := Lib.hid (Rep.acc_later HAC2.out hb)
            have HO3 := Lib.hid (HO2.out.trans (Only.of_below hb))
            obtain ⟨AF, cf, rfl, _, _⟩ := Rep.acc_form hac
            clear hb hac r0 f0 r1 f1
            obtain ⟨r0, f0, r1, f1⟩ := rw2 HR3.out
            go_wp2_with fail
            go_ret2
            have hx := HX.out
            exact ⟨.inl ⟨HLO.out, X, rfl, by omega, _, _, heap_setRow HR3.out, Rep.val_mono (fun b hb _ => by have : X + 1 ≤ b := hb; omega) (Rep.acc_fresh (Rep.acc_keep (fun b hb _ => Below.heap_setCell _ _ _ _ (by rcases hb with h | h; exact absurd h id; have := (Rep.acc_own HA3.out b h).1; dsimp only; omega)) (fun _ h _ => h) HA3.out))⟩, HFIN.out _ (HO3.out.put rfl)⟩
end Go.Proofs.YthkepjhfeeohdaaGreatDoor
namespace Go.Proofs.YthkepjhfeeohdaaGreatDoor
open Go.RowKit

theorem atI_alive {c : DConf} {s : DState} {i : Int} : atI (idsOf c s) i = if aliveB c s i = true then some ⟨i, s.gens.getD i.toNat 0⟩ else none := by
  unfold atI aliveB idsOf
  dsimp only
  by_cases h0 : 0 ≤ i
  · by_cases hf : i ∈ s.free
    · rw [if_neg (fun h => h.2 hf), if_neg]
      simp [hf]
    · rw [if_pos ⟨h0, hf⟩]
      by_cases hl : i.toNat < s.gens.length
      · rw [List.getElem?_eq_getElem hl]
        have e : s.gens.getD i.toNat 0 = s.gens[i.toNat] := by rw [List.getD_eq_getElem?_getD, List.getElem?_eq_getElem hl]; rfl
        rw [e]
        dsimp only
        by_cases hg : s.gens[i.toNat] < c.gens
        · rw [if_pos hg, if_pos]
          simp [h0, hf, hg]; omega
        · rw [if_neg hg, if_neg]
          simp [hg]
      · rw [List.getElem?_eq_none (by omega)]
        dsimp only
        rw [if_neg]
        simp
        intro _ h2
        omega
  · rw [if_neg (fun h => h0 h.1), if_neg]
    simp [h0]
theorem alive_live {c : DConf} {s : DState} {d : DID} : decide (atI (idsOf c s) d.index = some d) = liveB c s d := by
  rw [atI_alive]
  unfold liveB
  by_cases h : aliveB c s d.index = true
  · rw [if_pos h, h]
    by_cases hg : s.gens.getD d.index.toNat 0 = d.gen
    · rw [hg]; simp
    · rw [decide_eq_false, decide_eq_false hg]; rfl
      intro h2
      exact hg (congrArg DID.gen (Option.some.inj h2))
  · rw [if_neg h]
    simp [h]
end Go.Proofs.YthkepjhfeeohdaaGreatDoor
namespace Go.Proofs.YthkepjhfeeohdaaGreatDoor
open Go.RowKit

theorem IdsAt.call {W W' : World} {base X : Nat} {c : DConf} {s : DState} (h : IdsAt W base X c s) (hb : Below W.heap.size W W') : IdsAt W' base X c s := by
  obtain ⟨h0, v, f, h1, h2⟩ := h
  exact ⟨h0, v, f, row_call hb h1, Rep.val_keep (fun b hq hl => ⟨hq, hb.block b hl.lt⟩) h2⟩

set_option maxRecDepth 100000 in
set_option maxHeartbeats 2000000 in
/-- (*ids.Ids).At -/
theorem cidsAt_calls {w : World} {base X : Nat} {c : DConf} {s : DState} {i : Int} (h : IdsAt w base X c s) :
    Calls Tryz.prog 38 #[.pointer (some ⟨X, 0, none⟩), .int .i64 i] w fun e w' => e = .returned (.tuple #[.agg #[.int .i64 ((atI (idsOf c s) i).getD noID).index, .int .i64 ((atI (idsOf c s) i).getD noID).gen], .bool (atI (idsOf c s) i).isSome]) ∧ Below w.heap.size w w' := by
  have H := Lib.hid h
  have hXl := (Array.getElem?_eq_some_iff.1 h.2.choose_spec.choose_spec.1).1
  have hfr : Tryz.f38.results = #[.cell 4 40, .tmp 5] := rfl
  clear h
  obtain ⟨W0, hW0⟩ : ∃ W, (w.alloc (.cells #[.int .i64 0, .int .i64 0] 40)) = W := ⟨_, rfl⟩
  have hz0 : W0.heap.size = w.heap.size + 1 := by rw [← hW0]; simp
  have hb0 : Below w.heap.size w W0 := by rw [← hW0]; exact (Below.refl _ _).alloc (Nat.le_refl _) _
  have HZ := Lib.hid hz0
  have HB0 := Lib.hid hb0
  have R0_0 := Lib.hid (show W0.heap[w.heap.size]? = some (.cells #[.int .i64 0, .int .i64 0] 40 (0, 0)) by rw [← hW0]; exact alloc_at rfl)
  have O0 := Lib.hid (Only.refl (Box w 1) W0)
  have HI := Lib.hid (H.out.call hb0)
  obtain ⟨_, v, fv, hr, hv⟩ := HI.out
  obtain ⟨A, n9, cap, hve, hc1, hc2, hA⟩ : ∃ (A : Option Addr) (n9 cap : Nat), v = .slice A n9 cap ∧ n9 = s.gens.length ∧ (n9 ≤ cap ∧ cap ≤ maxLen) ∧ rSlot.At (fun b => base ≤ b) W0 A (slotsS c s s.free.length) := by
    obtain ⟨A, cap, h1, h2, h3, h4⟩ := Rep.val_list hv
    exact ⟨A, _, cap, h1, slotsS_len _ _ _, ⟨h2, h3⟩, h4⟩
  subst hve hc1
  have HR := Lib.hid hr
  have HA := Lib.hid hA
  have hc3 := hc2.1
  have hc4 := hc2.2
  unfold maxLen at hc4
  clear hr hv hA hc2
  by_cases h1 : i < 0
  · skip
    have HD := Lib.hid (show aliveB c s i = false by unfold aliveB; rw [decide_eq_false (by omega)]; rfl)
    have HE := Lib.hid (show atI (idsOf c s) i = none by rw [atI_alive, if_neg (by rw [HD.out]; decide)])
    obtain ⟨x0, x2⟩ := rw1 HR.out
    have dX : ¬ X = w.heap.size := by omega
    clear hz0 hb0
    obtain ⟨q0_0, z0_0, q0_1, z0_1⟩ := rw2 R0_0.out
    go_enter Tryz.func38, Tryz.ntmps38
    go_wp2_with fail
    try rw [hW0]
    clear hW0
    try go_wp2_with fail
    clear x0 x2
    clear q0_0 z0_0 q0_1 z0_1
    refine nm_post (fun w2 hnm => ?_)
    have S1 := Lib.hid (show Only (Box w 1) W0 w2 from (by rw [hnm]; exact ((Only.refl (Box w 1) W0).put ⟨by omega, by omega⟩).put ⟨by omega, by omega⟩))
    have O1 := Lib.hid (O0.out.trans S1.out)
    have R0_1 := Lib.hid (show w2.heap[w.heap.size]? = some (.cells #[.int .i64 0, .int .i64 0] 40 (0, 0)) from (by rw [hnm]; exact heap_setRow (heap_setRow (R0_0.out))))
    clear hnm
    obtain ⟨q0_0, q0_1⟩ := cl2 R0_1.out
    refine ⟨rfl, .tuple #[.agg #[.int .i64 0, .int .i64 0], .bool false], by simp only [results, hfr]; go_simp, ?_⟩
    clear q0_0 q0_1
    exact ⟨by rw [HE.out]; rfl, Only.fin HB0.out O1.out⟩
  · by_cases h2 : (s.gens.length : Int) ≤ i
    · skip
      have HD := Lib.hid (show aliveB c s i = false by unfold aliveB; rw [decide_eq_false (show ¬ i < (s.gens.length : Int) by omega), Bool.and_false, Bool.false_and, Bool.false_and])
      have HE := Lib.hid (show atI (idsOf c s) i = none by rw [atI_alive, if_neg (by rw [HD.out]; decide)])
      obtain ⟨x0, x2⟩ := rw1 HR.out
      have dX : ¬ X = w.heap.size := by omega
      clear hz0 hb0
      obtain ⟨q0_0, z0_0, q0_1, z0_1⟩ := rw2 R0_0.out
      go_enter Tryz.func38, Tryz.ntmps38
      go_wp2_with fail
      try rw [hW0]
      clear hW0
      try go_wp2_with fail
      clear x0 x2
      clear q0_0 z0_0 q0_1 z0_1
      refine nm_post (fun w2 hnm => ?_)
      have S1 := Lib.hid (show Only (Box w 1) W0 w2 from (by rw [hnm]; exact ((Only.refl (Box w 1) W0).put ⟨by omega, by omega⟩).put ⟨by omega, by omega⟩))
      have O1 := Lib.hid (O0.out.trans S1.out)
      have R0_1 := Lib.hid (show w2.heap[w.heap.size]? = some (.cells #[.int .i64 0, .int .i64 0] 40 (0, 0)) from (by rw [hnm]; exact heap_setRow (heap_setRow (R0_0.out))))
      clear hnm
      obtain ⟨q0_0, q0_1⟩ := cl2 R0_1.out
      refine ⟨rfl, .tuple #[.agg #[.int .i64 0, .int .i64 0], .bool false], by simp only [results, hfr]; go_simp, ?_⟩
      clear q0_0 q0_1
      exact ⟨by rw [HE.out]; rfl, Only.fin HB0.out O1.out⟩
    · obtain ⟨n, rfl⟩ : ∃ n : Nat, i = (n : Int) := ⟨i.toNat, by omega⟩
      have hn : n < s.gens.length := by omega
      obtain ⟨b, off, rfl, _, e0, e1, _⟩ := rSlot_at HA.out (slotsS_all hn)
      dsimp only at e0 e1
      have HN := Lib.hid hn
      clear hn
      cases hal : aliveB c s (n : Int)
      case false =>
        rw [hal] at e1
        have HE := Lib.hid (show atI (idsOf c s) (n : Int) = none by rw [atI_alive, if_neg (by rw [hal]; decide)])
        clear hal
        obtain ⟨x0, x2⟩ := rw1 HR.out
        have dX : ¬ X = w.heap.size := by omega
        clear hz0 hb0
        obtain ⟨q0_0, z0_0, q0_1, z0_1⟩ := rw2 R0_0.out
        go_enter Tryz.func38, Tryz.ntmps38
        go_wp2_with fail
        try rw [hW0]
        clear hW0
        try go_wp2_with fail
        clear x0 x2
        clear q0_0 z0_0 q0_1 z0_1
        clear e0 e1
        refine nm_post (fun w2 hnm => ?_)
        have S1 := Lib.hid (show Only (Box w 1) W0 w2 from (by rw [hnm]; exact ((Only.refl (Box w 1) W0).put ⟨by omega, by omega⟩).put ⟨by omega, by omega⟩))
        have O1 := Lib.hid (O0.out.trans S1.out)
        have R0_1 := Lib.hid (show w2.heap[w.heap.size]? = some (.cells #[.int .i64 0, .int .i64 0] 40 (0, 0)) from (by rw [hnm]; exact heap_setRow (heap_setRow (R0_0.out))))
        clear hnm
        obtain ⟨q0_0, q0_1⟩ := cl2 R0_1.out
        refine ⟨rfl, .tuple #[.agg #[.int .i64 0, .int .i64 0], .bool false], by simp only [results, hfr]; go_simp, ?_⟩
        clear q0_0 q0_1
        exact ⟨by rw [HE.out]; rfl, Only.fin HB0.out O1.out⟩
      case true =>
        rw [hal] at e1
        obtain ⟨g, hg⟩ : ∃ g, s.gens.getD n 0 = g := ⟨_, rfl⟩
        rw [hg] at e0
        have HE := Lib.hid (show atI (idsOf c s) (n : Int) = some ⟨n, g⟩ by rw [atI_alive, if_pos hal, Int.toNat_natCast, hg])
        clear hal hg
        obtain ⟨x0, x2⟩ := rw1 HR.out
        have dX : ¬ X = w.heap.size := by omega
        clear hz0 hb0
        obtain ⟨q0_0, z0_0, q0_1, z0_1⟩ := rw2 R0_0.out
        go_enter Tryz.func38, Tryz.ntmps38
        go_wp2_with fail
        try rw [hW0]
        clear hW0
        try go_wp2_with fail
        clear x0 x2
        clear q0_0 z0_0 q0_1 z0_1
        clear e0 e1
        refine nm_post (fun w2 hnm => ?_)
        have S1 := Lib.hid (show Only (Box w 1) W0 w2 from (by rw [hnm]; exact ((Only.refl (Box w 1) W0).put ⟨by omega, by omega⟩).put ⟨by omega, by omega⟩))
        have O1 := Lib.hid (O0.out.trans S1.out)
        have R0_1 := Lib.hid (show w2.heap[w.heap.size]? = some (.cells #[.int .i64 n, .int .i64 g] 40 (0, 0)) from (by rw [hnm]; exact heap_setRow (heap_setRow (R0_0.out))))
        clear hnm
        obtain ⟨q0_0, q0_1⟩ := cl2 R0_1.out
        refine ⟨rfl, .tuple #[.agg #[.int .i64 n, .int .i64 g], .bool true], by simp only [results, hfr]; go_simp, ?_⟩
        clear q0_0 q0_1
        exact ⟨by rw [HE.out]; rfl, Only.fin HB0.out O1.out⟩

set_option maxRecDepth 100000 in
set_option maxHeartbeats 2000000 in
/-- (*ids.Ids).Alive -/
theorem cidsAlive_calls {w : World} {base X : Nat} {c : DConf} {s : DState} {d : DID} (h : IdsAt w base X c s) :
    Calls Tryz.prog 18 #[.pointer (some ⟨X, 0, none⟩), .agg #[.int .i64 d.index, .int .i64 d.gen]] w fun e w' => e = .returned (.bool (decide (atI (idsOf c s) d.index = some d))) ∧ Below w.heap.size w w' := by
  have H := Lib.hid h
  have hmf : ∀ (fn : Fn) (first cap : Array Value) (w : World), (Instr.makeFunc fn first cap).run Tryz.prog w = .ok (.func fn first cap) w := fun _ _ _ _ => rfl
  clear h
  obtain ⟨W0, hW0⟩ : ∃ W, (w.alloc (.cells #[.int .i64 d.index, .int .i64 d.gen] 40)) = W := ⟨_, rfl⟩
  have hz0 : W0.heap.size = w.heap.size + 1 := by rw [← hW0]; simp
  have hb0 : Below w.heap.size w W0 := by rw [← hW0]; exact (Below.refl _ _).alloc (Nat.le_refl _) _
  have HZ := Lib.hid hz0
  have HB0 := Lib.hid hb0
  have R0_0 := Lib.hid (show W0.heap[w.heap.size]? = some (.cells #[.int .i64 d.index, .int .i64 d.gen] 40 (0, 0)) by rw [← hW0]; exact alloc_at rfl)
  have O0 := Lib.hid (Only.refl (Box w 1) W0)
  have HI := Lib.hid (H.out.call hb0)
  clear hz0 hb0
  obtain ⟨q0_0, z0_0, q0_1, z0_1⟩ := rw2 R0_0.out
  go_enter Tryz.func18, Tryz.ntmps18
  go_wp2_with fail
  try rw [hW0]
  clear hW0
  try go_wp2_with fail
  clear q0_0 z0_0 q0_1 z0_1
  refine (cidsAt_calls HI.out).mono ?_
  rintro e w1 ⟨rfl, hb⟩
  have S1 := Lib.hid (show Only (Box w 1) W0 w1 from Only.of_below hb)
  have O1 := Lib.hid (O0.out.trans S1.out)
  have R0_1 := Lib.hid (row_call hb R0_0.out)
  clear hb
  cases hat : atI (idsOf c s) d.index with
  | none =>
    have HE := Lib.hid (show decide (atI (idsOf c s) d.index = some d) = false by rw [hat]; simp)
    clear hat
    dsimp only [Option.getD_none, Option.isSome_none, noID]
    have k1 : (w1.alloc (.cells #[.int .i64 0, .int .i64 0] 40)).heap[w.heap.size]? = some (.cells #[.int .i64 d.index, .int .i64 d.gen] 40 (0, 0)) := alloc_old (R0_1.out)
    obtain ⟨k1_0, l1_0, k1_1, l1_1⟩ := rw2 k1
    clear k1
    have k2 : (w1.alloc (.cells #[.int .i64 0, .int .i64 0] 40)).heap[w1.heap.size]? = some (.cells #[.int .i64 0, .int .i64 0] 40 (0, 0)) := alloc_at rfl
    obtain ⟨k2_0, l2_0, k2_1, l2_1⟩ := rw2 k2
    clear k2
    obtain ⟨q0_0, z0_0, q0_1, z0_1⟩ := rw2 R0_1.out
    go_wp2_with fail
    clear k1_0 l1_0 k1_1 l1_1 k2_0 l2_0 k2_1 l2_1 q0_0 z0_0 q0_1 z0_1
    go_ret
    exact ⟨by rw [HE.out]; rfl, (Only.fin HB0.out O1.out).alloc (Below.size (Only.fin HB0.out O1.out)) _⟩
  | some z =>
    have hzi := atI_index hat
    obtain ⟨zi, zg⟩ := z
    dsimp only at hzi
    subst hzi
    have HAT := Lib.hid hat
    clear hat
    dsimp only [Option.getD_some, Option.isSome_some]
    by_cases hg : zg = d.gen
    · subst hg
      have HE := Lib.hid (show decide (atI (idsOf c s) d.index = some d) = true by rw [HAT.out]; simp)
      have k1 : (w1.alloc (.cells #[.int .i64 d.index, .int .i64 d.gen] 40)).heap[w.heap.size]? = some (.cells #[.int .i64 d.index, .int .i64 d.gen] 40 (0, 0)) := alloc_old (R0_1.out)
      obtain ⟨k1_0, l1_0, k1_1, l1_1⟩ := rw2 k1
      clear k1
      have k2 : (w1.alloc (.cells #[.int .i64 d.index, .int .i64 d.gen] 40)).heap[w1.heap.size]? = some (.cells #[.int .i64 d.index, .int .i64 d.gen] 40 (0, 0)) := alloc_at rfl
      obtain ⟨k2_0, l2_0, k2_1, l2_1⟩ := rw2 k2
      clear k2
      obtain ⟨q0_0, z0_0, q0_1, z0_1⟩ := rw2 R0_1.out
      go_wp2_with fail
      clear k1_0 l1_0 k1_1 l1_1 k2_0 l2_0 k2_1 l2_1 q0_0 z0_0 q0_1 z0_1
      go_ret
      exact ⟨by rw [HE.out]; rfl, (Only.fin HB0.out O1.out).alloc (Below.size (Only.fin HB0.out O1.out)) _⟩
    · skip
      have HE := Lib.hid (show decide (atI (idsOf c s) d.index = some d) = false by rw [HAT.out]; exact decide_eq_false fun h => hg (congrArg DID.gen (Option.some.inj h)))
      have bg : (zg == d.gen) = false := by simpa using hg
      clear hg
      have k1 : (w1.alloc (.cells #[.int .i64 d.index, .int .i64 zg] 40)).heap[w.heap.size]? = some (.cells #[.int .i64 d.index, .int .i64 d.gen] 40 (0, 0)) := alloc_old (R0_1.out)
      obtain ⟨k1_0, l1_0, k1_1, l1_1⟩ := rw2 k1
      clear k1
      have k2 : (w1.alloc (.cells #[.int .i64 d.index, .int .i64 zg] 40)).heap[w1.heap.size]? = some (.cells #[.int .i64 d.index, .int .i64 zg] 40 (0, 0)) := alloc_at rfl
      obtain ⟨k2_0, l2_0, k2_1, l2_1⟩ := rw2 k2
      clear k2
      obtain ⟨q0_0, z0_0, q0_1, z0_1⟩ := rw2 R0_1.out
      go_wp2_with fail
      clear k1_0 l1_0 k1_1 l1_1 k2_0 l2_0 k2_1 l2_1 q0_0 z0_0 q0_1 z0_1
      go_ret
      exact ⟨by rw [HE.out]; rfl, (Only.fin HB0.out O1.out).alloc (Below.size (Only.fin HB0.out O1.out)) _⟩

/-- How many of the first slots are alive. -/
theorem alives_len (c : DConf) (s : DState) (n : Nat) : (alives c s (n + 1)).length = (alives c s n).length + (if aliveB c s (n : Nat) = true then 1 else 0) := by
  rw [alives_next, List.length_append]
  split <;> simp
theorem alives_le (c : DConf) (s : DState) : ∀ n, (alives c s n).length ≤ n
  | 0 => by simp [alives]
  | n + 1 => by
    have := alives_le c s n
    rw [alives_len]
    split <;> omega
set_option maxRecDepth 100000 in
set_option maxHeartbeats 2000000 in
/-- (*ids.Ids).Count -/
theorem cidsCount_calls {w : World} {base X : Nat} {c : DConf} {s : DState} (h : IdsAt w base X c s) (hl : s.gens.length ≤ 100000) :
    Calls Tryz.prog 17 #[.pointer (some ⟨X, 0, none⟩)] w fun e w' => e = .returned (.int .i64 ((alives c s s.gens.length).length : Nat)) ∧ Below w.heap.size w w' := by
  obtain ⟨_, v, fv, hr, hv⟩ := h
  obtain ⟨A, n9, cap, hve, hc1, hc2, hA⟩ : ∃ (A : Option Addr) (n9 cap : Nat), v = .slice A n9 cap ∧ n9 = s.gens.length ∧ (n9 ≤ cap ∧ cap ≤ maxLen) ∧ rSlot.At (fun b => base ≤ b) w A (slotsS c s s.free.length) := by
    obtain ⟨A, cap, h1, h2, h3, h4⟩ := Rep.val_list hv
    exact ⟨A, _, cap, h1, slotsS_len _ _ _, ⟨h2, h3⟩, h4⟩
  subst hve hc1
  have HA := Lib.hid (show ∀ V, Below w.heap.size w V → rSlot.At (fun b => base ≤ b) V A (slotsS c s s.free.length) from fun V hb => hA.keep fun b hq hl => ⟨hq, hb.block b hl.lt⟩)
  have hc3 := hc2.1
  have hc4 := hc2.2
  unfold maxLen at hc4
  have x0 := cell_row hr 0
  clear hv hA hc2
  go_enter Tryz.func17, Tryz.ntmps17
  go_wp2_with fail
  clear x0 hr
  go_loopw [3, 13] (fun n i wr => ∃ j : Nat, i = .int .i64 j ∧ n = .int .i64 ((alives c s j).length : Nat) ∧ j ≤ s.gens.length ∧ Hid (Below w.heap.size w wr)) (fun _ i _ => s.gens.length - (intOf i).toNat)
  case atStart => exact ⟨0, rfl, rfl, Nat.zero_le _, Lib.hid (Below.refl _ _)⟩
  case round =>
    obtain ⟨j, rfl, rfl, hj, HB⟩ := hrel
    have HLJ := Lib.hid (alives_len c s j)
    have hle := alives_le c s j
    obtain ⟨m, hm⟩ : ∃ m, (alives c s j).length = m := ⟨_, rfl⟩
    have HM := Lib.hid hm
    rw [hm] at hle HLJ ⊢
    clear hm
    by_cases hlt : (j : Int) < s.gens.length
    · have hjl : j < s.gens.length := by omega
      obtain ⟨b, off, rfl, _, e0, e1, _⟩ := rSlot_at (HA.out _ HB.out) (slotsS_all hjl)
      dsimp only at e0 e1
      have iw : IntKind.i64.wrap ((j : Int) + 1) = (j : Int) + 1 := IntWalk.i64_in _ ⟨by omega, by omega⟩
      have iw2 : IntKind.i64.wrap ((m : Int) + 1) = (m : Int) + 1 := IntWalk.i64_in _ ⟨by omega, by omega⟩
      obtain ⟨g, hg⟩ : ∃ g, s.gens.getD j 0 = g := ⟨_, rfl⟩
      rw [hg] at e0
      clear hg hjl
      have HB2 := Lib.hid (show ∀ u, Below w.heap.size w (wr.alloc u) from fun u => HB.out.alloc HB.out.size _)
      cases hal : aliveB c s (j : Nat)
      case false =>
        rw [hal] at e1 HLJ
        have hk : ∀ u, World.cell? (wr.alloc (.cells #[.int .i64 g, .bool false] u)) ⟨wr.heap.size, 1, none⟩ = some (.bool false) := fun u => cell_row (alloc_at rfl) 1
        clear hal
        go_wp2_with fail
        exact ⟨⟨j + 1, by go_num, by rw [HLJ.out]; simp, by omega, Lib.hid (HB2.out _)⟩, by simp [intOf]; omega⟩
      case true =>
        rw [hal] at e1 HLJ
        have hk : ∀ u, World.cell? (wr.alloc (.cells #[.int .i64 g, .bool true] u)) ⟨wr.heap.size, 1, none⟩ = some (.bool true) := fun u => cell_row (alloc_at rfl) 1
        clear hal
        go_wp2_with fail
        exact ⟨⟨j + 1, by go_num, by rw [HLJ.out]; simp, by omega, Lib.hid (HB2.out _)⟩, by simp [intOf]; omega⟩
    · obtain rfl : j = s.gens.length := by omega
      go_wp2_with fail
      go_ret
      exact ⟨by rw [HM.out]; rfl, HB.out⟩
end Go.Proofs.YthkepjhfeeohdaaGreatDoor
