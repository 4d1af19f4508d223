/- A device and the reference's: the plain law. No program is named here. -/
import Derived.Test.YtfpmkenobphfnaaPstG19
namespace Go.Proofs.Ytfpmkenobphfnaa
open Go.RowKit

def ofW (l : List DWrite) (i : Int) : List (List UInt8) := (l.filter fun x => x.pos == i).map (·.b)
def lastW (d : DDisk) (i : Int) : List UInt8 := ((ofW d.wait i).getLast?).getD (d.safe.getD i.toNat [])
def dirtyW (d : DDisk) : List Int := ((List.range d.safe.length).filter fun i => !(ofW d.wait (i : Nat)).isEmpty).map fun i : Nat => (i : Int)
def burnW (d : DDisk) : DDisk × Int := if d.off = true ∨ d.fuse = 0 then ({ d with off := true }, 3) else if 0 < d.fuse then ({ d with fuse := d.fuse - 1 }, 0) else (d, 0)
def crashTail (d : DDisk) (fates : List DFate) : Nat → List (List UInt8)
  | 0 => d.safe
  | k + 1 => (crashTail d fates k).set ((dirtyW d).getD k 0).toNat (settleOf (d.safe.getD ((dirtyW d).getD k 0).toNat []) (ofW d.wait ((dirtyW d).getD k 0)) (fates.getD k ⟨0, 0⟩))
def crashW (d : DDisk) (fates : List DFate) : DDisk := ⟨crashTail d fates (dirtyW d).length, [], -1, false, d.reads, d.writes⟩
def syncTail (s : List (List UInt8)) (l : List DWrite) : List (List UInt8) := l.foldl (fun s x => s.set x.pos.toNat x.b) s
def goW (d : DDisk) (x : DStep) : DDisk × List UInt8 × Int :=
  if x.act = 3 then ({ d with fuse := if x.pos < 0 then -1 else x.pos }, [], 0)
  else if x.act = 4 then (crashW d x.fates, [], 0)
  else if x.act ≠ 2 ∧ (x.pos < 0 ∨ (d.safe.length : Int) ≤ x.pos) then (d, [], 2)
  else if (burnW d).2 ≠ 0 then ((burnW d).1, [], (burnW d).2)
  else if x.act = 1 then ({ (burnW d).1 with wait := (burnW d).1.wait ++ [⟨x.pos, cutTo x.b 512⟩], writes := wrap64 ((burnW d).1.writes + 1) }, [], 0)
  else if x.act = 2 then ({ (burnW d).1 with safe := syncTail (burnW d).1.safe (burnW d).1.wait, wait := [] }, [], 0)
  else ({ (burnW d).1 with reads := wrap64 ((burnW d).1.reads + 1) }, lastW (burnW d).1 x.pos, 0)

/-- A device, and what the reference holds of it. -/
structure Mirror (st : DiskSt) (d : DDisk) : Prop where
  safe : st.safe = d.safe
  wait : ∀ i, st.wait i = ofW d.wait i
  keys : ∀ x ∈ d.wait, 0 ≤ x.pos ∧ x.pos < d.safe.length
  fuse : st.fuse = d.fuse
  off : st.off = d.off
  reads : st.reads = d.reads
  writes : st.writes = d.writes

theorem ofW_append (l m : List DWrite) (i : Int) : ofW (l ++ m) i = ofW l i ++ ofW m i := by unfold ofW; rw [List.filter_append, List.map_append]
theorem ofW_one (x : DWrite) (i : Int) : ofW [x] i = if x.pos = i then [x.b] else [] := by
  unfold ofW
  by_cases h : x.pos = i
  · rw [if_pos h]; simp [h]
  · rw [if_neg h]; simp [h]
theorem mirror_last {st : DiskSt} {d : DDisk} (h : Mirror st d) (i : Int) : lastSt st i = lastW d i := by
  unfold lastSt lastW; rw [h.safe, h.wait]
theorem mirror_dirty {st : DiskSt} {d : DDisk} (h : Mirror st d) : dirtyOf st = dirtyW d := by
  unfold dirtyOf dirtyW; rw [h.safe]
  congr 2
  funext i
  rw [h.wait]
theorem mirror_burn {st : DiskSt} {d : DDisk} (h : Mirror st d) : Mirror (burnSt st).1 (burnW d).1 ∧ (burnSt st).2 = (burnW d).2 := by
  obtain ⟨h1, h2, h3, h4, h5, h6, h7⟩ := h
  unfold burnSt burnW
  by_cases ho : st.off = true
  · rw [if_pos ho, if_pos (.inl (h5 ▸ ho))]
    exact ⟨⟨h1, h2, h3, h4, ho, h6, h7⟩, rfl⟩
  · rw [if_neg ho]
    by_cases h0 : st.fuse = 0
    · rw [if_pos h0, if_pos (.inr (h4 ▸ h0))]
      exact ⟨⟨h1, h2, h3, h4, rfl, h6, h7⟩, rfl⟩
    · rw [if_neg h0, if_neg (show ¬ (d.off = true ∨ d.fuse = 0) by rw [← h4, ← h5]; exact fun e => e.elim ho h0)]
      by_cases hp : 0 < st.fuse
      · rw [if_pos hp, if_pos (h4 ▸ hp)]
        exact ⟨⟨h1, h2, h3, by show st.fuse - 1 = d.fuse - 1; rw [h4], h5, h6, h7⟩, rfl⟩
      · rw [if_neg hp, if_neg (h4 ▸ hp)]
        exact ⟨⟨h1, h2, h3, h4, h5, h6, h7⟩, rfl⟩
/-- The sectors that are dirty are all different ones: it does not matter whether they are read before or behind the writes. -/
theorem crashTail_other (d : DDisk) (fates : List DFate) {z : Int} (hz : 0 ≤ z) : ∀ k, k ≤ (dirtyW d).length → (∀ j, j < k → (dirtyW d).getD j 0 ≠ z) → (∀ j, j < k → 0 ≤ (dirtyW d).getD j 0) → (crashTail d fates k).getD z.toNat [] = d.safe.getD z.toNat []
  | 0, _, _, _ => rfl
  | k + 1, hk, hne, hp => by
    unfold crashTail
    rw [List.getD_eq_getElem?_getD, List.getElem?_set_ne (fun e => hne k (Nat.lt_succ_self k) (by have := hp k (Nat.lt_succ_self k); omega)), ← List.getD_eq_getElem?_getD]
    exact crashTail_other d fates hz k (by omega) (fun j hj => hne j (by omega)) (fun j hj => hp j (by omega))
theorem dirtyW_get {d : DDisk} {j : Nat} (h : j < (dirtyW d).length) : (dirtyW d).getD j 0 = (dirtyW d)[j] := by
  rw [List.getD_eq_getElem?_getD, List.getElem?_eq_getElem h]; rfl
theorem dirtyW_sorted (d : DDisk) : (dirtyW d).Pairwise (· < ·) := by
  unfold dirtyW
  rw [List.pairwise_map]
  exact (List.pairwise_lt_range.filter _).imp (fun h => by omega)
theorem dirtyW_nonneg {d : DDisk} {z : Int} (h : z ∈ dirtyW d) : 0 ≤ z := by
  unfold dirtyW at h
  obtain ⟨i, _, rfl⟩ := List.mem_map.1 h
  omega
theorem mirror_crashTo {st : DiskSt} {d : DDisk} (h : Mirror st d) (fates : List DFate) : ∀ k, k ≤ (dirtyW d).length → crashTo st fates k = crashTail d fates k
  | 0, _ => h.safe
  | k + 1, hk => by
    have ih := mirror_crashTo h fates k (by omega)
    have hd := mirror_dirty h
    unfold crashTo crashTail
    rw [ih, hd, h.wait]
    have hg := dirtyW_get (show k < (dirtyW d).length by omega)
    have hz : 0 ≤ (dirtyW d).getD k 0 := by rw [hg]; exact dirtyW_nonneg (List.getElem_mem _)
    rw [crashTail_other d fates hz k (by omega) (fun j hj => by
      have hgj := dirtyW_get (show j < (dirtyW d).length by omega)
      have := List.pairwise_iff_getElem.1 (dirtyW_sorted d) j k (by omega) (by omega) hj
      rw [hg, hgj]; omega) (fun j hj => by
      rw [dirtyW_get (show j < (dirtyW d).length by omega)]; exact dirtyW_nonneg (List.getElem_mem _))]
theorem crashTail_length (d : DDisk) (fates : List DFate) : ∀ k, (crashTail d fates k).length = d.safe.length
  | 0 => rfl
  | k + 1 => by unfold crashTail; rw [List.length_set]; exact crashTail_length d fates k
theorem mirror_crash {st : DiskSt} {d : DDisk} (h : Mirror st d) (fates : List DFate) : Mirror (crashSt st fates) (crashW d fates) :=
  ⟨by show crashTo st fates (dirtyOf st).length = crashTail d fates (dirtyW d).length; rw [mirror_dirty h]; exact mirror_crashTo h fates _ (Nat.le_refl _), fun _ => rfl, fun x hx => (by cases hx), rfl, rfl, h.reads, h.writes⟩
theorem syncTail_length : ∀ (l : List DWrite) (s : List (List UInt8)), (syncTail s l).length = s.length
  | [], _ => rfl
  | x :: l, s => by
    show (syncTail (s.set x.pos.toNat x.b) l).length = _
    rw [syncTail_length l]; exact List.length_set ..
theorem syncTail_get : ∀ (l : List DWrite) (s : List (List UInt8)) (i : Nat), i < s.length → (∀ x ∈ l, 0 ≤ x.pos) → (syncTail s l)[i]? = some (((ofW l i).getLast?).getD (s.getD i []))
  | [], s, i, hi, _ => by
    show s[i]? = some (s.getD i [])
    rw [List.getD_eq_getElem?_getD, List.getElem?_eq_getElem hi]; rfl
  | x :: l, s, i, hi, hp => by
    show (syncTail (s.set x.pos.toNat x.b) l)[i]? = _
    rw [syncTail_get l _ i (by rw [List.length_set]; exact hi) (fun y hy => hp y (by simp [hy]))]
    have h0 := hp x (by simp)
    have e : ofW (x :: l) i = ofW [x] i ++ ofW l i := ofW_append [x] l i
    rw [e, ofW_one]
    by_cases hx : x.pos = (i : Int)
    · rw [if_pos hx, List.getD_eq_getElem?_getD (l := s.set _ _), show x.pos.toNat = i by omega, List.getElem?_set_self hi]
      cases hl : (ofW l i).getLast? with
      | none => rw [List.getLast?_eq_none_iff.1 hl]; rfl
      | some y => rw [List.getLast?_append, hl]; rfl
    · rw [if_neg hx, List.nil_append, List.getD_eq_getElem?_getD (l := s.set _ _), List.getElem?_set_ne (by omega), ← List.getD_eq_getElem?_getD]
theorem mirror_sync {st : DiskSt} {d : DDisk} (h : Mirror st d) : Mirror (syncSt st) { d with safe := syncTail d.safe d.wait, wait := [] } := by
  refine ⟨?_, fun _ => rfl, fun x hx => (by cases hx), h.fuse, h.off, h.reads, h.writes⟩
  show (List.range st.safe.length).map (fun i => lastSt st (i : Nat)) = syncTail d.safe d.wait
  apply List.ext_getElem?
  intro i
  by_cases hi : i < d.safe.length
  · rw [List.getElem?_map, h.safe, List.getElem?_range hi, syncTail_get _ _ _ hi (fun x hx => (h.keys x hx).1)]
    show some (lastSt st (i : Nat)) = _
    rw [mirror_last h]
    rfl
  · rw [List.getElem?_eq_none (by rw [List.length_map, List.length_range, h.safe]; omega), List.getElem?_eq_none (by rw [syncTail_length]; omega)]
theorem mirror_push {st : DiskSt} {d : DDisk} (h : Mirror st d) {i : Int} (hi : 0 ≤ i ∧ i < d.safe.length) (b : List UInt8) :
    Mirror (pushSt { st with writes := wrap64 (st.writes + 1) } i b) { d with wait := d.wait ++ [⟨i, b⟩], writes := wrap64 (d.writes + 1) } := by
  refine ⟨h.safe, fun j => ?_, fun x hx => ?_, h.fuse, h.off, h.reads, by show wrap64 (st.writes + 1) = wrap64 (d.writes + 1); rw [h.writes]⟩
  · show (if j = i then st.wait i ++ [b] else st.wait j) = _
    rw [ofW_append, ofW_one]
    by_cases hj : j = i
    · rw [if_pos hj, if_pos hj.symm, h.wait, hj]
    · rw [if_neg hj, if_neg (fun e => hj e.symm), h.wait, List.append_nil]
  · rcases List.mem_append.1 hx with hx | hx
    · exact h.keys x hx
    · have := List.mem_singleton.1 hx
      subst this
      exact hi
theorem mirror_step {st : DiskSt} {d : DDisk} (h : Mirror st d) (x : DStep) : Mirror (stepSt st x) (goW d x).1 ∧ outSt st x = (goW d x).2 := by
  obtain ⟨hb, he⟩ := mirror_burn h
  have hbs := burnSt_same st
  obtain ⟨act, pos, b, fates⟩ := x
  unfold stepSt outSt goW
  dsimp only
  by_cases h3 : act = 3
  · subst h3
    refine ⟨⟨h.safe, h.wait, h.keys, ?_, h.off, h.reads, h.writes⟩, rfl⟩
    show (if pos < -1 then -1 else pos) = if pos < 0 then -1 else pos
    split <;> split <;> omega
  by_cases h4 : act = 4
  · subst h4
    exact ⟨mirror_crash h fates, rfl⟩
  simp only [if_neg h3, if_neg h4]
  by_cases h2 : act = 2
  · have h1 : ¬ act = 1 := by omega
    have hn : ¬ (act ≠ 2 ∧ (pos < 0 ∨ (d.safe.length : Int) ≤ pos)) := fun e => e.1 h2
    simp only [if_neg h1, if_pos h2, if_neg hn]
    unfold syncRes
    by_cases hz : (burnSt st).2 = 0
    · have hz2 : ¬ (burnW d).2 ≠ 0 := by rw [← he]; exact fun e => e hz
      simp only [if_pos hz, if_neg hz2]
      exact ⟨mirror_sync hb, trivial⟩
    · have hz2 : (burnW d).2 ≠ 0 := by rw [← he]; exact hz
      simp only [if_neg hz, if_pos hz2]
      exact ⟨hb, by rw [he]⟩
  by_cases hr : pos < 0 ∨ (d.safe.length : Int) ≤ pos
  · have hn : act ≠ 2 ∧ (pos < 0 ∨ (d.safe.length : Int) ≤ pos) := ⟨h2, hr⟩
    have ha : atSt st pos = (st, 2) := by unfold atSt; rw [if_pos (by rw [h.safe]; exact hr)]
    have hq : ¬ (atSt st pos).2 = 0 := by rw [ha]; show ¬ (2 : Int) = 0; decide
    by_cases h1 : act = 1
    · simp only [if_pos h1, if_pos hn]
      unfold writeSt
      rw [if_neg hq, ha]
      exact ⟨h, rfl⟩
    · simp only [if_neg h1, if_neg h2, if_pos hn]
      unfold readSt
      rw [if_neg hq, ha]
      exact ⟨h, rfl⟩
  · have hn : ¬ (act ≠ 2 ∧ (pos < 0 ∨ (d.safe.length : Int) ≤ pos)) := fun e => hr e.2
    have ha : atSt st pos = burnSt st := by unfold atSt; rw [if_neg (by rw [h.safe]; exact hr)]
    by_cases h1 : act = 1
    · simp only [if_pos h1, if_neg hn]
      unfold writeSt
      rw [ha]
      by_cases hz : (burnSt st).2 = 0
      · have hz2 : ¬ (burnW d).2 ≠ 0 := by rw [← he]; exact fun e => e hz
        simp only [if_pos hz, if_neg hz2]
        exact ⟨mirror_push hb (by rw [← hb.safe, hbs.1, h.safe]; omega) _, trivial⟩
      · have hz2 : (burnW d).2 ≠ 0 := by rw [← he]; exact hz
        simp only [if_neg hz, if_pos hz2]
        exact ⟨hb, by rw [he]⟩
    · simp only [if_neg h1, if_neg h2, if_neg hn]
      unfold readSt
      rw [ha]
      by_cases hz : (burnSt st).2 = 0
      · have hz2 : ¬ (burnW d).2 ≠ 0 := by rw [← he]; exact fun e => e hz
        simp only [if_pos hz, if_neg hz2]
        refine ⟨⟨hb.safe, hb.wait, hb.keys, hb.fuse, hb.off, by show wrap64 _ = wrap64 _; rw [hb.reads], hb.writes⟩, ?_⟩
        rw [← mirror_last hb]
        unfold lastSt
        rw [hbs.1, hbs.2]
      · have hz2 : (burnW d).2 ≠ 0 := by rw [← he]; exact hz
        simp only [if_neg hz, if_pos hz2]
        exact ⟨hb, by rw [he]⟩
end Go.Proofs.Ytfpmkenobphfnaa
