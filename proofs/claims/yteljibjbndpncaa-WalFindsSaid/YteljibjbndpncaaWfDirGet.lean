/- Walk of dir.Get. -/
import Derived.Test.YteljibjbndpncaaWfG11
import Derived.Deep.RegionLaw
namespace Go.Proofs.Yteljibjbndpncaa
open Go.RowKit

theorem u64_wrap_wf (n : Int) : (Lit.int .u64 (IntKind.u64.wrap n)).wf = true := by
  rw [wrap_u64]; simp [Lit.wf, IntKind.min, IntKind.max, IntKind.signed, IntKind.bits]; omega
theorem RdrAt.grown {w w' : World} {p : Nat} {A : Option Addr} {c : Nat} {b : List UInt8} {at_ : Nat} {bad : Bool} {row : Option Nat} (h : RdrAt w p A c b at_ bad) (hg : w.grownBy w' row) (hr : ∀ x, row = some x → p < x) : RdrAt w' p A c b at_ bad :=
  ⟨(hg.block p h.lt (fun e => by have := hr p e.symm; omega)).trans h.blk, h.sl.keep fun x hx hl => ⟨hx, hg.block x hl.lt (fun e => by have := hr x e.symm; omega)⟩, h.le⟩

/-- What is known of the reader and the entries at the head of a round. -/
def DirRel (b : List UInt8) (N : Nat) (l : List DEntry) (at_ : Nat) (bad : Bool) : Prop :=
  (bad = false → ¬ b.length < 2 ∧ N = natAt b 0 2 ∧ parseDir b l.length = some (l, at_)) ∧ (bad = true → dirGet b = ([], 12))
/-- .. and in the midst of an entry, behind its head. -/
def EntRel (b : List UInt8) (at0 : Nat) (C : Nat) (q : List Int) (at_ : Nat) (bad : Bool) : Prop :=
  (bad = false → at0 + 16 ≤ b.length ∧ C = countAt b at0 ∧ q = pagesAt b (at0 + 16) q.length ∧ at_ = at0 + 16 + 2 * q.length) ∧ (bad = true → parseEnt b at0 = none)

theorem rdNum_false (b : List UInt8) (a w : Nat) (h1 : 1 ≤ w) (h8 : w ≤ 8) : rdNum b a false (w : Int) = if a + w ≤ b.length then (i64of (natAt b a w), a + w, false) else (0, a, true) := by
  unfold rdNum
  rw [getNum_nat b a h1 h8, wide_small h1 h8]
  by_cases h : a + w ≤ b.length
  · rw [if_pos h, if_pos h]; rfl
  · rw [if_neg h, if_neg h]; rfl
theorem rdNum_wf (b : List UInt8) (a : Nat) (d : Bool) (w : Int) : (Lit.int .i64 (rdNum b a d w).1).wf = true := by
  unfold rdNum
  split
  · rfl
  · have := getNum_wf b a w
    split
    · rfl
    · rename_i h; rw [h] at this; exact this
theorem dirRel_start (b : List UInt8) : ∃ N : Nat, (rdNum b 0 false 2).1 = N ∧ N < 65536 ∧ DirRel b N [] (rdNum b 0 false 2).2.1 (rdNum b 0 false 2).2.2 := by
  have h : rdNum b 0 false 2 = _ := rdNum_false b 0 2 (by decide) (by decide)
  rw [h]
  by_cases hl : 0 + 2 ≤ b.length
  · rw [if_pos hl]
    exact ⟨natAt b 0 2, i64of_natAt b 0 2 (by decide), natAt_lt b 0 2, ⟨fun _ => ⟨by omega, rfl, rfl⟩, fun h => (by cases h)⟩⟩
  · rw [if_neg hl]
    exact ⟨0, rfl, by decide, ⟨fun h => (by cases h), fun _ => dirGet_short (by omega)⟩⟩
theorem entRel_start {b : List UInt8} {at_ : Nat} {r1 r2 r3 r4 r5 : Int × Nat × Bool} (e1 : r1 = rdNum b at_ false 1) (e2 : r2 = rdNum b r1.2.1 r1.2.2 8) (e3 : r3 = rdNum b r2.2.1 r2.2.2 1) (e4 : r4 = rdNum b r3.2.1 r3.2.2 4) (e5 : r5 = rdNum b r4.2.1 r4.2.2 2) :
    ∃ C : Nat, r5.1 = C ∧ C < 65536 ∧ EntRel b at_ C [] r5.2.1 r5.2.2 ∧ (r5.2.2 = false → (⟨r1.1, IntKind.u64.wrap r2.1, r3.1⟩ : DKey) = keyAt b at_ ∧ r4.1 = natAt b (at_ + 10) 4) := by
  rcases header e1 e2 e3 e4 e5 with ⟨h, h1, h2, h3, h4, h5⟩ | ⟨h, h5, hd⟩
  · refine ⟨countAt b at_, by rw [h5], natAt_lt b (at_ + 14) 2, ⟨fun _ => ⟨h, rfl, by simp [pagesAt], by rw [h5]; rfl⟩, fun hh => by rw [h5] at hh; cases hh⟩, fun _ => ⟨?_, h4⟩⟩
    rw [h1, h2, h3, u64_i64of _ (natAt8_lt b (at_ + 1))]; rfl
  · exact ⟨0, h5, by decide, ⟨fun hh => (by rw [hd] at hh; cases hh), fun _ => parseEnt_none (fun hh => h hh.1)⟩, fun hh => (by rw [hd] at hh; cases hh)⟩
theorem entRel_step {b : List UInt8} {at0 C a : Nat} {q : List Int} (h : EntRel b at0 C q a false) (hq : q.length < C) {r : Int × Nat × Bool} (e : r = rdNum b a false 2) : EntRel b at0 C (q ++ [r.1]) r.2.1 r.2.2 := by
  have hn : rdNum b a false 2 = _ := rdNum_false b a 2 (by decide) (by decide)
  obtain ⟨h16, hC, hq2, ha⟩ := h.1 rfl
  rw [hn] at e
  by_cases hl : a + 2 ≤ b.length
  · rw [if_pos hl] at e
    subst e
    refine ⟨fun _ => ⟨h16, hC, ?_, ?_⟩, fun hh => by cases hh⟩
    · rw [List.length_append, List.length_singleton, pagesAt_succ, ← hq2, ha, i64of_natAt b _ 2 (by decide)]
    · rw [List.length_append, List.length_singleton, ha]; show at0 + 16 + 2 * q.length + 2 = _; omega
  · rw [if_neg hl] at e
    subst e
    exact ⟨fun hh => (by cases hh), fun _ => parseEnt_none (fun hh => by have := hh.2; omega)⟩
theorem dirRel_step {b : List UInt8} {N at0 C a : Nat} {l : List DEntry} {q : List Int} {d : Bool} {k : DKey} {n : Int} (h : DirRel b N l at0 false) (hl : l.length < N) (he : EntRel b at0 C q a d) (hk : d = false → k = keyAt b at0 ∧ n = natAt b (at0 + 10) 4) (hq : d = false → q.length = C) (ha : a ≤ b.length) : DirRel b N (l ++ [⟨k, n, q⟩]) a d := by
  obtain ⟨h2, hN, hp⟩ := h.1 rfl
  cases d with
  | false =>
    obtain ⟨h16, hC, hq2, ha2⟩ := he.1 rfl
    obtain ⟨rfl, rfl⟩ := hk rfl
    have hqc := hq rfl
    rw [hqc] at hq2 ha2
    refine ⟨fun _ => ⟨h2, hN, ?_⟩, fun hh => by cases hh⟩
    rw [List.length_append, List.length_singleton, parse_step hp h16 (by omega), ← hC, ha2, hq2, hC]
    rfl
  | true => exact ⟨fun hh => (by cases hh), fun _ => dirGet_none h2 (by rw [← hN]; exact parse_fail hl hp (he.2 rfl))⟩

end Go.Proofs.Yteljibjbndpncaa
