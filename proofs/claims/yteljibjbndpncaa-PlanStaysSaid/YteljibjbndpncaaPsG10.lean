/- Texts on which the proofs stand: RDirGet, PlanAt, PlanMath. No condition is laid on any input. -/
import Derived.Test.YteljibjbndpncaaPsG3
import Derived.Test.YteljibjbndpncaaPsG9
import Derived.Test.YteljibjbndpncaaPsTypes
/- Walk of the reference's directory out of bytes. -/
namespace Go.Proofs.Yteljibjbndpncaa
open Go.RowKit

/-- A call that returns a value that reads as0 x, and a number. -/
def ResN {α : Type} (r : Rep α) (Q : Nat → Prop) (w : World) (x : α) (n : Int) (e : Ending) (w' : World) : Prop := ∃ u, e = .returned (.tuple #[u, .int .i64 n]) ∧ r.val Q w' u x ∧ Below w.heap.size w w'

theorem u64_i64of (n : Nat) (h : n < 18446744073709551616) : IntKind.u64.wrap (i64of n) = n := by rw [wrap_u64, i64of_emod n h]
theorem natAt8_lt (b : List UInt8) (at_ : Nat) : natAt b at_ 8 < 18446744073709551616 := natAt_lt b at_ 8
theorem natAt_wf (b : List UInt8) (at_ w : Nat) (h : w ≤ 7) : (Lit.int .i64 (natAt b at_ w : Int)).wf = true := by rw [← i64of_natAt b at_ w h]; exact i64of_wf _
theorem u64_wf (n : Nat) (h : n < 18446744073709551616) : (Lit.int .u64 (n : Int)).wf = true := by
  simp [Lit.wf, IntKind.min, IntKind.max, IntKind.signed, IntKind.bits]; omega
theorem entAt_wf (b : List UInt8) (at_ : Nat) : (Lit.int .i64 (entAt b at_).key.kind).wf = true ∧ (Lit.int .u64 (entAt b at_).key.sig).wf = true ∧ (Lit.int .i64 (entAt b at_).key.comp).wf = true ∧ (Lit.int .i64 (entAt b at_).long).wf = true :=
  ⟨natAt_wf _ _ _ (by decide), u64_wf _ (natAt8_lt _ _), natAt_wf _ _ _ (by decide), natAt_wf _ _ _ (by decide)⟩

theorem cell_row {w : World} {b e : Nat} {cs : Array Value} {f : Nat × Nat} (h : w.heap[b]? = some (.cells cs e f)) (i : Nat) : w.cell? ⟨b, i, none⟩ = cs[i]? := by simp [World.cell?, h]
theorem frozen_row {w : World} {b e : Nat} {cs : Array Value} (h : w.heap[b]? = some (.cells cs e (0, 0))) (i : Nat) : w.frozen? ⟨b, i, none⟩ = false := by simp [World.frozen?, h]
theorem dirGet_short {b : List UInt8} (h : b.length < 2) : dirGet b = ([], 12) := by rw [dirGet, if_pos h]
theorem dirGet_none {b : List UInt8} (h : ¬ b.length < 2) (hp : parseDir b (natAt b 0 2) = none) : dirGet b = ([], 12) := by rw [dirGet, if_neg h, hp]
theorem dirGet_form {b : List UInt8} {l : List DEntry} {e : Nat} (h : ¬ b.length < 2) (hp : parseDir b (natAt b 0 2) = some (l, e)) (he : e ≠ b.length) : dirGet b = ([], 11) := by
  rw [dirGet, if_neg h, hp]; simp only [if_neg he]
theorem dirGet_ok {b : List UInt8} {l : List DEntry} {e : Nat} (h : ¬ b.length < 2) (hp : parseDir b (natAt b 0 2) = some (l, e)) (he : e = b.length) : dirGet b = (l, 0) := by
  rw [dirGet, if_neg h, hp]; simp only [if_pos he]
theorem parse_fail {b : List UInt8} {i N at_ : Nat} {l : List DEntry} (hi : i < N) (h : parseDir b i = some (l, at_)) (h2 : parseEnt b at_ = none) : parseDir b N = none := by
  refine parseDir_none (n := i + 1) ?_ N hi
  rw [parseDir, h]; simp only [h2]
theorem parse_step {b : List UInt8} {i at_ : Nat} {l : List DEntry} (h : parseDir b i = some (l, at_)) (h1 : at_ + 16 ≤ b.length) (h2 : at_ + 16 + 2 * countAt b at_ ≤ b.length) : parseDir b (i + 1) = some (l ++ [entAt b at_], at_ + 16 + 2 * countAt b at_) := by
  rw [parseDir, h]; simp only [parseEnt, if_pos (And.intro h1 h2)]
theorem parseEnt_none {b : List UInt8} {at_ : Nat} (h : ¬ (at_ + 16 ≤ b.length ∧ at_ + 16 + 2 * countAt b at_ ≤ b.length)) : parseEnt b at_ = none := by rw [parseEnt, if_neg h]

end Go.Proofs.Yteljibjbndpncaa
/- Walks of a flow's page at a place, of whether numbers stand twice in a list, and of the size guard on streams. -/
namespace Go.Proofs.Yteljibjbndpncaa
open Go.RowKit

/-- A flow's page at a place; -1: none. -/
def pageAt (f : DFlow) (i : Nat) : Int := if 0 ≤ (f.pages[i]?).getD (-1) then (f.pages[i]?).getD (-1) else -1
theorem pageAt_none {f : DFlow} {i : Nat} (h : f.pages.length ≤ i) : pageAt f i = -1 := by unfold pageAt; rw [List.getElem?_eq_none h]; rfl
theorem pageAt_some {f : DFlow} {i : Nat} {p : Int} (h : f.pages[i]? = some p) : pageAt f i = if 0 ≤ p then p else -1 := by unfold pageAt; rw [h]; rfl
theorem pageAt_wf {Q : Nat → Prop} {w : World} {A : Option Addr} {f : DFlow} (h : (Rep.int .i64).At Q w A f.pages) (i : Nat) : (Lit.int .i64 (pageAt f i)).wf = true := by
  cases hp : f.pages[i]? with
  | none => rw [pageAt_none (List.getElem?_eq_none_iff.1 hp)]; rfl
  | some p =>
    rw [pageAt_some hp]
    obtain ⟨_, _, _, _, hw⟩ := h.int hp
    split
    · exact hw
    · rfl

set_option maxRecDepth 100000 in
set_option maxHeartbeats 1000000 in
/-- plan.at -/
theorem planAt_calls {Q : Nat → Prop} {w : World} {v : Value} {f : DFlow} {i : Nat} (hx : rFlow.val Q w v f) :
    Calls Try.prog 54 #[v, .int .i64 (i : Int)] w fun e w' => e = .returned (.int .i64 (pageAt f i)) ∧ Below w.heap.size w w' := by
  obtain ⟨A1, c1, A2, c2, rfl, _, _, _, s1, s2⟩ := rFlow_val hx
  have hbel : Below w.heap.size w (w.alloc (.cells #[.int .i64 f.key.kind, .int .u64 f.key.sig, .int .i64 f.key.comp, .slice A1 f.data.length c1, .slice A2 f.pages.length c2] 35)) := (Below.refl _ _).alloc (Nat.le_refl _) _
  have hbk := heap_alloc_new w (.cells #[.int .i64 f.key.kind, .int .u64 f.key.sig, .int .i64 f.key.comp, .slice A1 f.data.length c1, .slice A2 f.pages.length c2] 35)
  have hs2 : (Rep.int .i64).Sl Q (w.alloc (.cells #[.int .i64 f.key.kind, .int .u64 f.key.sig, .int .i64 f.key.comp, .slice A1 f.data.length c1, .slice A2 f.pages.length c2] 35)) A2 c2 f.pages := Rep.Sl.keep (fun k hk hl => ⟨hk, hbel.block k hl.lt⟩) s2
  obtain ⟨hc1, hc2, hat⟩ := hs2
  unfold maxLen at hc2
  clear hx s1 s2
  generalize hW1 : w.alloc (.cells #[.int .i64 f.key.kind, .int .u64 f.key.sig, .int .i64 f.key.comp, .slice A1 f.data.length c1, .slice A2 f.pages.length c2] 35) = W1 at *
  have HB := Lib.hid hbel
  have e0 := cell_row hbk 0
  have e1 := cell_row hbk 1
  have e2 := cell_row hbk 2
  have e3 := cell_row hbk 3
  have e4 := cell_row hbk 4
  clear hbel hbk
  by_cases hi : i < f.pages.length
  · obtain ⟨p, hp⟩ : ∃ p, f.pages[i]? = some p := ⟨_, List.getElem?_eq_getElem hi⟩
    have HF := Lib.hid (pageAt_some hp)
    obtain ⟨b, off, rfl, hcell, hw⟩ := hat.int hp
    have hi' : (i : Int) < f.pages.length := by omega
    clear hat hp
    by_cases h0 : 0 ≤ p
    · have HG := Lib.hid (show pageAt f i = p by rw [HF.out, if_pos h0])
      go_enter Try.func54, Try.ntmps54
      go_wp2_with fail
      try rw [hW1]
      clear hW1
      try go_wp2_with fail
      all_goals (go_ret; first | exact ⟨by rw [HG.out]; rfl, HB.out⟩ | (have hp1 : p = -1 := by omega); subst hp1; exact ⟨by rw [HG.out]; rfl, HB.out⟩ | (exfalso; omega))
    · have HG := Lib.hid (show pageAt f i = -1 by rw [HF.out, if_neg h0])
      go_enter Try.func54, Try.ntmps54
      go_wp2_with fail
      try rw [hW1]
      clear hW1
      try go_wp2_with fail
      all_goals (go_ret; first | exact ⟨by rw [HG.out]; rfl, HB.out⟩ | (have hp1 : p = -1 := by omega); subst hp1; exact ⟨by rw [HG.out]; rfl, HB.out⟩ | (exfalso; omega))
  · have HG := Lib.hid (pageAt_none (f := f) (i := i) (by omega))
    have hi' : (f.pages.length : Int) ≤ i := by omega
    clear hat
    go_enter Try.func54, Try.ntmps54
    go_wp2_with fail
    try rw [hW1]
    clear hW1
    try go_wp2_with fail
    go_ret
    exact ⟨by rw [HG.out]; rfl, HB.out⟩

set_option maxRecDepth 100000 in
set_option maxHeartbeats 1000000 in
/-- ref24.At -/
theorem rpageAt_calls {Q : Nat → Prop} {w : World} {v : Value} {f : DFlow} {i : Nat} (hx : rFlow.val Q w v f) :
    Calls Try.prog 14 #[v, .int .i64 (i : Int)] w fun e w' => e = .returned (.int .i64 (pageAt f i)) ∧ Below w.heap.size w w' := by
  obtain ⟨A1, c1, A2, c2, rfl, _, _, _, s1, s2⟩ := rFlow_val hx
  have hbel : Below w.heap.size w (w.alloc (.cells #[.int .i64 f.key.kind, .int .u64 f.key.sig, .int .i64 f.key.comp, .slice A1 f.data.length c1, .slice A2 f.pages.length c2] 35)) := (Below.refl _ _).alloc (Nat.le_refl _) _
  have hbk := heap_alloc_new w (.cells #[.int .i64 f.key.kind, .int .u64 f.key.sig, .int .i64 f.key.comp, .slice A1 f.data.length c1, .slice A2 f.pages.length c2] 35)
  have hs2 : (Rep.int .i64).Sl Q (w.alloc (.cells #[.int .i64 f.key.kind, .int .u64 f.key.sig, .int .i64 f.key.comp, .slice A1 f.data.length c1, .slice A2 f.pages.length c2] 35)) A2 c2 f.pages := Rep.Sl.keep (fun k hk hl => ⟨hk, hbel.block k hl.lt⟩) s2
  obtain ⟨hc1, hc2, hat⟩ := hs2
  unfold maxLen at hc2
  clear hx s1 s2
  generalize hW1 : w.alloc (.cells #[.int .i64 f.key.kind, .int .u64 f.key.sig, .int .i64 f.key.comp, .slice A1 f.data.length c1, .slice A2 f.pages.length c2] 35) = W1 at *
  have HB := Lib.hid hbel
  have e0 := cell_row hbk 0
  have e1 := cell_row hbk 1
  have e2 := cell_row hbk 2
  have e3 := cell_row hbk 3
  have e4 := cell_row hbk 4
  clear hbel hbk
  by_cases hi : i < f.pages.length
  · obtain ⟨p, hp⟩ : ∃ p, f.pages[i]? = some p := ⟨_, List.getElem?_eq_getElem hi⟩
    have HF := Lib.hid (pageAt_some hp)
    obtain ⟨b, off, rfl, hcell, hw⟩ := hat.int hp
    have hi' : (i : Int) < f.pages.length := by omega
    clear hat hp
    by_cases h0 : 0 ≤ p
    · have HG := Lib.hid (show pageAt f i = p by rw [HF.out, if_pos h0])
      go_enter Try.func14, Try.ntmps14
      go_wp2_with fail
      try rw [hW1]
      clear hW1
      try go_wp2_with fail
      go_ret
      exact ⟨by rw [HG.out]; rfl, HB.out⟩
    · have HG := Lib.hid (show pageAt f i = -1 by rw [HF.out, if_neg h0])
      go_enter Try.func14, Try.ntmps14
      go_wp2_with fail
      try rw [hW1]
      clear hW1
      try go_wp2_with fail
      go_ret
      exact ⟨by rw [HG.out]; rfl, HB.out⟩
  · have HG := Lib.hid (pageAt_none (f := f) (i := i) (by omega))
    have hi' : (f.pages.length : Int) ≤ i := by omega
    clear hat
    go_enter Try.func14, Try.ntmps14
    go_wp2_with fail
    try rw [hW1]
    clear hW1
    try go_wp2_with fail
    go_ret
    exact ⟨by rw [HG.out]; rfl, HB.out⟩
end Go.Proofs.Yteljibjbndpncaa
/- Which pages stay: the plain law. No program is named here. -/
namespace Go.Proofs.Yteljibjbndpncaa
open Go.RowKit

def pieceCount (f : DFlow) : Nat := (f.data.length + 471) / 472
theorem cut_length (l : List UInt8) : (cut l).length = (l.length + 471) / 472 := by simp [cut, pieces]
theorem cut_get {l : List UInt8} {k : Nat} (h : k < (l.length + 471) / 472) : (cut l)[k]? = some (piece l k) := by simp [cut, pieces, h]
/-- The pages of a flow, at its first k places. -/
def keptTo (f : DFlow) (k : Nat) : List Int := (List.range k).filterMap fun i => if 0 ≤ pageAt f i then some (pageAt f i) else none
def kept (f : DFlow) : List Int := keptTo f (pieceCount f)
def pagesOf (l : List DFlow) : List Int := (l.map kept).flatten
/-- The pieces of a flow without pages, of its first k. -/
def newsTo (f : DFlow) (k : Nat) : List (List UInt8) := (List.range k).filterMap fun i => if pageAt f i < 0 then some (piece f.data i) else none
def newsOf (l : List DFlow) : List (List UInt8) := (l.map fun f => newsTo f (pieceCount f)).flatten
def stayOf (old : List DFlow) (k : DKey) (i : Nat) (b : List UInt8) : Int := match old.find? fun f => f.key == k with
  | none => -1
  | some f => if i < pieceCount f ∧ piece f.data i = b then pageAt f i else -1
def flowOf (old : List DFlow) (s : DStream) : DFlow := ⟨s.key, s.data, (List.range ((s.data.length + 471) / 472)).map fun i => stayOf old s.key i (piece s.data i)⟩
def flowsOf (old : List DFlow) (next : List DStream) : List DFlow := next.map (flowOf old)
def holdsIn (f : DFlow) (p : Int) (b : List UInt8) : Option Bool := ((List.range (pieceCount f)).find? fun k => pageAt f k == p).map fun k => decide (piece f.data k = b)
def holdsOf : List DFlow → Int → List UInt8 → Bool
  | [], _, _ => false
  | f :: l, p, b => match holdsIn f p b with
    | some r => r
    | none => holdsOf l p b
def streamsOf (l : List DFlow) : List DStream := l.map fun f => ⟨f.key, f.data⟩

theorem pageAt_low (f : DFlow) (i : Nat) : -1 ≤ pageAt f i := by unfold pageAt; split <;> omega
theorem mem_kept {f : DFlow} {p : Int} : p ∈ kept f ↔ ∃ k, k < pieceCount f ∧ pageAt f k = p ∧ 0 ≤ p := by
  unfold kept keptTo
  rw [List.mem_filterMap]
  constructor
  · rintro ⟨k, hk, h⟩
    split at h
    · injection h with h
      exact ⟨k, List.mem_range.1 hk, h, by omega⟩
    · cases h
  · rintro ⟨k, hk, h, h0⟩
    exact ⟨k, List.mem_range.2 hk, by rw [if_pos (by omega), h]⟩
theorem kept_pairwise {f : DFlow} (h : (kept f).Nodup) {k k' : Nat} (hk : k < pieceCount f) (hk' : k' < pieceCount f) (hp : pageAt f k = pageAt f k') (h0 : 0 ≤ pageAt f k) : k = k' := by
  unfold kept keptTo at h
  have h2 := List.pairwise_filterMap.1 h
  rw [List.pairwise_iff_getElem] at h2
  simp only [List.length_range, List.getElem_range] at h2
  rcases Nat.lt_trichotomy k k' with e | e | e
  · exact absurd hp (h2 k k' hk hk' e _ (by rw [if_pos h0]) _ (by rw [if_pos (by omega)]))
  · exact e
  · exact absurd hp.symm (h2 k' k hk' hk e _ (by rw [if_pos (by omega)]) _ (by rw [if_pos h0]))
theorem kept_nodup {f : DFlow} (h : ∀ k k', k < pieceCount f → k' < pieceCount f → pageAt f k = pageAt f k' → 0 ≤ pageAt f k → k = k') : (kept f).Nodup := by
  unfold kept keptTo
  refine List.pairwise_filterMap.2 ?_
  rw [List.pairwise_iff_getElem]
  simp only [List.length_range, List.getElem_range]
  intro a b ha hb hab x hx y hy e
  split at hx
  · split at hy
    · injection hx with hx
      injection hy with hy
      have := h a b ha hb (by omega) (by omega)
      omega
    · cases hy
  · cases hx
theorem pages_uniq {l : List DFlow} (h : (pagesOf l).Nodup) {f g : DFlow} (hf : f ∈ l) (hg : g ∈ l) {k k' : Nat} (hk : k < pieceCount f) (hk' : k' < pieceCount g) (hp : pageAt f k = pageAt g k') (h0 : 0 ≤ pageAt f k) : f = g ∧ k = k' := by
  unfold pagesOf at h
  obtain ⟨h1, h2⟩ := List.pairwise_flatten.1 h
  rw [List.pairwise_map, List.pairwise_iff_getElem] at h2
  obtain ⟨i, hi, rfl⟩ := List.getElem_of_mem hf
  obtain ⟨j, hj, rfl⟩ := List.getElem_of_mem hg
  have m1 : pageAt l[i] k ∈ kept l[i] := mem_kept.2 ⟨k, hk, rfl, h0⟩
  have m2 : pageAt l[j] k' ∈ kept l[j] := mem_kept.2 ⟨k', hk', rfl, by omega⟩
  rcases Nat.lt_trichotomy i j with e | e | e
  · exact absurd hp (h2 i j hi hj e _ m1 _ m2)
  · subst e
    exact ⟨rfl, kept_pairwise (h1 _ (List.mem_map.2 ⟨_, hf, rfl⟩)) hk hk' hp h0⟩
  · exact absurd hp.symm (h2 j i hj hi e _ m2 _ m1)
theorem flow_page {old : List DFlow} {s : DStream} {k : Nat} (hk : k < pieceCount (flowOf old s)) (h0 : 0 ≤ pageAt (flowOf old s) k) :
    ∃ o ∈ old, o.key = s.key ∧ k < pieceCount o ∧ piece o.data k = piece s.data k ∧ pageAt (flowOf old s) k = pageAt o k := by
  have hk' : k < (s.data.length + 471) / 472 := hk
  have e1 : (flowOf old s).pages[k]? = some (stayOf old s.key k (piece s.data k)) := by simp [flowOf, hk']
  have e2 : pageAt (flowOf old s) k = stayOf old s.key k (piece s.data k) := by
    rw [pageAt_some e1]
    have : -1 ≤ stayOf old s.key k (piece s.data k) := by
      unfold stayOf
      split
      · omega
      · split
        · exact pageAt_low _ _
        · omega
    split <;> omega
  rw [e2] at h0 ⊢
  unfold stayOf at h0 ⊢
  split at h0
  · omega
  · rename_i o ho
    split at h0
    · rename_i hc
      exact ⟨o, List.mem_of_find?_eq_some ho, by simpa using List.find?_some ho, hc.1, hc.2, by rw [if_pos hc]⟩
    · omega
theorem flows_nodup {old : List DFlow} {next : List DStream} (h : (pagesOf old).Nodup) (hn : next.Pairwise fun a b => a.key ≠ b.key) : (pagesOf (flowsOf old next)).Nodup := by
  unfold pagesOf flowsOf
  refine List.pairwise_flatten.2 ⟨?_, ?_⟩
  · intro x hx
    obtain ⟨f, hf, rfl⟩ := List.mem_map.1 hx
    obtain ⟨s, _, rfl⟩ := List.mem_map.1 hf
    refine kept_nodup fun k k' hk hk' hp h0 => ?_
    obtain ⟨o, ho, _, q1, _, e1⟩ := flow_page hk h0
    obtain ⟨o', ho', _, q1', _, e1'⟩ := flow_page hk' (hp ▸ h0)
    exact (pages_uniq h ho ho' q1 q1' (by omega) (by omega)).2
  · rw [List.pairwise_map, List.pairwise_map]
    refine hn.imp fun {a b} hab x hx y hy e => ?_
    subst e
    obtain ⟨k, hk, hp, h0⟩ := mem_kept.1 hx
    obtain ⟨k', hk', hp', _⟩ := mem_kept.1 hy
    obtain ⟨o, ho, g1, q1, _, e1⟩ := flow_page hk (by omega)
    obtain ⟨o', ho', g1', q1', _, e1'⟩ := flow_page hk' (by omega)
    have := (pages_uniq h ho ho' q1 q1' (by omega) (by omega)).1
    subst this
    exact hab (g1.symm.trans g1')
theorem holdsIn_some {f : DFlow} {p : Int} {b : List UInt8} {r : Bool} (h : holdsIn f p b = some r) : ∃ k, k < pieceCount f ∧ pageAt f k = p ∧ r = decide (piece f.data k = b) := by
  unfold holdsIn at h
  obtain ⟨k, hk, rfl⟩ := Option.map_eq_some_iff.1 h
  exact ⟨k, List.mem_range.1 (List.mem_of_find?_eq_some hk), by simpa using List.find?_some hk, rfl⟩
theorem holdsIn_none {f : DFlow} {p : Int} {b : List UInt8} (h : holdsIn f p b = none) : ∀ k, k < pieceCount f → pageAt f k ≠ p := by
  unfold holdsIn at h
  intro k hk e
  have := List.find?_eq_none.1 (Option.map_eq_none_iff.1 h) k (List.mem_range.2 hk)
  simp [e] at this
theorem holds_of {p : Int} {b : List UInt8} : ∀ {l : List DFlow} (_ : ∀ f ∈ l, ∀ g ∈ l, ∀ k k', k < pieceCount f → k' < pieceCount g → pageAt f k = p → pageAt g k' = p → f = g ∧ k = k') {o : DFlow} {k : Nat} (_ : o ∈ l) (_ : k < pieceCount o) (_ : pageAt o k = p) (_ : piece o.data k = b), holdsOf l p b = true
  | [], _, o, k, h, _, _, _ => by cases h
  | f :: l, hu, o, k, h, hk, hp, hb => by
    unfold holdsOf
    cases hi : holdsIn f p b with
    | some r =>
      obtain ⟨k', hk', hp', rfl⟩ := holdsIn_some hi
      obtain ⟨rfl, rfl⟩ := hu f (by simp) o h k' k hk' hk hp' hp
      simpa using hb
    | none =>
      rcases List.mem_cons.1 h with rfl | h
      · exact absurd hp (holdsIn_none hi k hk)
      · exact holds_of (fun f hf g hg => hu f (by simp [hf]) g (by simp [hg])) h hk hp hb
/-- A page that stays is an old one, with the same bytes. -/
theorem stays_hold {old : List DFlow} {next : List DStream} (h : (pagesOf old).Nodup) {f : DFlow} (hf : f ∈ flowsOf old next) {k : Nat} (hk : k < pieceCount f) (h0 : 0 ≤ pageAt f k) :
    pageAt f k ∈ pagesOf old ∧ holdsOf old (pageAt f k) (piece f.data k) = true := by
  obtain ⟨s, _, rfl⟩ := List.mem_map.1 hf
  obtain ⟨o, ho, _, q1, q2, e1⟩ := flow_page hk h0
  rw [e1] at h0 ⊢
  refine ⟨List.mem_flatten.2 ⟨kept o, List.mem_map.2 ⟨o, ho, rfl⟩, mem_kept.2 ⟨k, q1, rfl, h0⟩⟩, ?_⟩
  exact holds_of (fun f hf g hg k1 k2 h1 h2 e1 e2 => pages_uniq h hf hg h1 h2 (by omega) (by omega)) ho q1 rfl q2
theorem find_key : ∀ {l : List DFlow} (_ : l.Pairwise fun a b => a.key ≠ b.key) {f : DFlow} (_ : f ∈ l), l.find? (fun g => g.key == f.key) = some f
  | [], _, _, h => by cases h
  | g :: l, hp, f, h => by
    obtain ⟨h1, h2⟩ := List.pairwise_cons.1 hp
    rcases List.mem_cons.1 h with rfl | h
    · simp
    · have : (g.key == f.key) = false := by simpa using h1 f h
      rw [List.find?_cons, this]
      exact find_key h2 h
def normOf (f : DFlow) : DFlow := ⟨f.key, f.data, (List.range (pieceCount f)).map (pageAt f)⟩
theorem norm_page {f : DFlow} {k : Nat} (hk : k < pieceCount f) : pageAt (normOf f) k = pageAt f k := by
  rw [pageAt_some (p := pageAt f k) (by simp [normOf, hk])]
  have := pageAt_low f k
  split <;> omega
theorem filterMap_alike {α β : Type} {f g : α → Option β} : ∀ {l : List α} (_ : ∀ k ∈ l, f k = g k), l.filterMap f = l.filterMap g
  | [], _ => rfl
  | x :: l, h => by rw [List.filterMap_cons, List.filterMap_cons, h x (by simp), filterMap_alike fun k hk => h k (by simp [hk])]
theorem filterMap_range_congr {α : Type} {n : Nat} {f g : Nat → Option α} (h : ∀ k, k < n → f k = g k) : (List.range n).filterMap f = (List.range n).filterMap g :=
  filterMap_alike fun k hk => h k (List.mem_range.1 hk)
theorem norm_kept (f : DFlow) : kept (normOf f) = kept f := filterMap_range_congr fun k hk => by rw [norm_page (f := f) hk]
theorem norm_news (f : DFlow) : newsTo (normOf f) (pieceCount (normOf f)) = newsTo f (pieceCount f) := filterMap_range_congr fun k hk => by rw [norm_page (f := f) hk]; rfl
theorem flow_again {old : List DFlow} (hp : old.Pairwise fun a b => a.key ≠ b.key) {f : DFlow} (hf : f ∈ old) : flowOf old ⟨f.key, f.data⟩ = normOf f := by
  unfold flowOf normOf
  simp only [DFlow.mk.injEq, true_and]
  refine List.map_congr_left fun k hk => ?_
  have hk' : k < pieceCount f := List.mem_range.1 hk
  unfold stayOf
  rw [find_key hp hf]
  exact if_pos ⟨hk', rfl⟩
theorem flows_again {old : List DFlow} (hp : old.Pairwise fun a b => a.key ≠ b.key) : flowsOf old (streamsOf old) = old.map normOf := by
  unfold flowsOf streamsOf
  rw [List.map_map]
  exact List.map_congr_left fun f hf => flow_again hp hf
/-- Of what was there nothing is new. -/
theorem again_same {old : List DFlow} (hp : old.Pairwise fun a b => a.key ≠ b.key) : pagesOf (flowsOf old (streamsOf old)) = pagesOf old ∧ newsOf (flowsOf old (streamsOf old)) = newsOf old := by
  rw [flows_again hp]
  unfold pagesOf newsOf
  rw [List.map_map, List.map_map]
  exact ⟨congrArg _ (List.map_congr_left fun f _ => norm_kept f), congrArg _ (List.map_congr_left fun f _ => norm_news f)⟩
end Go.Proofs.Yteljibjbndpncaa
