/- Texts on which the proofs stand: Short, PlanAt, PlanMath, PlanRef, PlanPages, PlanNews, PlanFind. No condition is laid on any input. -/
import Derived.Test.YtghbfbohnoebiaaGreatSnG13
import Derived.Test.YtghbfbohnoebiaaGreatSnG16
namespace Go.Proofs.YtghbfbohnoebiaaGreat
open Go.RowKit

theorem tkT {P : Program} {md : Region.Mode} {ops : Array Oper} {Q : Exit → Act → World → Prop} {S : World → Prop} {T : List Nat} {i : Nat} {oi : Oper} {v : Value} {fuel : Nat} {listed : Array Bool} {a : Act} {w : World} (hi : ops[i]? = some oi) (hy : YieldsIf P ops S oi v a) (hS : S w)
    (h : wpAnyT P md ops Q S T fuel (listed.setIfInBounds i true) (a.put oi.dst v) w)
    (hs : Region.noSelect ops = true := by kernel_rfl) (hf : Region.free md ops listed i = true := by kernel_rfl) (hr : (Region.ready md ops listed).contains i = true := by kernel_rfl) (ht : tailed md ops listed T i = true := by kernel_rfl)
    (hQ : ∀ c a w, Q (.panic c) (a.put oi.dst v) w → Q (.panic c) a w := by exact fun _ _ _ h => h) : wpAnyT P md ops Q S T (fuel + 1) listed a w := wpAnyT_take hi hs hf hr ht hQ hy hS h
theorem tkTV {P : Program} {md : Region.Mode} {ops : Array Oper} {Q : Exit → Act → World → Prop} {S : World → Prop} {T : List Nat} {i : Nat} {oi : Oper} {v : Value} {fuel : Nat} {listed : Array Bool} {a : Act} {w : World} (hi : ops[i]? = some oi) (hS : S w)
    (h : wpAnyT P md ops Q S T fuel (listed.setIfInBounds i true) (a.put oi.dst v) w) (hy : YieldsIf P ops S oi v a := by exact Or.inl ⟨by rfl, fun w' _ => by go_simp <;> omega⟩)
    (hs : Region.noSelect ops = true := by kernel_rfl) (hf : Region.free md ops listed i = true := by kernel_rfl) (hr : (Region.ready md ops listed).contains i = true := by kernel_rfl) (ht : tailed md ops listed T i = true := by kernel_rfl)
    (hQ : ∀ c a w, Q (.panic c) (a.put oi.dst v) w → Q (.panic c) a w := by exact fun _ _ _ h => h) : wpAnyT P md ops Q S T (fuel + 1) listed a w := wpAnyT_take hi hs hf hr ht hQ hy hS h
theorem tk0 {P : Program} {md : Region.Mode} {ops : Array Oper} {Q : Exit → Act → World → Prop} {S : World → Prop} {T : List Nat} {i : Nat} {oi : Oper} {v : Value} {fuel : Nat} {listed : Array Bool} {a : Act} {w : World} (hi : ops[i]? = some oi) (hy : YieldsIf P ops (fun _ => True) oi v a)
    (h : wpAnyT P md ops Q S T fuel (listed.setIfInBounds i true) (a.put oi.dst v) w)
    (hs : Region.noSelect ops = true := by kernel_rfl) (hf : Region.free md ops listed i = true := by kernel_rfl) (hr : (Region.ready md ops listed).contains i = true := by kernel_rfl) (ht : T.contains i = true := by kernel_rfl)
    (hQ : ∀ c a w, Q (.panic c) (a.put oi.dst v) w → Q (.panic c) a w := by exact fun _ _ _ h => h) : wpAnyT P md ops Q S T (fuel + 1) listed a w := wpAnyT_take0 hi hs hf hr ht hQ hy h
theorem tkH {P : Program} {md : Region.Mode} {ops : Array Oper} {Q : Exit → Act → World → Prop} {S : World → Prop} {i : Nat} {oi : Oper} {v : Value} {fuel : Nat} {listed : Array Bool} {a : Act} {w : World} (hi : ops[i]? = some oi) (hy : YieldsIf P ops S oi v a) (hS : S w)
    (h : wpAnyH P md ops Q S fuel (listed.setIfInBounds i true) (a.put oi.dst v) w)
    (hs : Region.noSelect ops = true := by kernel_rfl) (hf : Region.free md ops listed i = true := by kernel_rfl) (hr : (Region.ready md ops listed).contains i = true := by kernel_rfl)
    (hQ : ∀ c a w, Q (.panic c) (a.put oi.dst v) w → Q (.panic c) a w := by exact fun _ _ _ h => h) : wpAnyH P md ops Q S (fuel + 1) listed a w := wpAnyH_take hi hs hf hr hQ hy hS h
theorem tkHV {P : Program} {md : Region.Mode} {ops : Array Oper} {Q : Exit → Act → World → Prop} {S : World → Prop} {i : Nat} {oi : Oper} {v : Value} {fuel : Nat} {listed : Array Bool} {a : Act} {w : World} (hi : ops[i]? = some oi) (hS : S w)
    (h : wpAnyH P md ops Q S fuel (listed.setIfInBounds i true) (a.put oi.dst v) w) (hy : YieldsIf P ops S oi v a := by exact Or.inl ⟨by rfl, fun w' _ => by go_simp <;> omega⟩)
    (hs : Region.noSelect ops = true := by kernel_rfl) (hf : Region.free md ops listed i = true := by kernel_rfl) (hr : (Region.ready md ops listed).contains i = true := by kernel_rfl)
    (hQ : ∀ c a w, Q (.panic c) (a.put oi.dst v) w → Q (.panic c) a w := by exact fun _ _ _ h => h) : wpAnyH P md ops Q S (fuel + 1) listed a w := wpAnyH_take hi hs hf hr hQ hy hS h
theorem rw1 {w : World} {b e : Nat} {cs : Array Value} (h : w.heap[b]? = some (.cells cs e (0, 0))) : w.cell? ⟨b, 0, none⟩ = cs[0]? ∧ w.frozen? ⟨b, 0, none⟩ = false := ⟨cell_row h 0, frozen_row h 0⟩
theorem rw4 {w : World} {b e : Nat} {cs : Array Value} (h : w.heap[b]? = some (.cells cs e (0, 0))) : w.cell? ⟨b, 0, none⟩ = cs[0]? ∧ w.frozen? ⟨b, 0, none⟩ = false ∧ w.cell? ⟨b, 1, none⟩ = cs[1]? ∧ w.frozen? ⟨b, 1, none⟩ = false ∧ w.cell? ⟨b, 2, none⟩ = cs[2]? ∧ w.frozen? ⟨b, 2, none⟩ = false ∧ w.cell? ⟨b, 3, none⟩ = cs[3]? ∧ w.frozen? ⟨b, 3, none⟩ = false := ⟨cell_row h 0, frozen_row h 0, cell_row h 1, frozen_row h 1, cell_row h 2, frozen_row h 2, cell_row h 3, frozen_row h 3⟩
theorem rw8 {w : World} {b e : Nat} {cs : Array Value} (h : w.heap[b]? = some (.cells cs e (0, 0))) : w.cell? ⟨b, 0, none⟩ = cs[0]? ∧ w.frozen? ⟨b, 0, none⟩ = false ∧ w.cell? ⟨b, 1, none⟩ = cs[1]? ∧ w.frozen? ⟨b, 1, none⟩ = false ∧ w.cell? ⟨b, 2, none⟩ = cs[2]? ∧ w.frozen? ⟨b, 2, none⟩ = false ∧ w.cell? ⟨b, 3, none⟩ = cs[3]? ∧ w.frozen? ⟨b, 3, none⟩ = false ∧ w.cell? ⟨b, 4, none⟩ = cs[4]? ∧ w.frozen? ⟨b, 4, none⟩ = false ∧ w.cell? ⟨b, 5, none⟩ = cs[5]? ∧ w.frozen? ⟨b, 5, none⟩ = false ∧ w.cell? ⟨b, 6, none⟩ = cs[6]? ∧ w.frozen? ⟨b, 6, none⟩ = false ∧ w.cell? ⟨b, 7, none⟩ = cs[7]? ∧ w.frozen? ⟨b, 7, none⟩ = false := ⟨cell_row h 0, frozen_row h 0, cell_row h 1, frozen_row h 1, cell_row h 2, frozen_row h 2, cell_row h 3, frozen_row h 3, cell_row h 4, frozen_row h 4, cell_row h 5, frozen_row h 5, cell_row h 6, frozen_row h 6, cell_row h 7, frozen_row h 7⟩
theorem cl2 {w : World} {b e : Nat} {cs : Array Value} {f : Nat × Nat} (h : w.heap[b]? = some (.cells cs e f)) : w.cell? ⟨b, 0, none⟩ = cs[0]? ∧ w.cell? ⟨b, 1, none⟩ = cs[1]? := ⟨cell_row h 0, cell_row h 1⟩
theorem cl3 {w : World} {b e : Nat} {cs : Array Value} {f : Nat × Nat} (h : w.heap[b]? = some (.cells cs e f)) : w.cell? ⟨b, 0, none⟩ = cs[0]? ∧ w.cell? ⟨b, 1, none⟩ = cs[1]? ∧ w.cell? ⟨b, 2, none⟩ = cs[2]? := ⟨cell_row h 0, cell_row h 1, cell_row h 2⟩
theorem cl5 {w : World} {b e : Nat} {cs : Array Value} {f : Nat × Nat} (h : w.heap[b]? = some (.cells cs e f)) : w.cell? ⟨b, 0, none⟩ = cs[0]? ∧ w.cell? ⟨b, 1, none⟩ = cs[1]? ∧ w.cell? ⟨b, 2, none⟩ = cs[2]? ∧ w.cell? ⟨b, 3, none⟩ = cs[3]? ∧ w.cell? ⟨b, 4, none⟩ = cs[4]? := ⟨cell_row h 0, cell_row h 1, cell_row h 2, cell_row h 3, cell_row h 4⟩
end Go.Proofs.YtghbfbohnoebiaaGreat
namespace Go.Proofs.YtghbfbohnoebiaaGreat
open Go.RowKit

/-- A flow's page at a place; -1: none. -/
def pageAt (f : DFlow) (i : Nat) : Int := if 0 ≤ (f.pages[i]?).getD (-1) then (f.pages[i]?).getD (-1) else -1
theorem pageAt_none {f : DFlow} {i : Nat} (h : f.pages.length ≤ i) : pageAt f i = -1 := by unfold pageAt; rw [List.getElem?_eq_none h]; rfl
theorem pageAt_some {f : DFlow} {i : Nat} {p : Int} (h : f.pages[i]? = some p) : pageAt f i = if 0 ≤ p then p else -1 := by unfold pageAt; rw [h]; rfl
theorem pageAt_wf {Q : Nat → Prop} {w : World} {A : Option Addr} {f : DFlow} (h : (Rep.int .i64).At Q w A f.pages) (i : Nat) : (Lit.int .i64 (pageAt f i)).wf = true := by
  cases hp : f.pages[i]? with
  | none => rw [pageAt_none (List.getElem?_eq_none_iff.1 hp)]; rfl
  | some p =>
    rw [pageAt_some hp]
    obtain ⟨_, _, _, _, hw⟩ := h.int hp
    split
    · exact hw
    · rfl

set_option maxRecDepth 100000 in
set_option maxHeartbeats 1000000 in
/-- plan.at -/
theorem planAt_calls {Q : Nat → Prop} {w : World} {v : Value} {f : DFlow} {i : Nat} (hx : rFlow.val Q w v f) :
    Calls Tryz.prog 164 #[v, .int .i64 (i : Int)] w fun e w' => e = .returned (.int .i64 (pageAt f i)) ∧ Below w.heap.size w w' := by
  obtain ⟨A1, c1, A2, c2, rfl, _, _, _, s1, s2⟩ := rFlow_val hx
  have hbel : Below w.heap.size w (w.alloc (.cells #[.int .i64 f.key.kind, .int .u64 f.key.sig, .int .i64 f.key.comp, .slice A1 f.data.length c1, .slice A2 f.pages.length c2] 116)) := (Below.refl _ _).alloc (Nat.le_refl _) _
  have hbk := heap_alloc_new w (.cells #[.int .i64 f.key.kind, .int .u64 f.key.sig, .int .i64 f.key.comp, .slice A1 f.data.length c1, .slice A2 f.pages.length c2] 116)
  have hs2 : (Rep.int .i64).Sl Q (w.alloc (.cells #[.int .i64 f.key.kind, .int .u64 f.key.sig, .int .i64 f.key.comp, .slice A1 f.data.length c1, .slice A2 f.pages.length c2] 116)) A2 c2 f.pages := Rep.Sl.keep (fun k hk hl => ⟨hk, hbel.block k hl.lt⟩) s2
  obtain ⟨hc1, hc2, hat⟩ := hs2
  unfold maxLen at hc2
  clear hx s1 s2
  generalize hW1 : w.alloc (.cells #[.int .i64 f.key.kind, .int .u64 f.key.sig, .int .i64 f.key.comp, .slice A1 f.data.length c1, .slice A2 f.pages.length c2] 116) = W1 at *
  have HB := Lib.hid hbel
  obtain ⟨e0, e1, e2, e3, e4⟩ := cl5 hbk
  clear hbel hbk
  by_cases hi : i < f.pages.length
  · obtain ⟨p, hp⟩ : ∃ p, f.pages[i]? = some p := ⟨_, List.getElem?_eq_getElem hi⟩
    have HF := Lib.hid (pageAt_some hp)
    obtain ⟨b, off, rfl, hcell, hw⟩ := hat.int hp
    have hi' : (i : Int) < f.pages.length := by omega
    clear hat hp
    by_cases h0 : 0 ≤ p
    · have HG := Lib.hid (show pageAt f i = p by rw [HF.out, if_pos h0])
      go_enter Tryz.func164, Tryz.ntmps164
      go_wp2_with fail
      try rw [hW1]
      clear hW1
      try go_wp2_with fail
      all_goals (go_ret; first | exact ⟨by rw [HG.out]; rfl, HB.out⟩ | (have hp1 : p = -1 := by omega); subst hp1; exact ⟨by rw [HG.out]; rfl, HB.out⟩ | (exfalso; omega))
    · have HG := Lib.hid (show pageAt f i = -1 by rw [HF.out, if_neg h0])
      go_enter Tryz.func164, Tryz.ntmps164
      go_wp2_with fail
      try rw [hW1]
      clear hW1
      try go_wp2_with fail
      all_goals (go_ret; first | exact ⟨by rw [HG.out]; rfl, HB.out⟩ | (have hp1 : p = -1 := by omega); subst hp1; exact ⟨by rw [HG.out]; rfl, HB.out⟩ | (exfalso; omega))
  · have HG := Lib.hid (pageAt_none (f := f) (i := i) (by omega))
    have hi' : (f.pages.length : Int) ≤ i := by omega
    clear hat
    go_enter Tryz.func164, Tryz.ntmps164
    go_wp2_with fail
    try rw [hW1]
    clear hW1
    try go_wp2_with fail
    go_ret
    exact ⟨by rw [HG.out]; rfl, HB.out⟩

end Go.Proofs.YtghbfbohnoebiaaGreat
namespace Go.Proofs.YtghbfbohnoebiaaGreat
open Go.RowKit

def pieceCount (f : DFlow) : Nat := (f.data.length + 471) / 472
theorem cut_length (l : List UInt8) : (cut l).length = (l.length + 471) / 472 := by simp [cut, pieces]
theorem cut_get {l : List UInt8} {k : Nat} (h : k < (l.length + 471) / 472) : (cut l)[k]? = some (piece l k) := by simp [cut, pieces, h]
/-- The pages of a flow, at its first k places. -/
def keptTo (f : DFlow) (k : Nat) : List Int := (List.range k).filterMap fun i => if 0 ≤ pageAt f i then some (pageAt f i) else none
def kept (f : DFlow) : List Int := keptTo f (pieceCount f)
def pagesOf (l : List DFlow) : List Int := (l.map kept).flatten
/-- The pieces of a flow without pages, of its first k. -/
def newsTo (f : DFlow) (k : Nat) : List (List UInt8) := (List.range k).filterMap fun i => if pageAt f i < 0 then some (piece f.data i) else none
def newsOf (l : List DFlow) : List (List UInt8) := (l.map fun f => newsTo f (pieceCount f)).flatten
def stayOf (old : List DFlow) (k : DKey) (i : Nat) (b : List UInt8) : Int := match old.find? fun f => f.key == k with
  | none => -1
  | some f => if i < pieceCount f ∧ piece f.data i = b then pageAt f i else -1
def flowOf (old : List DFlow) (s : DStream) : DFlow := ⟨s.key, s.data, (List.range ((s.data.length + 471) / 472)).map fun i => stayOf old s.key i (piece s.data i)⟩
def flowsOf (old : List DFlow) (next : List DStream) : List DFlow := next.map (flowOf old)
def streamsOf (l : List DFlow) : List DStream := l.map fun f => ⟨f.key, f.data⟩

theorem pageAt_low (f : DFlow) (i : Nat) : -1 ≤ pageAt f i := by unfold pageAt; split <;> omega
theorem mem_kept {f : DFlow} {p : Int} : p ∈ kept f ↔ ∃ k, k < pieceCount f ∧ pageAt f k = p ∧ 0 ≤ p := by
  unfold kept keptTo
  rw [List.mem_filterMap]
  constructor
  · rintro ⟨k, hk, h⟩
    split at h
    · injection h with h
      exact ⟨k, List.mem_range.1 hk, h, by omega⟩
    · cases h
  · rintro ⟨k, hk, h, h0⟩
    exact ⟨k, List.mem_range.2 hk, by rw [if_pos (by omega), h]⟩
theorem kept_pairwise {f : DFlow} (h : (kept f).Nodup) {k k' : Nat} (hk : k < pieceCount f) (hk' : k' < pieceCount f) (hp : pageAt f k = pageAt f k') (h0 : 0 ≤ pageAt f k) : k = k' := by
  unfold kept keptTo at h
  have h2 := List.pairwise_filterMap.1 h
  rw [List.pairwise_iff_getElem] at h2
  simp only [List.length_range, List.getElem_range] at h2
  rcases Nat.lt_trichotomy k k' with e | e | e
  · exact absurd hp (h2 k k' hk hk' e _ (by rw [if_pos h0]) _ (by rw [if_pos (by omega)]))
  · exact e
  · exact absurd hp.symm (h2 k' k hk' hk e _ (by rw [if_pos (by omega)]) _ (by rw [if_pos h0]))
theorem kept_nodup {f : DFlow} (h : ∀ k k', k < pieceCount f → k' < pieceCount f → pageAt f k = pageAt f k' → 0 ≤ pageAt f k → k = k') : (kept f).Nodup := by
  unfold kept keptTo
  refine List.pairwise_filterMap.2 ?_
  rw [List.pairwise_iff_getElem]
  simp only [List.length_range, List.getElem_range]
  intro a b ha hb hab x hx y hy e
  split at hx
  · split at hy
    · injection hx with hx
      injection hy with hy
      have := h a b ha hb (by omega) (by omega)
      omega
    · cases hy
  · cases hx
theorem pages_uniq {l : List DFlow} (h : (pagesOf l).Nodup) {f g : DFlow} (hf : f ∈ l) (hg : g ∈ l) {k k' : Nat} (hk : k < pieceCount f) (hk' : k' < pieceCount g) (hp : pageAt f k = pageAt g k') (h0 : 0 ≤ pageAt f k) : f = g ∧ k = k' := by
  unfold pagesOf at h
  obtain ⟨h1, h2⟩ := List.pairwise_flatten.1 h
  rw [List.pairwise_map, List.pairwise_iff_getElem] at h2
  obtain ⟨i, hi, rfl⟩ := List.getElem_of_mem hf
  obtain ⟨j, hj, rfl⟩ := List.getElem_of_mem hg
  have m1 : pageAt l[i] k ∈ kept l[i] := mem_kept.2 ⟨k, hk, rfl, h0⟩
  have m2 : pageAt l[j] k' ∈ kept l[j] := mem_kept.2 ⟨k', hk', rfl, by omega⟩
  rcases Nat.lt_trichotomy i j with e | e | e
  · exact absurd hp (h2 i j hi hj e _ m1 _ m2)
  · subst e
    exact ⟨rfl, kept_pairwise (h1 _ (List.mem_map.2 ⟨_, hf, rfl⟩)) hk hk' hp h0⟩
  · exact absurd hp.symm (h2 j i hj hi e _ m2 _ m1)
theorem flow_page {old : List DFlow} {s : DStream} {k : Nat} (hk : k < pieceCount (flowOf old s)) (h0 : 0 ≤ pageAt (flowOf old s) k) :
    ∃ o ∈ old, o.key = s.key ∧ k < pieceCount o ∧ piece o.data k = piece s.data k ∧ pageAt (flowOf old s) k = pageAt o k := by
  have hk' : k < (s.data.length + 471) / 472 := hk
  have e1 : (flowOf old s).pages[k]? = some (stayOf old s.key k (piece s.data k)) := by simp [flowOf, hk']
  have e2 : pageAt (flowOf old s) k = stayOf old s.key k (piece s.data k) := by
    rw [pageAt_some e1]
    have : -1 ≤ stayOf old s.key k (piece s.data k) := by
      unfold stayOf
      split
      · omega
      · split
        · exact pageAt_low _ _
        · omega
    split <;> omega
  rw [e2] at h0 ⊢
  unfold stayOf at h0 ⊢
  split at h0
  · omega
  · rename_i o ho
    split at h0
    · rename_i hc
      exact ⟨o, List.mem_of_find?_eq_some ho, by simpa using List.find?_some ho, hc.1, hc.2, by rw [if_pos hc]⟩
    · omega
theorem flows_nodup {old : List DFlow} {next : List DStream} (h : (pagesOf old).Nodup) (hn : next.Pairwise fun a b => a.key ≠ b.key) : (pagesOf (flowsOf old next)).Nodup := by
  unfold pagesOf flowsOf
  refine List.pairwise_flatten.2 ⟨?_, ?_⟩
  · intro x hx
    obtain ⟨f, hf, rfl⟩ := List.mem_map.1 hx
    obtain ⟨s, _, rfl⟩ := List.mem_map.1 hf
    refine kept_nodup fun k k' hk hk' hp h0 => ?_
    obtain ⟨o, ho, _, q1, _, e1⟩ := flow_page hk h0
    obtain ⟨o', ho', _, q1', _, e1'⟩ := flow_page hk' (hp ▸ h0)
    exact (pages_uniq h ho ho' q1 q1' (by omega) (by omega)).2
  · rw [List.pairwise_map, List.pairwise_map]
    refine hn.imp fun {a b} hab x hx y hy e => ?_
    subst e
    obtain ⟨k, hk, hp, h0⟩ := mem_kept.1 hx
    obtain ⟨k', hk', hp', _⟩ := mem_kept.1 hy
    obtain ⟨o, ho, g1, q1, _, e1⟩ := flow_page hk (by omega)
    obtain ⟨o', ho', g1', q1', _, e1'⟩ := flow_page hk' (by omega)
    have := (pages_uniq h ho ho' q1 q1' (by omega) (by omega)).1
    subst this
    exact hab (g1.symm.trans g1')
theorem filterMap_alike {α β : Type} {f g : α → Option β} : ∀ {l : List α} (_ : ∀ k ∈ l, f k = g k), l.filterMap f = l.filterMap g
  | [], _ => rfl
  | x :: l, h => by rw [List.filterMap_cons, List.filterMap_cons, h x (by simp), filterMap_alike fun k hk => h k (by simp [hk])]
end Go.Proofs.YtghbfbohnoebiaaGreat
namespace Go.Proofs.YtghbfbohnoebiaaGreat
open Go.RowKit

def MuchStreams (w : World) (l : List DStream) (e : Ending) (w' : World) : Prop := ∃ r : Bool, e = .returned (.bool r) ∧ (r = false → l.length ≤ 40 ∧ ∀ s ∈ l, s.data.length ≤ 2000) ∧ w' = w

set_option maxRecDepth 100000 in
/-- ref22.Much -/
theorem muchStreams_calls {Q : Nat → Prop} {w : World} {v : Value} {l : List DStream} (hx : rStream.list.val Q w v l) :
    Calls Tryz.prog 8 #[v] w (MuchStreams w l) := by
  obtain ⟨A, c, rfl, hc1, hc2, hA⟩ := Rep.val_list hx
  unfold maxLen at hc2
  have HA := Lib.hid hA
  clear hx hA
  go_enter Tryz.func8, Tryz.ntmps8
  go_wp2_with fail
  go_loop [3] (fun i => ∃ k : Nat, i = .int .i64 k ∧ k ≤ l.length ∧ k ≤ 50 ∧ Hid (∀ (j : Nat) (s : DStream), j < k → l[j]? = some s → s.data.length ≤ 2000)) (fun i => l.length - (intOf i).toNat)
  case atStart => exact ⟨0, rfl, by omega, by omega, Lib.hid (fun j s hj => absurd hj (Nat.not_lt_zero _))⟩
  case round =>
    obtain ⟨k, rfl, hk, hk5, HJ⟩ := hrel
    by_cases hlt : (k : Int) < l.length
    · by_cases h50 : (k : Int) < 50
      · obtain ⟨x, hx⟩ : ∃ x, l[k]? = some x := ⟨_, List.getElem?_eq_getElem (by omega)⟩
        obtain ⟨b, off, Ad, cd, rfl, hbc, cx0, cx1, cx2, cx3, g0, g1, g2, hsd⟩ := rStream_at HA.out hx
        have hd := hsd.1
        have hd2 := hsd.2.1
        unfold maxLen at hd2
        have HX := Lib.hid hx
        clear g0 g1 g2 hsd hx
        by_cases h1 : (2000 : Int) < x.data.length
        · go_wp2_with fail
          go_ret
          exact ⟨true, rfl, (fun h => by cases h), rfl⟩
        · have HJ2 := Lib.hid (show ∀ (j : Nat) (s : DStream), j < k + 1 → l[j]? = some s → s.data.length ≤ 2000 from fun j s hj hs => by
            rcases Nat.lt_or_ge j k with h | h
            · exact HJ.out j s h hs
            · have : j = k := by omega
              subst this
              rw [HX.out] at hs
              rw [← Option.some.inj hs]
              omega)
          go_wp2_with fail
          go_round
          case rel => exact ⟨k + 1, by go_num, by omega, by omega, HJ2⟩
          case measure => simp [intOf]; omega
      · have h40 : (40 : Int) < l.length := by omega
        go_wp2_with fail
        go_ret
        exact ⟨true, rfl, (fun h => by cases h), rfl⟩
    · by_cases h40 : (40 : Int) < l.length
      · go_wp2_with fail
        go_ret
        exact ⟨true, rfl, (fun h => by cases h), rfl⟩
      · have HL := Lib.hid (show l.length ≤ 40 ∧ ∀ s ∈ l, s.data.length ≤ 2000 from ⟨by omega, fun s hs => by
          obtain ⟨j, hj, rfl⟩ := List.getElem_of_mem hs
          exact HJ.out j _ (by omega) (List.getElem?_eq_getElem hj)⟩)
        go_wp2_with fail
        go_ret
        exact ⟨false, rfl, fun _ => HL.out, rfl⟩
end Go.Proofs.YtghbfbohnoebiaaGreat
namespace Go.Proofs.YtghbfbohnoebiaaGreat
open Go.RowKit

theorem keptTo_succ (f : DFlow) (j : Nat) : keptTo f (j + 1) = keptTo f j ++ (if 0 ≤ pageAt f j then [pageAt f j] else []) := by
  unfold keptTo
  rw [List.range_succ, List.filterMap_append]
  by_cases h : 0 ≤ pageAt f j
  · simp [h]
  · simp [h]
theorem keptTo_len (f : DFlow) : ∀ j, (keptTo f j).length ≤ j
  | 0 => by simp [keptTo]
  | j + 1 => by
    have := keptTo_len f j
    rw [keptTo_succ, List.length_append]
    split <;> simp <;> omega
theorem pieceCount_le {f : DFlow} (h : f.data.length ≤ 1000000) : pieceCount f ≤ 3000 := by unfold pieceCount; omega
theorem pagesOf_len : ∀ {l : List DFlow}, (∀ f ∈ l, f.data.length ≤ 1000000) → (pagesOf l).length ≤ 3000 * l.length
  | [], _ => by simp [pagesOf]
  | f :: l, h => by
    have h1 := pagesOf_len (l := l) fun g hg => h g (by simp [hg])
    have h2 : (kept f).length ≤ 3000 := Nat.le_trans (keptTo_len f _) (pieceCount_le (h f (by simp)))
    unfold pagesOf at *
    rw [List.map_cons, List.flatten_cons, List.length_append, List.length_cons]
    omega
theorem pagesOf_succ {l : List DFlow} {k : Nat} {f : DFlow} (h : l[k]? = some f) : pagesOf (l.take (k + 1)) = pagesOf (l.take k) ++ kept f := by
  obtain ⟨hk, he⟩ := List.getElem?_eq_some_iff.1 h
  unfold pagesOf
  rw [List.take_succ_eq_append_getElem hk, List.map_append, List.flatten_append, he]; simp
end Go.Proofs.YtghbfbohnoebiaaGreat
namespace Go.Proofs.YtghbfbohnoebiaaGreat
open Go.RowKit

theorem newsTo_succ (f : DFlow) (j : Nat) : newsTo f (j + 1) = newsTo f j ++ (if pageAt f j < 0 then [piece f.data j] else []) := by
  unfold newsTo
  rw [List.range_succ, List.filterMap_append]
  by_cases h : pageAt f j < 0
  · simp [h]
  · simp [h]
theorem newsTo_len (f : DFlow) : ∀ j, (newsTo f j).length ≤ j
  | 0 => by simp [newsTo]
  | j + 1 => by
    have := newsTo_len f j
    rw [newsTo_succ, List.length_append]
    split <;> simp <;> omega
theorem newsOf_len : ∀ {l : List DFlow}, (∀ f ∈ l, f.data.length ≤ 1000000) → (newsOf l).length ≤ 3000 * l.length
  | [], _ => by simp [newsOf]
  | f :: l, h => by
    have h1 := newsOf_len (l := l) fun g hg => h g (by simp [hg])
    have h2 : (newsTo f (pieceCount f)).length ≤ 3000 := Nat.le_trans (newsTo_len f _) (pieceCount_le (h f (by simp)))
    unfold newsOf at *
    rw [List.map_cons, List.flatten_cons, List.length_append, List.length_cons]
    omega
theorem newsOf_succ {l : List DFlow} {k : Nat} {f : DFlow} (h : l[k]? = some f) : newsOf (l.take (k + 1)) = newsOf (l.take k) ++ newsTo f (pieceCount f) := by
  obtain ⟨hk, he⟩ := List.getElem?_eq_some_iff.1 h
  unfold newsOf
  rw [List.take_succ_eq_append_getElem hk, List.map_append, List.flatten_append, he]; simp
theorem info36 : (Tryz.prog.info? 71).map (fun i => (i.zero, i.size, i.bytes)) = some (some (.slice none 0 0), 1, 24) := by kernel_rfl

end Go.Proofs.YtghbfbohnoebiaaGreat
namespace Go.Proofs.YtghbfbohnoebiaaGreat
open Go.RowKit

set_option maxRecDepth 100000 in
/-- plan.stays' predicate -/
theorem flow1_calls {w : World} {x : DFlow} {A1 A2 : Option Addr} {c1 c2 : Nat} {B : Nat} {k : DKey} (h0 : w.cell? ⟨B, 0, none⟩ = some (.int .i64 k.kind)) (h1 : w.cell? ⟨B, 1, none⟩ = some (.int .u64 k.sig)) (h2 : w.cell? ⟨B, 2, none⟩ = some (.int .i64 k.comp)) (hB : B < w.heap.size) :
    Calls Tryz.prog 226 #[.agg #[.int .i64 x.key.kind, .int .u64 x.key.sig, .int .i64 x.key.comp, .slice A1 x.data.length c1, .slice A2 x.pages.length c2], .pointer (some ⟨B, 0, none⟩)] w fun en w' => en = .returned (.bool (decide (x.key = k))) ∧ Below w.heap.size w w' := by
  obtain ⟨W1, hW1⟩ : ∃ W1, w.alloc (.cells #[.int .i64 x.key.kind, .int .u64 x.key.sig, .int .i64 x.key.comp, .slice A1 x.data.length c1, .slice A2 x.pages.length c2] 116) = W1 := ⟨_, rfl⟩
  have hb : Below w.heap.size w W1 := by rw [← hW1]; exact (Below.refl _ _).alloc (Nat.le_refl _) _
  have hn : W1.heap[w.heap.size]? = some (.cells #[.int .i64 x.key.kind, .int .u64 x.key.sig, .int .i64 x.key.comp, .slice A1 x.data.length c1, .slice A2 x.pages.length c2] 116 (0, 0)) := by rw [← hW1]; exact heap_alloc_new _ _
  obtain ⟨e0, e1, e2⟩ := cl3 hn
  have g0 := (hb.cell (p := ⟨B, 0, none⟩) hB).trans h0
  have g1 := (hb.cell (p := ⟨B, 1, none⟩) hB).trans h1
  have g2 := (hb.cell (p := ⟨B, 2, none⟩) hB).trans h2
  have HB := Lib.hid hb
  clear hb hn h0 h1 h2
  go_enter Tryz.func226, Tryz.ntmps226
  go_wp2_with fail
  try rw [hW1]
  clear hW1
  try go_wp2_with fail
  all_goals
    go_ret
    refine ⟨?_, HB.out⟩
    first
      | (have hk : x.key = k := DKey.ext (by omega) (by omega) (by omega)
         rw [decide_eq_true hk]; rfl)
      | (have hk : ¬ x.key = k := fun h => by (rw [DKey.ext_iff] at h; omega)
         rw [decide_eq_false hk]; rfl)

/-- The first place of a key; -1: there is none. -/
def placeF (l : List DFlow) (k : DKey) : Int := match l.findIdx? (fun e => decide (e.key = k)) with
  | none => -1
  | some i => (i : Int)
theorem placeF_none {l : List DFlow} {k : DKey} (h : ∀ e ∈ l, e.key ≠ k) : placeF l k = -1 := by
  unfold placeF
  rw [List.findIdx?_eq_none_iff.2 (fun e he => by simpa using h e he)]
theorem placeF_some {l : List DFlow} {key : DKey} {k : Nat} {e : DFlow} (he : l[k]? = some e) (hid : e.key = key) (h : ∀ e ∈ l.take k, e.key ≠ key) : placeF l key = k := by
  obtain ⟨hk, rfl⟩ := List.getElem?_eq_some_iff.1 he
  unfold placeF
  rw [List.findIdx?_eq_some_iff_getElem.2 ⟨hk, by simpa using hid, fun j hj => by
    have := h l[j] (List.mem_take_iff_getElem.2 ⟨j, by omega, rfl⟩)
    simpa using this⟩]
theorem nekey_take_succ {l : List DFlow} {key : DKey} {k : Nat} {e : DFlow} (he : l[k]? = some e) (hid : ¬ e.key = key) (h : ∀ e ∈ l.take k, e.key ≠ key) : ∀ e ∈ l.take (k + 1), e.key ≠ key := by
  obtain ⟨hk, rfl⟩ := List.getElem?_eq_some_iff.1 he
  intro x hx
  rw [List.take_succ_eq_append_getElem hk, List.mem_append, List.mem_singleton] at hx
  rcases hx with hx | rfl
  · exact h x hx
  · exact hid
theorem find_flow {l : List DFlow} {key : DKey} : (placeF l key = -1 ∧ l.find? (fun f => f.key == key) = none) ∨ ∃ (k : Nat) (e : DFlow), placeF l key = k ∧ l[k]? = some e ∧ l.find? (fun f => f.key == key) = some e := by
  unfold placeF
  cases h : l.findIdx? (fun e => decide (e.key = key)) with
  | none =>
    left
    refine ⟨rfl, ?_⟩
    rw [List.findIdx?_eq_none_iff] at h
    exact List.find?_eq_none.2 fun x hx => by have := h x hx; simpa using this
  | some k =>
    right
    obtain ⟨hk, h1, h2⟩ := List.findIdx?_eq_some_iff_getElem.1 h
    refine ⟨k, l[k], rfl, List.getElem?_eq_getElem hk, ?_⟩
    rw [List.find?_eq_some_iff_append]
    refine ⟨by simpa using h1, l.take k, l.drop (k + 1), by rw [List.getElem_cons_drop, List.take_append_drop], fun a ha => ?_⟩
    obtain ⟨j, hj, rfl⟩ := List.mem_take_iff_getElem.1 ha
    have := h2 j (by omega)
    simpa using this

set_option maxRecDepth 100000 in
set_option maxHeartbeats 1000000 in
/-- slices.IndexFunc, as0 plan.stays uses it -/
theorem flowIndex_calls {Q : Nat → Prop} {w : World} {A : Option Addr} {c : Nat} {l : List DFlow} {B : Nat} {key : DKey} (hA : rFlow.At Q w A l) (hc : l.length ≤ maxLen) (h0 : w.cell? ⟨B, 0, none⟩ = some (.int .i64 key.kind)) (h1 : w.cell? ⟨B, 1, none⟩ = some (.int .u64 key.sig)) (h2 : w.cell? ⟨B, 2, none⟩ = some (.int .i64 key.comp)) (hB : B < w.heap.size) :
    Calls Tryz.prog 225 #[.slice A l.length c, .func (.func 226) #[] #[.pointer (some ⟨B, 0, none⟩)]] w fun en w' => en = .returned (.int .i64 (placeF l key)) ∧ Below w.heap.size w w' := by
  unfold maxLen at hc
  have HA := Lib.hid hA
  have H0 := Lib.hid h0
  have H1 := Lib.hid h1
  have H2 := Lib.hid h2
  have HBB := Lib.hid hB
  clear hA h0 h1 h2 hB
  go_enter Tryz.func225, Tryz.ntmps225
  go_wp2_with fail
  go_loopw [8] (fun i wr => ∃ k : Nat, i = .int .i64 k ∧ k ≤ l.length ∧ Hid (∀ e ∈ l.take k, e.key ≠ key) ∧ Hid (Below w.heap.size w wr)) (fun i _ => l.length - (intOf i).toNat)
  case atStart => exact ⟨0, rfl, Nat.zero_le _, Lib.hid (by simp), Lib.hid (Below.refl _ _)⟩
  case round =>
    obtain ⟨k, rfl, hk, HN, HBW⟩ := hrel
    by_cases hlt : (k : Int) < l.length
    · obtain ⟨e, he⟩ : ∃ e, l[k]? = some e := ⟨_, List.getElem?_eq_getElem (by omega)⟩
      obtain ⟨b, off, A1, c1, A2, c2, rfl, hbc, e0, e1, e2, e3, e4, _⟩ := rFlow_at (HA.out.below HBW.out (fun _ _ h => h.lt)) he
      have HE := Lib.hid he
      clear he hbc
      go_wp2_with fail
      refine (flow1_calls (x := e) ((HBW.out.cell (p := ⟨B, 0, none⟩) HBB.out).trans H0.out) ((HBW.out.cell (p := ⟨B, 1, none⟩) HBB.out).trans H1.out) ((HBW.out.cell (p := ⟨B, 2, none⟩) HBB.out).trans H2.out) (Nat.lt_of_lt_of_le HBB.out HBW.out.size)).mono ?_
      rintro en w2 ⟨rfl, hb2⟩
      have HB2 := Lib.hid (HBW.out.trans (hb2.mono HBW.out.size))
      clear hb2 e0 e1 e2 e3 e4
      by_cases hid : e.key = key
      · have HF := Lib.hid (placeF_some HE.out hid HN.out)
        rw [decide_eq_true hid]
        clear hid
        go_wp2_with fail
        go_ret
        exact ⟨by rw [HF.out]; rfl, HB2.out⟩
      · have HF := Lib.hid (nekey_take_succ HE.out hid HN.out)
        rw [decide_eq_false hid]
        clear hid
        go_wp2_with fail
        exact ⟨⟨k + 1, by go_num, by omega, HF, HB2⟩, by simp [intOf]; omega⟩
    · obtain rfl : k = l.length := by omega
      rw [List.take_length] at HN
      have HF := Lib.hid (placeF_none HN.out)
      go_wp2_with fail
      go_ret
      exact ⟨by rw [HF.out]; rfl, HBW.out⟩
end Go.Proofs.YtghbfbohnoebiaaGreat
