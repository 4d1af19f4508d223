/- What plan.Of builds: flows that have no pages yet, and the pages so far. -/
import Derived.Test.YteljibjbndpncaaPsG11
import Derived.Test.YteljibjbndpncaaPsG12
import Derived.Test.YteljibjbndpncaaPsHeldTail
import Derived.Test.YteljibjbndpncaaPsPNews
namespace Go.Proofs.Yteljibjbndpncaa
open Go.RowKit Go.Shelf
attribute [local go_sem] Oper.semAt_some

def bare (s : DStream) : DFlow := ⟨s.key, s.data, []⟩
def bares (next : List DStream) : List DFlow := next.map bare
theorem bares_get {next : List DStream} {k : Nat} {f : DFlow} (h : (bares next)[k]? = some f) : ∃ s, next[k]? = some s ∧ f = bare s := by
  unfold bares at h
  rw [List.getElem?_map] at h
  obtain ⟨s, hs, rfl⟩ := Option.map_eq_some_iff.1 h
  exact ⟨s, hs, rfl⟩
/-- The pages of flow j, where pieces at these places have theirs. -/
def stayAt (old : List DFlow) (next : List DStream) (ps : List (Nat × Nat)) (j : Nat) : List Int := match next[j]? with
  | some s => (ps.filter fun p => p.1 == j).map fun p => stayOf old s.key p.2 (piece s.data p.2)
  | none => []
theorem stayAt_same {old : List DFlow} {next : List DStream} {ps : List (Nat × Nat)} {k i : Nat} {s : DStream} (h : next[k]? = some s) : stayAt old next (ps ++ [(k, i)]) k = stayAt old next ps k ++ [stayOf old s.key i (piece s.data i)] := by
  simp [stayAt, h]
theorem stayAt_other {old : List DFlow} {next : List DStream} {ps : List (Nat × Nat)} {k i j : Nat} (h : j ≠ k) : stayAt old next (ps ++ [(k, i)]) j = stayAt old next ps j := by
  unfold stayAt
  have : (k == j) = false := by simpa using fun e => h e.symm
  simp [this]
theorem filter_spots (k m j : Nat) : (spots k m).filter (fun p => p.1 == j) = if k = j then spots k m else [] := by
  unfold spots
  split
  · rename_i h
    rw [List.filter_eq_self]
    intro a ha
    obtain ⟨i, _, rfl⟩ := List.mem_map.1 ha
    simpa using h
  · rename_i h
    rw [List.filter_eq_nil_iff]
    intro a ha
    obtain ⟨i, _, rfl⟩ := List.mem_map.1 ha
    simpa using h
theorem filter_places (l : List DFlow) (j : Nat) : ∀ k, (placesTo l k).filter (fun p => p.1 == j) = if j < k then spots j (piecesAt l j) else []
  | 0 => by simp [placesTo]
  | k + 1 => by
    have e : placesTo l (k + 1) = placesTo l k ++ spots k (piecesAt l k) := by
      unfold placesTo
      rw [List.range_succ, List.map_append, List.flatten_append]
      simp
    rw [e, List.filter_append, filter_places l j k, filter_spots]
    rcases Nat.lt_trichotomy j k with h | h | h
    · rw [if_pos h, if_neg (by omega), if_pos (by omega), List.append_nil]
    · subst h; rw [if_neg (by omega), if_pos rfl, if_pos (by omega), List.nil_append]
    · rw [if_neg (by omega), if_neg (by omega), if_neg (by omega), List.append_nil]
theorem stayAt_len {old : List DFlow} {next : List DStream} {l : List DFlow} {k i : Nat} : (stayAt old next (placesTo l k ++ spots k i) k).length ≤ i := by
  unfold stayAt
  split
  · rw [List.filter_append, filter_places, filter_spots, if_neg (by omega), if_pos rfl]
    simp [spots]
  · simp
theorem stayAt_all {old : List DFlow} {next : List DStream} {j : Nat} {s : DStream} (h : next[j]? = some s) : stayAt old next (placesTo (bares next) (bares next).length) j = (flowOf old s).pages := by
  obtain ⟨hj, he⟩ := List.getElem?_eq_some_iff.1 h
  unfold stayAt
  rw [h]
  simp only
  have hp : piecesAt (bares next) j = (s.data.length + 471) / 472 := by simp [piecesAt, bares, h, pieceCount, bare]
  rw [filter_places, if_pos (by simpa [bares] using hj), hp]
  unfold spots flowOf
  rw [List.map_map]
  rfl
theorem stay_wf {Q : Nat → Prop} {w : World} {A : Option Addr} {old : List DFlow} (h : rFlow.At Q w A old) (k : DKey) (i : Nat) (b : List UInt8) : (Lit.int .i64 (stayOf old k i b)).wf = true := by
  unfold stayOf
  split
  · rfl
  · rename_i f hf
    split
    · obtain ⟨j, hj, rfl⟩ := List.getElem_of_mem (List.mem_of_find?_eq_some hf)
      obtain ⟨_, _, _, _, _, _, _, _, _, _, _, _, _, _, _, _, _, s4⟩ := rFlow_at h (List.getElem?_eq_getElem hj)
      exact pageAt_wf s4.2.2 i
    · rfl

/-- A cell that holds nil. -/
def rNil : Rep Unit where
  size := 1
  wrap cs := cs.headD undef
  rd _ _ cs _ := cs = [.slice none 0 0]
  len h := by rw [h]; rfl
  one h := by rw [h]; simp [Value.oneCell']
  back h := by rw [h]; rfl
  keep _ h := h
/-- A flow that has no pages yet. -/
def rBare : Rep DStream := (rKey.pair (Rep.byte.list.pair rNil)).iso fun x => (x.key, x.data, ())
theorem rBare_open {Q : Nat → Prop} {w : World} {cs : List Value} {x : DStream} (h : rBare.rd Q w cs x) : ∃ (A1 : Option Addr) (c1 : Nat), cs = [.int .i64 x.key.kind, .int .u64 x.key.sig, .int .i64 x.key.comp, .slice A1 x.data.length c1, .slice none 0 0] ∧ (Lit.int .i64 x.key.kind).wf = true ∧ (Lit.int .u64 x.key.sig).wf = true ∧ (Lit.int .i64 x.key.comp).wf = true ∧ Rep.byte.Sl Q w A1 c1 x.data := by
  obtain ⟨a0, b0, rfl, h0, g0⟩ := h
  obtain ⟨e0, w0_0, w0_1, w0_2⟩ := rKey_open h0
  subst e0
  obtain ⟨a1, b1, rfl, h1, g1⟩ := g0
  obtain ⟨A1, c1, e1, w1⟩ := Rep.rd_sl h1
  subst e1
  have e2 : b1 = [.slice none 0 0] := g1
  subst e2
  exact ⟨A1, c1, rfl, w0_0, w0_1, w0_2, w1⟩
theorem rBare_agg {Q : Nat → Prop} {w : World} {x : DStream} {A1 : Option Addr} {c1 : Nat} (f0 : (Lit.int .i64 x.key.kind).wf = true) (f1 : (Lit.int .u64 x.key.sig).wf = true) (f2 : (Lit.int .i64 x.key.comp).wf = true) (f3 : Rep.byte.Sl Q w A1 c1 x.data) : rBare.val Q w (.agg #[.int .i64 x.key.kind, .int .u64 x.key.sig, .int .i64 x.key.comp, .slice A1 x.data.length c1, .slice none 0 0]) x :=
  ⟨_, rfl, _, _, rfl, rKey_mk f0 f1 f2, _, _, rfl, Rep.sl_rd f3, rfl⟩
/-- An element of a slice of the call's own: its cells. -/
theorem Rep.acc_get {α : Type} {r : Rep α} {e base : Nat} {Q : Nat → Prop} {w : World} {v : Value} {xs : List α} (h : r.acc e base Q w v xs) {i : Nat} {x : α} (hx : xs[i]? = some x) :
    ∃ g n c, v = .slice (some ⟨g, 0, none⟩) n c ∧ ∃ es, r.rd (fun b => Q b ∧ v.ownBlock ≠ some b) w es x ∧ ∀ (m : Nat) (u : Value), es[m]? = some u → w.cell? ⟨g, i * r.size + m, none⟩ = some u := by
  obtain ⟨cells, h1, h2⟩ := h
  obtain ⟨es, h5, h6⟩ := Rep.row_get h2 hx
  have hi := (List.getElem?_eq_some_iff.1 hx).1
  rcases h1.2 with ⟨_, h0⟩ | ⟨g, cap, cur, rfl, _⟩
  · omega
  · refine ⟨g, _, _, rfl, es, h5, fun m u hm => ?_⟩
    have := h1.cells (g := g) rfl _ u (h6 m u hm)
    rwa [Addr.add_lit, Nat.zero_add] at this
/-- The block of such a slice. -/
theorem Rep.acc_root {α : Type} {r : Rep α} {e base : Nat} {Q : Nat → Prop} {w : World} {v : Value} {xs : List α} (h : r.acc e base Q w v xs) : v = .slice none 0 0 ∧ xs = [] ∨ ∃ g n c, v = .slice (some ⟨g, 0, none⟩) n c ∧ base ≤ g ∧ IsZ w g := by
  obtain ⟨cells, h1, _⟩ := h
  rcases h1.2 with ⟨rfl, h0⟩ | ⟨g, cap, cur, rfl, hb, hg, _⟩
  · exact .inl ⟨rfl, List.eq_nil_of_length_eq_zero h0⟩
  · exact .inr ⟨g, _, _, rfl, hb, ⟨_, _, hg⟩⟩
/-- The flows' pages, so far. -/
def Built (old : List DFlow) (next : List DStream) (R base : Nat) (ps : List (Nat × Nat)) (W : World) : Prop :=
  ∃ vs : Nat → Value, (∀ j, j < next.length → W.cell? ⟨R, j * 5 + 4, none⟩ = some (vs j) ∧ (Rep.int .i64).acc 3 base (fun _ => False) W (vs j) (stayAt old next ps j)) ∧ (∀ j j' g, j < next.length → j' < next.length → (vs j).ownBlock = some g → (vs j').ownBlock = some g → j = j')
theorem built_own (old : List DFlow) (next : List DStream) (R base B : Nat) : OwnFrom B (fun (pre : List Spot) W => Built old next R base (pre.map Prod.fst) W) := by
  rintro s X Y row ⟨vs, h1, h2⟩ hg hrow
  have hne : ∀ b, IsC X b → some b ≠ row := fun b hb e => by
    obtain ⟨_, o, ho, hc⟩ := hrow b e.symm
    obtain ⟨c, e', f, hb⟩ := hb
    rw [hb] at ho; cases ho; cases hc
  refine ⟨vs, fun j hj => ?_, h2⟩
  obtain ⟨hc, ha⟩ := h1 j hj
  have hR := isC_of_cell hc
  exact ⟨(World.cell?_of_block (w := X) (a := ⟨R, j * 5 + 4, none⟩) (hg.block R hR.lt (hne R hR))).trans hc, Rep.acc_keep (fun b _ hb => hg.block b hb.lt (hne b hb)) (fun _ hb _ => hb) ha⟩
theorem ownFrom_low {w : World} {n0 B : Nat} {β : Type} (hn : n0 ≤ w.heap.size) (hB : n0 ≤ B) : OwnFrom B (fun (_ : β) W => Below n0 w W) :=
  fun _ _ _ _ hs hg hr => hs.grown hg (Nat.le_trans hn hs.size) fun k hk => Nat.le_trans hB (hr k hk).1
theorem info3' : (Try.prog.info? 3).map (fun i => (i.zero, i.size)) = some (some (.int .i64 0), 1) := by kernel_rfl
theorem info35 : (Try.prog.info? 35).map (fun i => (i.zero, i.size, i.bytes)) = some (some (.agg #[.int .i64 0, .int .u64 0, .int .i64 0, .slice none 0 0, .slice none 0 0]), 5, 72) := by kernel_rfl
theorem info35' : (Try.prog.info? 35).map (fun i => (i.zero, i.size)) = some (some (.agg #[.int .i64 0, .int .u64 0, .int .i64 0, .slice none 0 0, .slice none 0 0]), 5) := by kernel_rfl

theorem Rep.val_slice {α : Type} {r : Rep α} {Q : Nat → Prop} {w : World} {A : Option Addr} {n c : Nat} {xs : List α} (h : r.list.val Q w (.slice A n c) xs) : r.Sl Q w A c xs := by
  obtain ⟨A', c', e, h1, h2, h3⟩ := Rep.val_list h
  cases e
  exact ⟨h1, h2, h3⟩
end Go.Proofs.Yteljibjbndpncaa
