/- Texts on which the proofs stand: POfHead, POf. No condition is laid on any input. -/
import Derived.Test.YtghbfbohnoebiaaGreatSnG24
import Derived.Test.YtghbfbohnoebiaaGreatSnG26
namespace Go.Proofs.YtghbfbohnoebiaaGreat
open Go.RowKit Go.Shelf
attribute [local go_sem] Oper.semAt_some

def bare (s : DStream) : DFlow := ⟨s.key, s.data, []⟩
def bares (next : List DStream) : List DFlow := next.map bare
theorem bares_get {next : List DStream} {k : Nat} {f : DFlow} (h : (bares next)[k]? = some f) : ∃ s, next[k]? = some s ∧ f = bare s := by
  unfold bares at h
  rw [List.getElem?_map] at h
  obtain ⟨s, hs, rfl⟩ := Option.map_eq_some_iff.1 h
  exact ⟨s, hs, rfl⟩
/-- The pages of flow j, where pieces at these places have theirs. -/
def stayAt (old : List DFlow) (next : List DStream) (ps : List (Nat × Nat)) (j : Nat) : List Int := match next[j]? with
  | some s => (ps.filter fun p => p.1 == j).map fun p => stayOf old s.key p.2 (piece s.data p.2)
  | none => []
theorem stayAt_same {old : List DFlow} {next : List DStream} {ps : List (Nat × Nat)} {k i : Nat} {s : DStream} (h : next[k]? = some s) : stayAt old next (ps ++ [(k, i)]) k = stayAt old next ps k ++ [stayOf old s.key i (piece s.data i)] := by
  simp [stayAt, h]
theorem stayAt_other {old : List DFlow} {next : List DStream} {ps : List (Nat × Nat)} {k i j : Nat} (h : j ≠ k) : stayAt old next (ps ++ [(k, i)]) j = stayAt old next ps j := by
  unfold stayAt
  have : (k == j) = false := by simpa using fun e => h e.symm
  simp [this]
theorem filter_spots (k m j : Nat) : (spots k m).filter (fun p => p.1 == j) = if k = j then spots k m else [] := by
  unfold spots
  split
  · rename_i h
    rw [List.filter_eq_self]
    intro a ha
    obtain ⟨i, _, rfl⟩ := List.mem_map.1 ha
    simpa using h
  · rename_i h
    rw [List.filter_eq_nil_iff]
    intro a ha
    obtain ⟨i, _, rfl⟩ := List.mem_map.1 ha
    simpa using h
theorem filter_places (l : List DFlow) (j : Nat) : ∀ k, (placesTo l k).filter (fun p => p.1 == j) = if j < k then spots j (piecesAt l j) else []
  | 0 => by simp [placesTo]
  | k + 1 => by
    have e : placesTo l (k + 1) = placesTo l k ++ spots k (piecesAt l k) := by
      unfold placesTo
      rw [List.range_succ, List.map_append, List.flatten_append]
      simp
    rw [e, List.filter_append, filter_places l j k, filter_spots]
    rcases Nat.lt_trichotomy j k with h | h | h
    · rw [if_pos h, if_neg (by omega), if_pos (by omega), List.append_nil]
    · subst h; rw [if_neg (by omega), if_pos rfl, if_pos (by omega), List.nil_append]
    · rw [if_neg (by omega), if_neg (by omega), if_neg (by omega), List.append_nil]
theorem stayAt_len {old : List DFlow} {next : List DStream} {l : List DFlow} {k i : Nat} : (stayAt old next (placesTo l k ++ spots k i) k).length ≤ i := by
  unfold stayAt
  split
  · rw [List.filter_append, filter_places, filter_spots, if_neg (by omega), if_pos rfl]
    simp [spots]
  · simp
theorem stayAt_all {old : List DFlow} {next : List DStream} {j : Nat} {s : DStream} (h : next[j]? = some s) : stayAt old next (placesTo (bares next) (bares next).length) j = (flowOf old s).pages := by
  obtain ⟨hj, he⟩ := List.getElem?_eq_some_iff.1 h
  unfold stayAt
  rw [h]
  simp only
  have hp : piecesAt (bares next) j = (s.data.length + 471) / 472 := by simp [piecesAt, bares, h, pieceCount, bare]
  rw [filter_places, if_pos (by simpa [bares] using hj), hp]
  unfold spots flowOf
  rw [List.map_map]
  rfl
theorem stay_wf {Q : Nat → Prop} {w : World} {A : Option Addr} {old : List DFlow} (h : rFlow.At Q w A old) (k : DKey) (i : Nat) (b : List UInt8) : (Lit.int .i64 (stayOf old k i b)).wf = true := by
  unfold stayOf
  split
  · rfl
  · rename_i f hf
    split
    · obtain ⟨j, hj, rfl⟩ := List.getElem_of_mem (List.mem_of_find?_eq_some hf)
      obtain ⟨_, _, _, _, _, _, _, _, _, _, _, _, _, _, _, _, _, s4⟩ := rFlow_at h (List.getElem?_eq_getElem hj)
      exact pageAt_wf s4.2.2 i
    · rfl

/-- A cell that holds nil. -/
def rNil : Rep Unit where
  size := 1
  wrap cs := cs.headD undef
  rd _ _ cs _ := cs = [.slice none 0 0]
  len h := by rw [h]; rfl
  one h := by rw [h]; simp [Value.oneCell']
  back h := by rw [h]; rfl
  keep _ h := h
/-- A flow that has no pages yet. -/
def rBare : Rep DStream := (rKey.pair (Rep.byte.list.pair rNil)).iso fun x => (x.key, x.data, ())
theorem rBare_open {Q : Nat → Prop} {w : World} {cs : List Value} {x : DStream} (h : rBare.rd Q w cs x) : ∃ (A1 : Option Addr) (c1 : Nat), cs = [.int .i64 x.key.kind, .int .u64 x.key.sig, .int .i64 x.key.comp, .slice A1 x.data.length c1, .slice none 0 0] ∧ (Lit.int .i64 x.key.kind).wf = true ∧ (Lit.int .u64 x.key.sig).wf = true ∧ (Lit.int .i64 x.key.comp).wf = true ∧ Rep.byte.Sl Q w A1 c1 x.data := by
  obtain ⟨a0, b0, rfl, h0, g0⟩ := h
  obtain ⟨e0, w0_0, w0_1, w0_2⟩ := rKey_open h0
  subst e0
  obtain ⟨a1, b1, rfl, h1, g1⟩ := g0
  obtain ⟨A1, c1, e1, w1⟩ := Rep.rd_sl h1
  subst e1
  have e2 : b1 = [.slice none 0 0] := g1
  subst e2
  exact ⟨A1, c1, rfl, w0_0, w0_1, w0_2, w1⟩
theorem rBare_agg {Q : Nat → Prop} {w : World} {x : DStream} {A1 : Option Addr} {c1 : Nat} (f0 : (Lit.int .i64 x.key.kind).wf = true) (f1 : (Lit.int .u64 x.key.sig).wf = true) (f2 : (Lit.int .i64 x.key.comp).wf = true) (f3 : Rep.byte.Sl Q w A1 c1 x.data) : rBare.val Q w (.agg #[.int .i64 x.key.kind, .int .u64 x.key.sig, .int .i64 x.key.comp, .slice A1 x.data.length c1, .slice none 0 0]) x :=
  ⟨_, rfl, _, _, rfl, rKey_mk f0 f1 f2, _, _, rfl, Rep.sl_rd f3, rfl⟩
/-- An element of a slice of the call's own: its cells. -/
theorem Rep.acc_get {α : Type} {r : Rep α} {e base : Nat} {Q : Nat → Prop} {w : World} {v : Value} {xs : List α} (h : r.acc e base Q w v xs) {i : Nat} {x : α} (hx : xs[i]? = some x) :
    ∃ g n c, v = .slice (some ⟨g, 0, none⟩) n c ∧ ∃ es, r.rd (fun b => Q b ∧ v.ownBlock ≠ some b) w es x ∧ ∀ (m : Nat) (u : Value), es[m]? = some u → w.cell? ⟨g, i * r.size + m, none⟩ = some u := by
  obtain ⟨cells, h1, h2⟩ := h
  obtain ⟨es, h5, h6⟩ := Rep.row_get h2 hx
  have hi := (List.getElem?_eq_some_iff.1 hx).1
  rcases h1.2 with ⟨_, h0⟩ | ⟨g, cap, cur, rfl, _⟩
  · omega
  · refine ⟨g, _, _, rfl, es, h5, fun m u hm => ?_⟩
    have := h1.cells (g := g) rfl _ u (h6 m u hm)
    rwa [Addr.add_lit, Nat.zero_add] at this
/-- The block of such a slice. -/
theorem Rep.acc_root {α : Type} {r : Rep α} {e base : Nat} {Q : Nat → Prop} {w : World} {v : Value} {xs : List α} (h : r.acc e base Q w v xs) : v = .slice none 0 0 ∧ xs = [] ∨ ∃ g n c, v = .slice (some ⟨g, 0, none⟩) n c ∧ base ≤ g ∧ IsZ w g := by
  obtain ⟨cells, h1, _⟩ := h
  rcases h1.2 with ⟨rfl, h0⟩ | ⟨g, cap, cur, rfl, hb, hg, _⟩
  · exact .inl ⟨rfl, List.eq_nil_of_length_eq_zero h0⟩
  · exact .inr ⟨g, _, _, rfl, hb, ⟨_, _, hg⟩⟩
/-- The flows' pages, so far. -/
def Built (old : List DFlow) (next : List DStream) (R base : Nat) (ps : List (Nat × Nat)) (W : World) : Prop :=
  ∃ vs : Nat → Value, (∀ j, j < next.length → W.cell? ⟨R, j * 5 + 4, none⟩ = some (vs j) ∧ (Rep.int .i64).acc 3 base (fun _ => False) W (vs j) (stayAt old next ps j)) ∧ (∀ j j' g, j < next.length → j' < next.length → (vs j).ownBlock = some g → (vs j').ownBlock = some g → j = j')
theorem built_own (old : List DFlow) (next : List DStream) (R base B : Nat) : OwnFrom B (fun (pre : List Spot) W => Built old next R base (pre.map Prod.fst) W) := by
  rintro s X Y row ⟨vs, h1, h2⟩ hg hrow
  have hne : ∀ b, IsC X b → some b ≠ row := fun b hb e => by
    obtain ⟨_, o, ho, hc⟩ := hrow b e.symm
    obtain ⟨c, e', f, hb⟩ := hb
    rw [hb] at ho; cases ho; cases hc
  refine ⟨vs, fun j hj => ?_, h2⟩
  obtain ⟨hc, ha⟩ := h1 j hj
  have hR := isC_of_cell hc
  exact ⟨(World.cell?_of_block (w := X) (a := ⟨R, j * 5 + 4, none⟩) (hg.block R hR.lt (hne R hR))).trans hc, Rep.acc_keep (fun b _ hb => hg.block b hb.lt (hne b hb)) (fun _ hb _ => hb) ha⟩
theorem ownFrom_low {w : World} {n0 B : Nat} {β : Type} (hn : n0 ≤ w.heap.size) (hB : n0 ≤ B) : OwnFrom B (fun (_ : β) W => Below n0 w W) :=
  fun _ _ _ _ hs hg hr => hs.grown hg (Nat.le_trans hn hs.size) fun k hk => Nat.le_trans hB (hr k hk).1
theorem info3' : (Tryz.prog.info? 3).map (fun i => (i.zero, i.size)) = some (some (.int .i64 0), 1) := by kernel_rfl
theorem info35 : (Tryz.prog.info? 116).map (fun i => (i.zero, i.size, i.bytes)) = some (some (.agg #[.int .i64 0, .int .u64 0, .int .i64 0, .slice none 0 0, .slice none 0 0]), 5, 72) := by kernel_rfl
theorem info35' : (Tryz.prog.info? 116).map (fun i => (i.zero, i.size)) = some (some (.agg #[.int .i64 0, .int .u64 0, .int .i64 0, .slice none 0 0, .slice none 0 0]), 5) := by kernel_rfl

theorem Rep.val_slice {α : Type} {r : Rep α} {Q : Nat → Prop} {w : World} {A : Option Addr} {n c : Nat} {xs : List α} (h : r.list.val Q w (.slice A n c) xs) : r.Sl Q w A c xs := by
  obtain ⟨A', c', e, h1, h2, h3⟩ := Rep.val_list h
  cases e
  exact ⟨h1, h2, h3⟩
end Go.Proofs.YtghbfbohnoebiaaGreat
namespace Go.Proofs.YtghbfbohnoebiaaGreat
open Go.RowKit Go.Shelf
attribute [local go_sem] Oper.semAt_some

  -- the walk
set_option maxRecDepth 100000 in
set_option maxHeartbeats 2000000 in
/-- plan.Of -/
theorem planOf_calls {w : World} {vo vn : Value} {old : List DFlow} {next : List DStream} (ho : rFlow.list.val (fun b => b < w.heap.size) w vo old) (hn : rStream.list.val (fun b => b < w.heap.size) w vn next) (hd : ∀ f ∈ old, f.data.length ≤ 1000000) (hs : ∀ s ∈ next, s.data.length ≤ 1000000) (hl : next.length ≤ 100000) :
    Calls Tryz.prog 127 #[vo, vn] w (Res rFlow.list (fun b => w.heap.size ≤ b) w (flowsOf old next)) := by
  obtain ⟨Ao, co, rfl, ho1, ho2, hO⟩ := Rep.val_list ho
  obtain ⟨A, c, rfl, hc1, hc2, hA⟩ := Rep.val_list hn
  refine (callsIn_wide (n := 9)).1 ?_
  refine callsIn_of_wp_marks Tryz.func127 rfl trivial ?_ rfl
  simp only [Tryz.ntmps127, List.size_toArray, List.length_cons, List.length_nil, Nat.reduceAdd, Nat.reduceSub, Array.replicate_succ, Array.replicate_zero, List.push_toArray, List.append_toArray, List.nil_append, List.cons_append]
  have HO := Lib.hid hO
  have HA := Lib.hid hA
  have HD := Lib.hid hd
  have HS := Lib.hid hs
  have HL := Lib.hid hl
  have hl2 : (next.length : Int) ≤ 100000 := by omega
  unfold maxLen at hc2
  clear hO hA ho hn hd hs hl
  gi_wp2
  have bO := Boxed.new w 38 (.slice Ao old.length co)
  have bL := Boxed.new (w.alloc (.cells #[.slice Ao old.length co] 38)) 38 (.slice none 0 0)
  simp only [World.size_alloc] at bL
  obtain ⟨W0, hW0⟩ : ∃ W0, (w.alloc (.cells #[.slice Ao old.length co] 38)).alloc (.cells #[.slice none 0 0] 38) = W0 := ⟨_, rfl⟩
  have hsz : W0.heap.size = w.heap.size + 2 := by rw [← hW0]; simp
  have hB0 : Below w.heap.size w W0 := by rw [← hW0]; exact ((Below.refl _ w).alloc (Nat.le_refl _) _).alloc (by simp) _
  replace bO : Boxed W0 w.heap.size 38 (.slice Ao old.length co) := by rw [← hW0]; exact bO.alloc _
  replace bL : Boxed W0 (w.heap.size + 1) 38 (.slice none 0 0) := by rw [← hW0]; exact bL
  rw [hW0]
  clear hW0
  obtain ⟨n0, hn0⟩ : ∃ n0, w.heap.size = n0 := ⟨_, rfl⟩
  have HO1 := Lib.hid (show ∀ W, Below n0 w W → rFlow.At (fun b => b < n0) W Ao old from fun W h => by subst hn0; exact HO.out.below h (fun _ h _ => h))
  have HA1 := Lib.hid (show ∀ W, Below n0 w W → rStream.At (fun b => b < n0) W A next from fun W h => by subst hn0; exact HA.out.below h (fun _ h _ => h))
  rw [hn0] at hsz hB0 bO bL ⊢
  have HSZ := Lib.hid hsz
  have HN0 := Lib.hid hn0
  have HB0 := Lib.hid hB0
  have HO0 := Lib.hid bO
  have HL0 := Lib.hid bL
  clear hsz hn0 hB0 bO bL HO HA
  refine wpIn_wide.2 ?_
  go_loopw [13] (fun i wr => ∃ k : Nat, i = .int .i64 k ∧ k ≤ next.length ∧ Hid (Below n0 w wr ∧ Boxed wr n0 38 (.slice Ao old.length co)) ∧ Hid (∃ v, Boxed wr (n0 + 1) 38 v ∧ rBare.acc 116 (n0 + 2) (fun b => n0 + 2 ≤ b) wr v (next.take k))) (fun i _ => next.length - (intOf i).toNat)
  case atStart => exact ⟨0, rfl, Nat.zero_le _, Lib.hid ⟨HB0.out, HO0.out⟩, Lib.hid ⟨_, HL0.out, Rep.acc_nil⟩⟩
  case round =>
    obtain ⟨k, rfl, hk, HBW, HV⟩ := hrel
    by_cases hlt : (k : Int) < next.length
    · obtain ⟨s, hs⟩ : ∃ s, next[k]? = some s := ⟨_, List.getElem?_eq_getElem (by omega)⟩
      have HT := Lib.hid (show next.take (k + 1) = next.take k ++ [s] by
        obtain ⟨hk', he⟩ := List.getElem?_eq_some_iff.1 hs
        rw [List.take_succ_eq_append_getElem hk', he])
      have HLEN := Lib.hid (show (next.take k).length + 1 ≤ maxLen ∧ ((next.take k).length + 1) * 72 ≤ 140737488355328 by
        have := HL.out
        unfold maxLen
        rw [List.length_take]
        omega)
      obtain ⟨q, hq⟩ : ∃ q, next.take k = q := ⟨_, rfl⟩
      rw [hq] at HV HT HLEN
      clear hq
      obtain ⟨v, hv, hacc⟩ := HV.out
      obtain ⟨b, off, A1, c1, rfl, hbc, d0, d1, d2, d3, f0, f1, f2, s3⟩ := rStream_at (HA1.out wr HBW.out.1) hs
      obtain ⟨W1, hW1⟩ : ∃ W1, wr.alloc (.cells #[.int .i64 s.key.kind, .int .u64 s.key.sig, .int .i64 s.key.comp, .slice A1 s.data.length c1] 84) = W1 := ⟨_, rfl⟩
      have hb1 : Below wr.heap.size wr W1 := by rw [← hW1]; exact (Below.refl _ _).alloc (Nat.le_refl _) _
      have hn1 : W1.heap[wr.heap.size]? = some (.cells #[.int .i64 s.key.kind, .int .u64 s.key.sig, .int .i64 s.key.comp, .slice A1 s.data.length c1] 84 (0, 0)) := by rw [← hW1]; exact heap_alloc_new _ _
      have hz1 : wr.heap.size < W1.heap.size := by rw [← hW1]; simp
      have hmo : ∀ {W'}, Below W1.heap.size W1 W' → Below wr.heap.size wr W' := fun h => hb1.trans (h.mono hb1.size)
      have HMO := Lib.hid (show ∀ W', Below W1.heap.size W1 W' → Below wr.heap.size wr W' from fun W' h => hmo h)
      have hv1 : Boxed W1 (n0 + 1) 38 v := (hb1.block _ hv.lt).trans hv
      obtain ⟨Av, cv, rfl, _, _⟩ := Rep.acc_form hacc
      have HBOX := Lib.hid (show ∀ W', Below W1.heap.size W1 W' → Boxed W' (n0 + 1) 38 (.slice Av q.length cv) from fun W' h => (h.block _ hv1.lt).trans hv1)
      have KB := Lib.hid (show ∀ W', Below W1.heap.size W1 W' → (W'.cell? ⟨n0 + 1, 0, none⟩ = some (.slice Av q.length cv) ∧ W'.cell? ⟨wr.heap.size, 0, none⟩ = some (.int .i64 s.key.kind) ∧ W'.cell? ⟨wr.heap.size, 1, none⟩ = some (.int .u64 s.key.sig) ∧ W'.cell? ⟨wr.heap.size, 2, none⟩ = some (.int .i64 s.key.comp) ∧ W'.cell? ⟨wr.heap.size, 3, none⟩ = some (.slice A1 s.data.length c1)) from fun W' h => by
        have hn := (h.block _ hz1).trans hn1
        exact ⟨(HBOX.out W' h).cell, cell_row hn 0, cell_row hn 1, cell_row hn 2, cell_row hn 3⟩)
      have HDV := Lib.hid (show ∀ W', Below W1.heap.size W1 W' → Rep.byte.list.val (fun b => b < n0) W' (.slice A1 s.data.length c1) s.data from fun W' h => Rep.val_below s3.val (hmo h) (fun b _ hl => hl.lt))
      have HACC := Lib.hid (show ∀ W', Below W1.heap.size W1 W' → rBare.acc 116 (n0 + 2) (fun b => n0 + 2 ≤ b) W' (.slice Av q.length cv) q from fun W' h => Rep.acc_later hacc (hmo h))
      have hbas : n0 + 2 ≤ wr.heap.size := by have := HBW.out.1.size; have := hv.lt; omega
      have HBAS := Lib.hid (show ∀ W', Below W1.heap.size W1 W' → n0 + 2 ≤ W'.heap.size from fun W' h => Nat.le_trans hbas (hmo h).size)
      have HNE := Lib.hid (show ∀ W', Below W1.heap.size W1 W' → some (n0 + 1) ≠ (Value.slice Av q.length cv).ownBlock from fun W' h e => by have := (Rep.acc_own hacc _ e.symm).1; omega)
      have HBARE := Lib.hid (show ∀ (A5 : Option Addr) (c5 : Nat) (w2 : World), Rep.byte.list.val (fun b => W1.heap.size ≤ b) w2 (.slice A5 s.data.length c5) s.data → W1.heap.size ≤ w2.heap.size → rBare.val (fun b => n0 + 2 ≤ b ∧ (Value.slice Av q.length cv).ownBlock ≠ some b) w2 (.agg #[.int .i64 s.key.kind, .int .u64 s.key.sig, .int .i64 s.key.comp, .slice A5 s.data.length c5, .slice none 0 0]) s from fun A5 c5 w2 hu _ =>
        rBare_agg f0 f1 f2 (Rep.Sl.keep (fun b hb _ => ⟨⟨Nat.le_trans (Nat.le_trans hbas (Nat.le_of_lt hz1)) hb, fun e => by have := (Rep.acc_own hacc b e).2; omega⟩, rfl⟩) (Rep.val_slice hu)))
      have HSL := Lib.hid (show s.data.length ≤ 100000000000000 from Nat.le_trans (HS.out s (List.mem_of_getElem? hs)) (by decide))
      have HSK := Lib.hid hs
      have HBA := Lib.hid hbas
      clear hs hv hacc hbc f0 f1 f2 s3 hb1 hz1 hmo hv1 hbas HV
      have g0 := (KB.out W1 (Below.refl _ _)).2.1
      go_wp2_with fail
      try rw [hW1]
      clear g0 hW1 d0 d1 d2 d3 hn1
      refine wp_region_noPanic ?_
      refine wp_region_tail (S := fun W' => Below W1.heap.size W1 W') (T := [8, 9]) (by kernel_rfl) (Below.refl _ _).drew (fun s0 => ?_)
      refine tkT (i := 0) (v := .slice Av q.length cv) rfl (Or.inl ⟨by rfl, fun w' h => by obtain ⟨x0, x1, x2, x3, x4⟩ := KB.out w' h; go_simp⟩) s0 ?_
      go_simp
      refine tkTV (i := 1) (v := .pointer (some ⟨wr.heap.size, 0, none⟩)) rfl s0 ?_
      go_simp
      refine tkT (i := 2) (v := .agg #[.int .i64 s.key.kind, .int .u64 s.key.sig, .int .i64 s.key.comp]) rfl (Or.inl ⟨by rfl, fun w' h => by obtain ⟨x0, x1, x2, x3, x4⟩ := KB.out w' h; go_simp⟩) s0 ?_
      go_simp
      refine tkTV (i := 3) (v := .pointer (some ⟨wr.heap.size, 3, none⟩)) rfl s0 ?_
      go_simp
      refine tkT (i := 4) (v := .slice A1 s.data.length c1) rfl (Or.inl ⟨by rfl, fun w' h => by obtain ⟨x0, x1, x2, x3, x4⟩ := KB.out w' h; go_simp⟩) s0 ?_
      go_simp
      refine wpAnyT_one (i := 5) rfl (by kernel_rfl) rfl (fun K hK => ?_)
      go_simp
      refine (bytesClone (HDV.out _ s0) HSL.out).mono ?_
      rintro en w2 ⟨u, rfl, hu, hb2⟩
      have s1 : Below W1.heap.size W1 w2 := s0.trans (hb2.mono s0.size)
      have HZ2 := Lib.hid (show W1.heap.size ≤ w2.heap.size from s1.size)
      have HU := Lib.hid (Rep.val_mono (Q' := fun b => W1.heap.size ≤ b) (fun b hb _ => Nat.le_trans s0.size hb) hu)
      obtain ⟨A5, c5, rfl, _, _, _⟩ := Rep.val_list hu
      clear hu hb2
      refine hK _ _ ⟨s1, ?_⟩
      clear hK K
      refine tkTV (i := 6) (v := .agg #[.int .i64 s.key.kind, .int .u64 s.key.sig, .int .i64 s.key.comp, .slice A5 s.data.length c5, .slice none 0 0]) rfl s1 ?_
      go_simp
      refine wpAnyT_one (i := 7) rfl (by kernel_rfl) rfl (fun K hK => ?_)
      refine step_run rfl (exec_buildSlice (vy := .agg #[.int .i64 s.key.kind, .int .u64 s.key.sig, .int .i64 s.key.comp, .slice A5 s.data.length c5, .slice none 0 0]) rfl (.agg #[.int .i64 0, .int .u64 0, .int .i64 0, .slice none 0 0, .slice none 0 0]) 5 Tryz.underlying38 info35' rfl rfl (by decide)) ?_
      have s2 := s1.alloc (B := W1.heap.size) s1.size (.cells (Value.cells (.agg #[.int .i64 s.key.kind, .int .u64 s.key.sig, .int .i64 s.key.comp, .slice A5 s.data.length c5, .slice none 0 0])) 116)
      refine hK _ _ ⟨s2, ?_⟩
      clear hK K
      refine wpAnyT_last (i := 8) rfl (by kernel_rfl) rfl (fun K hK => ?_)
      refine step_snoc2 rfl _ _ 38 rfl (.agg #[.int .i64 0, .int .u64 0, .int .i64 0, .slice none 0 0, .slice none 0 0]) 5 72 Tryz.underlying38 info35 rfl (by decide) rfl _ q (by exact rfl) (HACC.out _ s1) s (.agg #[.int .i64 s.key.kind, .int .u64 s.key.sig, .int .i64 s.key.comp, .slice A5 s.data.length c5, .slice none 0 0]) (HBARE.out _ _ _ HU.out HZ2.out) (by exact rfl) HLEN.out.1 HLEN.out.2 (HBAS.out _ s1) (fun v7 w7 hacc7 hgr7 hat7 => ?_)
      have hbx7 := (HBOX.out _ s1).kept hgr7 (HNE.out _ s1)
      obtain ⟨A7, c7, rfl, _, _⟩ := Rep.acc_form hacc7
      simp only [List.length_append, List.length_singleton] at hacc7 hat7
      refine hK _ _ ?_
      clear hK K
      refine wpAnyT_last (i := 9) rfl (by kernel_rfl) rfl (fun K hK => ?_)
      refine step_run_skip rfl (exec_store_box (by rfl) (by rfl) (by rfl) (by kernel_rfl) hbx7 ⟨_, _, _, rfl⟩) ?_
      refine hK _ _ ?_
      clear hK K
      refine wpAnyT_done (by kernel_rfl) ?_ _
      refine NoPanic.normal ?_
      go_wp2_with fail
      have hown7 := Rep.acc_own hacc7
      have hb2 := HMO.out _ s1
      have hba := HBA.out
      have hz2 := hb2.size
      refine ⟨⟨k + 1, by go_num, by omega, Lib.hid ⟨?_, ?_⟩, Lib.hid ⟨_, hbx7.set _, ?_⟩⟩, by simp [intOf]; omega⟩
      · exact ((HBW.out.1.trans (hb2.mono (by omega))).grown hgr7 (by omega) (fun b hb => by have := (Rep.acc_own (HACC.out _ s1) b hb).1; omega)).setCell (p := ⟨n0 + 1, 0, none⟩) (Nat.le_succ _) _
      · exact (Below.heap_setCell _ _ _ _ (Nat.ne_of_lt (Nat.lt_succ_self _))).trans ((hgr7.block n0 (by omega) (fun e => by have := (Rep.acc_own (HACC.out _ s1) n0 e.symm).1; omega)).trans ((hb2.block n0 (by omega)).trans HBW.out.2))
      · rw [HT.out]
        exact Rep.acc_keep (fun b hb _ => Below.heap_setCell _ _ _ _ (by rcases hb with hb | hb
                                                                         · show b ≠ n0 + 1; omega
                                                                         · show b ≠ n0 + 1; have := (hown7 b hb).1; omega)) (fun _ hb _ => hb) hacc7
    · obtain rfl : k = next.length := by omega
      rw [List.take_length] at HV
      obtain ⟨v, hv, hacc⟩ := HV.out
      have HR := Lib.hid (Rep.acc_root hacc)
      obtain ⟨Av, cv, rfl, _, _⟩ := Rep.acc_form hacc
      have hc := hv.cell
      have HACC := Lib.hid hacc
      have HBX := Lib.hid hv
      clear hv hacc HV
      go_wp2_with fail
      gi_wp2_with (refine ⟨trivial, ?_⟩; gi_at_call 163; refine callsIn_wide.2 ((pieces_calls _ _ _ _).mono ?_); rintro e w' ⟨rfl, rfl⟩)
      have bP := Boxed.new wr 38 (.slice Av next.length cv)
      obtain ⟨W1, hW1⟩ : ∃ W1, wr.alloc (.cells #[.slice Av next.length cv] 38) = W1 := ⟨_, rfl⟩
      have hsz : W1.heap.size = wr.heap.size + 1 := by rw [← hW1]; simp
      have hB1 : Below wr.heap.size wr W1 := by rw [← hW1]; exact (Below.refl _ _).alloc (Nat.le_refl _) _
      rw [hW1] at bP ⊢
      clear hW1 hc
      have hbo : Boxed W1 n0 38 (.slice Ao old.length co) := (hB1.block _ HBW.out.2.lt).trans HBW.out.2
      have hbl : Boxed W1 (n0 + 1) 38 (.slice Av next.length cv) := (hB1.block _ HBX.out.lt).trans HBX.out
      have hacc1 := Rep.acc_later HACC.out hB1
      have hbw1 : Below n0 w W1 := HBW.out.1.trans (hB1.mono (Nat.le_trans (Nat.le_succ _) (Nat.le_of_lt HBX.out.lt)))
      have hn0w : n0 ≤ w.heap.size := Nat.le_of_eq HN0.out.symm
      have hbxl := HBX.out.lt
      obtain ⟨R, hRc, hRl, hRn, hRv⟩ : ∃ R, IsZ W1 R ∧ R < wr.heap.size ∧ n0 < R ∧ (0 < next.length → (∃ n c, (Value.slice Av next.length cv) = .slice (some ⟨R, 0, none⟩) n c) ∧ n0 + 2 ≤ R) := by
        rcases HR.out with ⟨_, h⟩ | ⟨g, n, c, h, hb, hc⟩
        · exact ⟨n0 + 1, ⟨_, _, hbl⟩, hbxl, Nat.lt_succ_self _, fun hp => by rw [h] at hp; cases hp⟩
        · exact ⟨g, hc.same (hB1.block g hc.lt), hc.lt, by omega, fun _ => ⟨⟨n, c, h⟩, hb⟩⟩
      -- the flows' cells
      have hcells : ∀ (j : Nat) (s : DStream), next[j]? = some s → ∃ (A1 : Option Addr) (c1 : Nat), W1.cell? ⟨R, j * 5, none⟩ = some (.int .i64 s.key.kind) ∧ W1.cell? ⟨R, j * 5 + 1, none⟩ = some (.int .u64 s.key.sig) ∧ W1.cell? ⟨R, j * 5 + 2, none⟩ = some (.int .i64 s.key.comp) ∧ W1.cell? ⟨R, j * 5 + 3, none⟩ = some (.slice A1 s.data.length c1) ∧ W1.cell? ⟨R, j * 5 + 4, none⟩ = some (.slice none 0 0) ∧
          (Lit.int .i64 s.key.kind).wf = true ∧ (Lit.int .u64 s.key.sig).wf = true ∧ (Lit.int .i64 s.key.comp).wf = true ∧ Rep.byte.Sl (fun b => n0 + 2 ≤ b ∧ b < W1.heap.size ∧ b ≠ R) W1 A1 c1 s.data := fun j s hs => by
        obtain ⟨g, n, c, e, es, h5, h6⟩ := Rep.acc_get hacc1 hs
        obtain ⟨⟨n', c', e'⟩, _⟩ := hRv (Nat.lt_of_le_of_lt (Nat.zero_le _) (List.getElem?_eq_some_iff.1 hs).1)
        obtain rfl : g = R := by rw [e'] at e; cases e; rfl
        obtain ⟨A1, c1, rfl, f0, f1, f2, f3⟩ := rBare_open h5
        refine ⟨A1, c1, h6 0 _ rfl, h6 1 _ rfl, h6 2 _ rfl, h6 3 _ rfl, h6 4 _ rfl, f0, f1, f2, Rep.Sl.keep (fun b hb hl => ⟨⟨hb.1, hl.lt, fun e2 => hb.2 (by rw [e', e2]; rfl)⟩, rfl⟩) f3⟩
      obtain ⟨M, hM⟩ : ∃ M : Nat → Prop, M = fun off => ∃ j, j < next.length ∧ off = j * 5 + 4 := ⟨_, rfl⟩
      have hG : Ground R M W1.heap.size W1 := ⟨hRc, by omega, Nat.le_refl _, fun off ho => by
        rw [hM] at ho
        obtain ⟨j, hj, rfl⟩ := ho
        obtain ⟨A1, c1, _, _, _, _, d4, _⟩ := hcells j _ (List.getElem?_eq_getElem hj)
        exact ⟨none, 0, 0, d4, fun b hb => by cases hb⟩⟩
      have hMn : ∀ j m, m < 4 → ¬ M (j * 5 + m) := fun j m hm h => by
        rw [hM] at h
        obtain ⟨j', _, h⟩ := h
        omega
      have HFC := Lib.hid (show ∀ W, Seen R M W1 W → ∀ (j : Nat) (s : DStream), next[j]? = some s → ∃ (A1 : Option Addr) (c1 : Nat), W.cell? ⟨R, j * 5, none⟩ = some (.int .i64 s.key.kind) ∧ W.cell? ⟨R, j * 5 + 1, none⟩ = some (.int .u64 s.key.sig) ∧ W.cell? ⟨R, j * 5 + 2, none⟩ = some (.int .i64 s.key.comp) ∧ W.cell? ⟨R, j * 5 + 3, none⟩ = some (.slice A1 s.data.length c1) ∧
          (Lit.int .i64 s.key.kind).wf = true ∧ (Lit.int .u64 s.key.sig).wf = true ∧ (Lit.int .i64 s.key.comp).wf = true ∧ Rep.byte.Sl (fun b => n0 + 2 ≤ b) W A1 c1 s.data from fun W hs j s hj => by
        obtain ⟨A1, c1, d0, d1, d2, d3, _, f0, f1, f2, f3⟩ := hcells j s hj
        exact ⟨A1, c1, (hs.2.cell _ (hMn j 0 (by decide))).trans d0, (hs.2.cell _ (hMn j 1 (by decide))).trans d1, (hs.2.cell _ (hMn j 2 (by decide))).trans d2, (hs.2.cell _ (hMn j 3 (by decide))).trans d3, f0, f1, f2, Rep.Sl.keep (fun b hb hl => ⟨hb.1, hs.2.block b hb.2.1 hl hb.2.2⟩) f3⟩)
      have hfl : ∀ W, Seen R M W1 W → FlowsIn (bares next) Av wr.heap.size cv W := fun W hs => by
        have hbx : Boxed W wr.heap.size 38 (.slice Av next.length cv) := (hs.2.block _ (by omega) ⟨_, _, _, bP⟩ (by omega)).trans bP
        refine ⟨by rw [show (bares next).length = next.length by simp [bares]]; exact hbx.cell, fun k f hk => ?_⟩
        obtain ⟨s, hsk, rfl⟩ := bares_get hk
        have hkl := (List.getElem?_eq_some_iff.1 hsk).1
        obtain ⟨A1, c1, d0, d1, d2, d3, _, _, _, f3⟩ := HFC.out W hs k s hsk
        obtain ⟨⟨n', c', e'⟩, _⟩ := hRv (by omega)
        obtain ⟨A2, n2, c2, d4, _⟩ := hs.1.own (k * 5 + 4) (by rw [hM]; exact ⟨k, hkl, rfl⟩)
        exact ⟨R, 0, A1, c1, A2, n2, c2, by cases e'; rfl, hs.1.root.lt, by rw [Nat.zero_add]; exact d0, by rw [Nat.zero_add]; exact d1, by rw [Nat.zero_add]; exact d2, by rw [Nat.zero_add]; exact d3, by rw [Nat.zero_add]; exact d4, Rep.val_mono (fun b _ hl => hl.lt) (Rep.Sl.val f3)⟩
      have hdata : ∀ f ∈ bares next, f.data.length ≤ 1000000 := fun f hf => by
        obtain ⟨s, hs, rfl⟩ := List.mem_map.1 hf
        exact HS.out s hs
      refine wpIn_rangeFunc_va rfl (by omega) (gf := 201) (lb := #[.pointer (some ⟨wr.heap.size, 0, none⟩)]) rfl trivial (enters_of Tryz.func201 (by kernel_rfl) rfl)
        (pieces_seq (n := 8) (by omega) hG hfl hdata (by rw [show (bares next).length = next.length by simp [bares]]; omega)) Keeps.trans (fun W o _ => Keeps.below ((Below.refl _ _).alloc (Nat.le_refl _) _)) (fun W l o o' _ h1 h2 _ => Keeps.putObj h1 h2) (Below.refl _ _) (fun _ => rfl)
        (fun (pre : List Spot) W => (Built old next R W1.heap.size (pre.map Prod.fst) W ∧ Seen R M W1 W) ∧ Below n0 w W)
        (fun _ _ _ => False)
        (OwnFrom.and (OwnFrom.and (built_own _ _ _ _ _) (fun _ => Seen.own _ ())) (ownFrom_low hn0w (by omega)))
        (fun _ _ _ _ _ hs _ _ => hs)
        (pieceV_own _ _ _ _ _)
        ⟨⟨⟨fun _ => .slice none 0 0, fun j hj => ?start, fun _ _ _ _ _ h => by cases h⟩, Seen.refl hG⟩, hbw1⟩
        (fun x b => { tmps := #[.slice Ao old.length co, .slice A next.length c, .pointer (some ⟨n0, 0, none⟩), undef, .slice none 0 0, .pointer (some ⟨n0 + 1, 0, none⟩), undef, u7, .pointer (some ⟨b, 0, none⟩), x.2,
          undef, .slice A next.length c, .int .i64 next.length, .int .i64 next.length, .bool false, u15, u16, u17, u18, u19, u20, u21, u22, u23, u24, u25, u26, .slice Av next.length cv,
          .func (.func 201) #[] #[.pointer (some ⟨wr.heap.size, 0, none⟩)], .agg #[.int .i64 x.1.1, .int .i64 x.1.2], x.2, undef, undef, undef, undef, undef, undef, undef, undef, undef, undef, undef, undef, undef, undef, undef, undef, undef, undef, undef, undef, undef, undef, undef], defers := [] })
        (fun x => .cells #[.int .i64 x.1.1, .int .i64 x.1.2] 219) ?assign ?body ?done ?stop
      case start =>
        obtain ⟨A1, c1, _, _, _, _, d4, _⟩ := hcells j _ (List.getElem?_eq_getElem hj)
        have e : stayAt old next (List.map Prod.fst ([] : List Spot)) j = [] := by unfold stayAt; split <;> rfl
        exact ⟨d4, by rw [e]; exact Rep.acc_nil⟩
      case assign =>
        intro lp x W K hK
        simp only [encSpot]
        gi_wp2
        exact hK
      case body =>
        rintro lr pre ⟨⟨k, i⟩, u⟩ b W ⟨⟨⟨vs, hvs, hinj⟩, _⟩, hB⟩ ⟨f, hf, hi, hpre, hseen, hu⟩ hb1 hb2 hbox
        simp only at hf hi hpre hu hbox
        obtain ⟨s, hs, rfl⟩ := bares_get hf
        have hk : k < next.length := (List.getElem?_eq_some_iff.1 hs).1
        obtain ⟨⟨n', c', e'⟩, hR2⟩ := hRv (by omega)
        obtain rfl : some ⟨R, 0, none⟩ = Av := by cases e'; rfl
        obtain ⟨hck, hak⟩ := hvs k hk
        have HST : ∃ z, Hid (stayOf old s.key i (piece s.data i) = z) := ⟨_, Lib.hid rfl⟩
        obtain ⟨z, HST⟩ := HST
        have HZW := Lib.hid (show (Lit.int .i64 z).wf = true by rw [← HST.out]; exact stay_wf (HO1.out W hB) _ _ _)
        have HNX := Lib.hid (show stayAt old next ((pre ++ [((k, i), u)]).map Prod.fst) k = stayAt old next (pre.map Prod.fst) k ++ [z] by rw [List.map_append, ← HST.out]; exact stayAt_same hs)
        have HNO := Lib.hid (show ∀ j, j ≠ k → stayAt old next ((pre ++ [((k, i), u)]).map Prod.fst) j = stayAt old next (pre.map Prod.fst) j from fun j hj => by rw [List.map_append]; exact stayAt_other hj)
        have HLEN := Lib.hid (show (stayAt old next (pre.map Prod.fst) k).length + 1 ≤ maxLen ∧ ((stayAt old next (pre.map Prod.fst) k).length + 1) * 8 ≤ 140737488355328 by
          have h1 : (stayAt old next (pre.map Prod.fst) k).length ≤ i := by rw [hpre]; exact stayAt_len
          have h2 := pieceCount_le (f := bare s) (HS.out s (List.mem_of_getElem? hs))
          unfold maxLen
          omega)
        obtain ⟨q, hq⟩ : ∃ q, stayAt old next (pre.map Prod.fst) k = q := ⟨_, rfl⟩
        have HQ := Lib.hid hq
        rw [hq] at hak HNX HLEN
        obtain ⟨Ak, ck, hvk, _, _⟩ := Rep.acc_form hak
        rw [hvk] at hck hak
        obtain ⟨A1, c1, d0, d1, d2, _, _⟩ := HFC.out W hseen k s hs
        have hRlt := hseen.1.root.lt
        have hln : (k : Int) < next.length := by omega
        have hw0 : Boxed W n0 38 (.slice Ao old.length co) := (hseen.2.block _ (by omega) ⟨_, _, _, hbo⟩ (by omega)).trans hbo
        have hw1 : Boxed W (n0 + 1) 38 (.slice (some ⟨R, 0, none⟩) next.length cv) := (hseen.2.block _ (by omega) ⟨_, _, _, hbl⟩ (by omega)).trans hbl
        have KB := Lib.hid (show ∀ W', Below W.heap.size W W' → (W'.cell? ⟨n0, 0, none⟩ = some (.slice Ao old.length co) ∧ W'.cell? ⟨b, 1, none⟩ = some (.int .i64 i) ∧ W'.cell? ⟨R, k * 5, none⟩ = some (.int .i64 s.key.kind) ∧ W'.cell? ⟨R, k * 5 + 1, none⟩ = some (.int .u64 s.key.sig) ∧ W'.cell? ⟨R, k * 5 + 2, none⟩ = some (.int .i64 s.key.comp) ∧ W'.cell? ⟨R, k * 5 + 4, none⟩ = some (.slice Ak q.length ck)) from fun W' h =>
          ⟨(h.cell (p := ⟨n0, 0, none⟩) hw0.lt).trans hw0.cell, cell_row ((h.block b hb2).trans hbox) 1, (h.cell (p := ⟨R, k * 5, none⟩) hRlt).trans d0, (h.cell (p := ⟨R, k * 5 + 1, none⟩) hRlt).trans d1, (h.cell (p := ⟨R, k * 5 + 2, none⟩) hRlt).trans d2, (h.cell (p := ⟨R, k * 5 + 4, none⟩) hRlt).trans hck⟩)
        have HOV := Lib.hid (show ∀ W', Below W.heap.size W W' → rFlow.list.val (fun b => b < n0) W' (.slice Ao old.length co) old from fun W' h => Rep.list_val rfl ho1 ho2 (HO1.out W' (hB.trans (h.mono (by omega)))))
        have HUV := Lib.hid (show ∀ W', Below W.heap.size W W' → Rep.byte.list.val (Free R M W1.heap.size W) W' u (piece s.data i) from fun W' h => Rep.val_below hu h (fun b _ hl => hl.lt))
        have HACK := Lib.hid (show ∀ W', Below W.heap.size W W' → (Rep.int .i64).acc 3 W1.heap.size (fun _ => False) W' (.slice Ak q.length ck) q from fun W' h => Rep.acc_later hak h)
        have HBAS := Lib.hid (show ∀ W', Below W.heap.size W W' → W1.heap.size ≤ W'.heap.size from fun W' h => Nat.le_trans hseen.1.le h.size)
        have hck2 := hck
        have c1w := hw1.cell
        have c2w := cell_row hbox 0
        have HCELL := Lib.hid (show ∀ w2 w7, Below W.heap.size W w2 → w2.grownBy w7 (Value.slice Ak q.length ck).ownBlock → w7.cell? ⟨R, k * 5 + 4, none⟩ = some (.slice Ak q.length ck) from fun w2 w7 h hg =>
          (World.cell?_of_block (w := w2) (a := ⟨R, k * 5 + 4, none⟩) (hg.block R (Nat.lt_of_lt_of_le hRlt h.size) (fun e => by have := (Rep.acc_own hak R e.symm).1; have := hseen.1.lt; omega))).trans ((h.cell (p := ⟨R, k * 5 + 4, none⟩) hRlt).trans hck))
        have HFRZ := Lib.hid (show ∀ w2 w7, Below W.heap.size W w2 → w2.grownBy w7 (Value.slice Ak q.length ck).ownBlock → w7.frozen? ⟨R, k * 5 + 4, none⟩ = false from fun w2 w7 h hg =>
          IsZ.frozen (hseen.1.root.same ((hg.block R (Nat.lt_of_lt_of_le hRlt h.size) (fun e => by have := (Rep.acc_own hak R e.symm).1; have := hseen.1.lt; omega)).trans (h.block R hRlt))) _)
        have HVS := Lib.hid hvs
        have HINJ := Lib.hid hinj
        have HBB := Lib.hid hB
        have HSEEN := Lib.hid hseen
        have HAK := Lib.hid hak
        have HVK := Lib.hid hvk
        have HCK := Lib.hid hck
        have HRR := Lib.hid hRlt
        have HR0 := Lib.hid hRl
        have HKN := Lib.hid hk
        have HSZ := Lib.hid hsz
        have HMM := Lib.hid hM
        have HRN := Lib.hid hRn
        clear hf hi hpre hseen hu hbox hvs hinj hB hak hvk hck hRlt hRl hk hsz hM d0 d1 d2 hw0 hw1 hs hq e' hRv hR2 hcells hMn hfl hdata hG hbo hbl hacc1 hbw1 hbxl bP hn0w hRc hRn hB1
        gi_wp2
        refine region_round_tail (S := fun W' => Below W.heap.size W W') (T := [0, 15, 16, 17, 18]) (by kernel_rfl) (by kernel_rfl) (by rintro ⟨_, _, h⟩; exact h) (Below.refl _ _).drew (fun s0 => ?_)
        refine tk0 (i := 0) (v := .pointer (some ⟨R, k * 5, none⟩)) rfl (Or.inl ⟨by rfl, fun w' _ => by go_simp <;> omega⟩) ?_
        go_simp
        refine tkTV (i := 1) (v := .pointer (some ⟨R, k * 5, none⟩)) rfl s0 ?_
        go_simp
        refine tkTV (i := 2) (v := .pointer (some ⟨R, k * 5, none⟩)) rfl s0 ?_
        go_simp
        refine tkTV (i := 3) (v := .pointer (some ⟨R, k * 5 + 4, none⟩)) rfl s0 ?_
        go_simp
        refine tkT (i := 4) (v := .slice Ak q.length ck) rfl (Or.inl ⟨by rfl, fun w' h => by obtain ⟨x0, x1, x2, x3, x4, x5⟩ := KB.out w' h; go_simp⟩) s0 ?_
        go_simp
        refine tkT (i := 5) (v := .slice Ao old.length co) rfl (Or.inl ⟨by rfl, fun w' h => by obtain ⟨x0, x1, x2, x3, x4, x5⟩ := KB.out w' h; go_simp⟩) s0 ?_
        go_simp
        refine tkTV (i := 6) (v := .pointer (some ⟨R, k * 5, none⟩)) rfl s0 ?_
        go_simp
        refine tkTV (i := 7) (v := .pointer (some ⟨R, k * 5, none⟩)) rfl s0 ?_
        go_simp
        refine tkTV (i := 8) (v := .pointer (some ⟨R, k * 5, none⟩)) rfl s0 ?_
        go_simp
        refine tkT (i := 9) (v := .agg #[.int .i64 s.key.kind, .int .u64 s.key.sig, .int .i64 s.key.comp]) rfl (Or.inl ⟨by rfl, fun w' h => by obtain ⟨x0, x1, x2, x3, x4, x5⟩ := KB.out w' h; go_simp⟩) s0 ?_
        go_simp
        refine tkTV (i := 10) (v := .pointer (some ⟨b, 1, none⟩)) rfl s0 ?_
        go_simp
        refine tkT (i := 11) (v := .int .i64 i) rfl (Or.inl ⟨by rfl, fun w' h => by obtain ⟨x0, x1, x2, x3, x4, x5⟩ := KB.out w' h; go_simp⟩) s0 ?_
        go_simp
        refine tkTV (i := 12) (v := u) rfl s0 ?_
        go_simp
        refine wpAnyT_one (i := 13) rfl (by kernel_rfl) rfl (fun K hK => ?_)
        go_simp
        refine (stays_calls (HOV.out _ s0) (HUV.out _ s0) HD.out).mono ?_
        rintro en w2 ⟨rfl, hb2⟩
        rw [HST.out]
        have s1 : Below W.heap.size W w2 := s0.trans (hb2.mono s0.size)
        clear hb2
        refine hK _ _ ⟨s1, ?_⟩
        clear hK K
        refine wpAnyT_one (i := 14) rfl (by kernel_rfl) rfl (fun K hK => ?_)
        refine step_run rfl (exec_buildSlice (vy := .int .i64 z) rfl (.int .i64 0) 1 Tryz.underlying35 info3' rfl rfl (by decide)) ?_
        have s2 := s1.alloc (B := W.heap.size) s1.size (.cells (Value.cells (.int .i64 z)) 3)
        refine hK _ _ ⟨s2, ?_⟩
        clear hK K
        refine wpAnyT_last (i := 15) rfl (by kernel_rfl) rfl (fun K hK => ?_)
        refine step_snoc2 rfl _ _ 35 rfl (.int .i64 0) 1 8 Tryz.underlying35 info3 rfl (by decide) rfl _ q (by exact rfl) (HACK.out _ s1) z (.int .i64 z) ⟨_, rfl, rfl, HZW.out⟩ (by exact rfl) HLEN.out.1 HLEN.out.2 (HBAS.out _ s1) (fun v7 w7 hacc7 hgr7 hat7 => ?_)
        obtain ⟨A7, c7, rfl, _, _⟩ := Rep.acc_form hacc7
        simp only [List.length_append, List.length_singleton] at hacc7 hat7
        refine hK _ _ ?_
        clear hK K
        refine wpAnyT_last (i := 16) rfl (by kernel_rfl) rfl (fun K hK => ?_)
        go_simp
        refine hK _ _ ?_
        clear hK K
        refine wpAnyT_last (i := 17) rfl (by kernel_rfl) rfl (fun K hK => ?_)
        go_simp
        refine hK _ _ ?_
        clear hK K
        refine wpAnyT_last (i := 18) rfl (by kernel_rfl) rfl (fun K hK => ?_)
        have k0 := HCELL.out _ _ s1 hgr7
        have k1 := HFRZ.out _ _ s1 hgr7
        go_simp
        refine hK _ _ ?_
        clear hK K
        refine wpAnyT_done (by kernel_rfl) ?_ _
        have hown7 := Rep.acc_own hacc7
        have hkp : Keeps R M W1.heap.size W (w7.setCell ⟨R, k * 5 + 4, none⟩ (.slice A7 (q.length + 1) c7)) :=
          Keeps.collect (by rw [HMM.out]; exact ⟨k, HKN.out, rfl⟩) s1 HCK.out hgr7 (hat7.imp id fun e => ⟨_, e, Nat.le_succ _⟩) ⟨_, _, _, rfl⟩ hown7
        have hset : ∀ b, b ≠ R → (w7.setCell ⟨R, k * 5 + 4, none⟩ (.slice A7 (q.length + 1) c7)).heap[b]? = w7.heap[b]? := fun b hb => Below.heap_setCell _ _ _ _ hb
        have hRb := HSEEN.out.1.lt
        have hR7 : w7.heap[R]? = W.heap[R]? := (hgr7.block R (Nat.lt_of_lt_of_le HRR.out s1.size) (fun e => by have := (Rep.acc_own HAK.out R e.symm).1; omega)).trans (s1.block R HRR.out)
        refine ⟨KeepsFrom.collect s1 hgr7 (Rep.acc_isC HAK.out), hkp, ⟨⟨fun j => if j = k then .slice A7 (q.length + 1) c7 else vs j, fun j hj => ?_, fun j j' g hj hj' h1 h2 => ?_⟩, HSEEN.out.keeps hkp⟩, ?_⟩
        · by_cases e : j = k
          · subst e
            simp only [if_true]
            exact ⟨World.cell?_setCell_same w7 _ _ (HCELL.out _ _ s1 hgr7), by rw [HNX.out]; exact Rep.acc_keep (fun b hb _ => hset b (hb.elim (fun h => h.elim) fun h => by have := (hown7 b h).1; omega)) (fun _ hb _ => hb) hacc7⟩
          · simp only [if_neg e]
            obtain ⟨hc, ha⟩ := HVS.out j hj
            refine ⟨(World.cell?_setCell_other w7 _ _ _ (fun h => by injection h with _ h; omega)).trans ((World.cell?_of_block (w := W) (a := ⟨R, j * 5 + 4, none⟩) hR7).trans hc), ?_⟩
            rw [HNO.out j e]
            refine Rep.acc_keep (fun b hb hl => ?_) (fun _ hb _ => hb) ha
            rcases hb with hb | hb
            · exact hb.elim
            · have hbo := Rep.acc_own ha b hb
              rw [hset b (by omega), hgr7.block b (Nat.lt_of_lt_of_le hbo.2 s1.size) (fun h => e (HINJ.out j k b hj HKN.out hb (by rw [HVK.out]; exact h.symm))), s1.block b hbo.2]
        · have hfar : ∀ m, m < next.length → m ≠ k → (vs m).ownBlock = some g → (Value.slice A7 (q.length + 1) c7).ownBlock = some g → False := fun m hm hne e1 e2 => by
            rcases hat7 with h | h
            · exact hne (HINJ.out m k g hm HKN.out e1 (by rw [HVK.out, ← h]; exact e2))
            · rw [h] at e2
              injection e2 with e2
              have := (Rep.acc_own (HVS.out m hm).2 g e1).2
              have := s1.size
              omega
          by_cases e : j = k
          · by_cases e' : j' = k
            · rw [e, e']
            · simp only [if_pos e] at h1
              simp only [if_neg e'] at h2
              exact (hfar j' hj' e' h2 h1).elim
          · simp only [if_neg e] at h1
            by_cases e' : j' = k
            · simp only [if_pos e'] at h2
              exact (hfar j hj e h1 h2).elim
            · simp only [if_neg e'] at h2
              exact HINJ.out j j' g hj hj' h1 h2
        · have hsw := HSEEN.out.1.le
          have hz1 := HSZ.out
          have hn0R := HRN.out
          exact ((HBB.out.trans (s1.mono (by omega))).grown hgr7 (by have := s1.size; omega) (fun b hb => by have := (Rep.acc_own HAK.out b hb).1; omega)).setCell (p := ⟨R, k * 5 + 4, none⟩) (Nat.le_of_lt hn0R) _
      case done =>
        rintro D ys W hD hys ⟨⟨⟨vs, hvs, _⟩, hseen⟩, hB⟩ hK
        have hc : W.cell? ⟨n0 + 1, 0, none⟩ = some (.slice Av next.length cv) := by
          by_cases e : n0 + 1 = R
          · rw [e, hseen.2.cell 0 (hMn 0 0 (by decide)), ← e]; exact hbl.cell
          · exact (World.cell?_of_block (w := W1) (a := ⟨n0 + 1, 0, none⟩) (hseen.2.block (n0 + 1) (by omega) ⟨_, _, _, hbl⟩ e)).trans hbl.cell
        have HFC1 := Lib.hid (HFC.out W hseen)
        have HVS := Lib.hid hvs
        gi_wp2
        refine ⟨by simp, .inl ⟨_, _, rfl, run_takeDeferred hK, ?_⟩⟩
        obtain ⟨es, h3, h4⟩ := Rep.At.of_cells (r := rFlow) (Q := fun b => n0 ≤ b) (w := W) (b := R) (xs := flowsOf old next) 0 (fun j x hx => by
          unfold flowsOf at hx
          rw [List.getElem?_map] at hx
          obtain ⟨s, hs, rfl⟩ := Option.map_eq_some_iff.1 hx
          obtain ⟨A1, c1, d0, d1, d2, d3, f0, f1, f2, f3⟩ := HFC1.out j s hs
          obtain ⟨d4, ha⟩ := HVS.out j (List.getElem?_eq_some_iff.1 hs).1
          rw [hys, stayAt_all hs] at ha
          obtain ⟨Aj, cj, e, _, _⟩ := Rep.acc_form ha
          rw [e] at d4 ha
          refine ⟨_, rFlow_mk (x := flowOf old s) f0 f1 f2 (Rep.Sl.keep (fun b hb _ => ⟨Nat.le_trans (Nat.le_add_right _ _) hb, rfl⟩) f3) (Rep.Sl.keep (Q := fun b => W1.heap.size ≤ b) (fun b hb _ => ⟨by omega, rfl⟩) (Rep.val_slice (Rep.acc_fresh ha))), fun m u hm => ?_⟩
          rw [rFlow_size, Nat.zero_add]
          match m, hm with
          | 0, hm => cases hm; exact d0
          | 1, hm => cases hm; exact d1
          | 2, hm => cases hm; exact d2
          | 3, hm => cases hm; exact d3
          | 4, hm => cases hm; exact d4
          | m + 5, hm => cases hm)
        have hfl2 : (flowsOf old next).length = next.length := by simp [flowsOf]
        have hat : rFlow.At (fun b => n0 ≤ b) W Av (flowsOf old next) := ⟨es, h3, fun hp => by
          rw [hfl2] at hp
          obtain ⟨⟨n', c', e'⟩, _⟩ := hRv hp
          exact ⟨R, 0, by cases e'; rfl, Nat.le_of_lt hRn, hseen.1.root.isC, h4⟩⟩
        obtain ⟨_, _, ec, hcv1, hcv2⟩ := Rep.acc_form hacc1
        cases ec
        have hval : rFlow.list.val (fun b => n0 ≤ b) (W.putObj D (.deferred none)) (.slice Av next.length cv) (flowsOf old next) :=
          Rep.val_keep (w := W) (fun b' hb' hl => ⟨hb', World.putObj_heap_other (fun e => by
            subst e
            obtain ⟨_, _, _, hl⟩ := hl
            rw [hK] at hl; cases hl)⟩) (Rep.list_val hfl2.symm hcv1 hcv2 hat)
        refine ⟨_, results_tmp rfl _ _ _, _, rfl, ?_, ?_⟩
        · rw [HN0.out]; exact hval
        · rw [HN0.out]; exact hB.trans (belowK_b (w := w) (Nat.le_of_eq HN0.out.symm) W D _ _ (by have := HN0.out; omega) hK rfl rfl)
      case stop =>
        rintro D c pre W _ h _
        exact h.elim
end Go.Proofs.YtghbfbohnoebiaaGreat
