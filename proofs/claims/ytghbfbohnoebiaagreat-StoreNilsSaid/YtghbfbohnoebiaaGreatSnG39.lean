/- Texts on which the proofs stand: StoreNext, FillMath, Fill. No condition is laid on any input. -/
import Derived.Test.YtghbfbohnoebiaaGreatSnG28
import Derived.Test.YtghbfbohnoebiaaGreatSnG32
namespace Go.Proofs.YtghbfbohnoebiaaGreat
open Go.RowKit

/-- Streams of a bounded size. -/
def StreamsOk (l : List DStream) : Prop := l.length ≤ 2000 ∧ ∀ s ∈ l, s.data.length ≤ 100000
def FlowsOk (l : List DFlow) : Prop := l.length ≤ 2000 ∧ ∀ f ∈ l, f.data.length ≤ 100000 ∧ f.pages.length ≤ 300
theorem flowsOf_ok {old : List DFlow} {next : List DStream} (h : StreamsOk next) : FlowsOk (flowsOf old next) := by
  unfold flowsOf
  refine ⟨by rw [List.length_map]; exact h.1, fun f hf => ?_⟩
  obtain ⟨s, hs, rfl⟩ := List.mem_map.1 hf
  have := h.2 s hs
  refine ⟨this, ?_⟩
  show ((List.range ((s.data.length + 471) / 472)).map _).length ≤ 300
  rw [List.length_map, List.length_range]
  omega
theorem flat_len {l : List DEntry} {n : Nat} (h : ∀ x ∈ l, (entBytes x).length ≤ n) : ((l.map entBytes).flatten).length ≤ l.length * n := by
  induction l with
  | nil => simp
  | cons x r ih =>
    have h1 := h x (by simp)
    have h2 := ih (fun y hy => h y (by simp [hy]))
    rw [List.map_cons, List.flatten_cons, List.length_append, List.length_cons, Nat.succ_mul]
    omega
theorem dirFlows_len {l : List DFlow} (h : FlowsOk l) : (dirFlows l).length ≤ 1300000 := by
  unfold dirFlows dirBytes
  have h2 := flat_len (l := l.map entryOf) (n := 616) (fun x hx => by
    obtain ⟨f, hf, rfl⟩ := List.mem_map.1 hx
    rw [entBytes_len]
    have := (h.2 f hf).2
    have e : (entryOf f).pages.length = f.pages.length := rfl
    omega)
  rw [List.length_append, num_len2]
  have := h.1
  rw [List.length_map] at h2
  omega

def NextPost (W : World) (fl : List DFlow) (e : Ending) (W' : World) : Prop :=
  ∃ vf vn, e = .returned (.tuple #[vf, vn, .int .i64 ((dirFlows fl).length : Nat)]) ∧ rFlow.list.val (fun b => W.heap.size ≤ b) W' vf fl ∧ Rep.byte.list.acc 71 W.heap.size (fun b => W.heap.size ≤ b) W' vn (newsOf fl) ∧ Below W.heap.size W W'

set_option maxRecDepth 100000 in
set_option maxHeartbeats 1000000 in
/-- store.next -/
theorem next_calls {Q Q' : Nat → Prop} {W : World} {S : Nat} {Af : Option Addr} {cf : Nat} {fl : List DFlow} {v : Value} {l : List DStream} (hc : W.cell? ⟨S, 16, none⟩ = some (.slice Af fl.length cf)) (hf : rFlow.Sl Q W Af cf fl)
    (hx : rStream.list.val Q' W v l) (ho : FlowsOk fl) (hl : StreamsOk l) :
    Calls Tryz.prog 63 #[.pointer (some ⟨S, 0, none⟩), v] W (NextPost W (flowsOf fl l)) := by
  have HF := Lib.hid (show rFlow.list.val (fun b => b < W.heap.size) W (.slice Af fl.length cf) fl from Rep.val_keep (fun b _ hl => ⟨hl.lt, rfl⟩) hf.val)
  have HX := Lib.hid (show rStream.list.val (fun b => b < W.heap.size) W v l from Rep.val_keep (fun b _ hl => ⟨hl.lt, rfl⟩) hx)
  obtain ⟨A, c, rfl, _, _, _⟩ := Rep.val_list hx
  have HO := Lib.hid ho
  have HL := Lib.hid hl
  have HFO := Lib.hid (flowsOf_ok (old := fl) hl)
  obtain ⟨q, hq⟩ : ∃ q, flowsOf fl l = q := ⟨_, rfl⟩
  rw [hq] at HFO ⊢
  have HQ := Lib.hid hq
  clear hf hx ho hl hq
  go_enter Tryz.func63, Tryz.ntmps63
  go_wp2_with fail
  refine (planOf_calls HF.out HX.out (fun f hf => Nat.le_trans (HO.out.2 f hf).1 (by decide)) (fun s hs => Nat.le_trans (HL.out.2 s hs) (by decide)) (Nat.le_trans HL.out.1 (by decide))).mono ?_
  rintro e w1 ⟨u, rfl, hu, hb⟩
  rw [HQ.out] at hu
  have HU := Lib.hid hu
  have HB := Lib.hid hb
  obtain ⟨A2, c2, rfl, _, _, _⟩ := Rep.val_list hu
  clear hu hb
  go_wp2_with fail
  refine (newsA_calls (Rep.val_keep (fun b _ hl => ⟨hl.lt, rfl⟩) HU.out) (fun f hf => Nat.le_trans (HFO.out.2 f hf).1 (by decide)) (Nat.le_trans HFO.out.1 (by decide))).mono ?_
  rintro e w2 ⟨u2, rfl, hacc, hb2⟩
  have HB2 := Lib.hid hb2
  have HA2 := Lib.hid hacc
  have HU2 := Lib.hid (Rep.val_keep (Q' := fun b => W.heap.size ≤ b) (fun b hq hl => ⟨hq, hb2.block b hl.lt⟩) HU.out)
  obtain ⟨A3, c3, rfl, _, _⟩ := Rep.acc_form hacc
  clear hacc hb2
  go_wp2_with fail
  refine (entries_calls HU2.out (Nat.le_trans HFO.out.1 (by decide)) (fun f hf => ⟨Nat.le_trans (HFO.out.2 f hf).2 (by decide), Nat.le_trans (HFO.out.2 f hf).1 (by decide)⟩)).mono ?_
  rintro e w3 ⟨u3, rfl, hu3, hb3⟩
  have HB3 := Lib.hid hb3
  obtain ⟨A4, c4, he4, _, _, _⟩ := Rep.val_list hu3
  rw [List.length_map] at he4
  subst he4
  have HU3 := Lib.hid hu3
  clear hu3 hb3
  go_wp2_with fail
  refine (dsize_calls HU3.out (Nat.le_trans (dirFlows_len HFO.out) (by decide)) (by rw [List.length_map]; exact Nat.le_trans HFO.out.1 (by decide))).mono ?_
  rintro e w4 ⟨rfl, hb4⟩
  have HB4 := Lib.hid (HB3.out.trans (hb4.mono HB3.out.size))
  have HALL := Lib.hid (HB.out.trans ((HB2.out.trans (HB4.out.mono HB2.out.size)).mono HB.out.size))
  have HV4 := Lib.hid (Rep.val_keep (Q' := fun b => W.heap.size ≤ b) (fun b hq hl => ⟨hq, HB4.out.block b hl.lt⟩) HU2.out)
  have HN4 := Lib.hid (show Rep.byte.list.acc 71 W.heap.size (fun b => W.heap.size ≤ b) w4 (.slice A3 (newsOf q).length c3) (newsOf q) from Rep.acc_base HB.out.size (Rep.acc_keep (fun b hb hl => HB4.out.block b hl.lt) (fun b hb _ => Nat.le_trans HB.out.size hb) HA2.out))
  clear hb4
  go_wp2_with fail
  go_ret3
  exact ⟨_, _, rfl, HV4.out, HN4.out, HALL.out⟩

theorem needFlows_range {fl : List DFlow} (h : FlowsOk fl) : 0 ≤ pageCount ((dirFlows fl).length : Nat) ∧ pageCount ((dirFlows fl).length : Nat) ≤ 3000 ∧ (newsOf fl).length ≤ 6000000 := by
  have h1 := dirFlows_len h
  have h2 := newsOf_len (l := fl) (fun f hf => Nat.le_trans (h.2 f hf).1 (by decide))
  have h3 := h.1
  unfold pageCount
  refine ⟨?_, ?_, by omega⟩
  · split <;> omega
  · split <;> omega

set_option maxRecDepth 100000 in
set_option maxHeartbeats 1000000 in
/-- store.Need -/
theorem need27_calls {Q Q' : Nat → Prop} {W : World} {S : Nat} {Af : Option Addr} {cf : Nat} {fl : List DFlow} {v : Value} {l : List DStream} (hc : W.cell? ⟨S, 16, none⟩ = some (.slice Af fl.length cf)) (hf : rFlow.Sl Q W Af cf fl)
    (hx : rStream.list.val Q' W v l) (ho : FlowsOk fl) (hl : StreamsOk l) :
    Calls Tryz.prog 20 #[.pointer (some ⟨S, 0, none⟩), v] W fun e W' => e = .returned (.int .i64 (needFlows (flowsOf fl l))) ∧ Below W.heap.size W W' := by
  have HC := Lib.hid (next_calls hc hf hx ho hl)
  have HR := Lib.hid (needFlows_range (flowsOf_ok (old := fl) hl))
  have hdl := dirFlows_len (flowsOf_ok (old := fl) hl)
  obtain ⟨A, c, rfl, _, _, _⟩ := Rep.val_list hx
  obtain ⟨q, hq⟩ : ∃ q, flowsOf fl l = q := ⟨_, rfl⟩
  rw [hq] at HC HR hdl ⊢
  have HDL := Lib.hid hdl
  clear hc hf hx ho hl hq hdl
  go_enter Tryz.func20, Tryz.ntmps20
  go_wp2_with fail
  refine HC.out.mono ?_
  rintro e w1 ⟨vf, vn, rfl, hvf, hvn, hb⟩
  have HB := Lib.hid hb
  obtain ⟨A2, c2, rfl, _, _, _⟩ := Rep.val_list hvf
  obtain ⟨A3, c3, rfl, _, _⟩ := Rep.acc_form hvn
  obtain ⟨n, hn⟩ : ∃ n, (newsOf q).length = n := ⟨_, rfl⟩
  obtain ⟨d, hd⟩ : ∃ d, (dirFlows q).length = d := ⟨_, rfl⟩
  have HE := Lib.hid (show needFlows q = (n : Int) + pageCount (d : Nat) by unfold needFlows; rw [hn, hd])
  rw [hn, hd] at HR ⊢
  rw [hd] at HDL
  clear hvf hvn hb hn hd
  go_wp2_with fail
  refine (count_calls (d : Int) _ (by omega) (by have := HDL.out; omega)).mono ?_
  rintro e w2 ⟨rfl, hw⟩
  obtain rfl := hw.symm
  clear hw
  have hr := HR.out
  obtain ⟨p, hp⟩ : ∃ p, pageCount (d : Nat) = p := ⟨_, rfl⟩
  rw [hp] at hr ⊢
  have HP := Lib.hid hp
  clear hp HR
  have iw : IntKind.i64.wrap ((n : Int) + p) = (n : Int) + p := IntWalk.i64_in _ ⟨by omega, by omega⟩
  go_wp2_with fail
  go_ret
  exact ⟨by rw [HE.out, HP.out]; rfl, HB.out⟩
end Go.Proofs.YtghbfbohnoebiaaGreat
namespace Go.Proofs.YtghbfbohnoebiaaGreat
open Go.RowKit

/-- The page of the next place. -/
def fillV (l : List DFlow) (pages : List Int) (before : List (Nat × Nat)) (p : Nat × Nat) : Int := match l[p.1]? with
  | none => 0
  | some f => if 0 ≤ pageAt f p.2 then pageAt f p.2 else pages.getD (newsAt l before).length 0
def fillSeq (l : List DFlow) (pages : List Int) (ps : List (Nat × Nat)) : List ((Nat × Nat) × Int) := ps.foldl (fun acc p => acc ++ [(p, fillV l pages (acc.map Prod.fst) p)]) []
theorem fillSeq_snoc' (l : List DFlow) (pages : List Int) (ps : List (Nat × Nat)) (p : Nat × Nat) : fillSeq l pages (ps ++ [p]) = fillSeq l pages ps ++ [(p, fillV l pages ((fillSeq l pages ps).map Prod.fst) p)] := by
  unfold fillSeq
  rw [List.foldl_append]; rfl
theorem fillSeq_fst (l : List DFlow) (pages : List Int) : ∀ ps, (fillSeq l pages ps).map Prod.fst = ps := by
  intro ps
  rw [← List.reverse_reverse ps]
  induction ps.reverse with
  | nil => rfl
  | cons p r ih => rw [List.reverse_cons, fillSeq_snoc', List.map_append, ih]; rfl
theorem fillSeq_snoc (l : List DFlow) (pages : List Int) (ps : List (Nat × Nat)) (p : Nat × Nat) : fillSeq l pages (ps ++ [p]) = fillSeq l pages ps ++ [(p, fillV l pages ps p)] := by
  rw [fillSeq_snoc', fillSeq_fst]
/-- The pages of flow j, where pieces at these places have theirs. -/
def fillPt (l : List DFlow) (pages : List Int) (ps : List (Nat × Nat)) (j : Nat) : List Int := ((fillSeq l pages ps).filter fun q => q.1.1 == j).map Prod.snd
theorem fillPt_same {l : List DFlow} {pages : List Int} {ps : List (Nat × Nat)} {k i : Nat} : fillPt l pages (ps ++ [(k, i)]) k = fillPt l pages ps k ++ [fillV l pages ps (k, i)] := by
  unfold fillPt
  rw [fillSeq_snoc, List.filter_append, List.map_append]
  simp
theorem fillPt_other {l : List DFlow} {pages : List Int} {ps : List (Nat × Nat)} {k i j : Nat} (h : j ≠ k) : fillPt l pages (ps ++ [(k, i)]) j = fillPt l pages ps j := by
  unfold fillPt
  have : (k == j) = false := by simpa using fun e => h e.symm
  rw [fillSeq_snoc, List.filter_append, List.map_append]
  simp [this]
theorem newsAt_append (l : List DFlow) (a b : List (Nat × Nat)) : newsAt l (a ++ b) = newsAt l a ++ newsAt l b := by unfold newsAt; rw [List.filterMap_append]
theorem newsAt_here {l : List DFlow} {k i : Nat} {f : DFlow} (h : l[k]? = some f) : (newsAt l (placesTo l k ++ spots k i)).length = (newsOf (l.take k)).length + (newsTo f i).length := by
  rw [newsAt_append, List.length_append, newsAt_to k (by have := (List.getElem?_eq_some_iff.1 h).1; omega), newsAt_spots h]
theorem fillV_here {l : List DFlow} {pages : List Int} {k i : Nat} : fillV l pages (placesTo l k ++ spots k i) (k, i) = fillAt l pages k i := by
  unfold fillV fillAt
  cases h : l[k]? with
  | none => rfl
  | some f => simp only [newsAt_here h]
/-- Of a flow: as0 far as0 it is. -/
theorem fillPt_spots {l : List DFlow} {pages : List Int} {k j : Nat} : ∀ i, fillPt l pages (placesTo l k ++ spots k i) j = fillPt l pages (placesTo l k) j ++ (if j = k then (List.range i).map (fillAt l pages k) else [])
  | 0 => by simp [spots]
  | i + 1 => by
    rw [spots_succ, ← List.append_assoc]
    by_cases h : j = k
    · subst h
      rw [fillPt_same, fillPt_spots i, if_pos rfl, if_pos rfl, fillV_here, List.range_succ, List.map_append, List.append_assoc]; rfl
    · rw [fillPt_other h, fillPt_spots i, if_neg h, if_neg h]
theorem fillPt_to {l : List DFlow} {pages : List Int} {j : Nat} : ∀ k, fillPt l pages (placesTo l k) j = if j < k then fillFlow l pages j (piecesAt l j) else []
  | 0 => by simp [placesTo, fillPt, fillSeq]
  | k + 1 => by
    have e : placesTo l (k + 1) = placesTo l k ++ spots k (piecesAt l k) := by
      unfold placesTo
      rw [List.range_succ, List.map_append, List.flatten_append]
      simp
    rw [e, fillPt_spots, fillPt_to k]
    rcases Nat.lt_trichotomy j k with h | h | h
    · rw [if_pos h, if_neg (by omega), if_pos (by omega), List.append_nil]
    · subst h; rw [if_neg (by omega), if_pos rfl, if_pos (by omega), List.nil_append]; rfl
    · rw [if_neg (by omega), if_neg (by omega), if_neg (by omega)]; rfl
theorem fillPt_all {l : List DFlow} {pages : List Int} {j : Nat} {f : DFlow} (h : l[j]? = some f) : fillPt l pages (placesTo l l.length) j = fillFlow l pages j (pieceCount f) := by
  rw [fillPt_to, if_pos (List.getElem?_eq_some_iff.1 h).1]
  unfold piecesAt
  rw [h]
theorem fillPt_len {l : List DFlow} {pages : List Int} {k i : Nat} : (fillPt l pages (placesTo l k ++ spots k i) k).length ≤ i := by
  rw [fillPt_spots, fillPt_to, if_neg (by omega), if_pos rfl]
  simp
theorem fillOf_get {l : List DFlow} {pages : List Int} {j : Nat} {x : DFlow} (h : (fillOf l pages)[j]? = some x) : ∃ f, l[j]? = some f ∧ x = ⟨f.key, f.data, fillFlow l pages j (pieceCount f)⟩ := by
  unfold fillOf at h
  rw [List.getElem?_map] at h
  obtain ⟨j', hj', h⟩ := Option.map_eq_some_iff.1 h
  obtain ⟨hl, e⟩ := List.getElem?_eq_some_iff.1 hj'
  rw [List.getElem_range] at e
  subst e
  rw [List.length_range] at hl
  rw [List.getElem?_eq_getElem hl] at h
  exact ⟨l[j], List.getElem?_eq_getElem hl, h.symm⟩
theorem fillOf_len (l : List DFlow) (pages : List Int) : (fillOf l pages).length = l.length := by unfold fillOf; simp
/-- A piece without a page finds one. -/
theorem news_room {l : List DFlow} {k i : Nat} {f : DFlow} (h : l[k]? = some f) (hi : i < pieceCount f) (hz : pageAt f i < 0) : (newsAt l (placesTo l k ++ spots k i)).length < (newsOf l).length := by
  rw [newsAt_here h]
  have hk := (List.getElem?_eq_some_iff.1 h).1
  have h1 : newsOf l = newsOf (l.take (k + 1)) ++ newsOf (l.drop (k + 1)) := by
    unfold newsOf
    rw [← List.flatten_append, ← List.map_append, List.take_append_drop]
  have h2 : (newsTo f (i + 1)).length = (newsTo f i).length + 1 := by rw [newsTo_succ, if_pos hz]; simp
  have h3 : ∀ d, (newsTo f (i + 1)).length ≤ (newsTo f (i + 1 + d)).length := by
    intro d
    induction d with
    | zero => exact Nat.le_refl _
    | succ d ih =>
      have e := newsTo_succ f (i + 1 + d)
      rw [show i + 1 + (d + 1) = (i + 1 + d) + 1 by omega, e, List.length_append]
      omega
  have h4 := h3 (pieceCount f - (i + 1))
  rw [show i + 1 + (pieceCount f - (i + 1)) = pieceCount f by omega] at h4
  rw [h1, newsOf_succ h, List.length_append, List.length_append]
  omega
end Go.Proofs.YtghbfbohnoebiaaGreat
namespace Go.Proofs.YtghbfbohnoebiaaGreat
open Go.RowKit Go.Shelf
attribute [local go_sem] Oper.semAt_some

def FillPost (w : World) (x : List DFlow) (e : Ending) (w' : World) : Prop := ∃ u, e = .returned (.tuple #[u, .bool true]) ∧ rFlow.list.val (fun b => w.heap.size ≤ b) w' u x ∧ Below w.heap.size w w'

theorem cell_bound2 {W : World} {b o : Nat} {v : Value} (r : W.cell? ⟨b, o, none⟩ = some v) : b < W.heap.size := (isC_of_cell r).lt
theorem int_at2 {Q : Nat → Prop} {W : World} {A : Option Addr} {xs : List Int} (h : (Rep.int .i64).At Q W A xs) {i : Nat} {x : Int} (hx : xs[i]? = some x) :
    ∃ b off, A = some ⟨b, off, none⟩ ∧ Q b ∧ W.cell? ⟨b, off + i, none⟩ = some (.int .i64 x) ∧ (Lit.int .i64 x).wf = true := by
  obtain ⟨b, off, es, h1, h2, _, h3, h4⟩ := h.get hx
  obtain ⟨he, hw⟩ := h3
  subst he
  exact ⟨b, off, h1, h2, by simpa [Rep.int] using h4 0 _ rfl, hw⟩
theorem acc_not_box {α : Type} {r : Rep α} {e base : Nat} {Q : Nat → Prop} {w : World} {v : Value} {xs : List α} {b t : Nat} {cs : Array Value} {f : Nat × Nat} (h : r.acc e base Q w v xs) (hb : w.heap[b]? = some (.cells cs t f)) (ht : t ≠ e) : v.ownBlock ≠ some b := by
  obtain ⟨cells, h1, _⟩ := h
  rcases h1.2 with ⟨rfl, _⟩ | ⟨g, cap, cur, rfl, _, hg, _⟩
  · intro h; cases h
  · intro h
    injection h with h
    have h2 : g = b := h
    rw [h2, hb] at hg
    injection hg with hg
    injection hg with _ hg
    exact ht hg
/-- The flows' pages, so far. -/
def Filled (l : List DFlow) (pages : List Int) (R base : Nat) (ps : List (Nat × Nat)) (W : World) : Prop :=
  ∃ vs : Nat → Value, (∀ j, j < l.length → W.cell? ⟨R, j * 5 + 4, none⟩ = some (vs j) ∧ (Rep.int .i64).acc 3 base (fun _ => False) W (vs j) (fillPt l pages ps j)) ∧ (∀ j j' g, j < l.length → j' < l.length → (vs j).ownBlock = some g → (vs j').ownBlock = some g → j = j')
theorem filled_own (l : List DFlow) (pages : List Int) (R base B : Nat) : OwnFrom B (fun (pre : List Spot) W => Filled l pages R base (pre.map Prod.fst) W) := by
  rintro s X Y row ⟨vs, h1, h2⟩ hg hrow
  have hne : ∀ b, IsC X b → some b ≠ row := fun b hb e => by
    obtain ⟨_, o, ho, hc⟩ := hrow b e.symm
    obtain ⟨c, e', f, hb⟩ := hb
    rw [hb] at ho; cases ho; cases hc
  refine ⟨vs, fun j hj => ?_, h2⟩
  obtain ⟨hc, ha⟩ := h1 j hj
  have hR := isC_of_cell hc
  exact ⟨(World.cell?_of_block (w := X) (a := ⟨R, j * 5 + 4, none⟩) (hg.block R hR.lt (hne R hR))).trans hc, Rep.acc_keep (fun b _ hb => hg.block b hb.lt (hne b hb)) (fun _ hb _ => hb) ha⟩

set_option maxRecDepth 100000 in
set_option maxHeartbeats 2000000 in
/-- plan.Fill -/
theorem fill_calls {w : World} {vl vp : Value} {l : List DFlow} {pages : List Int} (hl : rFlow.list.val (fun b => b < w.heap.size) w vl l) (hp : (Rep.int .i64).list.val (fun b => b < w.heap.size) w vp pages) (hd : ∀ f ∈ l, f.data.length ≤ 1000000) (hn : l.length ≤ 100000) (he : (newsOf l).length = pages.length) :
    Calls Tryz.prog 115 #[vl, vp] w (FillPost w (fillOf l pages)) := by
  obtain ⟨Al, cl, rfl, hl1, hl2, hL⟩ := Rep.val_list hl
  obtain ⟨Ap, cp, rfl, hp1, hp2, hP⟩ := Rep.val_list hp
  refine (callsIn_wide (n := 9)).1 ?_
  refine callsIn_of_wp_marks Tryz.func115 rfl trivial ?_ rfl
  simp only [Tryz.ntmps115, List.size_toArray, List.length_cons, List.length_nil, Nat.reduceAdd, Nat.reduceSub, Array.replicate_succ, Array.replicate_zero, List.push_toArray, List.append_toArray, List.nil_append, List.cons_append]
  have HL := Lib.hid hL
  have HP := Lib.hid hP
  have HD := Lib.hid hd
  have HN := Lib.hid hn
  have HE := Lib.hid he
  have hl3 : (l.length : Int) ≤ 100000 := by omega
  unfold maxLen at hl2 hp2
  clear hL hP hl hp hd hn he
  gi_wp2
  have bL := Boxed.new w 38 (.slice Al l.length cl)
  have bP := Boxed.new (w.alloc (.cells #[.slice Al l.length cl] 38)) 35 (.slice Ap pages.length cp)
  simp only [World.size_alloc] at bP
  obtain ⟨W0, hW0⟩ : ∃ W0, (w.alloc (.cells #[.slice Al l.length cl] 38)).alloc (.cells #[.slice Ap pages.length cp] 35) = W0 := ⟨_, rfl⟩
  have hsz : W0.heap.size = w.heap.size + 2 := by rw [← hW0]; simp
  have hB0 : Below w.heap.size w W0 := by rw [← hW0]; exact ((Below.refl _ w).alloc (Nat.le_refl _) _).alloc (by simp) _
  replace bL : Boxed W0 w.heap.size 38 (.slice Al l.length cl) := by rw [← hW0]; exact bL.alloc _
  replace bP : Boxed W0 (w.heap.size + 1) 35 (.slice Ap pages.length cp) := by rw [← hW0]; exact bP
  rw [hW0]
  clear hW0
  obtain ⟨n0, hn0⟩ : ∃ n0, w.heap.size = n0 := ⟨_, rfl⟩
  have HL1 := Lib.hid (show ∀ W, Below n0 w W → rFlow.At (fun b => b < n0) W Al l from fun W h => by subst hn0; exact HL.out.below h (fun _ h _ => h))
  have HP1 := Lib.hid (show ∀ W, Below n0 w W → (Rep.int .i64).At (fun b => b < n0) W Ap pages from fun W h => by subst hn0; exact HP.out.below h (fun _ h _ => h))
  rw [hn0] at hsz hB0 bL bP ⊢
  have HSZ := Lib.hid hsz
  have HN0 := Lib.hid hn0
  have HB0 := Lib.hid hB0
  have HBL := Lib.hid bL
  have HBP := Lib.hid bP
  clear hsz hn0 hB0 bL bP HL HP
  refine wpIn_wide.2 ?_
  refine wp_region_noPanic ?_
  refine wp_region_held_drew (S := fun V => Below W0.heap.size W0 V) (by kernel_rfl) ((Below.refl _ _).drew) (fun s0 => ?_)
  obtain ⟨v1, hv1⟩ : ∃ V, V = W0.drew := ⟨_, rfl⟩
  rw [← hv1] at s0 ⊢
  have t1 : Below W0.heap.size W0 v1 := s0
  clear hv1 s0
  refine tkH (i := 0) (v := .slice Al l.length cl) rfl (Or.inl ⟨by rfl, fun w' h => by have x := ((h : Below W0.heap.size W0 w').block _ HBL.out.lt).trans HBL.out; have x0 := cell_row x 0; go_simp⟩) t1 ?_
  go_simp
  refine tkH (i := 3) (v := .slice Ap pages.length cp) rfl (Or.inl ⟨by rfl, fun w' h => by have x := ((h : Below W0.heap.size W0 w').block _ HBP.out.lt).trans HBP.out; have x0 := cell_row x 0; go_simp⟩) t1 ?_
  go_simp
  refine tkHV (i := 4) (v := .int .i64 pages.length) rfl t1 ?_
  go_simp
  refine wpAnyH_all (rs := [1]) (by kernel_rfl) (by simp) ?_
  intro i2 hi2
  obtain rfl : i2 = 1 := by simpa using hi2
  clear hi2
  refine wpOp_step rfl (fun K hK => ?_)
  go_simp
  refine (news_calls (Rep.val_keep (Q := fun b => b < n0) (Q' := fun b => b < v1.heap.size) (fun b hb _ => ⟨by have := t1.size; have := HSZ.out; omega, rfl⟩) (Rep.list_val rfl hl1 (by unfold maxLen; exact hl2) (HL1.out _ (HB0.out.trans (t1.mono (by have := HSZ.out; omega))))) : _) HD.out HN.out).mono ?_
  rintro e v2 ⟨u2, rfl, hu2, hb2⟩
  have t2 : Below W0.heap.size W0 v2 := t1.trans (hb2.mono t1.size)
  obtain ⟨A2, c2, rfl, _, _, _⟩ := Rep.val_list hu2
  rw [HE.out]
  clear hb2 hu2
  refine hK _ _ ⟨t2, ?_⟩
  clear hK K
  refine tkHV (i := 2) (v := .int .i64 pages.length) rfl t2 ?_
  go_simp
  refine tkHV (i := 5) (v := .bool false) rfl t2 ?_
  go_simp
  refine wpAnyH_done (by kernel_rfl) ?_ _
  refine NoPanic.normal ?_
  have T2 := Lib.hid t2
  obtain ⟨O, hO⟩ : ∃ O, v2.heap.size = O := ⟨_, rfl⟩
  have hO2 : n0 + 2 ≤ O := by rw [← hO, ← HSZ.out]; exact t2.size
  have bO := Boxed.new v2 38 (.slice none 0 0)
  obtain ⟨W3, hW3⟩ : ∃ W3, v2.alloc (.cells #[.slice none 0 0] 38) = W3 := ⟨_, rfl⟩
  have hB3 : Below v2.heap.size v2 W3 := by rw [← hW3]; exact (Below.refl _ _).alloc (Nat.le_refl _) _
  have hS3 : O < W3.heap.size := by rw [← hW3, ← hO]; simp
  rw [hW3] at bO
  have hBW3 : Below n0 w W3 := HB0.out.trans ((t2.trans (hB3.mono t2.size)).mono (by have := HSZ.out; omega))
  have hbl3 : Boxed W3 n0 38 (.slice Al l.length cl) := ((t2.trans (hB3.mono t2.size)).block _ HBL.out.lt).trans HBL.out
  have hbp3 : Boxed W3 (n0 + 1) 35 (.slice Ap pages.length cp) := ((t2.trans (hB3.mono t2.size)).block _ HBP.out.lt).trans HBP.out
  rw [hO] at bO
  have HO := Lib.hid hO
  have HO2 := Lib.hid hO2
  have HBO := Lib.hid bO
  have HBW3 := Lib.hid hBW3
  have HBL3 := Lib.hid hbl3
  have HBP3 := Lib.hid hbp3
  have c0 := hbl3.cell
  rw [← hW3] at c0
  have HW3 := Lib.hid hW3
  clear hO hO2 bO hW3 hB3 hS3 hBW3 hbl3 hbp3 t1 t2
  gi_wp2
  try rw [HW3.out]
  try rw [HO.out]
  clear c0
  refine wpIn_wide.2 ?_
  obtain ⟨next, hnext⟩ : ∃ next : List DStream, next = l.map fun f => ⟨f.key, f.data⟩ := ⟨_, rfl⟩
  have hnl : next.length = l.length := by rw [hnext, List.length_map]
  have HNL := Lib.hid hnl
  have HNG := Lib.hid (show ∀ (k : Nat) (f : DFlow), l[k]? = some f → next[k]? = some ⟨f.key, f.data⟩ from fun k f hk => by rw [hnext, List.getElem?_map, hk]; rfl)
  have HNB := Lib.hid (show ∀ (k : Nat) (s : DStream), next[k]? = some s → ∃ f, l[k]? = some f ∧ s = ⟨f.key, f.data⟩ from fun k s hk => by
    rw [hnext, List.getElem?_map] at hk
    obtain ⟨f, hf, rfl⟩ := Option.map_eq_some_iff.1 hk
    exact ⟨f, hf, rfl⟩)
  clear hnext hnl
  go_loopw [20] (fun i wr => ∃ k : Nat, i = .int .i64 k ∧ k ≤ l.length ∧ Hid (Below n0 w wr ∧ Boxed wr n0 38 (.slice Al l.length cl) ∧ Boxed wr (n0 + 1) 35 (.slice Ap pages.length cp)) ∧ Hid (∃ v, Boxed wr O 38 v ∧ rBare.acc 116 (O + 1) (fun b => O + 1 ≤ b) wr v (next.take k))) (fun i _ => l.length - (intOf i).toNat)
  case atStart => exact ⟨0, rfl, Nat.zero_le _, Lib.hid ⟨HBW3.out, HBL3.out, HBP3.out⟩, Lib.hid ⟨_, HBO.out, Rep.acc_nil⟩⟩
  case round =>
    obtain ⟨k, rfl, hk, HBW, HV⟩ := hrel
    by_cases hlt : (k : Int) < l.length
    · obtain ⟨f, hf⟩ : ∃ f, l[k]? = some f := ⟨_, List.getElem?_eq_getElem (by omega)⟩
      have hs := HNG.out k f hf
      obtain ⟨s, hsf⟩ : ∃ s : DStream, s = ⟨f.key, f.data⟩ := ⟨_, rfl⟩
      rw [← hsf] at hs
      have hkk : s.key = f.key := by rw [hsf]
      have hdd : s.data = f.data := by rw [hsf]
      have HT := Lib.hid (show next.take (k + 1) = next.take k ++ [s] by
        obtain ⟨hk', he⟩ := List.getElem?_eq_some_iff.1 hs
        rw [List.take_succ_eq_append_getElem hk', he])
      have HLEN := Lib.hid (show (next.take k).length + 1 ≤ maxLen ∧ ((next.take k).length + 1) * 72 ≤ 140737488355328 by
        have := HN.out
        have := HNL.out
        unfold maxLen
        rw [List.length_take]
        omega)
      obtain ⟨q, hq⟩ : ∃ q, next.take k = q := ⟨_, rfl⟩
      rw [hq] at HV HT HLEN
      clear hq
      obtain ⟨v, hv, hacc⟩ := HV.out
      obtain ⟨b, off, A1, c1, A2, c2, rfl, hbc, d0, d1, d2, d3, d4, f0, f1, f2, s3, _⟩ := rFlow_at (HL1.out wr HBW.out.1) hf
      rw [← hkk] at d0 d1 d2 f0 f1 f2
      rw [← hdd] at d3 s3
      obtain ⟨W1, hW1⟩ : ∃ W1, wr.alloc (.cells #[.int .i64 s.key.kind, .int .u64 s.key.sig, .int .i64 s.key.comp, .slice A1 s.data.length c1, .slice A2 f.pages.length c2] 116) = W1 := ⟨_, rfl⟩
      have hb1 : Below wr.heap.size wr W1 := by rw [← hW1]; exact (Below.refl _ _).alloc (Nat.le_refl _) _
      have hn1 : W1.heap[wr.heap.size]? = some (.cells #[.int .i64 s.key.kind, .int .u64 s.key.sig, .int .i64 s.key.comp, .slice A1 s.data.length c1, .slice A2 f.pages.length c2] 116 (0, 0)) := by rw [← hW1]; exact heap_alloc_new _ _
      have hz1 : wr.heap.size < W1.heap.size := by rw [← hW1]; simp
      have hmo : ∀ {W'}, Below W1.heap.size W1 W' → Below wr.heap.size wr W' := fun h => hb1.trans (h.mono hb1.size)
      have HMO := Lib.hid (show ∀ W', Below W1.heap.size W1 W' → Below wr.heap.size wr W' from fun W' h => hmo h)
      have hv1 : Boxed W1 O 38 v := (hb1.block _ hv.lt).trans hv
      obtain ⟨Av, cv, rfl, _, _⟩ := Rep.acc_form hacc
      have HBOX := Lib.hid (show ∀ W', Below W1.heap.size W1 W' → Boxed W' O 38 (.slice Av q.length cv) from fun W' h => (h.block _ hv1.lt).trans hv1)
      have KB := Lib.hid (show ∀ W', Below W1.heap.size W1 W' → (W'.cell? ⟨O, 0, none⟩ = some (.slice Av q.length cv) ∧ W'.cell? ⟨wr.heap.size, 0, none⟩ = some (.int .i64 s.key.kind) ∧ W'.cell? ⟨wr.heap.size, 1, none⟩ = some (.int .u64 s.key.sig) ∧ W'.cell? ⟨wr.heap.size, 2, none⟩ = some (.int .i64 s.key.comp) ∧ W'.cell? ⟨wr.heap.size, 3, none⟩ = some (.slice A1 s.data.length c1)) from fun W' h => by
        have hn := (h.block _ hz1).trans hn1
        exact ⟨(HBOX.out W' h).cell, cell_row hn 0, cell_row hn 1, cell_row hn 2, cell_row hn 3⟩)
      have HDV := Lib.hid (show ∀ W', Below W1.heap.size W1 W' → Rep.byte.list.val (fun b => b < n0) W' (.slice A1 s.data.length c1) s.data from fun W' h => Rep.val_below s3.val (hmo h) (fun b _ hl => hl.lt))
      have HACC := Lib.hid (show ∀ W', Below W1.heap.size W1 W' → rBare.acc 116 (O + 1) (fun b => O + 1 ≤ b) W' (.slice Av q.length cv) q from fun W' h => Rep.acc_later hacc (hmo h))
      have hbas : O + 1 ≤ wr.heap.size := hv.lt
      have HBAS := Lib.hid (show ∀ W', Below W1.heap.size W1 W' → O + 1 ≤ W'.heap.size from fun W' h => Nat.le_trans hbas (hmo h).size)
      have HNE := Lib.hid (show ∀ W', Below W1.heap.size W1 W' → some O ≠ (Value.slice Av q.length cv).ownBlock from fun W' h e => by have := (Rep.acc_own hacc _ e.symm).1; omega)
      have HBARE := Lib.hid (show ∀ (A5 : Option Addr) (c5 : Nat) (w2 : World), Rep.byte.list.val (fun b => W1.heap.size ≤ b) w2 (.slice A5 s.data.length c5) s.data → W1.heap.size ≤ w2.heap.size → rBare.val (fun b => O + 1 ≤ b ∧ (Value.slice Av q.length cv).ownBlock ≠ some b) w2 (.agg #[.int .i64 s.key.kind, .int .u64 s.key.sig, .int .i64 s.key.comp, .slice A5 s.data.length c5, .slice none 0 0]) s from fun A5 c5 w2 hu _ =>
        rBare_agg f0 f1 f2 (Rep.Sl.keep (fun b hb _ => ⟨⟨Nat.le_trans (Nat.le_trans hbas (Nat.le_of_lt hz1)) hb, fun e => by have := (Rep.acc_own hacc b e).2; omega⟩, rfl⟩) (Rep.val_slice hu)))
      have HSL := Lib.hid (show s.data.length ≤ 100000000000000 from by rw [hdd]; exact Nat.le_trans (HD.out f (List.mem_of_getElem? hf)) (by decide))
      have HBA := Lib.hid hbas
      have g1 := HBW.out.2.1.cell
      clear hs hsf hkk hdd hv hacc hbc f0 f1 f2 s3 hb1 hz1 hmo hv1 hbas HV hf
      have g0 := (KB.out W1 (Below.refl _ _)).2.1
      go_wp2_with fail
      try rw [hW1]
      clear g0 g1 hW1 d0 d1 d2 d3 d4 hn1
      refine wp_region_noPanic ?_
      refine wp_region_tail (S := fun W' => Below W1.heap.size W1 W') (T := [8, 9]) (by kernel_rfl) (Below.refl _ _).drew (fun s0 => ?_)
      refine tkT (i := 0) (v := .slice Av q.length cv) rfl (Or.inl ⟨by rfl, fun w' h => by obtain ⟨x0, x1, x2, x3, x4⟩ := KB.out w' h; go_simp⟩) s0 ?_
      go_simp
      refine tkTV (i := 1) (v := .pointer (some ⟨wr.heap.size, 0, none⟩)) rfl s0 ?_
      go_simp
      refine tkT (i := 2) (v := .agg #[.int .i64 s.key.kind, .int .u64 s.key.sig, .int .i64 s.key.comp]) rfl (Or.inl ⟨by rfl, fun w' h => by obtain ⟨x0, x1, x2, x3, x4⟩ := KB.out w' h; go_simp⟩) s0 ?_
      go_simp
      refine tkTV (i := 3) (v := .pointer (some ⟨wr.heap.size, 3, none⟩)) rfl s0 ?_
      go_simp
      refine tkT (i := 4) (v := .slice A1 s.data.length c1) rfl (Or.inl ⟨by rfl, fun w' h => by obtain ⟨x0, x1, x2, x3, x4⟩ := KB.out w' h; go_simp⟩) s0 ?_
      go_simp
      refine wpAnyT_one (i := 5) rfl (by kernel_rfl) rfl (fun K hK => ?_)
      go_simp
      refine (bytesClone (HDV.out _ s0) HSL.out).mono ?_
      rintro en w2 ⟨u, rfl, hu, hb2⟩
      have s1 : Below W1.heap.size W1 w2 := s0.trans (hb2.mono s0.size)
      have HZ2 := Lib.hid (show W1.heap.size ≤ w2.heap.size from s1.size)
      have HU := Lib.hid (Rep.val_mono (Q' := fun b => W1.heap.size ≤ b) (fun b hb _ => Nat.le_trans s0.size hb) hu)
      obtain ⟨A5, c5, rfl, _, _, _⟩ := Rep.val_list hu
      clear hu hb2
      refine hK _ _ ⟨s1, ?_⟩
      clear hK K
      refine tkTV (i := 6) (v := .agg #[.int .i64 s.key.kind, .int .u64 s.key.sig, .int .i64 s.key.comp, .slice A5 s.data.length c5, .slice none 0 0]) rfl s1 ?_
      go_simp
      refine wpAnyT_one (i := 7) rfl (by kernel_rfl) rfl (fun K hK => ?_)
      refine step_run rfl (exec_buildSlice (vy := .agg #[.int .i64 s.key.kind, .int .u64 s.key.sig, .int .i64 s.key.comp, .slice A5 s.data.length c5, .slice none 0 0]) rfl (.agg #[.int .i64 0, .int .u64 0, .int .i64 0, .slice none 0 0, .slice none 0 0]) 5 Tryz.underlying38 info35' rfl rfl (by decide)) ?_
      have s2 := s1.alloc (B := W1.heap.size) s1.size (.cells (Value.cells (.agg #[.int .i64 s.key.kind, .int .u64 s.key.sig, .int .i64 s.key.comp, .slice A5 s.data.length c5, .slice none 0 0])) 116)
      refine hK _ _ ⟨s2, ?_⟩
      clear hK K
      refine wpAnyT_last (i := 8) rfl (by kernel_rfl) rfl (fun K hK => ?_)
      refine step_snoc2 rfl _ _ 38 rfl (.agg #[.int .i64 0, .int .u64 0, .int .i64 0, .slice none 0 0, .slice none 0 0]) 5 72 Tryz.underlying38 info35 rfl (by decide) rfl _ q (by exact rfl) (HACC.out _ s1) s (.agg #[.int .i64 s.key.kind, .int .u64 s.key.sig, .int .i64 s.key.comp, .slice A5 s.data.length c5, .slice none 0 0]) (HBARE.out _ _ _ HU.out HZ2.out) (by exact rfl) HLEN.out.1 HLEN.out.2 (HBAS.out _ s1) (fun v7 w7 hacc7 hgr7 hat7 => ?_)
      have hbx7 := (HBOX.out _ s1).kept hgr7 (HNE.out _ s1)
      obtain ⟨A7, c7, rfl, _, _⟩ := Rep.acc_form hacc7
      simp only [List.length_append, List.length_singleton] at hacc7 hat7
      refine hK _ _ ?_
      clear hK K
      refine wpAnyT_last (i := 9) rfl (by kernel_rfl) rfl (fun K hK => ?_)
      refine step_run_skip rfl (exec_store_box (by rfl) (by rfl) (by rfl) (by kernel_rfl) hbx7 ⟨_, _, _, rfl⟩) ?_
      refine hK _ _ ?_
      clear hK K
      refine wpAnyT_done (by kernel_rfl) ?_ _
      refine NoPanic.normal ?_
      go_wp2_with fail
      have hown7 := Rep.acc_own hacc7
      have hb2 := HMO.out _ s1
      have hba := HBA.out
      have hz2 := hb2.size
      have ho2 := HO2.out
      refine ⟨⟨k + 1, by go_num, by omega, Lib.hid ⟨?_, ?_, ?_⟩, Lib.hid ⟨_, hbx7.set _, ?_⟩⟩, by simp [intOf]; omega⟩
      · exact ((HBW.out.1.trans (hb2.mono (by omega))).grown hgr7 (by omega) (fun b hb => by have := (Rep.acc_own (HACC.out _ s1) b hb).1; omega)).setCell (p := ⟨O, 0, none⟩) (by show n0 ≤ O; omega) _
      · exact (Below.heap_setCell _ _ _ _ (show n0 ≠ O by omega)).trans ((hgr7.block n0 (by omega) (fun e => by have := (Rep.acc_own (HACC.out _ s1) n0 e.symm).1; omega)).trans ((hb2.block n0 (by omega)).trans HBW.out.2.1))
      · exact (Below.heap_setCell _ _ _ _ (show n0 + 1 ≠ O by omega)).trans ((hgr7.block (n0 + 1) (by omega) (fun e => by have := (Rep.acc_own (HACC.out _ s1) (n0 + 1) e.symm).1; omega)).trans ((hb2.block (n0 + 1) (by omega)).trans HBW.out.2.2))
      · rw [HT.out]
        exact Rep.acc_keep (fun b hb _ => Below.heap_setCell _ _ _ _ (by rcases hb with hb | hb
                                                                         · show b ≠ O; omega
                                                                         · show b ≠ O; have := (hown7 b hb).1; omega)) (fun _ hb _ => hb) hacc7
    · obtain rfl : k = l.length := by omega
      rw [← HNL.out, List.take_length] at HV
      obtain ⟨v, hv, hacc⟩ := HV.out
      have HR := Lib.hid (Rep.acc_root hacc)
      obtain ⟨Av, cv, rfl, _, _⟩ := Rep.acc_form hacc
      rw [HNL.out] at hv hacc HR
      have hc := hv.cell
      have cl0 := HBW.out.2.1.cell
      have HACC := Lib.hid hacc
      have HBX := Lib.hid hv
      clear hv hacc HV
      go_wp2_with fail
      clear hc cl0
      obtain ⟨C9, hC9⟩ : ∃ C9, wr.heap.size = C9 := ⟨_, rfl⟩
      have bC := Boxed.new wr 3 (.int .i64 0)
      have ca := (HBW.out.2.1.alloc (.cells #[.int .i64 0] 3)).cell
      gi_wp2_with (refine ⟨trivial, ?_⟩; gi_at_call 163; refine callsIn_wide.2 ((pieces_calls _ _ _ _).mono ?_); rintro e w' ⟨rfl, rfl⟩)
      have bP := Boxed.new (wr.alloc (.cells #[.int .i64 0] 3)) 38 (.slice Al l.length cl)
      simp only [World.size_alloc] at bP
      replace bC := bC.alloc (.cells #[.slice Al l.length cl] 38)
      obtain ⟨W1, hW1⟩ : ∃ W1, (wr.alloc (.cells #[.int .i64 0] 3)).alloc (.cells #[.slice Al l.length cl] 38) = W1 := ⟨_, rfl⟩
      have hsz : W1.heap.size = wr.heap.size + 2 := by rw [← hW1]; simp
      have hB1 : Below wr.heap.size wr W1 := by rw [← hW1]; exact ((Below.refl _ _).alloc (Nat.le_refl _) _).alloc (by simp) _
      rw [hW1] at bP bC ⊢
      clear hW1 ca
      try simp only [World.size_alloc]
      rw [hC9] at bC bP hsz
      have hbl : Boxed W1 n0 38 (.slice Al l.length cl) := (hB1.block _ HBW.out.2.1.lt).trans HBW.out.2.1
      have hbp : Boxed W1 (n0 + 1) 35 (.slice Ap pages.length cp) := (hB1.block _ HBW.out.2.2.lt).trans HBW.out.2.2
      have hbo : Boxed W1 O 38 (.slice Av l.length cv) := (hB1.block _ HBX.out.lt).trans HBX.out
      have hacc1 := Rep.acc_later HACC.out hB1
      have hbxl := HBX.out.lt
      have ho2 := HO2.out
      have hbw1 : Below n0 w W1 := HBW.out.1.trans (hB1.mono (by omega))
      have hn0w : n0 ≤ w.heap.size := Nat.le_of_eq HN0.out.symm
      obtain ⟨R, hRc, hRl, hRn, hRv⟩ : ∃ R, IsZ W1 R ∧ R < C9 ∧ O ≤ R ∧ (0 < l.length → (∃ n c, (Value.slice Av l.length cv) = .slice (some ⟨R, 0, none⟩) n c) ∧ O + 1 ≤ R) := by
        rcases HR.out with ⟨_, h⟩ | ⟨g, n, c, h, hb, hc⟩
        · exact ⟨O, ⟨_, _, hbo⟩, by omega, Nat.le_refl _, fun hp => by have := HNL.out; rw [h] at this; simp at this; omega⟩
        · exact ⟨g, hc.same (hB1.block g hc.lt), by have := hc.lt; omega, by omega, fun _ => ⟨⟨n, c, h⟩, hb⟩⟩
      have hcells : ∀ (j : Nat) (f : DFlow), l[j]? = some f → ∃ (A1 : Option Addr) (c1 : Nat), W1.cell? ⟨R, j * 5, none⟩ = some (.int .i64 f.key.kind) ∧ W1.cell? ⟨R, j * 5 + 1, none⟩ = some (.int .u64 f.key.sig) ∧ W1.cell? ⟨R, j * 5 + 2, none⟩ = some (.int .i64 f.key.comp) ∧ W1.cell? ⟨R, j * 5 + 3, none⟩ = some (.slice A1 f.data.length c1) ∧ W1.cell? ⟨R, j * 5 + 4, none⟩ = some (.slice none 0 0) ∧
          (Lit.int .i64 f.key.kind).wf = true ∧ (Lit.int .u64 f.key.sig).wf = true ∧ (Lit.int .i64 f.key.comp).wf = true ∧ Rep.byte.Sl (fun b => O + 1 ≤ b ∧ b < C9 ∧ b ≠ R) W1 A1 c1 f.data := fun j f hf => by
        obtain ⟨g, n, c, e, es, h5, h6⟩ := Rep.acc_get HACC.out (HNG.out j f hf)
        obtain ⟨⟨n', c', e'⟩, _⟩ := hRv (Nat.lt_of_le_of_lt (Nat.zero_le _) (List.getElem?_eq_some_iff.1 hf).1)
        obtain rfl : g = R := by rw [e'] at e; cases e; rfl
        obtain ⟨A1, c1, rfl, f0, f1, f2, f3⟩ := rBare_open h5
        have hg := hRl
        refine ⟨A1, c1, (hB1.cell (p := ⟨g, j * 5, none⟩) (by show g < _; omega)).trans (h6 0 _ rfl), (hB1.cell (p := ⟨g, j * 5 + 1, none⟩) (by show g < _; omega)).trans (h6 1 _ rfl), (hB1.cell (p := ⟨g, j * 5 + 2, none⟩) (by show g < _; omega)).trans (h6 2 _ rfl), (hB1.cell (p := ⟨g, j * 5 + 3, none⟩) (by show g < _; omega)).trans (h6 3 _ rfl), (hB1.cell (p := ⟨g, j * 5 + 4, none⟩) (by show g < _; omega)).trans (h6 4 _ rfl), f0, f1, f2,
          Rep.Sl.keep (fun b hb hl => ⟨⟨hb.1, by have := hl.lt; omega, fun e2 => hb.2 (by rw [e', e2]; rfl)⟩, hB1.block b hl.lt⟩) f3⟩
      obtain ⟨M, hM⟩ : ∃ M : Nat → Prop, M = fun off => ∃ j, j < l.length ∧ off = j * 5 + 4 := ⟨_, rfl⟩
      have hG : Two.Ground R M (fun b => b = C9) W1.heap.size W1 := ⟨hRc, by omega, Nat.le_refl _, fun b hb => by omega, fun off ho => by
        rw [hM] at ho
        obtain ⟨j, hj, rfl⟩ := ho
        obtain ⟨A1, c1, _, _, _, _, d4, _⟩ := hcells j _ (List.getElem?_eq_getElem hj)
        exact ⟨none, 0, 0, d4, fun b hb => by cases hb⟩⟩
      have hMn : ∀ j m, m < 4 → ¬ M (j * 5 + m) := fun j m hm h => by
        rw [hM] at h
        obtain ⟨j', _, h⟩ := h
        omega
      have HFC := Lib.hid (show ∀ W, Two.Seen R M (fun b => b = C9) W1 W → ∀ (j : Nat) (f : DFlow), l[j]? = some f → ∃ (A1 : Option Addr) (c1 : Nat), W.cell? ⟨R, j * 5, none⟩ = some (.int .i64 f.key.kind) ∧ W.cell? ⟨R, j * 5 + 1, none⟩ = some (.int .u64 f.key.sig) ∧ W.cell? ⟨R, j * 5 + 2, none⟩ = some (.int .i64 f.key.comp) ∧ W.cell? ⟨R, j * 5 + 3, none⟩ = some (.slice A1 f.data.length c1) ∧
          (Lit.int .i64 f.key.kind).wf = true ∧ (Lit.int .u64 f.key.sig).wf = true ∧ (Lit.int .i64 f.key.comp).wf = true ∧ Rep.byte.Sl (fun b => O + 1 ≤ b) W A1 c1 f.data from fun W hs j f hj => by
        obtain ⟨A1, c1, d0, d1, d2, d3, _, f0, f1, f2, f3⟩ := hcells j f hj
        exact ⟨A1, c1, (hs.2.cell _ (hMn j 0 (by decide))).trans d0, (hs.2.cell _ (hMn j 1 (by decide))).trans d1, (hs.2.cell _ (hMn j 2 (by decide))).trans d2, (hs.2.cell _ (hMn j 3 (by decide))).trans d3, f0, f1, f2, Rep.Sl.keep (fun b hb hl => ⟨hb.1, hs.2.block b (by have := hb.2.1; omega) hl hb.2.2 (by have := hb.2.1; omega)⟩) f3⟩)
      have HAT := Lib.hid (show ∀ W, Two.Seen R M (fun b => b = C9) W1 W → rFlow.At (fun b => b < n0) W Al l from fun W hs =>
        Rep.At.keep (w := W1) (fun b hb hc => ⟨hb, hs.2.block b (by omega) hc (by omega) (by omega)⟩) (HL1.out W1 hbw1))
      have hfl : ∀ W, Two.Seen R M (fun b => b = C9) W1 W → FlowsIn l Al (C9 + 1) cl W := fun W hs => by
        have hbx : Boxed W (C9 + 1) 38 (.slice Al l.length cl) := (hs.2.block _ (by omega) ⟨_, _, _, bP⟩ (by omega) (by omega)).trans bP
        refine ⟨hbx.cell, fun k f hk => ?_⟩
        obtain ⟨b, off, A1, c1, A2, c2, hA, hbc, d0, d1, d2, d3, d4, _, _, _, s3, _⟩ := rFlow_at (HAT.out W hs) hk
        exact ⟨b, off, A1, c1, A2, _, c2, hA, hbc.lt, d0, d1, d2, d3, d4, Rep.val_mono (fun b _ hl => hl.lt) s3.val⟩
      refine wpIn_rangeFunc_va rfl (by omega) (gf := 201) (lb := #[.pointer (some ⟨C9 + 1, 0, none⟩)]) rfl trivial (enters_of Tryz.func201 (by kernel_rfl) rfl)
        (Two.pieces_seq (n := 8) (by omega) hG hfl HD.out (by omega)) Two.Keeps.trans (fun W o _ => Two.Keeps.below ((Below.refl _ _).alloc (Nat.le_refl _) _)) (fun W l o o' _ h1 h2 _ => Two.Keeps.putObj h1 h2) (Below.refl _ _) (fun _ => rfl)
        (fun (pre : List Spot) W => ((Filled l pages R W1.heap.size (pre.map Prod.fst) W ∧ Two.Seen R M (fun b => b = C9) W1 W) ∧ Boxed W C9 3 (.int .i64 (newsAt l (pre.map Prod.fst)).length)) ∧ Below n0 w W)
        (fun _ _ _ => False)
        (OwnFrom.and (OwnFrom.and (OwnFrom.and (filled_own _ _ _ _ _) (fun _ => Two.Seen.own _ ())) (Own.from (boxed_own C9 3 (fun pre : List Spot => .int .i64 (newsAt l (pre.map Prod.fst)).length)) _)) (ownFrom_low hn0w (by omega)))
        (fun _ _ _ _ _ hs _ _ => hs)
        (Two.pieceV_own _ _ _ _ _ _)
        ⟨⟨⟨⟨fun _ => .slice none 0 0, fun j hj => ?start, fun _ _ _ _ _ h => by cases h⟩, Two.Seen.refl hG⟩, bC⟩, hbw1⟩
        (fun x b => { tmps := #[.slice Al l.length cl, .slice Ap pages.length cp, .pointer (some ⟨n0, 0, none⟩), .pointer (some ⟨n0 + 1, 0, none⟩), .slice none 0 0, .bool false, .pointer (some ⟨O, 0, none⟩), undef, u8, .pointer (some ⟨C9, 0, none⟩),
          .pointer (some ⟨b, 0, none⟩), undef, .slice Al l.length cl, .slice A2 pages.length c2, .int .i64 pages.length, .slice Ap pages.length cp, .int .i64 pages.length, .bool false, .slice Al l.length cl, .int .i64 l.length, .int .i64 l.length, .bool false,
          u22, u23, u24, u25, u26, u27, u28, u29, u30, u31, u32, u33, .slice Al l.length cl, .func (.func 201) #[] #[.pointer (some ⟨C9 + 1, 0, none⟩)], .agg #[.int .i64 x.1.1, .int .i64 x.1.2], x.2, undef, undef, undef, undef, undef, undef, undef, undef, undef, undef, undef, undef, undef, undef, undef, undef, undef, undef, undef, undef, undef, undef, undef, undef, undef, undef, undef, undef, undef, undef, undef], defers := [] })
        (fun x => .cells #[.int .i64 x.1.1, .int .i64 x.1.2] 219) ?assign ?body ?done ?stop
      case start =>
        obtain ⟨A1, c1, _, _, _, _, d4, _⟩ := hcells j _ (List.getElem?_eq_getElem hj)
        exact ⟨d4, Rep.acc_nil⟩
      case assign =>
        intro lp x W K hK
        simp only [encSpot]
        gi_wp2
        exact hK
      case body =>
        rintro lr pre ⟨⟨k, i⟩, u⟩ b W ⟨⟨⟨⟨vs, hvs, hinj⟩, _⟩, hbc9⟩, hB⟩ ⟨f, hf, hi, hpre, hseen, hu⟩ hb1 hb2 hbox
        simp only at hf hi hpre hu hbox
        clear hu
        have hk : k < l.length := (List.getElem?_eq_some_iff.1 hf).1
        obtain ⟨⟨n', c', e'⟩, hR2⟩ := hRv (by omega)
        obtain rfl : some ⟨R, 0, none⟩ = Av := by cases e'; rfl
        clear e' n' c'
        obtain ⟨hck, hak⟩ := hvs k hk
        obtain ⟨pt, hpt⟩ : ∃ pt, pageAt f i = pt := ⟨_, rfl⟩
        have HPT := Lib.hid hpt
        obtain ⟨m, hm⟩ : ∃ m, (newsAt l (pre.map Prod.fst)).length = m := ⟨_, rfl⟩
        have hbc : Boxed W C9 3 (.int .i64 m) := by rw [← hm]; exact hbc9
        clear hbc9
        have HPV := Lib.hid (show fillPt l pages ((pre ++ [((k, i), u)]).map Prod.fst) k = fillPt l pages (pre.map Prod.fst) k ++ [if 0 ≤ pt then pt else pages.getD m 0] by
          rw [List.map_append]
          refine fillPt_same.trans ?_
          unfold fillV
          simp only [hf, hpt, hm])
        have HNO := Lib.hid (show ∀ j, j ≠ k → fillPt l pages ((pre ++ [((k, i), u)]).map Prod.fst) j = fillPt l pages (pre.map Prod.fst) j from fun j hj => by rw [List.map_append]; exact fillPt_other hj)
        have HNS := Lib.hid (show (newsAt l ((pre ++ [((k, i), u)]).map Prod.fst)).length = if pt < 0 then m + 1 else m by
          rw [List.map_append]
          refine (congrArg List.length (newsAt_snoc (i := i) hf)).trans ?_
          rw [List.length_append, hm, hpt]
          split <;> simp)
        have HROOM := Lib.hid (show pt < 0 → m < pages.length from fun h => by
          rw [← HE.out, ← hm, hpre]
          exact news_room hf hi (by rw [hpt]; exact h))
        have HLEN := Lib.hid (show (fillPt l pages (pre.map Prod.fst) k).length + 1 ≤ maxLen ∧ ((fillPt l pages (pre.map Prod.fst) k).length + 1) * 8 ≤ 140737488355328 by
          have h1 : (fillPt l pages (pre.map Prod.fst) k).length ≤ i := by rw [hpre]; exact fillPt_len
          have h2 := pieceCount_le (HD.out f (List.mem_of_getElem? hf))
          unfold maxLen
          omega)
        obtain ⟨q, hq⟩ : ∃ q, fillPt l pages (pre.map Prod.fst) k = q := ⟨_, rfl⟩
        rw [hq] at hak HPV HLEN
        clear hq hm hpre
        obtain ⟨Ak, ck, hvk, _, _⟩ := Rep.acc_form hak
        rw [hvk] at hck hak
        have hRlt := hseen.1.root.lt
        have hln : (k : Int) < l.length := by omega
        have hw0 : Boxed W n0 38 (.slice Al l.length cl) := (hseen.2.block _ (by omega) ⟨_, _, _, hbl⟩ (by omega) (by omega)).trans hbl
        have hw1 : Boxed W (n0 + 1) 35 (.slice Ap pages.length cp) := (hseen.2.block _ (by omega) ⟨_, _, _, hbp⟩ (by omega) (by omega)).trans hbp
        have hwo : W.cell? ⟨O, 0, none⟩ = some (.slice (some ⟨R, 0, none⟩) l.length cv) := (World.cell?_of_block (w := W1) (a := ⟨O, 0, none⟩) (hseen.2.block O (by omega) ⟨_, _, _, hbo⟩ (by omega) (by omega))).trans hbo.cell
        have KB := Lib.hid (show ∀ W', Below W.heap.size W W' → (W'.cell? ⟨n0, 0, none⟩ = some (.slice Al l.length cl) ∧ W'.cell? ⟨b, 0, none⟩ = some (.int .i64 k) ∧ W'.cell? ⟨b, 1, none⟩ = some (.int .i64 i)) from fun W' h => by
          have hn := (h.block b hb2).trans hbox
          exact ⟨(show Boxed W' n0 38 (.slice Al l.length cl) from (h.block _ hw0.lt).trans hw0).cell, cell_row hn 0, cell_row hn 1⟩)
        obtain ⟨bl, ofl, A1, c1, A2, c2, hA, hbcl, d0, d1, d2, d3, d4, f0, f1, f2, s3, s4⟩ := rFlow_at (HAT.out W hseen) hf
        have hpw : (Lit.int .i64 pt).wf = true := by rw [← hpt]; exact pageAt_wf s4.2.2 i
        have KF := Lib.hid (show ∀ W', Below W.heap.size W W' → ((W'.cell? ⟨bl, ofl + k * 5, none⟩ = some (.int .i64 f.key.kind) ∧ W'.cell? ⟨bl, ofl + k * 5 + 1, none⟩ = some (.int .u64 f.key.sig) ∧ W'.cell? ⟨bl, ofl + k * 5 + 2, none⟩ = some (.int .i64 f.key.comp) ∧ W'.cell? ⟨bl, ofl + k * 5 + 3, none⟩ = some (.slice A1 f.data.length c1) ∧ W'.cell? ⟨bl, ofl + k * 5 + 4, none⟩ = some (.slice A2 f.pages.length c2)) ∧
            rFlow.val (fun b => b < n0) W' (.agg #[.int .i64 f.key.kind, .int .u64 f.key.sig, .int .i64 f.key.comp, .slice A1 f.data.length c1, .slice A2 f.pages.length c2]) f) from fun W' h =>
          ⟨⟨(h.cell (p := ⟨bl, ofl + k * 5, none⟩) hbcl.lt).trans d0, (h.cell (p := ⟨bl, ofl + k * 5 + 1, none⟩) hbcl.lt).trans d1, (h.cell (p := ⟨bl, ofl + k * 5 + 2, none⟩) hbcl.lt).trans d2, (h.cell (p := ⟨bl, ofl + k * 5 + 3, none⟩) hbcl.lt).trans d3, (h.cell (p := ⟨bl, ofl + k * 5 + 4, none⟩) hbcl.lt).trans d4⟩, rFlow_agg f0 f1 f2 (s3.below h (fun _ _ h => h.lt)) (s4.below h (fun _ _ h => h.lt))⟩)
        have HPGS := Lib.hid (show pt < 0 → ∃ bp op z, pages[m]? = some z ∧ Ap = some ⟨bp, op, none⟩ ∧ bp < n0 ∧ W.cell? ⟨bp, op + m, none⟩ = some (.int .i64 z) ∧ (Lit.int .i64 z).wf = true from fun h => by
          have hr := HROOM.out h
          obtain ⟨bp, op, e, h1, h2, h3⟩ := int_at2 (HP1.out W hB) (List.getElem?_eq_getElem hr)
          exact ⟨bp, op, _, List.getElem?_eq_getElem hr, e, h1, h2, h3⟩)
        have HW0 := Lib.hid hw0
        have HW1 := Lib.hid hw1
        have HWO := Lib.hid hwo
        have HBC := Lib.hid hbc
        have HVS := Lib.hid hvs
        have HINJ := Lib.hid hinj
        have HBB := Lib.hid hB
        have HSEEN := Lib.hid hseen
        have HAK := Lib.hid hak
        have HVK := Lib.hid hvk
        have HCK := Lib.hid hck
        have HRR := Lib.hid hRlt
        have HKN := Lib.hid hk
        have HSZ1 := Lib.hid hsz
        have HMM := Lib.hid hM
        have HRN := Lib.hid hRn
        have HRL := Lib.hid hRl
        have HBOX := Lib.hid hbox
        have HB2 := Lib.hid hb2
        have HB1 := Lib.hid hb1
        have HPW := Lib.hid hpw
        have HO1 := Lib.hid ho2
        have HMN := Lib.hid (show ¬ M 0 from hMn 0 0 (by decide))
        subst hA
        clear hf hi hseen hbox hvs hinj hB hak hvk hck hRlt hRl hsz hM d0 d1 d2 d3 d4 hw0 hw1 hwo hbc f0 f1 f2 s3 s4 hpt hpw hbcl hR2 hcells hMn hfl hG hbo hbl hbp hacc1 hbw1 hbxl bP bC hn0w hRc hRn hRv hB1 hb1 hb2 ho2
        refine wpIn_block ?_
        refine wpIn_seq ?_
        refine region_round_held (S := fun W' => Below W.heap.size W W') (by kernel_rfl) (by kernel_rfl) (by rintro ⟨_, _, h⟩; exact h) (Below.refl _ _).drew (fun s0 => ?_)
        refine tkH (i := 0) (v := .slice (some ⟨bl, ofl, none⟩) l.length cl) rfl (Or.inl ⟨by rfl, fun w' h => by obtain ⟨x0, x1, x2⟩ := KB.out w' h; obtain ⟨⟨y0, y1, y2, y3, y4⟩, _⟩ := KF.out w' h; go_simp⟩) s0 ?_
        go_simp
        refine tkHV (i := 1) (v := .pointer (some ⟨b, 0, none⟩)) rfl s0 ?_
        go_simp
        refine tkH (i := 2) (v := .int .i64 k) rfl (Or.inl ⟨by rfl, fun w' h => by obtain ⟨x0, x1, x2⟩ := KB.out w' h; obtain ⟨⟨y0, y1, y2, y3, y4⟩, _⟩ := KF.out w' h; go_simp⟩) s0 ?_
        go_simp
        refine tkHV (i := 3) (v := .pointer (some ⟨bl, ofl + k * 5, none⟩)) rfl s0 ?_
        go_simp
        refine tkH (i := 4) (v := .agg #[.int .i64 f.key.kind, .int .u64 f.key.sig, .int .i64 f.key.comp, .slice A1 f.data.length c1, .slice A2 f.pages.length c2]) rfl (Or.inl ⟨by rfl, fun w' h => by obtain ⟨x0, x1, x2⟩ := KB.out w' h; obtain ⟨⟨y0, y1, y2, y3, y4⟩, _⟩ := KF.out w' h; go_simp⟩) s0 ?_
        go_simp
        refine tkHV (i := 5) (v := .pointer (some ⟨b, 1, none⟩)) rfl s0 ?_
        go_simp
        refine tkH (i := 6) (v := .int .i64 i) rfl (Or.inl ⟨by rfl, fun w' h => by obtain ⟨x0, x1, x2⟩ := KB.out w' h; obtain ⟨⟨y0, y1, y2, y3, y4⟩, _⟩ := KF.out w' h; go_simp⟩) s0 ?_
        go_simp
        refine wpAnyH_all (rs := [7]) (by kernel_rfl) (by simp) ?_
        intro i2 hi2
        obtain rfl : i2 = 7 := by simpa using hi2
        clear hi2
        refine wpOp_step rfl (fun K hK => ?_)
        go_simp
        refine (planAt_calls (KF.out _ s0).2).mono ?_
        rintro en w2 ⟨rfl, hb3⟩
        have s1 : Below W.heap.size W w2 := s0.trans (hb3.mono s0.size)
        rw [HPT.out]
        clear hb3
        refine hK _ _ ⟨s1, ?_⟩
        clear hK K
        refine tkHV (i := 8) (v := .int .i64 pt) rfl s1 ?_
        go_simp
        refine wpAnyH_done (by kernel_rfl) ?_ _
        refine wpIn_seq ?_
        refine wpIn_seq ?_
        by_cases hz : pt < 0
        · have hroom := HROOM.out hz
          have HS1 := Lib.hid s1
          obtain ⟨bp, op, z, hz1, hA, hbp, hcp, hzw⟩ := HPGS.out hz
          subst hA
          have HZW := Lib.hid hzw
          have HZ1 := Lib.hid hz1
          have r1 := (show Boxed w2 (n0 + 1) 35 (.slice (some ⟨bp, op, none⟩) pages.length cp) from (s1.block _ HW1.out.lt).trans HW1.out).cell
          have hb9 : Boxed w2 C9 3 (.int .i64 m) := (s1.block _ HBC.out.lt).trans HBC.out
          have r2 := hb9.cell
          have r3 := hb9.frozen
          have r4 := (s1.cell (p := ⟨bp, op + m, none⟩) (cell_bound2 hcp)).trans hcp
          have hm1 : (m : Int) < pages.length := by omega
          have HB9 := Lib.hid hb9
          clear hb9 hcp hz1 hzw s1 s0 hbp
          refine region_round_lit (by kernel_rfl) (by rintro ⟨_, _, h⟩; exact h) ?_
          go_wp2_with fail
          refine wpIn_cond_true rfl ?_
          refine wpIn_seq ?_
          refine region_round_lit (by kernel_rfl) (by rintro ⟨_, _, h⟩; exact h) ?_
          go_wp2_with fail
          refine region_round_lit (by kernel_rfl) (by rintro ⟨_, _, h⟩; exact h) ?_
          go_wp2_with fail
          obtain ⟨W3, hW3⟩ : ∃ W3, w2.setCell ⟨C9, 0, none⟩ (.int .i64 ((m : Int) + 1)) = W3 := ⟨_, rfl⟩
          have HKF := Lib.hid (show KeepsFrom W1.heap.size W W3 from by rw [← hW3]; exact KeepsFrom.collect (row := none) HS1.out (World.grownBy.refl _ _) (fun b e => by cases e))
          have HKP := Lib.hid (show Two.Keeps R M (fun b => b = C9) W1.heap.size W W3 from by rw [← hW3]; exact Two.Keeps.side rfl (by have := HRL.out; omega) HS1.out)
          have HBK := Lib.hid (show ∀ g, g ≠ C9 → g < W.heap.size → W3.heap[g]? = W.heap[g]? from fun g h1 h2 => by rw [← hW3]; exact (Below.heap_setCell _ _ _ _ h1).trans (HS1.out.block g h2))
          have HZ3 := Lib.hid (show W.heap.size ≤ W3.heap.size from by rw [← hW3]; simpa [World.setCell] using HS1.out.size)
          have HB3 := Lib.hid (show Below n0 w W3 from by
            rw [← hW3]
            exact (HBB.out.trans (HS1.out.mono (by have := HSEEN.out.1.le; have := HSZ1.out; have := HRL.out; have := HRN.out; have := HO1.out; omega))).setCell (p := ⟨C9, 0, none⟩) (by show n0 ≤ C9; have := HRL.out; have := HRN.out; have := HO1.out; omega) _)
          have HC3 := Lib.hid (show Boxed W3 C9 3 (.int .i64 (newsAt l ((pre ++ [((k, i), u)]).map Prod.fst)).length) from by rw [HNS.out, if_pos hz, ← hW3]; exact HB9.out.set _)
          have HV3 := Lib.hid (show fillPt l pages ((pre ++ [((k, i), u)]).map Prod.fst) k = q ++ [z] from by rw [HPV.out, if_neg (by omega), List.getD_eq_getElem?_getD, HZ1.out]; rfl)
          rw [hW3]
          clear hW3 r1 r2 r3 r4 hm1 hroom
          have hX0 := HZ3.out
          have hRl := HRR.out
          have hb3 : W3.heap[b]? = some (.cells #[.int .i64 k, .int .i64 i] 219) := (HBK.out b (by have := HB1.out; have := HSZ1.out; omega) HB2.out).trans HBOX.out
          have hvs3 : ∀ j, j < l.length → W3.cell? ⟨R, j * 5 + 4, none⟩ = some (vs j) ∧ (Rep.int .i64).acc 3 W1.heap.size (fun _ => False) W3 (vs j) (fillPt l pages (pre.map Prod.fst) j) := fun j hj => by
            obtain ⟨hc, ha⟩ := HVS.out j hj
            exact ⟨(World.cell?_of_block (w := W) (a := ⟨R, j * 5 + 4, none⟩) (HBK.out R (by have := HRL.out; omega) hRl)).trans hc, Rep.acc_keep (fun b hb hl => HBK.out b (by
              rcases hb with hb | hb
              · exact hb.elim
              · have := (Rep.acc_own ha b hb).1; have := HSZ1.out; omega) hl.lt) (fun _ hb _ => hb) ha⟩
          have HSEEN3 := Lib.hid (HSEEN.out.keeps HKP.out)
          have hck3 : W3.cell? ⟨R, k * 5 + 4, none⟩ = some (.slice Ak q.length ck) := (World.cell?_of_block (w := W) (a := ⟨R, k * 5 + 4, none⟩) (HBK.out R (by have := HRL.out; omega) hRl)).trans HCK.out
          have hak3 : (Rep.int .i64).acc 3 W1.heap.size (fun _ => False) W3 (.slice Ak q.length ck) q := Rep.acc_keep (fun b hb hl => HBK.out b (by
              rcases hb with hb | hb
              · exact hb.elim
              · have := (Rep.acc_own HAK.out b hb).1; have := HSZ1.out; omega) hl.lt) (fun _ hb _ => hb) HAK.out
          have hO3 : W3.cell? ⟨O, 0, none⟩ = some (.slice (some ⟨R, 0, none⟩) l.length cv) := (World.cell?_of_block (w := W) (a := ⟨O, 0, none⟩) (HBK.out O (by have := HRL.out; have := HRN.out; omega) (cell_bound2 HWO.out))).trans HWO.out
          have hO3l := cell_bound2 hO3
          have hR3 := HSEEN3.out.1.root
          obtain ⟨SS0, hSS⟩ : ∃ SS0 : World → Prop, SS0 = fun W' => ∃ wx, Below W3.heap.size W3 wx ∧ wx.grownBy W' (Value.slice Ak q.length ck).ownBlock := ⟨_, rfl⟩
          have SS := Lib.hid (show ∀ W' wx, Below W3.heap.size W3 wx → wx.grownBy W' (Value.slice Ak q.length ck).ownBlock → SS0 W' from fun _ wx h1 h2 => by rw [hSS]; exact ⟨wx, h1, h2⟩)
          have KB3 := Lib.hid (show ∀ W', SS0 W' → (W'.cell? ⟨O, 0, none⟩ = some (.slice (some ⟨R, 0, none⟩) l.length cv) ∧ W'.cell? ⟨b, 0, none⟩ = some (.int .i64 k) ∧ W'.cell? ⟨R, k * 5 + 4, none⟩ = some (.slice Ak q.length ck)) from fun W' h => by
            rw [hSS] at h
            obtain ⟨wx, h1, h2⟩ := h
            have hz := h1.size
            have hbl : b < W3.heap.size := (isC_of_cell (cell_row hb3 0)).lt
            refine ⟨(World.cell?_of_block (w := wx) (a := ⟨O, 0, none⟩) (h2.block O (by omega) (fun e => by have := (Rep.acc_own hak3 O e.symm).1; have := HSZ1.out; have := HRL.out; have := HRN.out; omega))).trans ((h1.cell (p := ⟨O, 0, none⟩) hO3l).trans hO3),
              cell_row ((h2.block b (by omega) (fun e => acc_not_box hak3 hb3 (by decide) e.symm)).trans ((h1.block b hbl).trans hb3)) 0,
              (World.cell?_of_block (w := wx) (a := ⟨R, k * 5 + 4, none⟩) (h2.block R (by have := hR3.lt; omega) (fun e => by have := (Rep.acc_own hak3 R e.symm).1; have := HSZ1.out; have := HRL.out; omega))).trans ((h1.cell (p := ⟨R, k * 5 + 4, none⟩) hR3.lt).trans hck3)⟩)
          have HFRZ := Lib.hid (show ∀ W', SS0 W' → W'.frozen? ⟨R, k * 5 + 4, none⟩ = false from fun W' h => by
            rw [hSS] at h
            obtain ⟨wx, h1, h2⟩ := h
            have hz := h1.size
            exact IsZ.frozen (hR3.same ((h2.block R (by have := hR3.lt; omega) (fun e => by have := (Rep.acc_own hak3 R e.symm).1; have := HSZ1.out; have := HRL.out; omega)).trans (h1.block R hR3.lt))) _)
          have HACK := Lib.hid (show ∀ W', Below W3.heap.size W3 W' → (Rep.int .i64).acc 3 W1.heap.size (fun _ => False) W' (.slice Ak q.length ck) q from fun W' h => Rep.acc_later hak3 h)
          have HBAS := Lib.hid (show ∀ W', Below W3.heap.size W3 W' → W1.heap.size ≤ W'.heap.size from fun W' h => Nat.le_trans HSEEN3.out.1.le h.size)
          have HVS3 := Lib.hid hvs3
          have HCK3 := Lib.hid hck3
          have HAK3 := Lib.hid hak3
          have HRR3 := Lib.hid hR3
          have hS0 : SS0 W3.drew := SS.out _ _ (Below.refl _ _).drew (World.grownBy.refl _ _)
          clear hX0 hRl hb3 hvs3 hck3 hak3 hO3 hO3l hR3 hSS
          refine region_round_tail (S := SS0) (T := [14]) (by kernel_rfl) (by kernel_rfl) (by rintro ⟨_, _, h⟩; exact h) hS0 (fun s0 => ?_)
          have sb0 : Below W3.heap.size W3 W3.drew := (Below.refl _ _).drew
          clear hS0
          refine tkT (i := 0) (v := .slice (some ⟨R, 0, none⟩) l.length cv) rfl (Or.inl ⟨by rfl, fun w' h => by obtain ⟨x0, x1, x2⟩ := KB3.out w' h; go_simp⟩) s0 ?_
          go_simp
          refine tkTV (i := 1) (v := .pointer (some ⟨b, 0, none⟩)) rfl s0 ?_
          go_simp
          refine tkT (i := 2) (v := .int .i64 k) rfl (Or.inl ⟨by rfl, fun w' h => by obtain ⟨x0, x1, x2⟩ := KB3.out w' h; go_simp⟩) s0 ?_
          go_simp
          refine tkT (i := 3) (v := .slice (some ⟨R, 0, none⟩) l.length cv) rfl (Or.inl ⟨by rfl, fun w' h => by obtain ⟨x0, x1, x2⟩ := KB3.out w' h; go_simp⟩) s0 ?_
          go_simp
          refine tkTV (i := 4) (v := .pointer (some ⟨b, 0, none⟩)) rfl s0 ?_
          go_simp
          refine tkT (i := 5) (v := .int .i64 k) rfl (Or.inl ⟨by rfl, fun w' h => by obtain ⟨x0, x1, x2⟩ := KB3.out w' h; go_simp⟩) s0 ?_
          go_simp
          refine tkTV (i := 6) (v := .pointer (some ⟨R, k * 5, none⟩)) rfl s0 ?_
          go_simp
          refine tkTV (i := 7) (v := .pointer (some ⟨R, k * 5 + 4, none⟩)) rfl s0 ?_
          go_simp
          refine tkT (i := 8) (v := .slice Ak q.length ck) rfl (Or.inl ⟨by rfl, fun w' h => by obtain ⟨x0, x1, x2⟩ := KB3.out w' h; go_simp⟩) s0 ?_
          go_simp
          refine tkTV (i := 9) (v := .int .i64 z) rfl s0 ?_
          go_simp
          refine wpAnyT_one (i := 10) rfl (by kernel_rfl) rfl (fun K hK => ?_)
          refine step_run rfl (exec_buildSlice (vy := .int .i64 z) rfl (.int .i64 0) 1 Tryz.underlying35 info3' rfl rfl (by decide)) ?_
          have sb2 := sb0.alloc (B := W3.heap.size) sb0.size (.cells (Value.cells (.int .i64 z)) 3)
          refine hK _ _ ⟨SS.out _ _ sb2 (World.grownBy.refl _ _), ?_⟩
          clear hK K
          refine wpAnyT_one (i := 11) rfl (by kernel_rfl) rfl (fun K hK => ?_)
          refine step_snoc2 rfl _ _ 35 rfl (.int .i64 0) 1 8 Tryz.underlying35 info3 rfl (by decide) rfl _ q (by exact rfl) (HACK.out _ sb0) z (.int .i64 z) ⟨_, rfl, rfl, HZW.out⟩ (by exact rfl) HLEN.out.1 HLEN.out.2 (HBAS.out _ sb0) (fun v7 w7 hacc7 hgr7 hat7 => ?_)
          obtain ⟨A7, c7, rfl, _, _⟩ := Rep.acc_form hacc7
          simp only [List.length_append, List.length_singleton] at hacc7 hat7
          have s7 := SS.out _ _ sb0 hgr7
          refine hK _ _ ⟨s7, ?_⟩
          clear hK K
          refine tkTV (i := 12) (v := .pointer (some ⟨R, k * 5, none⟩)) rfl s7 ?_
          go_simp
          refine tkTV (i := 13) (v := .pointer (some ⟨R, k * 5 + 4, none⟩)) rfl s7 ?_
          go_simp
          refine wpAnyT_last (i := 14) rfl (by kernel_rfl) rfl (fun K hK => ?_)
          have k0 := (KB3.out _ s7).2.2
          have k1 := HFRZ.out _ s7
          go_simp
          refine hK _ _ ?_
          clear hK K
          refine wpAnyT_done (by kernel_rfl) ?_ _
          have hown7 := Rep.acc_own hacc7
          have hlr := HRL.out
          have hs1 := HSZ1.out
          have hkp : Two.Keeps R M (fun b => b = C9) W1.heap.size W3 (w7.setCell ⟨R, k * 5 + 4, none⟩ (.slice A7 (q.length + 1) c7)) :=
            Two.Keeps.collect (by rw [HMM.out]; exact ⟨k, HKN.out, rfl⟩) sb0 HCK3.out hgr7 (hat7.imp id fun e => ⟨_, e, Nat.le_succ _⟩) ⟨_, _, _, rfl⟩ hown7
          have hset : ∀ b, b ≠ R → (w7.setCell ⟨R, k * 5 + 4, none⟩ (.slice A7 (q.length + 1) c7)).heap[b]? = w7.heap[b]? := fun b hb => Below.heap_setCell _ _ _ _ hb
          have hRb := HSEEN3.out.1.lt
          have hR7 : w7.heap[R]? = W3.heap[R]? := (hgr7.block R (Nat.lt_of_lt_of_le HRR3.out.lt sb0.size) (fun e => by have := (Rep.acc_own HAK3.out R e.symm).1; omega)).trans (sb0.block R HRR3.out.lt)
          refine ⟨HKF.out.trans (KeepsFrom.collect sb0 hgr7 (Rep.acc_isC HAK3.out)), HKP.out.trans hkp, ⟨⟨⟨fun j => if j = k then .slice A7 (q.length + 1) c7 else vs j, fun j hj => ?_, fun j j' g hj hj' h1 h2 => ?_⟩, HSEEN3.out.keeps hkp⟩, ?_⟩, ?_⟩
          · by_cases e : j = k
            · subst e
              simp only [if_true]
              exact ⟨World.cell?_setCell_same w7 _ _ (KB3.out _ s7).2.2, by rw [HV3.out]; exact Rep.acc_keep (fun b hb _ => hset b (hb.elim (fun h => h.elim) fun h => by have := (hown7 b h).1; omega)) (fun _ hb _ => hb) hacc7⟩
            · simp only [if_neg e]
              obtain ⟨hc, ha⟩ := HVS3.out j hj
              refine ⟨(World.cell?_setCell_other w7 _ _ _ (fun h => by injection h with _ h; omega)).trans ((World.cell?_of_block (w := W3) (a := ⟨R, j * 5 + 4, none⟩) hR7).trans hc), ?_⟩
              rw [HNO.out j e]
              refine Rep.acc_keep (fun b hb hl => ?_) (fun _ hb _ => hb) ha
              rcases hb with hb | hb
              · exact hb.elim
              · have hbo := Rep.acc_own ha b hb
                rw [hset b (by omega), hgr7.block b (Nat.lt_of_lt_of_le hbo.2 sb0.size) (fun h => e (HINJ.out j k b hj HKN.out hb (by rw [HVK.out]; exact h.symm))), sb0.block b hbo.2]
          · have hfar : ∀ m, m < l.length → m ≠ k → (vs m).ownBlock = some g → (Value.slice A7 (q.length + 1) c7).ownBlock = some g → False := fun m hm hne e1 e2 => by
              rcases hat7 with h | h
              · exact hne (HINJ.out m k g hm HKN.out e1 (by rw [HVK.out, ← h]; exact e2))
              · rw [h] at e2
                injection e2 with e2
                have := (Rep.acc_own (HVS3.out m hm).2 g e1).2
                have := sb0.size
                omega
            by_cases e : j = k
            · by_cases e' : j' = k
              · rw [e, e']
              · simp only [if_pos e] at h1
                simp only [if_neg e'] at h2
                exact (hfar j' hj' e' h2 h1).elim
            · simp only [if_neg e] at h1
              by_cases e' : j' = k
              · simp only [if_pos e'] at h2
                exact (hfar j hj e h1 h2).elim
              · simp only [if_neg e'] at h2
                exact HINJ.out j j' g hj hj' h1 h2
          · exact (Below.heap_setCell _ _ _ _ (show C9 ≠ R by omega)).trans ((hgr7.block C9 (Nat.lt_of_lt_of_le HC3.out.lt sb0.size) (fun e => by have := (Rep.acc_own HAK3.out C9 e.symm).1; omega)).trans ((sb0.block C9 HC3.out.lt).trans HC3.out))
          · have hsw := HSEEN3.out.1.le
            have hn0R := HRN.out
            have ho1 := HO1.out
            exact ((HB3.out.trans (sb0.mono (by omega))).grown hgr7 (by have := sb0.size; omega) (fun b hb => by have := (Rep.acc_own HAK3.out b hb).1; omega)).setCell (p := ⟨R, k * 5 + 4, none⟩) (by show n0 ≤ R; omega) _
        · have HS1 := Lib.hid s1
          clear s1 s0
          refine region_round_lit (by kernel_rfl) (by rintro ⟨_, _, h⟩; exact h) ?_
          go_wp2_with fail
          refine wpIn_cond_false rfl ?_
          have HKF := Lib.hid (show KeepsFrom W1.heap.size W w2 from (KeepsOthers.of_below HS1.out).from _)
          have HKP := Lib.hid (show Two.Keeps R M (fun b => b = C9) W1.heap.size W w2 from Two.Keeps.below HS1.out)
          have HBK := Lib.hid (show ∀ g, g ≠ C9 → g < W.heap.size → w2.heap[g]? = W.heap[g]? from fun g _ h2 => HS1.out.block g h2)
          have HZ3 := Lib.hid HS1.out.size
          have HB3 := Lib.hid (show Below n0 w w2 from HBB.out.trans (HS1.out.mono (by have := HSEEN.out.1.le; have := HSZ1.out; have := HRL.out; have := HRN.out; have := HO1.out; omega)))
          have HC3 := Lib.hid (show Boxed w2 C9 3 (.int .i64 (newsAt l ((pre ++ [((k, i), u)]).map Prod.fst)).length) from by rw [HNS.out, if_neg (by omega)]; exact (HS1.out.block _ HBC.out.lt).trans HBC.out)
          have HV3 := Lib.hid (show fillPt l pages ((pre ++ [((k, i), u)]).map Prod.fst) k = q ++ [pt] from by rw [HPV.out, if_pos (by omega)])
          have HZW := Lib.hid HPW.out
          gi_wp2
          have hX0 := HZ3.out
          have hRl := HRR.out
          have hb3 : w2.heap[b]? = some (.cells #[.int .i64 k, .int .i64 i] 219) := (HBK.out b (by have := HB1.out; have := HSZ1.out; omega) HB2.out).trans HBOX.out
          have hvs3 : ∀ j, j < l.length → w2.cell? ⟨R, j * 5 + 4, none⟩ = some (vs j) ∧ (Rep.int .i64).acc 3 W1.heap.size (fun _ => False) w2 (vs j) (fillPt l pages (pre.map Prod.fst) j) := fun j hj => by
            obtain ⟨hc, ha⟩ := HVS.out j hj
            exact ⟨(World.cell?_of_block (w := W) (a := ⟨R, j * 5 + 4, none⟩) (HBK.out R (by have := HRL.out; omega) hRl)).trans hc, Rep.acc_keep (fun b hb hl => HBK.out b (by
              rcases hb with hb | hb
              · exact hb.elim
              · have := (Rep.acc_own ha b hb).1; have := HSZ1.out; omega) hl.lt) (fun _ hb _ => hb) ha⟩
          have HSEEN3 := Lib.hid (HSEEN.out.keeps HKP.out)
          have hck3 : w2.cell? ⟨R, k * 5 + 4, none⟩ = some (.slice Ak q.length ck) := (World.cell?_of_block (w := W) (a := ⟨R, k * 5 + 4, none⟩) (HBK.out R (by have := HRL.out; omega) hRl)).trans HCK.out
          have hak3 : (Rep.int .i64).acc 3 W1.heap.size (fun _ => False) w2 (.slice Ak q.length ck) q := Rep.acc_keep (fun b hb hl => HBK.out b (by
              rcases hb with hb | hb
              · exact hb.elim
              · have := (Rep.acc_own HAK.out b hb).1; have := HSZ1.out; omega) hl.lt) (fun _ hb _ => hb) HAK.out
          have hO3 : w2.cell? ⟨O, 0, none⟩ = some (.slice (some ⟨R, 0, none⟩) l.length cv) := (World.cell?_of_block (w := W) (a := ⟨O, 0, none⟩) (HBK.out O (by have := HRL.out; have := HRN.out; omega) (cell_bound2 HWO.out))).trans HWO.out
          have hO3l := cell_bound2 hO3
          have hR3 := HSEEN3.out.1.root
          obtain ⟨SS0, hSS⟩ : ∃ SS0 : World → Prop, SS0 = fun W' => ∃ wx, Below w2.heap.size w2 wx ∧ wx.grownBy W' (Value.slice Ak q.length ck).ownBlock := ⟨_, rfl⟩
          have SS := Lib.hid (show ∀ W' wx, Below w2.heap.size w2 wx → wx.grownBy W' (Value.slice Ak q.length ck).ownBlock → SS0 W' from fun _ wx h1 h2 => by rw [hSS]; exact ⟨wx, h1, h2⟩)
          have KB3 := Lib.hid (show ∀ W', SS0 W' → (W'.cell? ⟨O, 0, none⟩ = some (.slice (some ⟨R, 0, none⟩) l.length cv) ∧ W'.cell? ⟨b, 0, none⟩ = some (.int .i64 k) ∧ W'.cell? ⟨R, k * 5 + 4, none⟩ = some (.slice Ak q.length ck)) from fun W' h => by
            rw [hSS] at h
            obtain ⟨wx, h1, h2⟩ := h
            have hz := h1.size
            have hbl : b < w2.heap.size := (isC_of_cell (cell_row hb3 0)).lt
            refine ⟨(World.cell?_of_block (w := wx) (a := ⟨O, 0, none⟩) (h2.block O (by omega) (fun e => by have := (Rep.acc_own hak3 O e.symm).1; have := HSZ1.out; have := HRL.out; have := HRN.out; omega))).trans ((h1.cell (p := ⟨O, 0, none⟩) hO3l).trans hO3),
              cell_row ((h2.block b (by omega) (fun e => acc_not_box hak3 hb3 (by decide) e.symm)).trans ((h1.block b hbl).trans hb3)) 0,
              (World.cell?_of_block (w := wx) (a := ⟨R, k * 5 + 4, none⟩) (h2.block R (by have := hR3.lt; omega) (fun e => by have := (Rep.acc_own hak3 R e.symm).1; have := HSZ1.out; have := HRL.out; omega))).trans ((h1.cell (p := ⟨R, k * 5 + 4, none⟩) hR3.lt).trans hck3)⟩)
          have HFRZ := Lib.hid (show ∀ W', SS0 W' → W'.frozen? ⟨R, k * 5 + 4, none⟩ = false from fun W' h => by
            rw [hSS] at h
            obtain ⟨wx, h1, h2⟩ := h
            have hz := h1.size
            exact IsZ.frozen (hR3.same ((h2.block R (by have := hR3.lt; omega) (fun e => by have := (Rep.acc_own hak3 R e.symm).1; have := HSZ1.out; have := HRL.out; omega)).trans (h1.block R hR3.lt))) _)
          have HACK := Lib.hid (show ∀ W', Below w2.heap.size w2 W' → (Rep.int .i64).acc 3 W1.heap.size (fun _ => False) W' (.slice Ak q.length ck) q from fun W' h => Rep.acc_later hak3 h)
          have HBAS := Lib.hid (show ∀ W', Below w2.heap.size w2 W' → W1.heap.size ≤ W'.heap.size from fun W' h => Nat.le_trans HSEEN3.out.1.le h.size)
          have HVS3 := Lib.hid hvs3
          have HCK3 := Lib.hid hck3
          have HAK3 := Lib.hid hak3
          have HRR3 := Lib.hid hR3
          have hS0 : SS0 w2.drew := SS.out _ _ (Below.refl _ _).drew (World.grownBy.refl _ _)
          clear hX0 hRl hb3 hvs3 hck3 hak3 hO3 hO3l hR3 hSS
          refine region_round_tail (S := SS0) (T := [14]) (by kernel_rfl) (by kernel_rfl) (by rintro ⟨_, _, h⟩; exact h) hS0 (fun s0 => ?_)
          have sb0 : Below w2.heap.size w2 w2.drew := (Below.refl _ _).drew
          clear hS0
          refine tkT (i := 0) (v := .slice (some ⟨R, 0, none⟩) l.length cv) rfl (Or.inl ⟨by rfl, fun w' h => by obtain ⟨x0, x1, x2⟩ := KB3.out w' h; go_simp⟩) s0 ?_
          go_simp
          refine tkTV (i := 1) (v := .pointer (some ⟨b, 0, none⟩)) rfl s0 ?_
          go_simp
          refine tkT (i := 2) (v := .int .i64 k) rfl (Or.inl ⟨by rfl, fun w' h => by obtain ⟨x0, x1, x2⟩ := KB3.out w' h; go_simp⟩) s0 ?_
          go_simp
          refine tkT (i := 3) (v := .slice (some ⟨R, 0, none⟩) l.length cv) rfl (Or.inl ⟨by rfl, fun w' h => by obtain ⟨x0, x1, x2⟩ := KB3.out w' h; go_simp⟩) s0 ?_
          go_simp
          refine tkTV (i := 4) (v := .pointer (some ⟨b, 0, none⟩)) rfl s0 ?_
          go_simp
          refine tkT (i := 5) (v := .int .i64 k) rfl (Or.inl ⟨by rfl, fun w' h => by obtain ⟨x0, x1, x2⟩ := KB3.out w' h; go_simp⟩) s0 ?_
          go_simp
          refine tkTV (i := 6) (v := .pointer (some ⟨R, k * 5, none⟩)) rfl s0 ?_
          go_simp
          refine tkTV (i := 7) (v := .pointer (some ⟨R, k * 5 + 4, none⟩)) rfl s0 ?_
          go_simp
          refine tkT (i := 8) (v := .slice Ak q.length ck) rfl (Or.inl ⟨by rfl, fun w' h => by obtain ⟨x0, x1, x2⟩ := KB3.out w' h; go_simp⟩) s0 ?_
          go_simp
          refine tkTV (i := 9) (v := .int .i64 pt) rfl s0 ?_
          go_simp
          refine wpAnyT_one (i := 10) rfl (by kernel_rfl) rfl (fun K hK => ?_)
          refine step_run rfl (exec_buildSlice (vy := .int .i64 pt) rfl (.int .i64 0) 1 Tryz.underlying35 info3' rfl rfl (by decide)) ?_
          have sb2 := sb0.alloc (B := w2.heap.size) sb0.size (.cells (Value.cells (.int .i64 pt)) 3)
          refine hK _ _ ⟨SS.out _ _ sb2 (World.grownBy.refl _ _), ?_⟩
          clear hK K
          refine wpAnyT_one (i := 11) rfl (by kernel_rfl) rfl (fun K hK => ?_)
          refine step_snoc2 rfl _ _ 35 rfl (.int .i64 0) 1 8 Tryz.underlying35 info3 rfl (by decide) rfl _ q (by exact rfl) (HACK.out _ sb0) pt (.int .i64 pt) ⟨_, rfl, rfl, HZW.out⟩ (by exact rfl) HLEN.out.1 HLEN.out.2 (HBAS.out _ sb0) (fun v7 w7 hacc7 hgr7 hat7 => ?_)
          obtain ⟨A7, c7, rfl, _, _⟩ := Rep.acc_form hacc7
          simp only [List.length_append, List.length_singleton] at hacc7 hat7
          have s7 := SS.out _ _ sb0 hgr7
          refine hK _ _ ⟨s7, ?_⟩
          clear hK K
          refine tkTV (i := 12) (v := .pointer (some ⟨R, k * 5, none⟩)) rfl s7 ?_
          go_simp
          refine tkTV (i := 13) (v := .pointer (some ⟨R, k * 5 + 4, none⟩)) rfl s7 ?_
          go_simp
          refine wpAnyT_last (i := 14) rfl (by kernel_rfl) rfl (fun K hK => ?_)
          have k0 := (KB3.out _ s7).2.2
          have k1 := HFRZ.out _ s7
          go_simp
          refine hK _ _ ?_
          clear hK K
          refine wpAnyT_done (by kernel_rfl) ?_ _
          have hown7 := Rep.acc_own hacc7
          have hlr := HRL.out
          have hs1 := HSZ1.out
          have hkp : Two.Keeps R M (fun b => b = C9) W1.heap.size w2 (w7.setCell ⟨R, k * 5 + 4, none⟩ (.slice A7 (q.length + 1) c7)) :=
            Two.Keeps.collect (by rw [HMM.out]; exact ⟨k, HKN.out, rfl⟩) sb0 HCK3.out hgr7 (hat7.imp id fun e => ⟨_, e, Nat.le_succ _⟩) ⟨_, _, _, rfl⟩ hown7
          have hset : ∀ b, b ≠ R → (w7.setCell ⟨R, k * 5 + 4, none⟩ (.slice A7 (q.length + 1) c7)).heap[b]? = w7.heap[b]? := fun b hb => Below.heap_setCell _ _ _ _ hb
          have hRb := HSEEN3.out.1.lt
          have hR7 : w7.heap[R]? = w2.heap[R]? := (hgr7.block R (Nat.lt_of_lt_of_le HRR3.out.lt sb0.size) (fun e => by have := (Rep.acc_own HAK3.out R e.symm).1; omega)).trans (sb0.block R HRR3.out.lt)
          refine ⟨HKF.out.trans (KeepsFrom.collect sb0 hgr7 (Rep.acc_isC HAK3.out)), HKP.out.trans hkp, ⟨⟨⟨fun j => if j = k then .slice A7 (q.length + 1) c7 else vs j, fun j hj => ?_, fun j j' g hj hj' h1 h2 => ?_⟩, HSEEN3.out.keeps hkp⟩, ?_⟩, ?_⟩
          · by_cases e : j = k
            · subst e
              simp only [if_true]
              exact ⟨World.cell?_setCell_same w7 _ _ (KB3.out _ s7).2.2, by rw [HV3.out]; exact Rep.acc_keep (fun b hb _ => hset b (hb.elim (fun h => h.elim) fun h => by have := (hown7 b h).1; omega)) (fun _ hb _ => hb) hacc7⟩
            · simp only [if_neg e]
              obtain ⟨hc, ha⟩ := HVS3.out j hj
              refine ⟨(World.cell?_setCell_other w7 _ _ _ (fun h => by injection h with _ h; omega)).trans ((World.cell?_of_block (w := w2) (a := ⟨R, j * 5 + 4, none⟩) hR7).trans hc), ?_⟩
              rw [HNO.out j e]
              refine Rep.acc_keep (fun b hb hl => ?_) (fun _ hb _ => hb) ha
              rcases hb with hb | hb
              · exact hb.elim
              · have hbo := Rep.acc_own ha b hb
                rw [hset b (by omega), hgr7.block b (Nat.lt_of_lt_of_le hbo.2 sb0.size) (fun h => e (HINJ.out j k b hj HKN.out hb (by rw [HVK.out]; exact h.symm))), sb0.block b hbo.2]
          · have hfar : ∀ m, m < l.length → m ≠ k → (vs m).ownBlock = some g → (Value.slice A7 (q.length + 1) c7).ownBlock = some g → False := fun m hm hne e1 e2 => by
              rcases hat7 with h | h
              · exact hne (HINJ.out m k g hm HKN.out e1 (by rw [HVK.out, ← h]; exact e2))
              · rw [h] at e2
                injection e2 with e2
                have := (Rep.acc_own (HVS3.out m hm).2 g e1).2
                have := sb0.size
                omega
            by_cases e : j = k
            · by_cases e' : j' = k
              · rw [e, e']
              · simp only [if_pos e] at h1
                simp only [if_neg e'] at h2
                exact (hfar j' hj' e' h2 h1).elim
            · simp only [if_neg e] at h1
              by_cases e' : j' = k
              · simp only [if_pos e'] at h2
                exact (hfar j hj e h1 h2).elim
              · simp only [if_neg e'] at h2
                exact HINJ.out j j' g hj hj' h1 h2
          · exact (Below.heap_setCell _ _ _ _ (show C9 ≠ R by omega)).trans ((hgr7.block C9 (Nat.lt_of_lt_of_le HC3.out.lt sb0.size) (fun e => by have := (Rep.acc_own HAK3.out C9 e.symm).1; omega)).trans ((sb0.block C9 HC3.out.lt).trans HC3.out))
          · have hsw := HSEEN3.out.1.le
            have hn0R := HRN.out
            have ho1 := HO1.out
            exact ((HB3.out.trans (sb0.mono (by omega))).grown hgr7 (by have := sb0.size; omega) (fun b hb => by have := (Rep.acc_own HAK3.out b hb).1; omega)).setCell (p := ⟨R, k * 5 + 4, none⟩) (by show n0 ≤ R; omega) _
      case done =>
        rintro D ys W hD hys ⟨⟨⟨⟨vs, hvs, _⟩, hseen⟩, _⟩, hB⟩ hK
        have hc : W.cell? ⟨O, 0, none⟩ = some (.slice Av l.length cv) := by
          by_cases e : O = R
          · rw [e, hseen.2.cell 0 (hMn 0 0 (by decide)), ← e]; exact hbo.cell
          · exact (World.cell?_of_block (w := W1) (a := ⟨O, 0, none⟩) (hseen.2.block O (by omega) ⟨_, _, _, hbo⟩ e (by omega))).trans hbo.cell
        have HFC1 := Lib.hid (HFC.out W hseen)
        have HVS := Lib.hid hvs
        gi_wp2
        refine ⟨by simp, .inl ⟨_, _, rfl, run_takeDeferred hK, ?_⟩⟩
        obtain ⟨es, h3, h4⟩ := Rep.At.of_cells (r := rFlow) (Q := fun b => n0 ≤ b) (w := W) (b := R) (xs := fillOf l pages) 0 (fun j x hx => by
          obtain ⟨f, hf, rfl⟩ := fillOf_get hx
          obtain ⟨A1, c1, d0, d1, d2, d3, f0, f1, f2, f3⟩ := HFC1.out j f hf
          obtain ⟨d4, ha⟩ := HVS.out j (List.getElem?_eq_some_iff.1 hf).1
          rw [hys, fillPt_all hf] at ha
          obtain ⟨Aj, cj, e, _, _⟩ := Rep.acc_form ha
          rw [e] at d4 ha
          refine ⟨_, rFlow_mk (x := ⟨f.key, f.data, fillFlow l pages j (pieceCount f)⟩) f0 f1 f2 (Rep.Sl.keep (fun b hb _ => ⟨by omega, rfl⟩) f3) (Rep.Sl.keep (Q := fun b => W1.heap.size ≤ b) (fun b hb _ => ⟨by omega, rfl⟩) (Rep.val_slice (Rep.acc_fresh ha))), fun m u hm => ?_⟩
          rw [rFlow_size, Nat.zero_add]
          match m, hm with
          | 0, hm => cases hm; exact d0
          | 1, hm => cases hm; exact d1
          | 2, hm => cases hm; exact d2
          | 3, hm => cases hm; exact d3
          | 4, hm => cases hm; exact d4
          | m + 5, hm => cases hm)
        have hfl2 : (fillOf l pages).length = l.length := fillOf_len l pages
        have hat : rFlow.At (fun b => n0 ≤ b) W Av (fillOf l pages) := ⟨es, h3, fun hp => by
          rw [hfl2] at hp
          obtain ⟨⟨n', c', e'⟩, _⟩ := hRv hp
          exact ⟨R, 0, by cases e'; rfl, by omega, hseen.1.root.isC, h4⟩⟩
        have hac2 := Rep.acc_form hacc1
        rw [HNL.out] at hac2
        obtain ⟨_, _, ec, hcv1, hcv2⟩ := hac2
        cases ec
        have hval : rFlow.list.val (fun b => n0 ≤ b) (W.putObj D (.deferred none)) (.slice Av l.length cv) (fillOf l pages) :=
          Rep.val_keep (w := W) (fun b' hb' hl => ⟨hb', World.putObj_heap_other (fun e => by
            subst e
            obtain ⟨_, _, _, hl⟩ := hl
            rw [hK] at hl; cases hl)⟩) (Rep.list_val hfl2.symm hcv1 hcv2 hat)
        refine ⟨_, results_tmp2 rfl _ _ _, _, rfl, ?_, ?_⟩
        · rw [HN0.out]; exact hval
        · rw [HN0.out]; exact hB.trans (belowK_b (w := w) (Nat.le_of_eq HN0.out.symm) W D _ _ (by have := HN0.out; omega) hK rfl rfl)
      case stop =>
        rintro D c pre W _ h _
        exact h.elim
end Go.Proofs.YtghbfbohnoebiaaGreat
