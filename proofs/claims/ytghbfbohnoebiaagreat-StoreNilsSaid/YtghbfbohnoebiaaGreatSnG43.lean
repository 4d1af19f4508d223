/- Texts on which the proofs stand: LayMath, StoreFits. No condition is laid on any input. -/
import Derived.Test.YtghbfbohnoebiaaGreatSnG39
import Derived.Test.YtghbfbohnoebiaaGreatSnG40
namespace Go.Proofs.YtghbfbohnoebiaaGreat
open Go.RowKit Go.Shelf

theorem nums_len2 (ps : List Int) : (ps.map (num 2)).flatten.length = 2 * ps.length := by
  induction ps with
  | nil => rfl
  | cons p ps ih =>
    have h : (num 2 p).length = 2 := by simp [num]; rfl
    rw [List.map_cons, List.flatten_cons, List.length_append, ih, h, List.length_cons]; omega
theorem entBytes_len2 (e : DEntry) : (entBytes e).length = 16 + 2 * e.pages.length := by
  unfold entBytes
  rw [List.length_append, nums_len2]
  have h : (entHead e).length = 16 := by simp [entHead, num]; rfl
  rw [h]
theorem dirFlows_length : ∀ l : List DFlow, (dirFlows l).length = 2 + (l.map fun f => 16 + 2 * f.pages.length).sum := by
  intro l
  unfold dirFlows dirBytes
  rw [List.length_append, List.length_flatten, List.map_map, List.map_map]
  have h : (num 2 (l.map entryOf).length).length = 2 := by simp [num]; rfl
  rw [h]
  congr 2
  apply List.map_congr_left
  intro f _
  exact entBytes_len2 (entryOf f)
theorem fillFlow_len (l : List DFlow) (pages : List Int) (j n : Nat) : (fillFlow l pages j n).length = n := by simp [fillFlow]
theorem fillOf_dir {fl : List DFlow} {pages : List Int} (h : ∀ f ∈ fl, f.pages.length = pieceCount f) : (dirFlows (fillOf fl pages)).length = (dirFlows fl).length := by
  rw [dirFlows_length, dirFlows_length]
  congr 2
  apply List.ext_getElem?
  intro j
  rw [List.getElem?_map, List.getElem?_map]
  cases hj : (fillOf fl pages)[j]? with
  | none =>
    have := List.getElem?_eq_none_iff.1 hj
    rw [fillOf_len] at this
    rw [List.getElem?_eq_none this]
  | some x =>
    obtain ⟨f, hf, rfl⟩ := fillOf_get hj
    rw [hf]
    simp only [Option.map_some, fillFlow_len, h f (List.mem_of_getElem? hf)]
theorem flowsOf_pages {old : List DFlow} {next : List DStream} : ∀ f ∈ flowsOf old next, f.pages.length = pieceCount f := by
  intro f hf
  unfold flowsOf at hf
  obtain ⟨s, _, rfl⟩ := List.mem_map.1 hf
  simp [flowOf, pieceCount]
theorem fillOf_ok {fl : List DFlow} {pages : List Int} (h : FlowsOk fl) : FlowsOk (fillOf fl pages) := by
  refine ⟨by rw [fillOf_len]; exact h.1, fun x hx => ?_⟩
  obtain ⟨j, hj, rfl⟩ := List.getElem_of_mem hx
  obtain ⟨f, hf, e⟩ := fillOf_get (List.getElem?_eq_getElem hj)
  have := (h.2 f (List.mem_of_getElem? hf)).1
  rw [e]
  refine ⟨this, ?_⟩
  show (fillFlow fl pages j (pieceCount f)).length ≤ 300
  rw [fillFlow_len]
  unfold pieceCount
  omega
theorem pagesOf_len2 : ∀ {l : List DFlow}, (∀ f ∈ l, f.data.length ≤ 100000) → (pagesOf l).length ≤ 300 * l.length
  | [], _ => by simp [pagesOf]
  | f :: l, h => by
    have h1 := pagesOf_len2 (l := l) fun g hg => h g (by simp [hg])
    have h2 : (kept f).length ≤ 300 := by
      unfold kept keptTo
      refine Nat.le_trans (List.length_filterMap_le _ _) ?_
      rw [List.length_range]
      have := h f (by simp)
      unfold pieceCount
      omega
    unfold pagesOf at *
    rw [List.map_cons, List.flatten_cons, List.length_append, List.length_cons]
    omega
theorem takeOne_small {B : Int} {refs : List Int} (hB : 1 ≤ B) (h : SmallRefs B refs) : SmallRefs B (takeOne refs).1 := by
  unfold takeOne
  split
  · exact h
  · intro j x hx
    rw [List.getElem?_set] at hx
    split at hx
    · split at hx
      · rw [← Option.some.inj hx]; exact ⟨by decide, hB⟩
      · cases hx
    · exact h j x hx
end Go.Proofs.YtghbfbohnoebiaaGreat
namespace Go.Proofs.YtghbfbohnoebiaaGreat
open Go.RowKit

/-- Is there room? -/
def fitsFlows (fl : List DFlow) (refs : List Int) : Bool := decide (needFlows fl ≤ (freeN refs : Nat)) && decide (pageCount ((dirFlows fl).length : Nat) ≤ 222)

set_option maxRecDepth 100000 in
set_option maxHeartbeats 2000000 in
/-- store.fits -/
theorem sfits_calls {Q Q' : Nat → Prop} {W : World} {S A base : Nat} {refs : List Int} {va : Value} {Af : Option Addr} {cf : Nat} {fl : List DFlow} {v : Value} {l : List DStream} (hc : W.cell? ⟨S, 16, none⟩ = some (.slice Af fl.length cf)) (hf : rFlow.Sl Q W Af cf fl)
    (hp : W.cell? ⟨S, 18, none⟩ = some (.pointer (some ⟨A, 0, none⟩))) (ha : AllocAt W A base refs va) (hr : refs.length ≤ 1000000)
    (hx : rStream.list.val Q' W v l) (ho : FlowsOk fl) (hl : StreamsOk l) :
    Calls Tryz.prog 48 #[.pointer (some ⟨S, 0, none⟩), v] W fun e W' => e = .returned (.bool (fitsFlows (flowsOf fl l) refs)) ∧ Below W.heap.size W W' := by
  have HC := Lib.hid (next_calls hc hf hx ho hl)
  have HNE := Lib.hid (show ∀ V, Below W.heap.size W V → Calls Tryz.prog 20 #[.pointer (some ⟨S, 0, none⟩), v] V fun e W' => e = .returned (.int .i64 (needFlows (flowsOf fl l))) ∧ Below V.heap.size V W' from fun V hb =>
    need27_calls (Q := Q) (Q' := Q') (cell_call hb hc) (Rep.Sl.keep (fun b hq hl => ⟨hq, hb.block b hl.lt⟩) hf) (Rep.val_keep (fun b hq hl => ⟨hq, hb.block b hl.lt⟩) hx) ho hl)
  have HP := Lib.hid hp
  have HA := Lib.hid ha
  have HRL := Lib.hid hr
  have HR := Lib.hid (needFlows_range (flowsOf_ok (old := fl) hl))
  have hdl := dirFlows_len (flowsOf_ok (old := fl) hl)
  obtain ⟨Ax, cx, rfl, _, _, _⟩ := Rep.val_list hx
  obtain ⟨q, hq⟩ : ∃ q, flowsOf fl l = q := ⟨_, rfl⟩
  rw [hq] at HC HR hdl HNE ⊢
  obtain ⟨d, hd⟩ : ∃ d, (dirFlows q).length = d := ⟨_, rfl⟩
  have HFT := Lib.hid (show fitsFlows q refs = (decide (needFlows q ≤ (freeN refs : Nat)) && decide (pageCount (d : Nat) ≤ 222)) by unfold fitsFlows; rw [hd])
  have HDD := Lib.hid hd
  rw [hd] at hdl
  have HDL := Lib.hid hdl
  have hfr := held_free refs
  have HFR := Lib.hid (show freeN refs ≤ refs.length by omega)
  clear hc hf hp ha hr hx ho hl hq hdl hd hfr
  go_enter Tryz.func48, Tryz.ntmps48
  go_wp2_with fail
  refine HC.out.mono ?_
  rintro e w1 ⟨vf, vn, rfl, hvf, hvn, hb⟩
  have HB := Lib.hid hb
  obtain ⟨A2, c2, rfl, _, _, _⟩ := Rep.val_list hvf
  obtain ⟨A3, c3, rfl, _, _⟩ := Rep.acc_form hvn
  rw [HDD.out]
  obtain ⟨nn, hnn⟩ : ∃ nn, (newsOf q).length = nn := ⟨_, rfl⟩
  rw [hnn]
  clear hvf hvn hb hnn HC
  go_wp2_with fail
  obtain ⟨nf, hnf⟩ : ∃ nf, needFlows q = nf := ⟨_, rfl⟩
  obtain ⟨pc, hpc⟩ : ∃ pc, pageCount (d : Nat) = pc := ⟨_, rfl⟩
  obtain ⟨fn, hfn⟩ : ∃ fn, freeN refs = fn := ⟨_, rfl⟩
  rw [hnf, hpc, hfn] at HFT
  have HNF := Lib.hid hnf
  have HPC := Lib.hid hpc
  have HFN := Lib.hid hfn
  clear hnf hpc hfn
  refine wp_region_held_drew (S := fun V => Below W.heap.size W V) (by kernel_rfl) (HB.out.drew) (fun s0 => ?_)
  obtain ⟨v1, hv1⟩ : ∃ V, V = w1.drew := ⟨_, rfl⟩
  rw [← hv1] at s0 ⊢
  have t1 : Below W.heap.size W v1 := s0
  clear hv1 s0
  refine tkHV (i := 0) (v := .pointer (some ⟨S, 0, none⟩)) rfl t1 ?_
  go_simp
  refine tkHV (i := 1) (v := .slice Ax l.length cx) rfl t1 ?_
  go_simp
  refine tkHV (i := 3) (v := .pointer (some ⟨S, 0, none⟩)) rfl t1 ?_
  go_simp
  refine tkHV (i := 4) (v := .pointer (some ⟨S, 0, none⟩)) rfl t1 ?_
  go_simp
  refine tkHV (i := 5) (v := .pointer (some ⟨S, 18, none⟩)) rfl t1 ?_
  go_simp
  refine tkH (i := 6) (v := .pointer (some ⟨A, 0, none⟩)) rfl (Or.inl ⟨by rfl, fun w' h => by have e := cell_call (h : Below W.heap.size W w') HP.out; go_simp⟩) t1 ?_
  go_simp
  refine wpAnyH_all (rs := [2]) (by kernel_rfl) (by simp) ?_
  intro i2 hi2
  obtain rfl : i2 = 2 := by simpa using hi2
  clear hi2
  refine wpOp_step rfl (fun K hK => ?_)
  go_simp
  refine (HNE.out _ t1).mono ?_
  rintro e v2 ⟨rfl, hb2⟩
  rw [HNF.out]
  have t2 : Below W.heap.size W v2 := t1.trans (hb2.mono t1.size)
  clear hb2
  refine hK _ _ ⟨t2, ?_⟩
  clear hK K
  refine wpAnyH_all (rs := [7]) (by kernel_rfl) (by simp) ?_
  intro i2 hi2
  obtain rfl : i2 = 7 := by simpa using hi2
  clear hi2
  refine wpOp_step rfl (fun K hK => ?_)
  go_simp
  refine (afree_calls (HA.out.call t2) HRL.out).mono ?_
  rintro e v3 ⟨rfl, hb3⟩
  rw [HFN.out]
  have t3 : Below W.heap.size W v3 := t2.trans (hb3.mono t2.size)
  clear hb3
  refine hK _ _ ⟨t3, ?_⟩
  clear hK K
  by_cases hle : nf ≤ (fn : Int)
  · skip
    refine tkHV (i := 8) (v := .bool true) rfl t3 ?_
    go_simp
    refine tkHV (i := 9) (v := .bool true) rfl t3 ?_
    go_simp
    refine tkHV (i := 10) (v := .int .i64 d) rfl t3 ?_
    go_simp
    refine wpAnyH_all (rs := [11]) (by kernel_rfl) (by simp) ?_
    intro i2 hi2
    obtain rfl : i2 = 11 := by simpa using hi2
    clear hi2
    refine wpOp_step rfl (fun K hK => ?_)
    go_simp
    refine (count_calls (d : Int) _ (by omega) (by have := HDL.out; omega)).mono ?_
    rintro e v4 ⟨rfl, hw⟩
    obtain rfl := hw.symm
    clear hw
    rw [HPC.out]
    refine hK _ _ ⟨t3, ?_⟩
    clear hK K
    by_cases hpl : pc ≤ 222
    · skip
      refine tkHV (i := 12) (v := .bool true) rfl t3 ?_
      go_simp
      refine tkHV (i := 13) (v := .bool true) rfl t3 ?_
      go_simp
      refine tkHV (i := 14) (v := .bool true) rfl t3 ?_
      go_simp
      refine wpAnyH_done (by kernel_rfl) ?_ _
      have HE := Lib.hid (show fitsFlows q refs = true by rw [HFT.out, decide_eq_true hle, decide_eq_true (hpl)]; rfl)
      go_wp2_with fail
      go_ret
      exact ⟨by rw [HE.out]; try rfl, t3⟩
    · skip
      refine tkHV (i := 12) (v := .bool false) rfl t3 ?_
      go_simp
      refine tkHV (i := 13) (v := .bool false) rfl t3 ?_
      go_simp
      refine tkHV (i := 14) (v := .bool false) rfl t3 ?_
      go_simp
      refine wpAnyH_done (by kernel_rfl) ?_ _
      have HE := Lib.hid (show fitsFlows q refs = false by rw [HFT.out, decide_eq_true hle, decide_eq_false (by omega)]; rfl)
      go_wp2_with fail
      go_ret
      exact ⟨by rw [HE.out]; try rfl, t3⟩
  · skip
    refine tkHV (i := 8) (v := .bool false) rfl t3 ?_
    go_simp
    refine tkHV (i := 9) (v := .bool false) rfl t3 ?_
    go_simp
    refine tkH (i := 10) (v := undef) rfl (Or.inr ⟨by rfl, rfl⟩) t3 ?_
    go_simp
    refine tkH (i := 11) (v := undef) rfl (Or.inr ⟨by rfl, rfl⟩) t3 ?_
    go_simp
    refine tkH (i := 12) (v := undef) rfl (Or.inr ⟨by rfl, rfl⟩) t3 ?_
    go_simp
    refine tkHV (i := 13) (v := .bool false) rfl t3 ?_
    go_simp
    refine tkHV (i := 14) (v := .bool false) rfl t3 ?_
    go_simp
    refine wpAnyH_done (by kernel_rfl) ?_ _
    have HE := Lib.hid (show fitsFlows q refs = false by rw [HFT.out, decide_eq_false (by omega)]; rfl)
    go_wp2_with fail
    go_ret
    exact ⟨by rw [HE.out]; try rfl, t3⟩
end Go.Proofs.YtghbfbohnoebiaaGreat
