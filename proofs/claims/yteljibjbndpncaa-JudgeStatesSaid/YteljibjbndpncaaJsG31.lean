/- Texts on which the proofs stand: RFind33, JBack, L33. No condition is laid on any input. -/
import Derived.Test.YteljibjbndpncaaJsG30
namespace Go.Proofs.Yteljibjbndpncaa
open Go.RowKit

/-- Where a state stands among those behind the frames, of the first n. -/
def findsS (c : DConf) (frames : List (List DCmd)) (s : DState) (n : Nat) : List Int := ((List.range n).filter fun k => decide (stateS c frames k = s)).map fun k : Nat => (k : Int)
theorem findsS_next {c : DConf} {frames : List (List DCmd)} {s : DState} {n : Nat} : findsS c frames s (n + 1) = findsS c frames s n ++ if stateS c frames n = s then [(n : Int)] else [] := by
  unfold findsS
  rw [List.range_succ, List.filter_append, List.map_append]
  by_cases h : stateS c frames n = s <;> simp [h]
theorem findsS_len {c : DConf} {frames : List (List DCmd)} {s : DState} {n : Nat} : (findsS c frames s n).length ≤ n := by
  unfold findsS
  have := List.length_filter_le (fun k => decide (stateS c frames k = s)) (List.range n)
  rw [List.length_range] at this
  rw [List.length_map]; exact this
def backS (c : DConf) (frames : List (List DCmd)) (safe k : Int) (s : DState) : Int :=
  if k < 0 ∨ k < safe ∨ (frames.length : Int) < k then 1 else if stateS c frames k.toNat = s then 0 else 11
def FindsPost (w : World) (l : List Int) (e : Ending) (w' : World) : Prop :=
  ∃ u, e = .returned u ∧ (Rep.int .i64).list.val (fun b => w.heap.size ≤ b) w' u l ∧ Below w.heap.size w w'


set_option maxRecDepth 100000 in
set_option maxHeartbeats 4000000 in
/-- r33.Find -/
theorem rfind33_calls {Q : Nat → Prop} {w : World} {vc vf vs : Value} {c : DConf} {frames : List (List DCmd)} {s : DState}  (hc : rConf.val Q w vc c) (hf : rCmd.list.list.val Q w vf frames) (hs : rState.val Q w vs s) (hr : confRight c = true) (hl : ∀ l ∈ frames, l.length ≤ 10000) (hn : frames.length ≤ 10000) :
    Calls Try.prog 48 #[vc, vf, vs] w (FindsPost w (findsS c frames s (frames.length + 1))) := by
  have HC := Lib.hid hc
  have HL := Lib.hid hl
  have HRT := Lib.hid hr
  have HSV := Lib.hid hs
  have HNF := Lib.hid hn
  obtain ⟨A, cap, rfl, _⟩ := rConf_val hc
  obtain ⟨A1, c1, A2, c2, A3, c3, rfl, _⟩ := rState_val hs
  obtain ⟨Af, cf, rfl, mf, lf, _⟩ := Rep.val_list hf
  have HFF := Lib.hid hf
  unfold maxLen at lf
  clear hc hf hr hl hs
  obtain ⟨W0, hW0⟩ : ∃ W, ((w.alloc (.cells #[.int .i64 c.log, .int .i64 c.pages, .int .i64 c.entities, .int .i64 c.gens, .slice A c.comps.length cap] 49)).alloc (.cells #[.slice A1 s.gens.length c1, .slice A2 s.free.length c2, .slice A3 s.ents.length c3] 75)) = W := ⟨_, rfl⟩
  have hz0 : W0.heap.size = w.heap.size + 2 := by rw [← hW0]; simp
  have hb0 : Below w.heap.size w W0 := by rw [← hW0]; exact ((Below.refl _ _).alloc (Nat.le_refl _) _).alloc (by first | (simp; done) | (simp; omega)) _
  have HZ := Lib.hid hz0
  have HB0 := Lib.hid hb0
  have R0_0 := Lib.hid (show W0.heap[w.heap.size]? = some (.cells #[.int .i64 c.log, .int .i64 c.pages, .int .i64 c.entities, .int .i64 c.gens, .slice A c.comps.length cap] 49 (0, 0)) by rw [← hW0]; exact alloc_old (alloc_at rfl))
  have R1_0 := Lib.hid (show W0.heap[w.heap.size + 1]? = some (.cells #[.slice A1 s.gens.length c1, .slice A2 s.free.length c2, .slice A3 s.ents.length c3] 75 (0, 0)) by rw [← hW0]; exact alloc_at (by simp))
  have O0 := Lib.hid (Only.refl (Box w 2) W0)
  have Vc_0 := Lib.hid (show rConf.val (In Q w 2) W0 (.agg #[.int .i64 c.log, .int .i64 c.pages, .int .i64 c.entities, .int .i64 c.gens, .slice A c.comps.length cap]) c from val_in HC.out hb0)
  have Vf_0 := Lib.hid (show rCmd.list.list.val (In Q w 2) W0 (.slice Af frames.length cf) frames from val_in HFF.out hb0)
  have Vs_0 := Lib.hid (show rState.val (In Q w 2) W0 (.agg #[.slice A1 s.gens.length c1, .slice A2 s.free.length c2, .slice A3 s.ents.length c3]) s from val_in HSV.out hb0)
  clear hn
  clear hz0 hb0
  have q0_0 := rw5 R0_0.out
  have q1_0 := rw3 R1_0.out
  go_enter Try.func48, Try.ntmps48
  go_wp2_with fail
  try rw [hW0]
  clear hW0
  try go_wp2_with fail
  clear q0_0 q1_0
  go_loopw [7, 8] (fun u7 i wr => ∃ j : Nat, i = .int .i64 j ∧ j ≤ frames.length + 1 ∧ Hid ((Rep.int .i64).acc 3 W0.heap.size (fun _ => False) wr u7 (findsS c frames s j)) ∧ Hid (Below W0.heap.size W0 wr)) (fun _ i _ => frames.length + 1 - (intOf i).toNat)
  case atStart => exact ⟨0, rfl, Nat.zero_le _, Lib.hid Rep.acc_nil, Lib.hid (Below.refl _ _)⟩
  case round =>
    obtain ⟨j, rfl, hj, HA, HBR⟩ := hrel
    have S1 := Lib.hid (show Only (Box w 2) W0 wr from Only.of_below HBR.out)
    have O1 := Lib.hid (O0.out.trans S1.out)
    have R0_1 := Lib.hid (row_call HBR.out R0_0.out)
    have R1_1 := Lib.hid (row_call HBR.out R1_0.out)
    have Vc_1 := Lib.hid (val_only Vc_0.out S1.out)
    have Vf_1 := Lib.hid (val_only Vf_0.out S1.out)
    have Vs_1 := Lib.hid (val_only Vs_0.out S1.out)
    have HZW := Lib.hid (show w.heap.size + 2 ≤ wr.heap.size by have := O1.out.size; have := HZ.out; omega)
    have hnf := HNF.out
    by_cases hlt : (j : Int) ≤ frames.length
    · skip
      have HLX := Lib.hid (findsS_len (c := c) (frames := frames) (s := s) (n := j))
      obtain ⟨sk, hsk⟩ : ∃ q, stateS c frames j = q := ⟨_, rfl⟩
      have HKT := Lib.hid (show stateS c frames (j : Int).toNat = sk by rw [Int.toNat_natCast]; exact hsk)
      have HN := Lib.hid (findsS_next (c := c) (frames := frames) (s := s) (n := j))
      rw [hsk] at HN
      clear hsk
      by_cases heq : sk = s
      · skip
        have HQ := Lib.hid (show decide (sk = s) = true from decide_eq_true heq)
        rw [if_pos heq] at HN
        clear heq
        have q0_0 := cl5 R0_1.out
        have q1_0 := cl3 R1_1.out
        go_wp2_with fail
        clear q0_0 q1_0
        refine wp_region_held_drew (S := fun W => Below wr.heap.size wr W) (by kernel_rfl) ((Below.refl _ _).drew) (fun s0 => ?_)
        obtain ⟨v1, hv0⟩ : ∃ V, V = wr.drew := ⟨_, rfl⟩
        rw [← hv0] at s0 ⊢
        have t1 : Below wr.heap.size wr v1 := s0
        clear hv0 s0
        refine tkH (i := 0) (v := .agg #[.int .i64 c.log, .int .i64 c.pages, .int .i64 c.entities, .int .i64 c.gens, .slice A c.comps.length cap]) rfl (Or.inl ⟨by rfl, fun w' h => by have e := row_call (h : Below wr.heap.size wr w') R0_1.out; have e0 := cell_row e 0; have e1 := cell_row e 1; have e2 := cell_row e 2; have e3 := cell_row e 3; have e4 := cell_row e 4; go_simp⟩) t1 ?_
        go_simp
        refine tkHV (i := 1) (v := .slice Af frames.length cf) rfl t1 ?_
        go_simp
        refine tkHV (i := 2) (v := .int .i64 j) rfl t1 ?_
        go_simp
        refine tkH (i := 4) (v := .agg #[.slice A1 s.gens.length c1, .slice A2 s.free.length c2, .slice A3 s.ents.length c3]) rfl (Or.inl ⟨by rfl, fun w' h => by have e := row_call (h : Below wr.heap.size wr w') R1_1.out; have e0 := cell_row e 0; have e1 := cell_row e 1; have e2 := cell_row e 2; go_simp⟩) t1 ?_
        go_simp
        refine wpAnyH_all (rs := [3]) (by kernel_rfl) (by simp) ?_
        intro i hi
        obtain rfl : i = 3 := by simpa using hi
        clear hi
        refine wpOp_step rfl (fun K hK => ?_)
        go_simp
        refine (rstate33_calls (k := (j : Int)) (val_only Vc_1.out (Only.of_below t1)) (val_only Vf_1.out (Only.of_below t1)) HRT.out HL.out (by omega)).mono ?_
        rintro e v2 ⟨z, rfl, hz, hb⟩
        obtain ⟨D1, e1, D2, e2, D3, e3, rfl, _⟩ := rState_val hz
        rw [HKT.out] at hz ⊢
        have t2 : Below wr.heap.size wr v2 := Below.trans t1 (hb.mono (Below.size t1))
        refine hK _ _ ⟨t2, ?_⟩
        clear hb
        clear hK K
        refine wpAnyH_all (rs := [5]) (by kernel_rfl) (by simp) ?_
        intro i hi
        obtain rfl : i = 5 := by simpa using hi
        clear hi
        refine wpOp_step rfl (fun K hK => ?_)
        go_simp
        refine (rsame11_calls (val_only (val_new (w := w) (n := 2) hz (by have := HZW.out; have := Below.size t1; omega)) (Only.refl _ _)) (val_only Vs_1.out (Only.of_below t2))).mono ?_
        rintro e v3 ⟨rfl, hb⟩
        rw [HQ.out]
        have t3 : Below wr.heap.size wr v3 := Below.trans t2 (hb.mono (Below.size t2))
        refine hK _ _ ⟨t3, ?_⟩
        clear hb
        clear hK K
        refine wpAnyH_done (by kernel_rfl) ?_ _
        have S2 := Lib.hid (show Only (Box w 2) wr v3 from Only.of_below t3)
        have O2 := Lib.hid (O1.out.trans S2.out)
        have R0_2 := Lib.hid (row_call t3 R0_1.out)
        have R1_2 := Lib.hid (row_call t3 R1_1.out)
        have Vc_2 := Lib.hid (val_only Vc_1.out S2.out)
        have Vf_2 := Lib.hid (val_only Vf_1.out S2.out)
        have Vs_2 := Lib.hid (val_only Vs_1.out S2.out)
        have hbv := (show Below wr.heap.size wr v3 from t3)
        have HBV := Lib.hid (HBR.out.trans (hbv.mono HBR.out.size))
        have HAV := Lib.hid (Rep.acc_later HA.out hbv)
        clear hbv
        go_wp2_with (with_reducible refine stopOne rfl ?_)
        refine Lib.hid ?_
        refine wpList_snoc (e := 3) (base := W0.heap.size) (Q := fun _ => False) (r := Rep.int .i64) rfl rfl _ _ 27 _ rfl rfl rfl (.int .i64 0) 1 8 Try.underlying27 info3 rfl (by decide) rfl _ (findsS c frames s j) HAV.out (j : Int) _ (by exact rfl) ⟨_, rfl, rfl, wf_i64 (by omega) (by have := HNF.out; omega)⟩ (by exact rfl) (by exact rfl) (by have := HLX.out; have := HNF.out; unfold maxLen; omega) (by have := HLX.out; have := HNF.out; omega) HBV.out.size ?_
        intro s4 x4 hacc4 hgr4 hat4
        have HA4 := Lib.hid hacc4
        have HB4 := Lib.hid (Rep.acc_below HAV.out HBV.out hgr4 HBV.out.size)
        clear hacc4 hgr4 hat4
        have iw : IntKind.i64.wrap ((j : Int) + 1) = (j : Int) + 1 := IntWalk.i64_in _ ⟨by omega, by omega⟩
        go_wp2_with fail
        exact ⟨⟨j + 1, by go_num, by omega, by rw [HN.out]; exact HA4, HB4⟩, by simp [intOf]; omega⟩
      · skip
        have HQ := Lib.hid (show decide (sk = s) = false from decide_eq_false heq)
        rw [if_neg heq] at HN
        clear heq
        have q0_0 := cl5 R0_1.out
        have q1_0 := cl3 R1_1.out
        go_wp2_with fail
        clear q0_0 q1_0
        refine wp_region_held_drew (S := fun W => Below wr.heap.size wr W) (by kernel_rfl) ((Below.refl _ _).drew) (fun s0 => ?_)
        obtain ⟨v1, hv0⟩ : ∃ V, V = wr.drew := ⟨_, rfl⟩
        rw [← hv0] at s0 ⊢
        have t1 : Below wr.heap.size wr v1 := s0
        clear hv0 s0
        refine tkH (i := 0) (v := .agg #[.int .i64 c.log, .int .i64 c.pages, .int .i64 c.entities, .int .i64 c.gens, .slice A c.comps.length cap]) rfl (Or.inl ⟨by rfl, fun w' h => by have e := row_call (h : Below wr.heap.size wr w') R0_1.out; have e0 := cell_row e 0; have e1 := cell_row e 1; have e2 := cell_row e 2; have e3 := cell_row e 3; have e4 := cell_row e 4; go_simp⟩) t1 ?_
        go_simp
        refine tkHV (i := 1) (v := .slice Af frames.length cf) rfl t1 ?_
        go_simp
        refine tkHV (i := 2) (v := .int .i64 j) rfl t1 ?_
        go_simp
        refine tkH (i := 4) (v := .agg #[.slice A1 s.gens.length c1, .slice A2 s.free.length c2, .slice A3 s.ents.length c3]) rfl (Or.inl ⟨by rfl, fun w' h => by have e := row_call (h : Below wr.heap.size wr w') R1_1.out; have e0 := cell_row e 0; have e1 := cell_row e 1; have e2 := cell_row e 2; go_simp⟩) t1 ?_
        go_simp
        refine wpAnyH_all (rs := [3]) (by kernel_rfl) (by simp) ?_
        intro i hi
        obtain rfl : i = 3 := by simpa using hi
        clear hi
        refine wpOp_step rfl (fun K hK => ?_)
        go_simp
        refine (rstate33_calls (k := (j : Int)) (val_only Vc_1.out (Only.of_below t1)) (val_only Vf_1.out (Only.of_below t1)) HRT.out HL.out (by omega)).mono ?_
        rintro e v2 ⟨z, rfl, hz, hb⟩
        obtain ⟨D1, e1, D2, e2, D3, e3, rfl, _⟩ := rState_val hz
        rw [HKT.out] at hz ⊢
        have t2 : Below wr.heap.size wr v2 := Below.trans t1 (hb.mono (Below.size t1))
        refine hK _ _ ⟨t2, ?_⟩
        clear hb
        clear hK K
        refine wpAnyH_all (rs := [5]) (by kernel_rfl) (by simp) ?_
        intro i hi
        obtain rfl : i = 5 := by simpa using hi
        clear hi
        refine wpOp_step rfl (fun K hK => ?_)
        go_simp
        refine (rsame11_calls (val_only (val_new (w := w) (n := 2) hz (by have := HZW.out; have := Below.size t1; omega)) (Only.refl _ _)) (val_only Vs_1.out (Only.of_below t2))).mono ?_
        rintro e v3 ⟨rfl, hb⟩
        rw [HQ.out]
        have t3 : Below wr.heap.size wr v3 := Below.trans t2 (hb.mono (Below.size t2))
        refine hK _ _ ⟨t3, ?_⟩
        clear hb
        clear hK K
        refine wpAnyH_done (by kernel_rfl) ?_ _
        have S2 := Lib.hid (show Only (Box w 2) wr v3 from Only.of_below t3)
        have O2 := Lib.hid (O1.out.trans S2.out)
        have R0_2 := Lib.hid (row_call t3 R0_1.out)
        have R1_2 := Lib.hid (row_call t3 R1_1.out)
        have Vc_2 := Lib.hid (val_only Vc_1.out S2.out)
        have Vf_2 := Lib.hid (val_only Vf_1.out S2.out)
        have Vs_2 := Lib.hid (val_only Vs_1.out S2.out)
        have hbv := (show Below wr.heap.size wr v3 from t3)
        have HBV := Lib.hid (HBR.out.trans (hbv.mono HBR.out.size))
        have HAV := Lib.hid (Rep.acc_later HA.out hbv)
        clear hbv
        rw [List.append_nil] at HN
        go_wp2_with fail
        exact ⟨⟨j + 1, by go_num, by omega, by rw [HN.out]; exact HAV, HBV⟩, by simp [intOf]; omega⟩
    · obtain rfl : j = frames.length + 1 := by omega
      have q0_0 := cl5 R0_1.out
      have q1_0 := cl3 R1_1.out
      go_wp2_with fail
      clear q0_0 q1_0
      go_ret
      exact ⟨_, rfl, Rep.val_mono (fun b hb _ => by have := HZ.out; omega) (Rep.acc_fresh HA.out), Only.fin HB0.out O1.out⟩

end Go.Proofs.Yteljibjbndpncaa
namespace Go.Proofs.Yteljibjbndpncaa
open Go.RowKit

theorem stateS_take {c : DConf} {frames : List (List DCmd)} {n : Nat} : ∀ k, k ≤ n → stateS c (frames.take n) k = stateS c frames k
  | 0, _ => rfl
  | k + 1, h => by
    unfold stateS
    rw [List.getElem?_take_of_lt (by omega), stateS_take k (by omega)]
theorem val_later {α : Type} {r : Rep α} {Q : Nat → Prop} {W W' : World} {v : Value} {x : α} (h : r.val Q W v x) (hb : Below W.heap.size W W') : r.val Q W' v x := Rep.val_keep (fun b hq hl => ⟨hq, hb.block b hl.lt⟩) h
theorem statesTo_get {c : DConf} {frames : List (List DCmd)} {n k : Nat} (h : k < n) : (statesTo c frames n)[k]? = some (stateS c frames k) := by
  unfold statesTo; rw [List.getElem?_map, List.getElem?_range h]; rfl

set_option maxRecDepth 100000 in
set_option maxHeartbeats 4000000 in
/-- judge.Back -/
theorem jback_calls {Q : Nat → Prop} {w : World} {vc vf vs : Value} {c : DConf} {frames : List (List DCmd)} {s : DState} {safe k : Int} (hc : rConf.val Q w vc c) (hf : rCmd.list.list.val Q w vf frames) (hs : rState.val Q w vs s) (hr : frames = [] ∨ confRight c = true) (hl : ∀ l ∈ frames, l.length ≤ 10000) (hn : frames.length ≤ 9999) :
    Calls Try.prog 42 #[vc, vf, .int .i64 safe, .int .i64 k, vs] w (fun e w' => e = .returned (.int .i64 (backS c frames safe k s)) ∧ Below w.heap.size w w') := by
  have HC := Lib.hid hc
  have HL := Lib.hid hl
  have HRT := Lib.hid hr
  have HSV := Lib.hid hs
  have HNF := Lib.hid hn
  obtain ⟨A, cap, rfl, _⟩ := rConf_val hc
  obtain ⟨A1, c1, A2, c2, A3, c3, rfl, _⟩ := rState_val hs
  obtain ⟨Af, cf, rfl, mf, lf, _⟩ := Rep.val_list hf
  have HFF := Lib.hid hf
  unfold maxLen at lf
  clear hc hf hr hl hs hn
  obtain ⟨W0, hW0⟩ : ∃ W, ((w.alloc (.cells #[.int .i64 c.log, .int .i64 c.pages, .int .i64 c.entities, .int .i64 c.gens, .slice A c.comps.length cap] 49)).alloc (.cells #[.slice A1 s.gens.length c1, .slice A2 s.free.length c2, .slice A3 s.ents.length c3] 75)) = W := ⟨_, rfl⟩
  have hz0 : W0.heap.size = w.heap.size + 2 := by rw [← hW0]; simp
  have hb0 : Below w.heap.size w W0 := by rw [← hW0]; exact ((Below.refl _ _).alloc (Nat.le_refl _) _).alloc (by first | (simp; done) | (simp; omega)) _
  have HZ := Lib.hid hz0
  have HB0 := Lib.hid hb0
  have R0_0 := Lib.hid (show W0.heap[w.heap.size]? = some (.cells #[.int .i64 c.log, .int .i64 c.pages, .int .i64 c.entities, .int .i64 c.gens, .slice A c.comps.length cap] 49 (0, 0)) by rw [← hW0]; exact alloc_old (alloc_at rfl))
  have R1_0 := Lib.hid (show W0.heap[w.heap.size + 1]? = some (.cells #[.slice A1 s.gens.length c1, .slice A2 s.free.length c2, .slice A3 s.ents.length c3] 75 (0, 0)) by rw [← hW0]; exact alloc_at (by simp))
  have O0 := Lib.hid (Only.refl (Box w 2) W0)
  have HVC := Lib.hid (show ∀ V, Below W0.heap.size W0 V → rConf.val (Lo Q w) V (.agg #[.int .i64 c.log, .int .i64 c.pages, .int .i64 c.entities, .int .i64 c.gens, .slice A c.comps.length cap]) c from fun V h => val_lo_later (val_lo HC.out hb0) h)
  have HVS := Lib.hid (show ∀ V, Below W0.heap.size W0 V → rState.val (Lo Q w) V (.agg #[.slice A1 s.gens.length c1, .slice A2 s.free.length c2, .slice A3 s.ents.length c3]) s from fun V h => val_lo_later (val_lo HSV.out hb0) h)
  have HVF := Lib.hid (show ∀ V, Below W0.heap.size W0 V → rCmd.list.list.val (Lo Q w) V (.slice Af frames.length cf) frames from fun V h => val_lo_later (val_lo HFF.out hb0) h)
  have hnf := HNF.out
  by_cases h1 : k < 0
  case pos =>
    have HE := Lib.hid (show backS c frames safe k s = 1 from if_pos (.inl h1))
    clear hz0 hb0
    have q0_0 := rw5 R0_0.out
    have q1_0 := rw3 R1_0.out
    go_enter Try.func42, Try.ntmps42
    go_wp2_with fail
    try rw [hW0]
    clear hW0
    try go_wp2_with fail
    clear q0_0 q1_0
    go_ret
    exact ⟨by rw [HE.out]; rfl, Only.fin HB0.out O0.out⟩
  by_cases h2 : k < safe
  case pos =>
    have HE := Lib.hid (show backS c frames safe k s = 1 from if_pos (.inr (.inl h2)))
    clear hz0 hb0
    have q0_0 := rw5 R0_0.out
    have q1_0 := rw3 R1_0.out
    go_enter Try.func42, Try.ntmps42
    go_wp2_with fail
    try rw [hW0]
    clear hW0
    try go_wp2_with fail
    clear q0_0 q1_0
    go_ret
    exact ⟨by rw [HE.out]; rfl, Only.fin HB0.out O0.out⟩
  by_cases h3 : (frames.length : Int) < k
  case pos =>
    have HE := Lib.hid (show backS c frames safe k s = 1 from if_pos (.inr (.inr h3)))
    clear hz0 hb0
    have q0_0 := rw5 R0_0.out
    have q1_0 := rw3 R1_0.out
    go_enter Try.func42, Try.ntmps42
    go_wp2_with fail
    try rw [hW0]
    clear hW0
    try go_wp2_with fail
    clear q0_0 q1_0
    go_ret
    exact ⟨by rw [HE.out]; rfl, Only.fin HB0.out O0.out⟩
  have HB := Lib.hid (show backS c frames safe k s = if stateS c frames k.toNat = s then 0 else 11 from if_neg (by omega))
  obtain ⟨kn, rfl⟩ : ∃ kn : Nat, k = (kn : Int) := ⟨k.toNat, by omega⟩
  obtain ⟨sk, hsk⟩ : ∃ q, stateS c frames (kn : Int).toNat = q := ⟨_, rfl⟩
  rw [hsk] at HB
  rw [Int.toNat_natCast] at hsk
  have hkn : kn ≤ frames.length := by omega
  have HKL := Lib.hid hkn
  have hkc : (kn : Int) ≤ (cf : Int) := by omega
  obtain ⟨ft, hft⟩ : ∃ ft, frames.take kn = ft := ⟨_, rfl⟩
  have hfl : ft.length = kn := by rw [← hft, List.length_take]; omega
  have HFL := Lib.hid hfl
  have HRX := Lib.hid (show ft = [] ∨ confRight c = true from HRT.out.imp (fun h => by rw [← hft, h]; simp) (fun h => h))
  have HFM := Lib.hid (show ∀ l ∈ ft, l.length ≤ 10000 from fun l h => HL.out l (List.mem_of_mem_take (hft ▸ h)))
  have HGK := Lib.hid (show (statesTo c ft (ft.length + 1))[kn]? = some sk by rw [statesTo_get (by omega), ← hft, stateS_take kn (Nat.le_refl _), hsk])
  have HTK := Lib.hid (show ∀ V, Below W0.heap.size W0 V → rCmd.list.list.val (Lo Q w) V (.slice Af kn cf) ft from fun V h => Rep.list_val hfl.symm (by omega) (by unfold maxLen; omega) (hft ▸ (sl_of (HVF.out V h)).2.2.take kn))
  clear hsk hft hfl hkn
  by_cases heq : sk = s
  · skip
    have HQ := Lib.hid (show decide (sk = s) = true from decide_eq_true heq)
    have HE := Lib.hid (HB.out.trans (if_pos heq))
    clear heq
    clear hz0 hb0
    have q0_0 := rw5 R0_0.out
    have q1_0 := rw3 R1_0.out
    go_enter Try.func42, Try.ntmps42
    go_wp2_with fail
    try rw [hW0]
    clear hW0
    try go_wp2_with fail
    clear q0_0 q1_0
    refine wp_region_held_drew (S := fun W => Below W0.heap.size W0 W) (by kernel_rfl) ((Below.refl _ _).drew) (fun s0 => ?_)
    obtain ⟨v1, hv0⟩ : ∃ V, V = W0.drew := ⟨_, rfl⟩
    rw [← hv0] at s0 ⊢
    have t1 : Below W0.heap.size W0 v1 := s0
    clear hv0 s0
    refine tkH (i := 0) (v := .agg #[.int .i64 c.log, .int .i64 c.pages, .int .i64 c.entities, .int .i64 c.gens, .slice A c.comps.length cap]) rfl (Or.inl ⟨by rfl, fun w' h => by have e := row_call (h : Below W0.heap.size W0 w') R0_0.out; have e0 := cell_row e 0; have e1 := cell_row e 1; have e2 := cell_row e 2; have e3 := cell_row e 3; have e4 := cell_row e 4; go_simp⟩) t1 ?_
    go_simp
    refine tkHV (i := 1) (v := .slice Af frames.length cf) rfl t1 ?_
    go_simp
    refine tkHV (i := 2) (v := .int .i64 kn) rfl t1 ?_
    go_simp
    refine tkHV (i := 3) (v := .slice Af kn cf) rfl t1 ?_
    go_simp
    refine wpAnyH_all (rs := [4]) (by kernel_rfl) (by simp) ?_
    intro i hi
    obtain rfl : i = 4 := by simpa using hi
    clear hi
    refine wpOp_step rfl (fun K hK => ?_)
    go_simp
    refine (jstates_calls (HVC.out _ t1) (HTK.out _ t1) HRX.out HFM.out (by have := HFL.out; omega)).mono ?_
    rintro e v2 ⟨zz, rfl, hz, hb⟩
    obtain ⟨A8, c8, rfl, _, _, _⟩ := Rep.val_list hz
    rw [statesTo_len] at hz ⊢
    have HSL := Lib.hid hz
    clear hz
    have t2 : Below W0.heap.size W0 v2 := Below.trans t1 (hb.mono (Below.size t1))
    refine hK _ _ ⟨t2, ?_⟩
    clear hb
    clear hK K
    refine tkHV (i := 5) (v := .slice A8 (ft.length + 1) c8) rfl t2 ?_
    go_simp
    refine wpAnyH_done (by kernel_rfl) ?_ _
    have S1 := Lib.hid (show Only (Box w 2) W0 v2 from Only.of_below t2)
    have O1 := Lib.hid (O0.out.trans S1.out)
    have R0_1 := Lib.hid (row_call t2 R0_0.out)
    have R1_1 := Lib.hid (row_call t2 R1_0.out)
    obtain ⟨sb, so, D1, e1, D2, e2, D3, e3, rfl, _, k0, k1, k2, s1, s2, s3⟩ := rState_at (sl_of HSL.out).2.2 HGK.out
    have HBT := Lib.hid (show Below W0.heap.size W0 v2 from t2)
    have HKV := Lib.hid (rState_agg s1 s2 s3)
    have HSZ := Lib.hid (show (kn : Int) < ((ft.length + 1 : Nat) : Int) by have := HFL.out; omega)
    have hsz := HSZ.out
    have q0_0 := cl5 R0_1.out
    have q1_0 := cl3 R1_1.out
    try go_wp2_with fail
    clear q0_0 q1_0
    refine wp_region_held_drew (S := fun W => Below v2.heap.size v2 W) (by kernel_rfl) ((Below.refl _ _).drew) (fun s0 => ?_)
    obtain ⟨v3, hv0⟩ : ∃ V, V = v2.drew := ⟨_, rfl⟩
    rw [← hv0] at s0 ⊢
    have t3 : Below v2.heap.size v2 v3 := s0
    clear hv0 s0
    refine tkHV (i := 0) (v := .slice (some ⟨sb, so, none⟩) (ft.length + 1) c8) rfl t3 ?_
    go_simp
    refine tkHV (i := 1) (v := .int .i64 kn) rfl t3 ?_
    go_simp
    refine tkHV (i := 2) (v := .pointer (some ⟨sb, so + kn * 3, none⟩)) rfl t3 ?_
    go_simp
    refine tkH (i := 3) (v := .agg #[.slice D1 sk.gens.length e1, .slice D2 sk.free.length e2, .slice D3 sk.ents.length e3]) rfl (Or.inl ⟨by rfl, fun w' h => by have e0 := cell_call (h : Below v2.heap.size v2 w') k0; have e1 := cell_call (h : Below v2.heap.size v2 w') k1; have e2 := cell_call (h : Below v2.heap.size v2 w') k2; go_simp⟩) t3 ?_
    go_simp
    refine tkH (i := 4) (v := .agg #[.slice A1 s.gens.length c1, .slice A2 s.free.length c2, .slice A3 s.ents.length c3]) rfl (Or.inl ⟨by rfl, fun w' h => by have e := row_call (h : Below v2.heap.size v2 w') R1_1.out; have e0 := cell_row e 0; have e1 := cell_row e 1; have e2 := cell_row e 2; go_simp⟩) t3 ?_
    go_simp
    refine wpAnyH_all (rs := [5]) (by kernel_rfl) (by simp) ?_
    intro i hi
    obtain rfl : i = 5 := by simpa using hi
    clear hi
    refine wpOp_step rfl (fun K hK => ?_)
    go_simp
    refine (msame_calls (val_later HKV.out t3) (HVS.out _ (HBT.out.trans (Below.mono t3 HBT.out.size)))).mono ?_
    rintro e v4 ⟨rfl, hb⟩
    rw [HQ.out]
    have t4 : Below v2.heap.size v2 v4 := Below.trans t3 (hb.mono (Below.size t3))
    refine hK _ _ ⟨t4, ?_⟩
    clear hb
    clear hK K
    refine tkHV (i := 6) (v := .bool false) rfl t4 ?_
    go_simp
    refine wpAnyH_done (by kernel_rfl) ?_ _
    have S2 := Lib.hid (show Only (Box w 2) v2 v4 from Only.of_below t4)
    have O2 := Lib.hid (O1.out.trans S2.out)
    have R0_2 := Lib.hid (row_call t4 R0_1.out)
    have R1_2 := Lib.hid (row_call t4 R1_1.out)
    have q0_0 := cl5 R0_2.out
    have q1_0 := cl3 R1_2.out
    go_wp2_with fail
    clear q0_0 q1_0
    go_ret
    exact ⟨by rw [HE.out]; rfl, Only.fin HB0.out O2.out⟩
  · skip
    have HQ := Lib.hid (show decide (sk = s) = false from decide_eq_false heq)
    have HE := Lib.hid (HB.out.trans (if_neg heq))
    clear heq
    clear hz0 hb0
    have q0_0 := rw5 R0_0.out
    have q1_0 := rw3 R1_0.out
    go_enter Try.func42, Try.ntmps42
    go_wp2_with fail
    try rw [hW0]
    clear hW0
    try go_wp2_with fail
    clear q0_0 q1_0
    refine wp_region_held_drew (S := fun W => Below W0.heap.size W0 W) (by kernel_rfl) ((Below.refl _ _).drew) (fun s0 => ?_)
    obtain ⟨v1, hv0⟩ : ∃ V, V = W0.drew := ⟨_, rfl⟩
    rw [← hv0] at s0 ⊢
    have t1 : Below W0.heap.size W0 v1 := s0
    clear hv0 s0
    refine tkH (i := 0) (v := .agg #[.int .i64 c.log, .int .i64 c.pages, .int .i64 c.entities, .int .i64 c.gens, .slice A c.comps.length cap]) rfl (Or.inl ⟨by rfl, fun w' h => by have e := row_call (h : Below W0.heap.size W0 w') R0_0.out; have e0 := cell_row e 0; have e1 := cell_row e 1; have e2 := cell_row e 2; have e3 := cell_row e 3; have e4 := cell_row e 4; go_simp⟩) t1 ?_
    go_simp
    refine tkHV (i := 1) (v := .slice Af frames.length cf) rfl t1 ?_
    go_simp
    refine tkHV (i := 2) (v := .int .i64 kn) rfl t1 ?_
    go_simp
    refine tkHV (i := 3) (v := .slice Af kn cf) rfl t1 ?_
    go_simp
    refine wpAnyH_all (rs := [4]) (by kernel_rfl) (by simp) ?_
    intro i hi
    obtain rfl : i = 4 := by simpa using hi
    clear hi
    refine wpOp_step rfl (fun K hK => ?_)
    go_simp
    refine (jstates_calls (HVC.out _ t1) (HTK.out _ t1) HRX.out HFM.out (by have := HFL.out; omega)).mono ?_
    rintro e v2 ⟨zz, rfl, hz, hb⟩
    obtain ⟨A8, c8, rfl, _, _, _⟩ := Rep.val_list hz
    rw [statesTo_len] at hz ⊢
    have HSL := Lib.hid hz
    clear hz
    have t2 : Below W0.heap.size W0 v2 := Below.trans t1 (hb.mono (Below.size t1))
    refine hK _ _ ⟨t2, ?_⟩
    clear hb
    clear hK K
    refine tkHV (i := 5) (v := .slice A8 (ft.length + 1) c8) rfl t2 ?_
    go_simp
    refine wpAnyH_done (by kernel_rfl) ?_ _
    have S1 := Lib.hid (show Only (Box w 2) W0 v2 from Only.of_below t2)
    have O1 := Lib.hid (O0.out.trans S1.out)
    have R0_1 := Lib.hid (row_call t2 R0_0.out)
    have R1_1 := Lib.hid (row_call t2 R1_0.out)
    obtain ⟨sb, so, D1, e1, D2, e2, D3, e3, rfl, _, k0, k1, k2, s1, s2, s3⟩ := rState_at (sl_of HSL.out).2.2 HGK.out
    have HBT := Lib.hid (show Below W0.heap.size W0 v2 from t2)
    have HKV := Lib.hid (rState_agg s1 s2 s3)
    have HSZ := Lib.hid (show (kn : Int) < ((ft.length + 1 : Nat) : Int) by have := HFL.out; omega)
    have hsz := HSZ.out
    have q0_0 := cl5 R0_1.out
    have q1_0 := cl3 R1_1.out
    try go_wp2_with fail
    clear q0_0 q1_0
    refine wp_region_held_drew (S := fun W => Below v2.heap.size v2 W) (by kernel_rfl) ((Below.refl _ _).drew) (fun s0 => ?_)
    obtain ⟨v3, hv0⟩ : ∃ V, V = v2.drew := ⟨_, rfl⟩
    rw [← hv0] at s0 ⊢
    have t3 : Below v2.heap.size v2 v3 := s0
    clear hv0 s0
    refine tkHV (i := 0) (v := .slice (some ⟨sb, so, none⟩) (ft.length + 1) c8) rfl t3 ?_
    go_simp
    refine tkHV (i := 1) (v := .int .i64 kn) rfl t3 ?_
    go_simp
    refine tkHV (i := 2) (v := .pointer (some ⟨sb, so + kn * 3, none⟩)) rfl t3 ?_
    go_simp
    refine tkH (i := 3) (v := .agg #[.slice D1 sk.gens.length e1, .slice D2 sk.free.length e2, .slice D3 sk.ents.length e3]) rfl (Or.inl ⟨by rfl, fun w' h => by have e0 := cell_call (h : Below v2.heap.size v2 w') k0; have e1 := cell_call (h : Below v2.heap.size v2 w') k1; have e2 := cell_call (h : Below v2.heap.size v2 w') k2; go_simp⟩) t3 ?_
    go_simp
    refine tkH (i := 4) (v := .agg #[.slice A1 s.gens.length c1, .slice A2 s.free.length c2, .slice A3 s.ents.length c3]) rfl (Or.inl ⟨by rfl, fun w' h => by have e := row_call (h : Below v2.heap.size v2 w') R1_1.out; have e0 := cell_row e 0; have e1 := cell_row e 1; have e2 := cell_row e 2; go_simp⟩) t3 ?_
    go_simp
    refine wpAnyH_all (rs := [5]) (by kernel_rfl) (by simp) ?_
    intro i hi
    obtain rfl : i = 5 := by simpa using hi
    clear hi
    refine wpOp_step rfl (fun K hK => ?_)
    go_simp
    refine (msame_calls (val_later HKV.out t3) (HVS.out _ (HBT.out.trans (Below.mono t3 HBT.out.size)))).mono ?_
    rintro e v4 ⟨rfl, hb⟩
    rw [HQ.out]
    have t4 : Below v2.heap.size v2 v4 := Below.trans t3 (hb.mono (Below.size t3))
    refine hK _ _ ⟨t4, ?_⟩
    clear hb
    clear hK K
    refine tkHV (i := 6) (v := .bool true) rfl t4 ?_
    go_simp
    refine wpAnyH_done (by kernel_rfl) ?_ _
    have S2 := Lib.hid (show Only (Box w 2) v2 v4 from Only.of_below t4)
    have O2 := Lib.hid (O1.out.trans S2.out)
    have R0_2 := Lib.hid (row_call t4 R0_1.out)
    have R1_2 := Lib.hid (row_call t4 R1_1.out)
    have q0_0 := cl5 R0_2.out
    have q1_0 := cl3 R1_2.out
    go_wp2_with fail
    clear q0_0 q1_0
    go_ret
    exact ⟨by rw [HE.out]; rfl, Only.fin HB0.out O2.out⟩

set_option maxRecDepth 100000 in
set_option maxHeartbeats 4000000 in
/-- judge.Find -/
theorem jfind_calls {Q : Nat → Prop} {w : World} {vc vf vs : Value} {c : DConf} {frames : List (List DCmd)} {s : DState}  (hc : rConf.val Q w vc c) (hf : rCmd.list.list.val Q w vf frames) (hs : rState.val Q w vs s) (hr : frames = [] ∨ confRight c = true) (hl : ∀ l ∈ frames, l.length ≤ 10000) (hn : frames.length ≤ 9999) :
    Calls Try.prog 47 #[vc, vf, vs] w (FindsPost w (findsS c frames s (frames.length + 1))) := by
  have HC := Lib.hid hc
  have HL := Lib.hid hl
  have HRT := Lib.hid hr
  have HSV := Lib.hid hs
  have HNF := Lib.hid hn
  obtain ⟨A, cap, rfl, _⟩ := rConf_val hc
  obtain ⟨A1, c1, A2, c2, A3, c3, rfl, _⟩ := rState_val hs
  obtain ⟨Af, cf, rfl, mf, lf, _⟩ := Rep.val_list hf
  have HFF := Lib.hid hf
  unfold maxLen at lf
  clear hc hf hr hl hs hn
  obtain ⟨W0, hW0⟩ : ∃ W, ((w.alloc (.cells #[.int .i64 c.log, .int .i64 c.pages, .int .i64 c.entities, .int .i64 c.gens, .slice A c.comps.length cap] 49)).alloc (.cells #[.slice A1 s.gens.length c1, .slice A2 s.free.length c2, .slice A3 s.ents.length c3] 75)) = W := ⟨_, rfl⟩
  have hz0 : W0.heap.size = w.heap.size + 2 := by rw [← hW0]; simp
  have hb0 : Below w.heap.size w W0 := by rw [← hW0]; exact ((Below.refl _ _).alloc (Nat.le_refl _) _).alloc (by first | (simp; done) | (simp; omega)) _
  have HZ := Lib.hid hz0
  have HB0 := Lib.hid hb0
  have R0_0 := Lib.hid (show W0.heap[w.heap.size]? = some (.cells #[.int .i64 c.log, .int .i64 c.pages, .int .i64 c.entities, .int .i64 c.gens, .slice A c.comps.length cap] 49 (0, 0)) by rw [← hW0]; exact alloc_old (alloc_at rfl))
  have R1_0 := Lib.hid (show W0.heap[w.heap.size + 1]? = some (.cells #[.slice A1 s.gens.length c1, .slice A2 s.free.length c2, .slice A3 s.ents.length c3] 75 (0, 0)) by rw [← hW0]; exact alloc_at (by simp))
  have O0 := Lib.hid (Only.refl (Box w 2) W0)
  have HVC := Lib.hid (show ∀ V, Below W0.heap.size W0 V → rConf.val (Lo Q w) V (.agg #[.int .i64 c.log, .int .i64 c.pages, .int .i64 c.entities, .int .i64 c.gens, .slice A c.comps.length cap]) c from fun V h => val_lo_later (val_lo HC.out hb0) h)
  have HVS := Lib.hid (show ∀ V, Below W0.heap.size W0 V → rState.val (Lo Q w) V (.agg #[.slice A1 s.gens.length c1, .slice A2 s.free.length c2, .slice A3 s.ents.length c3]) s from fun V h => val_lo_later (val_lo HSV.out hb0) h)
  have HVF := Lib.hid (show ∀ V, Below W0.heap.size W0 V → rCmd.list.list.val (Lo Q w) V (.slice Af frames.length cf) frames from fun V h => val_lo_later (val_lo HFF.out hb0) h)
  clear hz0 hb0
  have q0_0 := rw5 R0_0.out
  have q1_0 := rw3 R1_0.out
  go_enter Try.func47, Try.ntmps47
  go_wp2_with fail
  try rw [hW0]
  clear hW0
  try go_wp2_with fail
  clear q0_0 q1_0
  refine (jstates_calls (HVC.out _ (Below.refl _ _)) (HVF.out _ (Below.refl _ _)) HRT.out HL.out (by have := HNF.out; omega)).mono ?_
  rintro e w1 ⟨zz, rfl, hz, hb⟩
  obtain ⟨A8, c8, rfl, m8, l8, _⟩ := Rep.val_list hz
  unfold maxLen at l8
  rw [statesTo_len] at hz m8 ⊢
  have HSL := Lib.hid hz
  have HB1 := Lib.hid hb
  have S1 := Lib.hid (show Only (Box w 2) W0 w1 from Only.of_below hb)
  have O1 := Lib.hid (O0.out.trans S1.out)
  have R0_1 := Lib.hid (row_call hb R0_0.out)
  have R1_1 := Lib.hid (row_call hb R1_0.out)
  clear hz hb
  obtain ⟨N, hN⟩ : ∃ N, frames.length + 1 = N := ⟨_, rfl⟩
  have HNN := Lib.hid (show N ≤ 10000 by have := HNF.out; omega)
  rw [hN] at HSL m8 ⊢
  have HNE := Lib.hid hN
  clear hN
  have q0_0 := cl5 R0_1.out
  have q1_0 := cl3 R1_1.out
  go_wp2_with fail
  clear q0_0 q1_0
  go_loopw [7, 14] (fun u7 i wr => ∃ j : Nat, i = .int .i64 j ∧ j ≤ N ∧ Hid ((Rep.int .i64).acc 3 w1.heap.size (fun _ => False) wr u7 (findsS c frames s j)) ∧ Hid (Below w1.heap.size w1 wr)) (fun _ i _ => N - (intOf i).toNat)
  case atStart => exact ⟨0, rfl, Nat.zero_le _, Lib.hid Rep.acc_nil, Lib.hid (Below.refl _ _)⟩
  case round =>
    rename_i u7 _
    obtain ⟨j, rfl, hj, HA, HBR⟩ := hrel
    have S2 := Lib.hid (show Only (Box w 2) w1 wr from Only.of_below HBR.out)
    have O2 := Lib.hid (O1.out.trans S2.out)
    have R0_2 := Lib.hid (row_call HBR.out R0_1.out)
    have R1_2 := Lib.hid (row_call HBR.out R1_1.out)
    by_cases hlt : (j : Int) < N
    · skip
      have HLX := Lib.hid (findsS_len (c := c) (frames := frames) (s := s) (n := j))
      have HNX := Lib.hid (findsS_next (c := c) (frames := frames) (s := s) (n := j))
      obtain ⟨sk, hsk⟩ : ∃ q, stateS c frames j = q := ⟨_, rfl⟩
      have HGK := Lib.hid (show (statesTo c frames N)[j]? = some sk by rw [statesTo_get (by omega), hsk])
      rw [hsk] at HNX
      clear hsk
      obtain ⟨sb, so, D1, e1, D2, e2, D3, e3, rfl, _, k0, k1, k2, s1, s2, s3⟩ := rState_at (sl_of (val_later HSL.out HBR.out)).2.2 HGK.out
      have HKV := Lib.hid (rState_agg s1 s2 s3)
      obtain ⟨A7, c7, rfl, _, _⟩ := Rep.acc_form HA.out
      clear s1 s2 s3
      obtain ⟨v1, h1⟩ : ∃ W, wr.alloc (.cells #[.slice D1 sk.gens.length e1, .slice D2 sk.free.length e2, .slice D3 sk.ents.length e3] 75) = W := ⟨_, rfl⟩
      have hB : Below wr.heap.size wr v1 := by rw [← h1]; exact (Below.refl _ _).alloc (Nat.le_refl _) _
      have RA1 := Lib.hid (show v1.heap[wr.heap.size]? = some (.cells #[.slice D1 sk.gens.length e1, .slice D2 sk.free.length e2, .slice D3 sk.ents.length e3] 75 (0, 0)) by rw [← h1]; exact alloc_at rfl)
      have HBV := Lib.hid hB
      have x0 := rw3 RA1.out
      have S3 := Lib.hid (show Only (Box w 2) wr v1 from Only.of_below HBV.out)
      have O3 := Lib.hid (O2.out.trans S3.out)
      have R0_3 := Lib.hid (row_call HBV.out R0_2.out)
      have R1_3 := Lib.hid (row_call HBV.out R1_2.out)
      have q0_0 := cl5 R0_3.out
      have q1_0 := cl3 R1_3.out
      go_wp2_with fail
      try rw [h1]
      clear h1 hB x0 k0 k1 k2 q0_0 q1_0
      refine (msame_calls (val_later HKV.out HBV.out) (HVS.out _ (HB1.out.trans ((HBR.out.trans (HBV.out.mono HBR.out.size)).mono HB1.out.size)))).mono ?_
      rintro e w2 ⟨rfl, hb⟩
      have HBW := Lib.hid (HBR.out.trans ((HBV.out.trans (hb.mono HBV.out.size)).mono HBR.out.size))
      have HAV := Lib.hid (Rep.acc_later HA.out (HBV.out.trans (hb.mono HBV.out.size)))
      clear hb
      by_cases heq : sk = s
      · skip
        rw [decide_eq_true heq]
        rw [if_pos heq] at HNX
        clear heq
        go_wp2_with (with_reducible refine stopOne rfl ?_)
        refine Lib.hid ?_
        refine wpList_snoc (e := 3) (base := w1.heap.size) (Q := fun _ => False) (r := Rep.int .i64) rfl rfl _ _ 27 _ rfl rfl rfl (.int .i64 0) 1 8 Try.underlying27 info3 rfl (by decide) rfl _ (findsS c frames s j) HAV.out (j : Int) _ (by exact rfl) ⟨_, rfl, rfl, wf_i64 (by omega) (by have := HNN.out; omega)⟩ (by exact rfl) (by exact rfl) (by have := HLX.out; have := HNN.out; unfold maxLen; omega) (by have := HLX.out; have := HNN.out; omega) HBW.out.size ?_
        intro s4 x4 hacc4 hgr4 hat4
        have HA4 := Lib.hid hacc4
        have HB4 := Lib.hid (Rep.acc_below HAV.out HBW.out hgr4 HBW.out.size)
        clear hacc4 hgr4 hat4
        go_wp2_with fail
        exact ⟨⟨j + 1, by go_num, by omega, by rw [HNX.out]; exact HA4, HB4⟩, by simp [intOf]; omega⟩
      · skip
        rw [decide_eq_false heq]
        rw [if_neg heq] at HNX
        clear heq
        rw [List.append_nil] at HNX
        go_wp2_with fail
        exact ⟨⟨j + 1, by go_num, by omega, by rw [HNX.out]; exact HAV, HBW⟩, by simp [intOf]; omega⟩
    · have hjN : j = N := by omega
      have HAN := Lib.hid (show (Rep.int .i64).acc 3 w1.heap.size (fun _ => False) wr u7 (findsS c frames s (frames.length + 1)) by have h := HA.out; rw [hjN, ← HNE.out] at h; exact h)
      clear hjN
      have q0_0 := cl5 R0_2.out
      have q1_0 := cl3 R1_2.out
      go_wp2_with fail
      clear q0_0 q1_0
      go_ret
      exact ⟨u7, rfl, Rep.val_mono (Q := fun b => w1.heap.size ≤ b) (fun b hb _ => by have := HB1.out.size; have := HZ.out; have hb : w1.heap.size ≤ b := hb; omega) (Rep.acc_fresh HAN.out), Only.fin HB0.out O2.out⟩
end Go.Proofs.Yteljibjbndpncaa
namespace Go.Proofs.Yteljibjbndpncaa
open Go.RowKit

def MuchFrames (w : World) (l : List (List DCmd)) (e : Ending) (w' : World) : Prop := ∃ r : Bool, e = .returned (.bool r) ∧ (r = false → l.length ≤ 12 ∧ ∀ f ∈ l, f.length ≤ 70) ∧ w' = w

set_option maxRecDepth 100000 in
/-- law33.much -/
theorem much33_calls {Q : Nat → Prop} {w : World} {v : Value} {l : List (List DCmd)} (hx : rCmd.list.list.val Q w v l) :
    Calls Try.prog 37 #[v] w (MuchFrames w l) := by
  obtain ⟨A, c, rfl, hc1, hc2, hA⟩ := Rep.val_list hx
  unfold maxLen at hc2
  have HA := Lib.hid hA
  clear hx hA
  go_enter Try.func37, Try.ntmps37
  go_wp2_with fail
  go_loop [3] (fun i => ∃ k : Nat, i = .int .i64 k ∧ k ≤ l.length ∧ k ≤ 20 ∧ Hid (∀ (j : Nat) (s : List DCmd), j < k → l[j]? = some s → s.length ≤ 70)) (fun i => l.length - (intOf i).toNat)
  case atStart => exact ⟨0, rfl, by omega, by omega, Lib.hid (fun j s hj => absurd hj (Nat.not_lt_zero _))⟩
  case round =>
    obtain ⟨k, rfl, hk, hk5, HJ⟩ := hrel
    by_cases hlt : (k : Int) < l.length
    · by_cases h50 : (k : Int) < 20
      · obtain ⟨x, hx⟩ : ∃ x, l[k]? = some x := ⟨_, List.getElem?_eq_getElem (by omega)⟩
        obtain ⟨fb, fo, es, rfl, _, _, hrd, hcell⟩ := HA.out.get hx
        obtain ⟨Al, cl, rfl, hll⟩ := Rep.rd_sl hrd
        have k0 := hcell 0 _ rfl
        rw [show rCmd.list.size = 1 from rfl, Nat.mul_one, Nat.add_zero] at k0
        have HLV := Lib.hid hll.val
        have HX := Lib.hid hx
        clear hx hrd hcell hll
        go_wp2_with fail
        refine (muchCmds_calls HLV.out).mono ?_
        rintro e w' ⟨r, rfl, hr, rfl⟩
        cases r with
        | true =>
          go_wp2_with fail
          go_ret
          exact ⟨true, rfl, (fun h => by cases h), rfl⟩
        | false =>
          have HR := Lib.hid (hr rfl)
          clear hr
          have HJ2 := Lib.hid (show ∀ (j : Nat) (s : List DCmd), j < k + 1 → l[j]? = some s → s.length ≤ 70 from fun j s hj hs => by
            rcases Nat.lt_or_ge j k with h | h
            · exact HJ.out j s h hs
            · have : j = k := by omega
              subst this
              rw [HX.out] at hs
              rw [← Option.some.inj hs]
              exact HR.out)
          go_wp2_with fail
          go_round
          case rel => exact ⟨k + 1, by go_num, by omega, by omega, HJ2⟩
          case measure => simp [intOf]; omega
      · have h40 : (12 : Int) < l.length := by omega
        go_wp2_with fail
        go_ret
        exact ⟨true, rfl, (fun h => by cases h), rfl⟩
    · by_cases h40 : (12 : Int) < l.length
      · go_wp2_with fail
        go_ret
        exact ⟨true, rfl, (fun h => by cases h), rfl⟩
      · have HL := Lib.hid (show l.length ≤ 12 ∧ ∀ s ∈ l, s.length ≤ 70 from ⟨by omega, fun s hs => by
          obtain ⟨j, hj, rfl⟩ := List.getElem_of_mem hs
          exact HJ.out j _ (by omega) (List.getElem?_eq_getElem hj)⟩)
        go_wp2_with fail
        go_ret
        exact ⟨false, rfl, fun _ => HL.out, rfl⟩

set_option maxRecDepth 100000 in
/-- law33.code -/
theorem code33 (k : Int) (w : World) : Calls Try.prog 41 #[.int .i64 k] w fun e w' => e = .returned (.int .i64 k) ∧ w' = w := by
  go_enter Try.func41, Try.ntmps41
  go_wp2_with fail
  go_ret
  exact ⟨rfl, rfl⟩
def zeroConf : DConf := ⟨0, 0, 0, 0, []⟩
theorem nil_sl {α : Type} {r : Rep α} {Q : Nat → Prop} {w : World} : r.Sl Q w none 0 ([] : List α) := ⟨Nat.le_refl _, by simp [maxLen], [], rfl, fun h => absurd h (by simp)⟩

set_option maxRecDepth 100000 in
set_option maxHeartbeats 1000000 in
/-- law33.live -/
theorem live33_calls (w : World) : Calls Try.prog 39 #[] w fun e w' => e = .returned (.bool true) ∧ Below w.heap.size w w' := by
  have hc : ∀ W : World, rConf.val (fun b => b < W.heap.size) W (.agg #[.int .i64 0, .int .i64 0, .int .i64 0, .int .i64 0, .slice none 0 0]) zeroConf := fun W => rConf_agg (x := zeroConf) (by decide) (by decide) (by decide) (by decide) nil_sl
  have hs : ∀ W : World, rState.val (fun b => b < W.heap.size) W (.agg #[.slice none 0 0, .slice none 0 0, .slice none 0 0]) noState := fun W => rState_agg (x := noState) nil_sl nil_sl nil_sl
  have hf : ∀ W : World, rCmd.list.list.val (fun b => b < W.heap.size) W (.slice none 0 0) [] := fun W => nil_sl.val
  have HC := Lib.hid hc
  have HS := Lib.hid hs
  have HF := Lib.hid hf
  have E1 := Lib.hid (show backS zeroConf [] 0 0 noState = 0 by decide)
  have E2 := Lib.hid (show backS zeroConf [] 0 1 noState = 1 by decide)
  clear hc hs hf
  go_enter Try.func39, Try.ntmps39
  go_wp2_with fail
  refine (jback_calls (safe := 0) (k := 0) (HC.out _) (HF.out _) (HS.out _) (.inl rfl) (by simp) (by simp)).mono ?_
  rintro e w1 ⟨rfl, hb1⟩
  rw [E1.out]
  have HB1 := Lib.hid hb1
  clear hb1
  go_wp2_with fail
  refine (code33 _ _).mono ?_
  rintro e w2 ⟨rfl, rfl⟩
  go_wp2_with fail
  refine (jstates_calls (HC.out _) (HF.out _) (.inl rfl) (by simp) (by simp)).mono ?_
  rintro e w3 ⟨u, rfl, hu, hb3⟩
  obtain ⟨A, c, rfl, _, _, _⟩ := Rep.val_list hu
  rw [statesTo_len]
  have HB3 := Lib.hid (HB1.out.trans (hb3.mono HB1.out.size))
  clear hu hb3
  go_wp2_with fail
  refine (jback_calls (safe := 0) (k := 1) (HC.out _) (HF.out _) (HS.out _) (.inl rfl) (by simp) (by simp)).mono ?_
  rintro e w4 ⟨rfl, hb4⟩
  rw [E2.out]
  have HB4 := Lib.hid (HB3.out.trans (hb4.mono HB3.out.size))
  clear hb4
  go_wp2_with fail
  refine (code33 _ _).mono ?_
  rintro e w5 ⟨rfl, rfl⟩
  go_wp2_with fail
  go_ret
  exact ⟨rfl, HB4.out⟩
end Go.Proofs.Yteljibjbndpncaa
