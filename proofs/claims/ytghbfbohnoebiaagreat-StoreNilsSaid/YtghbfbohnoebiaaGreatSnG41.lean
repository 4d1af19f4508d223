/- Texts on which the proofs stand: StoreTop. No condition is laid on any input. -/
import Derived.Test.YtghbfbohnoebiaaGreatSnG33
import Derived.Test.YtghbfbohnoebiaaGreatSnG40
namespace Go.Proofs.YtghbfbohnoebiaaGreat
open Go.RowKit

/-- The greatest epoch of sectors. -/
def maxTop (l : List (List UInt8)) : Int := l.foldl (fun n b => if n < topOf b then topOf b else n) 0
theorem maxTop_next {l : List (List UInt8)} {j : Nat} {b : List UInt8} (h : l[j]? = some b) : maxTop (l.take (j + 1)) = if maxTop (l.take j) < topOf b then topOf b else maxTop (l.take j) := by
  unfold maxTop
  rw [List.take_add_one, h, List.foldl_append]; rfl
theorem topOf_range (s : List UInt8) : 0 ≤ topOf s ∧ topOf s ≤ maxEpoch := by
  have hw : ∀ n : Int, -1 ≤ wordOf n ∧ wordOf n ≤ maxEpoch := fun n => by unfold wordOf maxEpoch; split <;> omega
  have h1 : -1 ≤ (epochsOf s).1 ∧ (epochsOf s).1 ≤ maxEpoch ∧ -1 ≤ (epochsOf s).2 ∧ (epochsOf s).2 ≤ maxEpoch := by
    unfold epochsOf
    split
    · exact ⟨(hw _).1, (hw _).2, (hw _).1, (hw _).2⟩
    · unfold maxEpoch; omega
  unfold topOf maxEpoch at *
  repeat' split
  all_goals omega
theorem maxTop_range : ∀ {l : List (List UInt8)} (j : Nat), 0 ≤ maxTop (l.take j) ∧ maxTop (l.take j) ≤ maxEpoch
  | l, 0 => by simp [maxTop, maxEpoch]
  | l, j + 1 => by
    cases h : l[j]? with
    | none => rw [List.take_of_length_le (by have := List.getElem?_eq_none_iff.1 h; omega), ← List.take_of_length_le (i := j) (List.getElem?_eq_none_iff.1 h)]; exact maxTop_range j
    | some b =>
      rw [maxTop_next h]
      have h1 := topOf_range b
      have h2 := maxTop_range (l := l) j
      split <;> omega
def topFn (c : DConf) (s : DiskSt) (k : Nat) : DiskSt × List UInt8 × Int := readSt s (logOf c k)
/-- An epoch above all: of the log's sectors, and two more. -/
def topS (c : DConf) (st : DiskSt) (two : List (List UInt8)) : DiskSt × Int × Int :=
  if (allTo (topFn c) st c.log.toNat).2.2 = 0 then (if maxTop ((allTo (topFn c) st c.log.toNat).2.1 ++ two) = maxEpoch then ((allTo (topFn c) st c.log.toNat).1, 0, 16) else ((allTo (topFn c) st c.log.toNat).1, maxTop ((allTo (topFn c) st c.log.toNat).2.1 ++ two) + 1, 0))
  else ((allTo (topFn c) st c.log.toNat).1, 0, (allTo (topFn c) st c.log.toNat).2.2)
theorem conf27_val {Q : Nat → Prop} {w : World} {log pages : Int} (h0 : (Lit.int .i64 log).wf = true) (h1 : (Lit.int .i64 pages).wf = true) : rConf.val Q w (.agg #[.int .i64 log, .int .i64 pages, .int .i64 1, .int .i64 1, .slice none 0 0]) (conf27 log pages) :=
  rConf_agg (x := conf27 log pages) h0 h1 (by show (Lit.int .i64 1).wf = true; decide) (by show (Lit.int .i64 1).wf = true; decide) ⟨Nat.le_refl _, by simp [maxLen], [], rfl, fun h => absurd h (by simp [conf27])⟩
/-- Sectors of the right length. -/
def SecOk (st : DiskSt) : Prop := (∀ x ∈ st.safe, x.length ≤ 100000) ∧ ∀ j, ∀ x ∈ st.wait j, x.length ≤ 100000

set_option maxRecDepth 100000 in
set_option maxHeartbeats 2000000 in
/-- store.top, its closure -/
theorem top1_calls {D : Nat → Prop} {W : World} {P n X S : Nat} {st : DiskSt} {c0 c1 : Int} {k : Nat} (h : DevD D W P n st) (hX : W.cell? ⟨X, 0, none⟩ = some (.pointer (some ⟨S, 0, none⟩))) (hx : ¬ D X)
    (hd : W.cell? ⟨S, 0, none⟩ = some (.pointer (some ⟨P, 0, none⟩))) (e1 : W.cell? ⟨S, 1, none⟩ = some (.int .i64 c0)) (e2 : W.cell? ⟨S, 2, none⟩ = some (.int .i64 c1)) (e3 : W.cell? ⟨S, 3, none⟩ = some (.int .i64 1)) (e4 : W.cell? ⟨S, 4, none⟩ = some (.int .i64 1)) (e5 : W.cell? ⟨S, 5, none⟩ = some (.slice none 0 0))
    (hs : ¬ D S) (hc : confRight (conf27 c0 c1) = true) (hok : SecOk st) :
    Calls Tryz.prog 106 #[.int .i64 k, .pointer (some ⟨X, 0, none⟩)] W (DReadD D P n W (topFn (conf27 c0 c1) st k)) := by
  have HD := Lib.hid h
  have HOK := Lib.hid hok
  have HX := Lib.hid hX
  have HE := Lib.hid (show ∀ V, Only D W V → V.cell? ⟨S, 0, none⟩ = some (.pointer (some ⟨P, 0, none⟩)) ∧ V.cell? ⟨S, 1, none⟩ = some (.int .i64 c0) ∧ V.cell? ⟨S, 2, none⟩ = some (.int .i64 c1) ∧ V.cell? ⟨S, 3, none⟩ = some (.int .i64 1) ∧ V.cell? ⟨S, 4, none⟩ = some (.int .i64 1) ∧ V.cell? ⟨S, 5, none⟩ = some (.slice none 0 0) from
    fun V ho => ⟨cell_only ho hs hd, cell_only ho hs e1, cell_only ho hs e2, cell_only ho hs e3, cell_only ho hs e4, cell_only ho hs e5⟩)
  have HXN := Lib.hid hx
  have HLW := Lib.hid (logOf_wf hc k)
  have hrt := (right_facts hc).1
  have hcl : (Lit.int .i64 c0).wf = true ∧ (Lit.int .i64 c1).wf = true := by
    obtain ⟨g1, g2, g3, g4, _⟩ := hrt
    exact ⟨wf_i64 (by have : (conf27 c0 c1).log = c0 := rfl; omega) (by have : (conf27 c0 c1).log = c0 := rfl; omega), wf_i64 (by have : (conf27 c0 c1).pages = c1 := rfl; omega) (by have : (conf27 c0 c1).pages = c1 := rfl; omega)⟩
  have HCL := Lib.hid hcl
  clear h hok hX hd e1 e2 e3 e4 e5 hs hx hc hrt hcl
  go_enter Tryz.func106, Tryz.ntmps106
  go_wp2_with fail
  refine wp_region_held_drew (S := fun V => Only D W V) (by kernel_rfl) ((Only.refl _ _).drw) (fun s0 => ?_)
  obtain ⟨v1, hv1⟩ : ∃ V, V = W.drew := ⟨_, rfl⟩
  rw [← hv1] at s0 ⊢
  have HV1 := Lib.hid (show DevD D v1 P n st by rw [hv1]; exact HD.out.below ((Below.refl _ _).drew))
  have t1 : Only D W v1 := s0
  clear hv1 s0
  refine tkH (i := 0) (v := .pointer (some ⟨S, 0, none⟩)) rfl (Or.inl ⟨by rfl, fun w' h => by have e := cell_only (h : Only D W w') HXN.out HX.out; go_simp⟩) t1 ?_
  go_simp
  refine tkHV (i := 1) (v := .pointer (some ⟨S, 0, none⟩)) rfl t1 ?_
  go_simp
  refine tkHV (i := 2) (v := .pointer (some ⟨S, 0, none⟩)) rfl t1 ?_
  go_simp
  refine tkH (i := 3) (v := .pointer (some ⟨P, 0, none⟩)) rfl (Or.inl ⟨by rfl, fun w' h => by obtain ⟨d0, d1, d2, d3, d4, d5⟩ := HE.out w' h; go_simp⟩) t1 ?_
  go_simp
  refine tkH (i := 4) (v := .pointer (some ⟨S, 0, none⟩)) rfl (Or.inl ⟨by rfl, fun w' h => by have e := cell_only (h : Only D W w') HXN.out HX.out; go_simp⟩) t1 ?_
  go_simp
  refine tkHV (i := 5) (v := .pointer (some ⟨S, 0, none⟩)) rfl t1 ?_
  go_simp
  refine tkHV (i := 6) (v := .pointer (some ⟨S, 1, none⟩)) rfl t1 ?_
  go_simp
  refine tkH (i := 7) (v := .agg #[.int .i64 c0, .int .i64 c1, .int .i64 1, .int .i64 1, .slice none 0 0]) rfl (Or.inl ⟨by rfl, fun w' h => by obtain ⟨d0, d1, d2, d3, d4, d5⟩ := HE.out w' h; go_simp⟩) t1 ?_
  go_simp
  refine tkHV (i := 8) (v := .int .i64 k) rfl t1 ?_
  go_simp
  refine wpAnyH_all (rs := [9]) (by kernel_rfl) (by simp) ?_
  intro i2 hi2
  obtain rfl : i2 = 9 := by simpa using hi2
  clear hi2
  refine wpOp_step rfl (fun K hK => ?_)
  go_simp
  refine (geomLog_calls (conf27_val (Q := fun _ => True) HCL.out.1 HCL.out.2)).mono ?_
  rintro e v2 ⟨rfl, hb2⟩
  have t2 : Only D W v2 := t1.trans (Only.of_below hb2)
  have HV2 := Lib.hid (HV1.out.below hb2)
  refine hK _ _ ⟨t2, ?_⟩
  clear hK K hb2
  refine wpAnyH_all (rs := [10]) (by kernel_rfl) (by simp) ?_
  intro i2 hi2
  obtain rfl : i2 = 10 := by simpa using hi2
  clear hi2
  refine wpOp_step rfl (fun K hK => ?_)
  go_simp
  refine (devd_read HV2.out HLW.out HOK.out.1 HOK.out.2).mono ?_
  rintro e v3 ⟨u, rfl, hu, hd3, ho3⟩
  have t3 : Only D W v3 := t2.trans ho3
  have HU := Lib.hid (show Rep.byte.list.val (fun b => W.heap.size ≤ b) v3 u (topFn (conf27 c0 c1) st k).2.1 from Rep.val_mono (fun b hb _ => Nat.le_trans t2.size hb) hu)
  have HD3 := Lib.hid (show DevD D v3 P n (topFn (conf27 c0 c1) st k).1 from hd3)
  refine hK _ _ ⟨t3, ?_⟩
  clear hK K hd3 hu ho3
  obtain ⟨er, her⟩ : ∃ er, (readSt st (logOf (conf27 c0 c1) k)).2.2 = er := ⟨_, rfl⟩
  rw [her]
  have HER := Lib.hid (show (topFn (conf27 c0 c1) st k).2.2 = er from her)
  clear her
  refine tkHV (i := 11) (v := u) rfl t3 ?_
  go_simp
  refine tkHV (i := 12) (v := .int .i64 er) rfl t3 ?_
  go_simp
  refine tkHV (i := 13) (v := u) rfl t3 ?_
  go_simp
  refine tkHV (i := 14) (v := .int .i64 er) rfl t3 ?_
  go_simp
  refine wpAnyH_done (by kernel_rfl) ?_ _
  go_wp2_with fail
  go_ret2
  exact ⟨_, by rw [HER.out]; rfl, HU.out, HD3.out, t3⟩

set_option maxRecDepth 100000 in
set_option maxHeartbeats 4000000 in
/-- store.top -/
theorem top_calls {D Q : Nat → Prop} {W : World} {P n S : Nat} {st : DiskSt} {c0 c1 : Int} {u : Value} {two : List (List UInt8)} (h : DevD D W P n st)
    (hd : W.cell? ⟨S, 0, none⟩ = some (.pointer (some ⟨P, 0, none⟩))) (e1 : W.cell? ⟨S, 1, none⟩ = some (.int .i64 c0)) (e2 : W.cell? ⟨S, 2, none⟩ = some (.int .i64 c1)) (e3 : W.cell? ⟨S, 3, none⟩ = some (.int .i64 1)) (e4 : W.cell? ⟨S, 4, none⟩ = some (.int .i64 1)) (e5 : W.cell? ⟨S, 5, none⟩ = some (.slice none 0 0))
    (hs : ¬ D S) (hc : confRight (conf27 c0 c1) = true) (hok : SecOk st) (hx : Rep.byte.list.list.val Q W u two) (hq : ∀ b, Q b → ¬ D b) (h2 : two.length ≤ 1000) :
    Calls Tryz.prog 50 #[.pointer (some ⟨S, 0, none⟩), u] W fun e W' => e = .returned (.tuple #[.int .i64 (topS (conf27 c0 c1) st two).2.1, .int .i64 (topS (conf27 c0 c1) st two).2.2]) ∧ DevD D W' P n (topS (conf27 c0 c1) st two).1 ∧ Only D W W' := by
  have hmf : ∀ (fn : Fn) (first cap : Array Value) (w : World), (Instr.makeFunc fn first cap).run Tryz.prog w = .ok (.func fn first cap) w := fun _ _ _ _ => rfl
  obtain ⟨A2, cc, rfl, hu1, hu2, _⟩ := Rep.val_list hx
  have hlog : 2 ≤ c0 ∧ c0 ≤ 1024 := by
    obtain ⟨g1, g2, _⟩ := (right_facts hc).1
    have e : (conf27 c0 c1).log = c0 := rfl
    omega
  obtain ⟨N, rfl⟩ : ∃ N : Nat, c0 = N := ⟨c0.toNat, by omega⟩
  obtain ⟨W1, hW1⟩ : ∃ W1, W.alloc (.cells #[.pointer (some ⟨S, 0, none⟩)] 43) = W1 := ⟨_, rfl⟩
  have hb1 : Below W.heap.size W W1 := by rw [← hW1]; exact (Below.refl _ _).alloc (Nat.le_refl _) _
  have HB1 := Lib.hid hb1
  have hX := (show W1.cell? ⟨W.heap.size, 0, none⟩ = some (.pointer (some ⟨S, 0, none⟩)) by rw [← hW1]; simp)
  have HD1 := Lib.hid (h.below hb1)
  have HXN := Lib.hid (show ¬ D W.heap.size from fun hh => by have := h.1 _ hh; omega)
  have f0 := cell_call hb1 hd
  have f1 := cell_call hb1 e1
  have f2 := cell_call hb1 e2
  have f3 := cell_call hb1 e3
  have f4 := cell_call hb1 e4
  have f5 := cell_call hb1 e5
  have HX := Lib.hid hX
  have HE := Lib.hid (show ∀ V, Only D W1 V → V.cell? ⟨S, 0, none⟩ = some (.pointer (some ⟨P, 0, none⟩)) ∧ V.cell? ⟨S, 1, none⟩ = some (.int .i64 N) ∧ V.cell? ⟨S, 2, none⟩ = some (.int .i64 c1) ∧ V.cell? ⟨S, 3, none⟩ = some (.int .i64 1) ∧ V.cell? ⟨S, 4, none⟩ = some (.int .i64 1) ∧ V.cell? ⟨S, 5, none⟩ = some (.slice none 0 0) from
    fun V ho => ⟨cell_only ho hs f0, cell_only ho hs f1, cell_only ho hs f2, cell_only ho hs f3, cell_only ho hs f4, cell_only ho hs f5⟩)
  have HSN := Lib.hid hs
  have HC := Lib.hid hc
  have HOK := Lib.hid hok
  have H2 := Lib.hid h2
  have HQ := Lib.hid (show Rep.byte.list.list.val (fun b => ¬ D b ∧ b < W1.heap.size) W1 (.slice A2 two.length cc) two from Rep.val_keep (fun b hb hl => ⟨⟨hq b hb, Nat.lt_of_lt_of_le hl.lt hb1.size⟩, hb1.block b hl.lt⟩) hx)
  have HTS := Lib.hid (show topS (conf27 N c1) st two = if (allTo (topFn (conf27 N c1)) st N).2.2 = 0 then (if maxTop ((allTo (topFn (conf27 N c1)) st N).2.1 ++ two) = maxEpoch then ((allTo (topFn (conf27 N c1)) st N).1, 0, 16) else ((allTo (topFn (conf27 N c1)) st N).1, maxTop ((allTo (topFn (conf27 N c1)) st N).2.1 ++ two) + 1, 0)) else ((allTo (topFn (conf27 N c1)) st N).1, 0, (allTo (topFn (conf27 N c1)) st N).2.2) from rfl)
  unfold maxLen at hu2
  clear h hd e1 e2 e3 e4 e5 hs hc hok hx hq h2 hb1 f0 f2 f3 f4 f5
  go_enter Tryz.func50, Tryz.ntmps50
  go_wp2_with fail
  try rw [hW1]
  clear hW1
  try go_wp2_with fail
  refine (allBytes2_calls (I := fun V s => DevD D V P n s ∧ s.safe = st.safe ∧ s.wait = st.wait) (F := D) (topFn (conf27 N c1)) (st := st) (by omega) (enters_of Tryz.func106 (by kernel_rfl) rfl) HD1.out.1
    (fun V V' s hi ho hsz hbk => ⟨hi.1.later hsz (fun b hb => hbk b (HD1.out.1 b hb)), hi.2⟩) ⟨HD1.out, rfl, rfl⟩ (fun k V s hk hi ho => ?_)).mono ?_
  · obtain ⟨g0, g1, g2, g3, g4, g5⟩ := HE.out V ho
    refine (top1_calls (k := k) hi.1 (cell_only ho HXN.out HX.out) HXN.out g0 g1 g2 g3 g4 g5 HSN.out HC.out ⟨by rw [hi.2.1]; exact HOK.out.1, by rw [hi.2.2]; exact HOK.out.2⟩).mono ?_
    rintro e w' ⟨u, rfl, h1, h2, h3⟩
    have hsame := readSt_same s (logOf (conf27 N c1) k)
    exact ⟨u, rfl, h1, ⟨h2, hsame.1.trans hi.2.1, hsame.2.trans hi.2.2⟩, h3⟩
  rintro e w2 ⟨v2, rfl, hacc, hi2, ho2⟩
  have HI2 := Lib.hid hi2
  have HO2 := Lib.hid ho2
  have HA2 := Lib.hid hacc
  generalize hr : allTo (topFn (conf27 N c1)) st N = r at *
  obtain ⟨s2, logs, er⟩ := r
  dsimp only at *
  obtain ⟨A6, c6, rfl, hc6, hm6⟩ := Rep.acc_form hacc
  clear hacc hi2 ho2
  by_cases he0 : er = 0
  case neg =>
    have g0 : (er == 0) = false := by simpa using he0
    have HR := Lib.hid (show topS (conf27 N c1) st two = (s2, 0, er) by rw [HTS.out, if_neg he0])
    clear he0 hX f1
    go_wp2_with fail
    go_ret2
    exact ⟨by rw [HR.out]; rfl, by rw [HR.out]; exact HI2.out.1, (Only.of_below HB1.out).trans HO2.out⟩
  case pos =>
    subst he0
    have hll : logs.length = N := by have := allTo_len (f := topFn (conf27 N c1)) (st := st) (k := N) (by rw [hr]); rw [hr] at this; exact this
    have HLL := Lib.hid hll
    have HR := Lib.hid (show topS (conf27 N c1) st two = if maxTop (logs ++ two) = maxEpoch then (s2, 0, 16) else (s2, maxTop (logs ++ two) + 1, 0) by rw [HTS.out, if_pos rfl])
    have HA3 := Lib.hid (show Rep.byte.list.acc 71 W1.heap.size (fun b => W1.heap.size ≤ b ∨ (¬ D b ∧ b < W1.heap.size)) w2 (.slice A6 logs.length c6) logs from Rep.acc_keep (fun _ _ _ => rfl) (fun _ hb _ => .inl hb) HA2.out)
    have HQ2 := Lib.hid (show Rep.byte.list.list.val (fun b => ¬ D b ∧ b < W1.heap.size) w2 (.slice A2 two.length cc) two from Rep.val_keep (fun b hb hl => ⟨hb, HO2.out.block b hl.lt hb.1⟩) HQ.out)
    have HL63 := Lib.hid (show logs.length + two.length ≤ maxLen ∧ (logs.length + two.length) * 24 ≤ 140737488355328 by have := H2.out; unfold maxLen; omega)
    have HSZ := Lib.hid HO2.out.size
    generalize hlen : logs.length = len at *
    have HLN := Lib.hid hlen
    clear hr hX f1 hll hlen
    go_wp2_with (refine wpList_spread (e := 71) (base := W1.heap.size) (Q := fun b => W1.heap.size ≤ b ∨ (¬ D b ∧ b < W1.heap.size)) (Q' := fun b => ¬ D b ∧ b < W1.heap.size) (r := Rep.byte.list) rfl _ _ 28 rfl (.slice none 0 0) 1 24 Tryz.underlying28 info_all1 rfl (by decide) rfl _ logs (by exact rfl) HA3.out _ two (by exact rfl) HQ2.out (fun b hb _ => ⟨.inr hb, fun e => by have := (Rep.acc_own HA3.out b e).1; omega⟩) (by rw [HLN.out]; exact HL63.out.1) (by rw [HLN.out]; exact HL63.out.2) HSZ.out ?_; intro v7 w7 hacc7 hgr7 hat7; obtain ⟨A7, c7, rfl, hc7, hm7⟩ := Rep.acc_form hacc7; have HA7 := Lib.hid hacc7; have HG7 := Lib.hid hgr7; obtain ⟨m, hm⟩ : ∃ m, (logs ++ two).length = m := ⟨_, rfl⟩; rw [hm] at hc7 ⊢; have HM := Lib.hid hm; clear hacc7 hgr7 hat7 hm)
    have HO7 := Lib.hid (show Only D W w7 from by
      have h := (Only.of_below (F := D) HB1.out).trans HO2.out
      exact ⟨HG7.out.os.trans h.os, HG7.out.tape.trans h.tape, HG7.out.output.trans h.output, Nat.le_trans h.size HG7.out.size, fun b hl hf => (HG7.out.block b (Nat.lt_of_lt_of_le hl h.size) (fun e => by have := (Rep.acc_own HA3.out b e.symm).1; have := HB1.out.size; omega)).trans (h.block b hl hf)⟩)
    have HD7 := Lib.hid (show DevD D w7 P n s2 from HI2.out.1.later HG7.out.size (fun b hb => HG7.out.block b (HI2.out.1.1 b hb) (fun e => by have := (Rep.acc_own HA3.out b e.symm).1; have := HD1.out.1 b hb; omega)))
    have hmb : m ≤ 1100000 := by
      have h1 := HM.out
      rw [List.length_append, HLN.out] at h1
      have := HLL.out
      have := H2.out
      omega
    generalize hall : logs ++ two = all_ at *
    clear hall
    go_loopw [8, 28] (fun u8 i wr => ∃ j : Nat, i = .int .i64 j ∧ j ≤ m ∧ u8 = .int .i64 (maxTop (all_.take j)) ∧ wr = w7) (fun _ i _ => m - (intOf i).toNat)
    case atStart => exact ⟨0, rfl, Nat.zero_le _, rfl, rfl⟩
    case round =>
      obtain ⟨j, rfl, hj, rfl, hw⟩ := hrel
      obtain rfl := hw.symm
      clear hw
      have hq := maxTop_range (l := all_) j
      unfold maxEpoch at hq
      have iw : IntKind.i64.wrap ((j : Int) + 1) = (j : Int) + 1 := IntWalk.i64_in _ ⟨by omega, by omega⟩
      by_cases hlt : (j : Int) < m
      · obtain ⟨b, hb⟩ : ∃ b, all_[j]? = some b := ⟨_, List.getElem?_eq_getElem (by have := HM.out; omega)⟩
        have HN := Lib.hid (maxTop_next hb)
        have HJM := Lib.hid (show j < m by omega)
        obtain ⟨g, B9, c9, cap9, hv9, hcell, _, _, hval⟩ := Rep.acc_elem HA7.out hb
        obtain ⟨rfl, rfl⟩ : A7 = some ⟨g, 0, none⟩ ∧ c7 = cap9 := by injection hv9 with e1 e2 e3; exact ⟨e1, e3⟩
        have HVL := Lib.hid hval
        have ht := topOf_range b
        unfold maxEpoch at ht
        clear hb hv9 hval
        go_wp2_with fail
        refine (sealTop_calls HVL.out).mono ?_
        rintro e w8 ⟨rfl, hw⟩
        obtain rfl := hw.symm
        clear hw
        generalize topOf b = t at *
        generalize hqq : maxTop (all_.take j) = q at *
        clear hqq
        by_cases hqt : q < t
        · have HN2 := Lib.hid (show maxTop (all_.take (j + 1)) = t by rw [HN.out, if_pos hqt])
          go_wp2_with fail
          all_goals first | exact ⟨⟨j + 1, by go_num, by omega, by rw [HN2.out], by first | rfl | trivial⟩, by show m - ((j : Int) + 1).toNat < m - (j : Int).toNat; have := HJM.out; omega⟩ | (exfalso; omega)
        · have HN2 := Lib.hid (show maxTop (all_.take (j + 1)) = q by rw [HN.out, if_neg hqt])
          go_wp2_with fail
          all_goals first | exact ⟨⟨j + 1, by go_num, by omega, by rw [HN2.out], by first | rfl | trivial⟩, by show m - ((j : Int) + 1).toNat < m - (j : Int).toNat; have := HJM.out; omega⟩ | (exfalso; omega)
      · obtain rfl : j = m := by omega
        have HTK := Lib.hid (show all_.take j = all_ from List.take_of_length_le (by rw [HM.out]; exact Nat.le_refl _))
        rw [HTK.out] at hq ⊢
        generalize hqq : maxTop all_ = q at *
        have HQQ := Lib.hid hqq
        clear hqq
        by_cases hme : q = 281474976710656
        · subst hme
          have HR2 := Lib.hid (show topS (conf27 N c1) st two = (s2, 0, 16) by rw [HR.out, if_pos (by unfold maxEpoch; rfl)])
          go_wp2_with fail
          go_ret2
          exact ⟨by rw [HR2.out]; rfl, by rw [HR2.out]; exact HD7.out, HO7.out⟩
        · have HR2 := Lib.hid (show topS (conf27 N c1) st two = (s2, q + 1, 0) by rw [HR.out, if_neg (by unfold maxEpoch; exact hme)])
          have bme : (q == 281474976710656) = false := beq_eq_false_iff_ne.2 hme
          have iw2 : IntKind.i64.wrap (q + 1) = q + 1 := IntWalk.i64_in _ ⟨by omega, by omega⟩
          clear hme
          go_wp2_with fail
          go_ret2
          exact ⟨by rw [HR2.out]; rfl, by rw [HR2.out]; exact HD7.out, HO7.out⟩
end Go.Proofs.YtghbfbohnoebiaaGreat
