/- Texts on which the proofs stand: Pieces, PNews, PNewsA, Pieces2. No condition is laid on any input. -/
import Derived.Test.YtghbfbohnoebiaaGreatSnG1
import Derived.Test.YtghbfbohnoebiaaGreatSnG3
import Derived.Test.YtghbfbohnoebiaaGreatSnG18
import Derived.Test.YtghbfbohnoebiaaGreatSnG20
namespace Go.Proofs.YtghbfbohnoebiaaGreat
open Go.RowKit Go.Shelf
attribute [local go_sem] Oper.semAt_some

def piecesAt (l : List DFlow) (k : Nat) : Nat := match l[k]? with
  | some f => pieceCount f
  | none => 0
def spots (k i : Nat) : List (Nat × Nat) := (List.range i).map fun j => (k, j)
/-- The places of the pieces of the first k flows. -/
def placesTo (l : List DFlow) (k : Nat) : List (Nat × Nat) := ((List.range k).map fun j => spots j (piecesAt l j)).flatten
theorem placesTo_succ {l : List DFlow} {k : Nat} {f : DFlow} (h : l[k]? = some f) : placesTo l (k + 1) = placesTo l k ++ spots k (pieceCount f) := by
  unfold placesTo
  rw [List.range_succ, List.map_append, List.flatten_append]
  simp [piecesAt, h]
theorem spots_succ (k i : Nat) : spots k (i + 1) = spots k i ++ [(k, i)] := by simp [spots, List.range_succ]
/-- A place, and the value of the piece there. -/
abbrev Spot := (Nat × Nat) × Value
def encSpot (x : Spot) : Array Value := #[.agg #[.int .i64 x.1.1, .int .i64 x.1.2], x.2]
/-- What the body is told of the next piece. -/
def PieceV (R : Nat) (M : Nat → Prop) (w : World) (l : List DFlow) (pre : List Spot) (x : Spot) (W : World) : Prop :=
  ∃ f, l[x.1.1]? = some f ∧ x.1.2 < pieceCount f ∧ pre.map Prod.fst = placesTo l x.1.1 ++ spots x.1.1 x.1.2 ∧ Seen R M w W ∧ Rep.byte.list.val (Free R M w.heap.size W) W x.2 (piece f.data x.1.2)
theorem pieceV_own (R : Nat) (M : Nat → Prop) (w : World) (l : List DFlow) (B : Nat) : OwnFrom B (fun (p : List Spot × Spot) W => PieceV R M w l p.1 p.2 W) := by
  rintro s X Y row ⟨f, h1, h2, h3, h4, h5⟩ hg hr
  exact ⟨f, h1, h2, h3, Seen.own B () X Y row h4 hg hr, (Free.val_own _ _ _ B () X Y row ⟨h4.1, h5⟩ hg hr).2⟩
/-- The box that the iterator reads, and what lies behind it. -/
structure FlowsIn (l : List DFlow) (A : Option Addr) (B c : Nat) (W : World) : Prop where
  bx : W.cell? ⟨B, 0, none⟩ = some (.slice A l.length c)
  rd : ∀ (k : Nat) (f : DFlow), l[k]? = some f → ∃ (b off : Nat) (A1 : Option Addr) (c1 : Nat) (A2 : Option Addr) (n2 c2 : Nat), A = some ⟨b, off, none⟩ ∧ b < W.heap.size ∧ W.cell? ⟨b, off + k * 5, none⟩ = some (.int .i64 f.key.kind) ∧ W.cell? ⟨b, off + k * 5 + 1, none⟩ = some (.int .u64 f.key.sig) ∧ W.cell? ⟨b, off + k * 5 + 2, none⟩ = some (.int .i64 f.key.comp) ∧
    W.cell? ⟨b, off + k * 5 + 3, none⟩ = some (.slice A1 f.data.length c1) ∧ W.cell? ⟨b, off + k * 5 + 4, none⟩ = some (.slice A2 n2 c2) ∧ Rep.byte.list.val (fun b => b < W.heap.size) W (.slice A1 f.data.length c1) f.data

theorem grown_of_below {w w' : World} (h : Below w.heap.size w w') (row : Option Nat) : w.grownBy w' row := ⟨h.os, h.tape, h.output, h.size, fun k hk _ => h.block k hk⟩

set_option maxRecDepth 100000 in
set_option maxHeartbeats 2000000 in
/-- plan.pieces' iterator -/
theorem pieces_seq {n R : Nat} {M : Nat → Prop} {w : World} {l : List DFlow} {A : Option Addr} {B c : Nat} (hn : 1 ≤ n) (hg : Ground R M w.heap.size w) (hin : ∀ W, Seen R M w W → FlowsIn l A B c W) (hd : ∀ f ∈ l, f.data.length ≤ 1000000) (hl : l.length ≤ 1000000) :
    SeqV Fence.wide n Tryz.prog 201 #[.pointer (some ⟨B, 0, none⟩)] encSpot (PieceV R M w l) (Keeps R M w.heap.size) (fun ys => ys.map Prod.fst = placesTo l l.length) w := by
  intro lp J Jx W hW hJ _ hY h0
  have HS0 := Lib.hid ((Seen.refl hg).below hW)
  have HIN := Lib.hid hin
  have HD := Lib.hid hd
  have HY := Lib.hid hY
  have HJ := Lib.hid hJ
  have HJ0 := Lib.hid h0
  have HN := Lib.hid hn
  have hbx := (hin W HS0.out).bx
  have hli : (l.length : Int) ≤ 1000000 := by omega
  obtain ⟨B0, hB0⟩ : ∃ B0, B0 = W.heap.size := ⟨_, rfl⟩
  have HBW := Lib.hid (Below.refl B0 W)
  clear hg hW hin hd hY hJ h0 hn
  refine callsIn_of_wp Tryz.func201 rfl trivial ?_ rfl
  simp only [Tryz.ntmps201, List.size_toArray, List.length_cons, List.length_nil, Nat.reduceAdd, Nat.reduceSub, Array.replicate_succ, Array.replicate_zero, List.push_toArray, List.append_toArray, List.nil_append, List.cons_append]
  gi_wp2
  gi_loopw [9] (fun v wr => ∃ k : Nat, v = .int .i64 k ∧ k ≤ l.length ∧ Hid (∃ ys : List Spot, ys.map Prod.fst = placesTo l k ∧ J ys wr) ∧ Hid (Seen R M w wr) ∧ Hid (B0 ≤ wr.heap.size)) (fun i _ => l.length - (intOf i).toNat)
  case atStart => exact ⟨0, rfl, Nat.zero_le _, Lib.hid ⟨[], rfl, HJ0.out⟩, HS0, Lib.hid (Nat.le_of_eq hB0)⟩
  case round =>
    obtain ⟨k, rfl, hk, HYS, HSW, HZ⟩ := hrel
    by_cases hlt : (k : Int) < l.length
    · obtain ⟨f, hf⟩ : ∃ f, l[k]? = some f := ⟨_, List.getElem?_eq_getElem (by omega)⟩
      obtain ⟨b, off, A1, c1, A2, n2, c2, rfl, hb, d0, d1, d2, d3, d4, hdv⟩ := (HIN.out wr HSW.out).rd k f hf
      have HF := Lib.hid hf
      have HDF := Lib.hid (HD.out f (List.mem_of_getElem? hf))
      have HDV := Lib.hid hdv
      clear hf hdv
      obtain ⟨W1, hW1⟩ : ∃ W1, wr.alloc (.cells #[.int .i64 f.key.kind, .int .u64 f.key.sig, .int .i64 f.key.comp, .slice A1 f.data.length c1, .slice A2 n2 c2] 116) = W1 := ⟨_, rfl⟩
      have hb1 : Below wr.heap.size wr W1 := by rw [← hW1]; exact (Below.refl _ _).alloc (Nat.le_refl _) _
      have hn1 : W1.heap[wr.heap.size]? = some (.cells #[.int .i64 f.key.kind, .int .u64 f.key.sig, .int .i64 f.key.comp, .slice A1 f.data.length c1, .slice A2 n2 c2] 116 (0, 0)) := by rw [← hW1]; exact heap_alloc_new _ _
      have g3 := cell_row hn1 3
      have HB1 := Lib.hid hb1
      have HDV1 := Lib.hid (Rep.val_below HDV.out hb1 (fun _ h _ => h))
      clear hb1 hn1 HDV
      gi_wp2
      refine ⟨trivial, fun _ => HN.out, callsIn_wide.2 ?_⟩
      try rw [hW1]
      refine (cut_calls HDV1.out HDF.out).mono ?_
      clear hW1 g3
      rintro e w3 ⟨u3, rfl, hu3, hb3⟩
      obtain ⟨A5, c5, rfl, h51, h52, hat5⟩ := Rep.val_list hu3
      have HB3 := Lib.hid (HB1.out.trans (hb3.mono HB1.out.size))
      have HS3 := Lib.hid (HSW.out.below HB3.out)
      have HF3 := Lib.hid (show Rep.byte.list.At (Free R M w.heap.size w3) w3 A5 (cut f.data) from Rep.At.keep (w := w3) (fun b hb hl => ⟨Free.fresh HSW.out.1 HB3.out (Nat.le_trans HB1.out.size hb) hl.lt, rfl⟩) hat5)
      have HY3 := Lib.hid (show ∃ ys : List Spot, ys.map Prod.fst = placesTo l k ++ spots k 0 ∧ J ys w3 by
        obtain ⟨ys, h1, h2⟩ := HYS.out
        exact ⟨ys, by rw [h1]; simp [spots], HJ.out ys wr w3 none h2 (grown_of_below HB3.out none) (fun r e => by cases e)⟩)
      have HZ3 := Lib.hid (Nat.le_trans HZ.out HB3.out.size)
      have HGET := Lib.hid (fun (i : Nat) (h : i < (f.data.length + 471) / 472) => cut_get h)
      have hlen : (cut f.data).length = pieceCount f := cut_length _
      have HPC := Lib.hid (show pieceCount f = (f.data.length + 471) / 472 from rfl)
      have hp3 : pieceCount f ≤ 3000 := by have := HDF.out; unfold pieceCount; omega
      generalize cut f.data = P at *
      obtain ⟨m, hm⟩ : ∃ m, P.length = m := ⟨_, rfl⟩
      have HNP := Lib.hid (show m = pieceCount f by rw [← hm, hlen])
      have hm3 : m ≤ 3000 := by have := HNP.out; omega
      rw [hm] at h51 ⊢
      unfold maxLen at h52
      clear hu3 hlen hm hat5 d0 d1 d2 d3 d4 hp3 HYS HSW HB1 HDV1 hb3
      gi_wp2
      gi_loopw [18] (fun v wx => ∃ i : Nat, v = .int .i64 i ∧ i ≤ m ∧ Hid (∃ ys : List Spot, ys.map Prod.fst = placesTo l k ++ spots k i ∧ J ys wx) ∧ Hid (Seen R M w wx) ∧ Hid (Rep.byte.list.At (Free R M w.heap.size wx) wx A5 P) ∧ Hid (B0 ≤ wx.heap.size)) (fun i _ => m - (intOf i).toNat)
      case atStart => exact ⟨0, rfl, Nat.zero_le _, HY3, HS3, HF3, HZ3⟩
      case round =>
        obtain ⟨i, rfl, hi, HYS, HSX, HFX, HZX⟩ := hrel
        by_cases hin : (i : Int) < m
        · have hgt := HGET.out i (by rw [← HPC.out, ← HNP.out]; omega)
          obtain ⟨bb, o5, B6, c6, rfl, hcell, hc6, hm6, hat6⟩ := Rep.At.list HFX.out hgt
          obtain ⟨ys, hys, hj⟩ := HYS.out
          obtain ⟨fn, tmps, assign, body, hy, hR⟩ := HY.out ys ((k, i), .slice B6 (piece f.data i).length c6) _ hj ⟨f, HF.out, by show i < pieceCount f; rw [← HNP.out]; omega, hys, HSX.out, Rep.list_val (r := Rep.byte) rfl hc6 hm6 hat6⟩
          dsimp only [encSpot] at hy
          have HYE := Lib.hid hys
          clear hys hj hgt hat6
          gi_wp2
          refine ⟨fun _ => HN.out, hR.mono ?_⟩
          clear hR hy
          rintro e W4 (⟨rfl, hJ4, hk4⟩ | ⟨rfl, hJx4⟩)
          · have HY4 := Lib.hid (show ∃ ys : List Spot, ys.map Prod.fst = placesTo l k ++ spots k (i + 1) ∧ J ys W4 from ⟨_, by rw [List.map_append, HYE.out, spots_succ, List.append_assoc]; rfl, hJ4⟩)
            have HS4 := Lib.hid (HSX.out.keeps hk4)
            have HF4 := Lib.hid (Free.at_keeps HFX.out HSX.out.1 hk4)
            have HZ4 := Lib.hid (Nat.le_trans HZX.out (hk4 HSX.out.1).size)
            clear hJ4 hk4
            gi_wp2
            go_roundw
            case rel => exact ⟨i + 1, by go_num, by omega, HY4, HS4, HF4, HZ4⟩
            case measure => simp [intOf]; omega
          · gi_wp2
            refine bodyPost_ret (results_none rfl _ _ _) rfl ?_
            exact ⟨⟨_, rfl⟩, .inr ⟨_, hJx4⟩⟩
        · obtain rfl : i = m := by omega
          have HY4 := Lib.hid (show ∃ ys : List Spot, ys.map Prod.fst = placesTo l (k + 1) ∧ J ys _ by rw [placesTo_succ HF.out, ← HNP.out]; exact HYS.out)
          gi_wp2
          go_roundw
          case rel => exact ⟨k + 1, by go_num, by omega, HY4, HSX, HZX⟩
          case measure => simp [intOf]; omega
    · obtain rfl : k = l.length := by omega
      gi_wp2
      go_end0
      obtain ⟨ys, h1, h2⟩ := HYS.out
      exact ⟨⟨_, rfl⟩, .inl ⟨ys, h1, h2⟩⟩

/-- plan.pieces -/
theorem pieces_calls (A : Option Addr) (n c : Nat) (w : World) : Calls Tryz.prog 163 #[.slice A n c] w fun e w' => e = .returned (.func (.func 201) #[] #[.pointer (some ⟨w.heap.size, 0, none⟩)]) ∧ w' = w.alloc (.cells #[.slice A n c] 38) := by
  go_enter Tryz.func163, Tryz.ntmps163
  go_wp2_with fail
  go_ret
  exact ⟨rfl, rfl⟩
end Go.Proofs.YtghbfbohnoebiaaGreat
namespace Go.Proofs.YtghbfbohnoebiaaGreat
open Go.RowKit Go.Shelf
attribute [local go_sem] Oper.semAt_some

/-- The pieces without pages, at places. -/
def newsAt (l : List DFlow) (ps : List (Nat × Nat)) : List (List UInt8) := ps.filterMap fun p => match l[p.1]? with
  | some f => if pageAt f p.2 < 0 then some (piece f.data p.2) else none
  | none => none
theorem newsAt_snoc {l : List DFlow} {ps : List (Nat × Nat)} {k i : Nat} {f : DFlow} (h : l[k]? = some f) : newsAt l (ps ++ [(k, i)]) = newsAt l ps ++ (if pageAt f i < 0 then [piece f.data i] else []) := by
  unfold newsAt
  rw [List.filterMap_append]
  simp only [List.filterMap_cons, List.filterMap_nil, h]
  by_cases hp : pageAt f i < 0
  · simp [hp]
  · simp [hp]
theorem newsAt_spots {l : List DFlow} {k : Nat} {f : DFlow} (h : l[k]? = some f) (n : Nat) : newsAt l (spots k n) = newsTo f n := by
  unfold newsAt spots newsTo
  rw [List.filterMap_map]
  refine filterMap_alike fun i _ => ?_
  simp [h]
theorem newsAt_to {l : List DFlow} : ∀ k, k ≤ l.length → newsAt l (placesTo l k) = newsOf (l.take k)
  | 0, _ => by simp [placesTo, newsAt, newsOf]
  | k + 1, hk => by
    obtain ⟨f, hf⟩ : ∃ f, l[k]? = some f := ⟨_, List.getElem?_eq_getElem (by omega)⟩
    rw [placesTo_succ hf, newsOf_succ hf, ← newsAt_to k (by omega), ← newsAt_spots hf]
    unfold newsAt
    rw [List.filterMap_append]
theorem newsAt_all (l : List DFlow) : newsAt l (placesTo l l.length) = newsOf l := by
  have := newsAt_to (l := l) l.length (Nat.le_refl _)
  rwa [List.take_length] at this
theorem newsAt_len (l : List DFlow) (ps : List (Nat × Nat)) : (newsAt l ps).length ≤ ps.length := List.length_filterMap_le _ _
theorem placesTo_len {l : List DFlow} (hd : ∀ f ∈ l, f.data.length ≤ 1000000) : ∀ k, k ≤ l.length → (placesTo l k).length ≤ 3000 * k
  | 0, _ => by simp [placesTo]
  | k + 1, hk => by
    obtain ⟨f, hf⟩ : ∃ f, l[k]? = some f := ⟨_, List.getElem?_eq_getElem (by omega)⟩
    have h1 := placesTo_len hd k (by omega)
    have h2 := pieceCount_le (hd f (List.mem_of_getElem? hf))
    rw [placesTo_succ hf, List.length_append]
    simp only [spots, List.length_map, List.length_range]
    omega

set_option maxRecDepth 100000 in
set_option maxHeartbeats 2000000 in
/-- plan.News -/
theorem news_calls {w : World} {v : Value} {l : List DFlow} (hx : rFlow.list.val (fun b => b < w.heap.size) w v l) (hd : ∀ f ∈ l, f.data.length ≤ 1000000) (hl : l.length ≤ 100000) :
    Calls Tryz.prog 128 #[v] w (Res Rep.byte.list.list (fun b => w.heap.size ≤ b) w (newsOf l)) := by
  obtain ⟨A, c, rfl, hc1, hc2, hA⟩ := Rep.val_list hx
  refine (callsIn_wide (n := 9)).1 ?_
  refine callsIn_of_wp_marks Tryz.func128 rfl trivial ?_ rfl
  simp only [Tryz.ntmps128, List.size_toArray, List.length_cons, List.length_nil, Nat.reduceAdd, Nat.reduceSub, Array.replicate_succ, Array.replicate_zero, List.push_toArray, List.append_toArray, List.nil_append, List.cons_append]
  have HA := Lib.hid hA
  have HD := Lib.hid hd
  have HL := Lib.hid hl
  clear hA hx hd hl
  gi_wp2_with (refine ⟨trivial, ?_⟩; gi_at_call 163; refine callsIn_wide.2 ((pieces_calls _ _ _ _).mono ?_); rintro e w' ⟨rfl, rfl⟩)
  -- the walk
  have bL := Boxed.new w 38 (.slice A l.length c)
  have bR := Boxed.new (w.alloc (.cells #[.slice A l.length c] 38)) 28 (.slice none 0 0)
  have bP := Boxed.new ((w.alloc (.cells #[.slice A l.length c] 38)).alloc (.cells #[.slice none 0 0] 28)) 38 (.slice A l.length c)
  simp only [World.size_alloc] at bR bP
  obtain ⟨W0, hW0⟩ : ∃ W0, ((w.alloc (.cells #[.slice A l.length c] 38)).alloc (.cells #[.slice none 0 0] 28)).alloc (.cells #[.slice A l.length c] 38) = W0 := ⟨_, rfl⟩
  have hsz : W0.heap.size = w.heap.size + 3 := by rw [← hW0]; simp
  have hB0 : Below w.heap.size w W0 := by rw [← hW0]; exact (((Below.refl _ w).alloc (Nat.le_refl _) _).alloc (by simp) _).alloc (by simp; omega) _
  replace bL : Boxed W0 w.heap.size 38 (.slice A l.length c) := by rw [← hW0]; exact (bL.alloc _).alloc _
  replace bR : Boxed W0 (w.heap.size + 1) 28 (.slice none 0 0) := by rw [← hW0]; exact bR.alloc _
  replace bP : Boxed W0 (w.heap.size + 2) 38 (.slice A l.length c) := by rw [← hW0]; exact bP
  rw [hW0]
  clear hW0
  have hG : Ground (w.heap.size + 1) (fun o => o = 0) W0.heap.size W0 := ⟨⟨_, _, bR⟩, by omega, Nat.le_refl _, fun o ho => by subst ho; exact ⟨none, 0, 0, bR.cell, fun b hb => by cases hb⟩⟩
  have hlow : ∀ W, Seen (w.heap.size + 1) (fun o => o = 0) W0 W → ∀ b, b < w.heap.size → IsC w b → W.heap[b]? = w.heap[b]? := fun W hs b hb hc => (hs.2.block b (by omega) (hc.same (hB0.block b hb)) (by omega)).trans (hB0.block b hb)
  have HAT := Lib.hid (show ∀ W, Seen (w.heap.size + 1) (fun o => o = 0) W0 W → rFlow.At (fun b => b < w.heap.size) W A l from fun W hs => Rep.At.keep (fun b hb hc => ⟨hb, hlow W hs b hb hc⟩) HA.out)
  have HBL := Lib.hid (show ∀ W, Seen (w.heap.size + 1) (fun o => o = 0) W0 W → Boxed W w.heap.size 38 (.slice A l.length c) from fun W hs => (hs.2.block _ (by omega) ⟨_, _, _, bL⟩ (by omega)).trans bL)
  have hfl : ∀ W, Seen (w.heap.size + 1) (fun o => o = 0) W0 W → FlowsIn l A (w.heap.size + 2) c W := fun W hs => by
    have hbx : Boxed W (w.heap.size + 2) 38 (.slice A l.length c) := (hs.2.block _ (by omega) ⟨_, _, _, bP⟩ (by omega)).trans bP
    refine ⟨hbx.cell, fun k f hk => ?_⟩
    obtain ⟨b, off, A1, c1, A2, c2, hA, hbc, d0, d1, d2, d3, d4, _, _, _, s3, _⟩ := rFlow_at (HAT.out W hs) hk
    exact ⟨b, off, A1, c1, A2, _, c2, hA, hbc.lt, d0, d1, d2, d3, d4, Rep.val_mono (fun b _ hl => hl.lt) s3.val⟩
  have hle := HL.out
  refine wpIn_rangeFunc_va rfl (by omega) (gf := 201) (lb := #[.pointer (some ⟨w.heap.size + 2, 0, none⟩)]) rfl trivial (enters_of Tryz.func201 (by kernel_rfl) rfl)
    (pieces_seq (n := 8) (by omega) hG hfl HD.out (by omega)) Keeps.trans (fun W o _ => Keeps.below ((Below.refl _ _).alloc (Nat.le_refl _) _)) (fun W l o o' _ h1 h2 _ => Keeps.putObj h1 h2) (Below.refl _ _) (fun _ => rfl)
    (fun (pre : List Spot) W => (∃ v, Boxed W (w.heap.size + 1) 28 v ∧ Rep.byte.list.acc 71 W0.heap.size (fun b => W0.heap.size ≤ b) W v (newsAt l (pre.map Prod.fst))) ∧ Below w.heap.size w W)
    (fun _ _ _ => False)
    (OwnFrom.and (Own.from (own_acc Rep.byte.list 71 W0.heap.size (fun b => W0.heap.size ≤ b) (w.heap.size + 1) 28 (fun pre : List Spot => newsAt l (pre.map Prod.fst))) _) (ownFrom_below (Nat.le_refl _) (by omega)))
    (fun _ _ _ _ _ hs _ _ => hs)
    (pieceV_own _ _ _ _ _)
    ⟨⟨_, bR, Rep.acc_nil⟩, hB0⟩
    (fun x b => { tmps := #[.slice A l.length c, .pointer (some ⟨w.heap.size, 0, none⟩), .slice none 0 0, .pointer (some ⟨w.heap.size + 1, 0, none⟩), .pointer (some ⟨b, 0, none⟩), x.2, .slice A l.length c, .func (.func 201) #[] #[.pointer (some ⟨w.heap.size + 1 + 1, 0, none⟩)], .agg #[.int .i64 x.1.1, .int .i64 x.1.2], x.2, undef, undef, undef, undef, undef, undef, undef, undef, undef, undef, undef, undef, undef, undef], defers := [] })
    (fun x => .cells #[.int .i64 x.1.1, .int .i64 x.1.2] 219) ?assign ?body ?done ?stop
  case assign =>
    intro lp x W K hK
    simp only [encSpot]
    gi_wp2
    exact hK
  case body =>
    rintro lr pre ⟨⟨k, i⟩, u⟩ b W ⟨⟨v, hv, hacc⟩, hB⟩ ⟨f, hf, hi, hpre, hseen, hu⟩ hb1 hb2 hbox
    simp only at hf hi hpre hu hbox
    have KS := Lib.hid (show ∀ W', Below W.heap.size W W' → Seen (w.heap.size + 1) (fun o => o = 0) W0 W' from fun W' h => hseen.below h)
    have KB := Lib.hid (show ∀ W', Below W.heap.size W W' → (W'.cell? ⟨w.heap.size, 0, none⟩ = some (.slice A l.length c) ∧ W'.cell? ⟨b, 0, none⟩ = some (.int .i64 k) ∧ W'.cell? ⟨b, 1, none⟩ = some (.int .i64 i)) from fun W' h => by
      have hn := (h.block b hb2).trans hbox
      exact ⟨(HBL.out W' (KS.out W' h)).cell, cell_row hn 0, cell_row hn 1⟩)
    obtain ⟨bl, ofl, A1, c1, A2, c2, hA, hbc, d0, d1, d2, d3, d4, f0, f1, f2, s3, s4⟩ := rFlow_at (HAT.out W hseen) hf
    subst hA
    have KF := Lib.hid (show ∀ W', Below W.heap.size W W' → ((W'.cell? ⟨bl, ofl + k * 5, none⟩ = some (.int .i64 f.key.kind) ∧ W'.cell? ⟨bl, ofl + k * 5 + 1, none⟩ = some (.int .u64 f.key.sig) ∧ W'.cell? ⟨bl, ofl + k * 5 + 2, none⟩ = some (.int .i64 f.key.comp) ∧ W'.cell? ⟨bl, ofl + k * 5 + 3, none⟩ = some (.slice A1 f.data.length c1) ∧ W'.cell? ⟨bl, ofl + k * 5 + 4, none⟩ = some (.slice A2 f.pages.length c2)) ∧
        rFlow.val (fun b => b < w.heap.size) W' (.agg #[.int .i64 f.key.kind, .int .u64 f.key.sig, .int .i64 f.key.comp, .slice A1 f.data.length c1, .slice A2 f.pages.length c2]) f) from fun W' h =>
      ⟨⟨(h.cell (p := ⟨bl, ofl + k * 5, none⟩) hbc.lt).trans d0, (h.cell (p := ⟨bl, ofl + k * 5 + 1, none⟩) hbc.lt).trans d1, (h.cell (p := ⟨bl, ofl + k * 5 + 2, none⟩) hbc.lt).trans d2, (h.cell (p := ⟨bl, ofl + k * 5 + 3, none⟩) hbc.lt).trans d3, (h.cell (p := ⟨bl, ofl + k * 5 + 4, none⟩) hbc.lt).trans d4⟩, rFlow_agg f0 f1 f2 (s3.below h (fun _ _ h => h.lt)) (s4.below h (fun _ _ h => h.lt))⟩)
    have hkl : (k : Int) < l.length := by have := (List.getElem?_eq_some_iff.1 hf).1; omega
    have HT := Lib.hid (newsAt_snoc (ps := pre.map Prod.fst) (i := i) hf)
    have HPL := Lib.hid (show (newsAt l (pre.map Prod.fst)).length + 1 ≤ maxLen ∧ ((newsAt l (pre.map Prod.fst)).length + 1) * 24 ≤ 140737488355328 by
      have h1 := newsAt_len l (pre.map Prod.fst)
      have h2 := placesTo_len HD.out k (by omega)
      have h3 := pieceCount_le (HD.out f (List.mem_of_getElem? hf))
      have h4 : (pre.map Prod.fst).length = (placesTo l k).length + i := by rw [hpre, List.length_append]; simp [spots]
      unfold maxLen
      omega)
    have HSEEN := Lib.hid hseen
    have HU := Lib.hid hu
    have HV := Lib.hid hv
    have HACC := Lib.hid hacc
    have HBW := Lib.hid hB
    have HGR := Lib.hid hG
    obtain ⟨z, hz⟩ : ∃ z, pageAt f i = z := ⟨_, rfl⟩
    have HZ := Lib.hid hz
    rw [hz] at HT
    clear hf hi hpre hseen hu hbox hbc d0 d1 d2 d3 d4 f0 f1 f2 s3 s4 hv hacc hB hz hfl hG hlow bL bR bP
    have HSZ := Lib.hid hsz
    clear hsz
    by_cases hz : z < 0
    · have HT2 := Lib.hid (show newsAt l ((pre ++ [((k, i), u)]).map Prod.fst) = newsAt l (pre.map Prod.fst) ++ [piece f.data i] by rw [List.map_append]; exact HT.out.trans (by rw [if_pos hz]))
      refine wpIn_block ?_
      refine wpIn_seq ?_
      refine region_round_held (S := fun W' => Below W.heap.size W W') (by kernel_rfl) (by kernel_rfl) (by rintro ⟨_, _, h⟩; exact h) (Below.refl _ _).drew (fun s0 => ?_)
      refine tkH (i := 0) (v := .slice (some ⟨bl, ofl, none⟩) l.length c) rfl (Or.inl ⟨by rfl, fun w' h => by obtain ⟨x0, x1, x2⟩ := KB.out w' h; obtain ⟨⟨y0, y1, y2, y3, y4⟩, _⟩ := KF.out w' h; go_simp⟩) s0 ?_
      go_simp
      refine tkHV (i := 1) (v := .pointer (some ⟨b, 0, none⟩)) rfl s0 ?_
      go_simp
      refine tkH (i := 2) (v := .int .i64 k) rfl (Or.inl ⟨by rfl, fun w' h => by obtain ⟨x0, x1, x2⟩ := KB.out w' h; obtain ⟨⟨y0, y1, y2, y3, y4⟩, _⟩ := KF.out w' h; go_simp⟩) s0 ?_
      go_simp
      refine tkHV (i := 3) (v := .pointer (some ⟨bl, ofl + k * 5, none⟩)) rfl s0 ?_
      go_simp
      refine tkH (i := 4) (v := .agg #[.int .i64 f.key.kind, .int .u64 f.key.sig, .int .i64 f.key.comp, .slice A1 f.data.length c1, .slice A2 f.pages.length c2]) rfl (Or.inl ⟨by rfl, fun w' h => by obtain ⟨x0, x1, x2⟩ := KB.out w' h; obtain ⟨⟨y0, y1, y2, y3, y4⟩, _⟩ := KF.out w' h; go_simp⟩) s0 ?_
      go_simp
      refine tkHV (i := 5) (v := .pointer (some ⟨b, 1, none⟩)) rfl s0 ?_
      go_simp
      refine tkH (i := 6) (v := .int .i64 i) rfl (Or.inl ⟨by rfl, fun w' h => by obtain ⟨x0, x1, x2⟩ := KB.out w' h; obtain ⟨⟨y0, y1, y2, y3, y4⟩, _⟩ := KF.out w' h; go_simp⟩) s0 ?_
      go_simp
      refine wpAnyH_all (rs := [7]) (by kernel_rfl) (by simp) ?_
      intro i hi
      obtain rfl : i = 7 := by simpa using hi
      clear hi
      refine wpOp_step rfl (fun K hK => ?_)
      go_simp
      refine (planAt_calls (KF.out _ s0).2).mono ?_
      rintro en w2 ⟨rfl, hb2⟩
      have s1 : Below W.heap.size W w2 := s0.trans (hb2.mono s0.size)
      rw [HZ.out]
      clear hb2
      refine hK _ _ ⟨s1, ?_⟩
      clear hK K
      refine tkHV (i := 8) (v := .bool true) rfl s1 ?_
      go_simp
      refine wpAnyH_done (by kernel_rfl) ?_ _
      refine wpIn_cond_true rfl ?_
      refine region_round_lit (by kernel_rfl) (by rintro ⟨_, _, h⟩; exact h) ?_
      have HS1 := Lib.hid s1
      have hv2 : Boxed w2 (w.heap.size + 1) 28 v := (s1.block _ HV.out.lt).trans HV.out
      have HA2 := Lib.hid (Rep.acc_later HACC.out s1)
      have HU2 := Lib.hid (show Rep.byte.list.val (fun b => W0.heap.size ≤ b ∧ v.ownBlock ≠ some b) w2 u (piece f.data i) from Rep.val_keep (fun b hb hl => ⟨⟨hb.1, fun e => hb.2.2 (.inr ⟨0, v, rfl, HV.out.cell, e⟩)⟩, s1.block b hl.lt⟩) HU.out)
      have HOC := Lib.hid (show ∀ b, v.ownBlock = some b → IsC W b from fun b hb => Rep.acc_isC HACC.out b hb)
      generalize newsAt l (pre.map Prod.fst) = q at *
      obtain ⟨Av, cv, rfl, _, _⟩ := Rep.acc_form HA2.out
      obtain ⟨Au, cu, rfl, _, _, _⟩ := Rep.val_list HU2.out
      have hc2 := hv2.cell
      have HV2 := Lib.hid hv2
      have HB2 := Lib.hid (show W0.heap.size ≤ w2.heap.size from Nat.le_trans HSEEN.out.1.le s1.size)
      clear hv2 s1 s0
      go_wp2_with (refine wpList_snoc (e := 71) (base := W0.heap.size) (Q := fun b => W0.heap.size ≤ b) (r := Rep.byte.list) rfl rfl _ _ 28 _ rfl rfl rfl (.slice none 0 0) 1 24 Tryz.underlying28 info36 rfl (by decide) rfl _ q HA2.out (piece f.data i) _ (by exact rfl) HU2.out (by exact rfl) (by exact rfl) HPL.out.1 HPL.out.2 HB2.out ?_; intro v7 w7 hacc7 hgr7 hat7; obtain ⟨A7, c7, rfl, _, _⟩ := Rep.acc_form hacc7; simp only [List.length_append, List.length_singleton] at hacc7 hat7; have hbx7 := HV2.out.kept hgr7 (fun e => by have := (Rep.acc_own HA2.out _ e.symm).1; have := HSZ.out; omega); have k0 := hbx7.cell; have k1 := hbx7.frozen; have HA7 := Lib.hid hacc7; have HG7 := Lib.hid hgr7; have HT7 := Lib.hid hat7; have HX7 := Lib.hid hbx7; clear hacc7 hgr7 hat7 hbx7)
      have hown7 := Rep.acc_own HA7.out
      have hk : Keeps (w.heap.size + 1) (fun o => o = 0) W0.heap.size W (w7.setCell ⟨w.heap.size + 1, 0, none⟩ (.slice A7 (q.length + 1) c7)) :=
        Keeps.collect rfl HS1.out HV.out.cell HG7.out (HT7.out.imp id fun e => ⟨_, e, Nat.le_succ _⟩) ⟨_, _, _, rfl⟩ hown7
      have hs : ∀ b, b ≠ w.heap.size + 1 → (w7.setCell ⟨w.heap.size + 1, 0, none⟩ (.slice A7 (q.length + 1) c7)).heap[b]? = w7.heap[b]? := fun b hb => Below.heap_setCell _ _ _ _ hb
      refine ⟨KeepsFrom.collect HS1.out HG7.out HOC.out, hk, ⟨_, HX7.out.set _, ?_⟩, ?_⟩
      · rw [HT2.out]
        exact Rep.acc_keep (fun b hb _ => hs b (by have := HSZ.out; rcases hb with hb | hb; · omega
                                                   · have := (hown7 b hb).1; omega)) (fun _ hb _ => hb) HA7.out
      · exact (((HBW.out.trans (HS1.out.mono HBW.out.size)).grown HG7.out (by have := HB2.out; have := HSZ.out; omega) (fun b hb => by have := (Rep.acc_own HA2.out b hb).1; have := HSZ.out; omega))).setCell (p := ⟨w.heap.size + 1, 0, none⟩) (Nat.le_succ _) _
    · have HT2 := Lib.hid (show newsAt l ((pre ++ [((k, i), u)]).map Prod.fst) = newsAt l (pre.map Prod.fst) by rw [List.map_append]; exact HT.out.trans (by rw [if_neg hz, List.append_nil]))
      refine wpIn_block ?_
      refine wpIn_seq ?_
      refine region_round_held (S := fun W' => Below W.heap.size W W') (by kernel_rfl) (by kernel_rfl) (by rintro ⟨_, _, h⟩; exact h) (Below.refl _ _).drew (fun s0 => ?_)
      refine tkH (i := 0) (v := .slice (some ⟨bl, ofl, none⟩) l.length c) rfl (Or.inl ⟨by rfl, fun w' h => by obtain ⟨x0, x1, x2⟩ := KB.out w' h; obtain ⟨⟨y0, y1, y2, y3, y4⟩, _⟩ := KF.out w' h; go_simp⟩) s0 ?_
      go_simp
      refine tkHV (i := 1) (v := .pointer (some ⟨b, 0, none⟩)) rfl s0 ?_
      go_simp
      refine tkH (i := 2) (v := .int .i64 k) rfl (Or.inl ⟨by rfl, fun w' h => by obtain ⟨x0, x1, x2⟩ := KB.out w' h; obtain ⟨⟨y0, y1, y2, y3, y4⟩, _⟩ := KF.out w' h; go_simp⟩) s0 ?_
      go_simp
      refine tkHV (i := 3) (v := .pointer (some ⟨bl, ofl + k * 5, none⟩)) rfl s0 ?_
      go_simp
      refine tkH (i := 4) (v := .agg #[.int .i64 f.key.kind, .int .u64 f.key.sig, .int .i64 f.key.comp, .slice A1 f.data.length c1, .slice A2 f.pages.length c2]) rfl (Or.inl ⟨by rfl, fun w' h => by obtain ⟨x0, x1, x2⟩ := KB.out w' h; obtain ⟨⟨y0, y1, y2, y3, y4⟩, _⟩ := KF.out w' h; go_simp⟩) s0 ?_
      go_simp
      refine tkHV (i := 5) (v := .pointer (some ⟨b, 1, none⟩)) rfl s0 ?_
      go_simp
      refine tkH (i := 6) (v := .int .i64 i) rfl (Or.inl ⟨by rfl, fun w' h => by obtain ⟨x0, x1, x2⟩ := KB.out w' h; obtain ⟨⟨y0, y1, y2, y3, y4⟩, _⟩ := KF.out w' h; go_simp⟩) s0 ?_
      go_simp
      refine wpAnyH_all (rs := [7]) (by kernel_rfl) (by simp) ?_
      intro i hi
      obtain rfl : i = 7 := by simpa using hi
      clear hi
      refine wpOp_step rfl (fun K hK => ?_)
      go_simp
      refine (planAt_calls (KF.out _ s0).2).mono ?_
      rintro en w2 ⟨rfl, hb2⟩
      have s1 : Below W.heap.size W w2 := s0.trans (hb2.mono s0.size)
      rw [HZ.out]
      clear hb2
      refine hK _ _ ⟨s1, ?_⟩
      clear hK K
      refine tkHV (i := 8) (v := .bool false) rfl s1 ?_
      go_simp
      refine wpAnyH_done (by kernel_rfl) ?_ _
      refine wpIn_cond_false rfl ?_
      gi_wp2
      exact ⟨(KeepsOthers.of_below s1).from _, Keeps.below s1, ⟨v, (s1.block _ HV.out.lt).trans HV.out, by rw [HT2.out]; exact Rep.acc_later HACC.out s1⟩, HBW.out.trans (s1.mono HBW.out.size)⟩
  case done =>
    rintro D ys W hD hys ⟨⟨v, hv, hacc⟩, hB⟩ hK
    have hc := hv.cell
    gi_wp2
    refine ⟨by simp, .inl ⟨_, _, rfl, run_takeDeferred hK, ?_⟩⟩
    rw [hys, newsAt_all] at hacc
    have hval : Rep.byte.list.list.val (fun b => w.heap.size ≤ b) (W.putObj D (.deferred none)) v (newsOf l) := by
      refine Rep.val_keep (w := W) (fun b' hb' hl => ⟨?_, World.putObj_heap_other ?_⟩) (Rep.acc_val hacc)
      · rcases hb' with hb' | hb'
        · omega
        · have := (Rep.acc_own hacc b' hb').1; omega
      · rintro rfl
        obtain ⟨_, _, _, hl⟩ := hl
        rw [hK] at hl; cases hl
    exact ⟨_, results_tmp rfl _ _ _, v, rfl, hval, hB.trans (belowK_b (w := w) (Nat.le_refl _) W D _ _ (by omega) hK rfl rfl)⟩
  case stop =>
    rintro D c pre W _ h _
    exact h.elim
end Go.Proofs.YtghbfbohnoebiaaGreat
namespace Go.Proofs.YtghbfbohnoebiaaGreat
open Go.RowKit Go.Shelf
attribute [local go_sem] Oper.semAt_some

def NewsA (w : World) (l : List (List UInt8)) (e : Ending) (w' : World) : Prop := ∃ u, e = .returned u ∧ Rep.byte.list.acc 71 w.heap.size (fun b => w.heap.size ≤ b) w' u l ∧ Below w.heap.size w w'
set_option maxRecDepth 100000 in
set_option maxHeartbeats 2000000 in
/-- plan.News: a slice of the call's own -/
theorem newsA_calls {w : World} {v : Value} {l : List DFlow} (hx : rFlow.list.val (fun b => b < w.heap.size) w v l) (hd : ∀ f ∈ l, f.data.length ≤ 1000000) (hl : l.length ≤ 100000) :
    Calls Tryz.prog 128 #[v] w (NewsA w (newsOf l)) := by
  obtain ⟨A, c, rfl, hc1, hc2, hA⟩ := Rep.val_list hx
  refine (callsIn_wide (n := 9)).1 ?_
  refine callsIn_of_wp_marks Tryz.func128 rfl trivial ?_ rfl
  simp only [Tryz.ntmps128, List.size_toArray, List.length_cons, List.length_nil, Nat.reduceAdd, Nat.reduceSub, Array.replicate_succ, Array.replicate_zero, List.push_toArray, List.append_toArray, List.nil_append, List.cons_append]
  have HA := Lib.hid hA
  have HD := Lib.hid hd
  have HL := Lib.hid hl
  clear hA hx hd hl
  gi_wp2_with (refine ⟨trivial, ?_⟩; gi_at_call 163; refine callsIn_wide.2 ((pieces_calls _ _ _ _).mono ?_); rintro e w' ⟨rfl, rfl⟩)
  -- the walk
  have bL := Boxed.new w 38 (.slice A l.length c)
  have bR := Boxed.new (w.alloc (.cells #[.slice A l.length c] 38)) 28 (.slice none 0 0)
  have bP := Boxed.new ((w.alloc (.cells #[.slice A l.length c] 38)).alloc (.cells #[.slice none 0 0] 28)) 38 (.slice A l.length c)
  simp only [World.size_alloc] at bR bP
  obtain ⟨W0, hW0⟩ : ∃ W0, ((w.alloc (.cells #[.slice A l.length c] 38)).alloc (.cells #[.slice none 0 0] 28)).alloc (.cells #[.slice A l.length c] 38) = W0 := ⟨_, rfl⟩
  have hsz : W0.heap.size = w.heap.size + 3 := by rw [← hW0]; simp
  have hB0 : Below w.heap.size w W0 := by rw [← hW0]; exact (((Below.refl _ w).alloc (Nat.le_refl _) _).alloc (by simp) _).alloc (by simp; omega) _
  replace bL : Boxed W0 w.heap.size 38 (.slice A l.length c) := by rw [← hW0]; exact (bL.alloc _).alloc _
  replace bR : Boxed W0 (w.heap.size + 1) 28 (.slice none 0 0) := by rw [← hW0]; exact bR.alloc _
  replace bP : Boxed W0 (w.heap.size + 2) 38 (.slice A l.length c) := by rw [← hW0]; exact bP
  rw [hW0]
  clear hW0
  have hG : Ground (w.heap.size + 1) (fun o => o = 0) W0.heap.size W0 := ⟨⟨_, _, bR⟩, by omega, Nat.le_refl _, fun o ho => by subst ho; exact ⟨none, 0, 0, bR.cell, fun b hb => by cases hb⟩⟩
  have hlow : ∀ W, Seen (w.heap.size + 1) (fun o => o = 0) W0 W → ∀ b, b < w.heap.size → IsC w b → W.heap[b]? = w.heap[b]? := fun W hs b hb hc => (hs.2.block b (by omega) (hc.same (hB0.block b hb)) (by omega)).trans (hB0.block b hb)
  have HAT := Lib.hid (show ∀ W, Seen (w.heap.size + 1) (fun o => o = 0) W0 W → rFlow.At (fun b => b < w.heap.size) W A l from fun W hs => Rep.At.keep (fun b hb hc => ⟨hb, hlow W hs b hb hc⟩) HA.out)
  have HBL := Lib.hid (show ∀ W, Seen (w.heap.size + 1) (fun o => o = 0) W0 W → Boxed W w.heap.size 38 (.slice A l.length c) from fun W hs => (hs.2.block _ (by omega) ⟨_, _, _, bL⟩ (by omega)).trans bL)
  have hfl : ∀ W, Seen (w.heap.size + 1) (fun o => o = 0) W0 W → FlowsIn l A (w.heap.size + 2) c W := fun W hs => by
    have hbx : Boxed W (w.heap.size + 2) 38 (.slice A l.length c) := (hs.2.block _ (by omega) ⟨_, _, _, bP⟩ (by omega)).trans bP
    refine ⟨hbx.cell, fun k f hk => ?_⟩
    obtain ⟨b, off, A1, c1, A2, c2, hA, hbc, d0, d1, d2, d3, d4, _, _, _, s3, _⟩ := rFlow_at (HAT.out W hs) hk
    exact ⟨b, off, A1, c1, A2, _, c2, hA, hbc.lt, d0, d1, d2, d3, d4, Rep.val_mono (fun b _ hl => hl.lt) s3.val⟩
  have hle := HL.out
  refine wpIn_rangeFunc_va rfl (by omega) (gf := 201) (lb := #[.pointer (some ⟨w.heap.size + 2, 0, none⟩)]) rfl trivial (enters_of Tryz.func201 (by kernel_rfl) rfl)
    (pieces_seq (n := 8) (by omega) hG hfl HD.out (by omega)) Keeps.trans (fun W o _ => Keeps.below ((Below.refl _ _).alloc (Nat.le_refl _) _)) (fun W l o o' _ h1 h2 _ => Keeps.putObj h1 h2) (Below.refl _ _) (fun _ => rfl)
    (fun (pre : List Spot) W => (∃ v, Boxed W (w.heap.size + 1) 28 v ∧ Rep.byte.list.acc 71 W0.heap.size (fun b => W0.heap.size ≤ b) W v (newsAt l (pre.map Prod.fst))) ∧ Below w.heap.size w W)
    (fun _ _ _ => False)
    (OwnFrom.and (Own.from (own_acc Rep.byte.list 71 W0.heap.size (fun b => W0.heap.size ≤ b) (w.heap.size + 1) 28 (fun pre : List Spot => newsAt l (pre.map Prod.fst))) _) (ownFrom_below (Nat.le_refl _) (by omega)))
    (fun _ _ _ _ _ hs _ _ => hs)
    (pieceV_own _ _ _ _ _)
    ⟨⟨_, bR, Rep.acc_nil⟩, hB0⟩
    (fun x b => { tmps := #[.slice A l.length c, .pointer (some ⟨w.heap.size, 0, none⟩), .slice none 0 0, .pointer (some ⟨w.heap.size + 1, 0, none⟩), .pointer (some ⟨b, 0, none⟩), x.2, .slice A l.length c, .func (.func 201) #[] #[.pointer (some ⟨w.heap.size + 1 + 1, 0, none⟩)], .agg #[.int .i64 x.1.1, .int .i64 x.1.2], x.2, undef, undef, undef, undef, undef, undef, undef, undef, undef, undef, undef, undef, undef, undef], defers := [] })
    (fun x => .cells #[.int .i64 x.1.1, .int .i64 x.1.2] 219) ?assign ?body ?done ?stop
  case assign =>
    intro lp x W K hK
    simp only [encSpot]
    gi_wp2
    exact hK
  case body =>
    rintro lr pre ⟨⟨k, i⟩, u⟩ b W ⟨⟨v, hv, hacc⟩, hB⟩ ⟨f, hf, hi, hpre, hseen, hu⟩ hb1 hb2 hbox
    simp only at hf hi hpre hu hbox
    have KS := Lib.hid (show ∀ W', Below W.heap.size W W' → Seen (w.heap.size + 1) (fun o => o = 0) W0 W' from fun W' h => hseen.below h)
    have KB := Lib.hid (show ∀ W', Below W.heap.size W W' → (W'.cell? ⟨w.heap.size, 0, none⟩ = some (.slice A l.length c) ∧ W'.cell? ⟨b, 0, none⟩ = some (.int .i64 k) ∧ W'.cell? ⟨b, 1, none⟩ = some (.int .i64 i)) from fun W' h => by
      have hn := (h.block b hb2).trans hbox
      exact ⟨(HBL.out W' (KS.out W' h)).cell, cell_row hn 0, cell_row hn 1⟩)
    obtain ⟨bl, ofl, A1, c1, A2, c2, hA, hbc, d0, d1, d2, d3, d4, f0, f1, f2, s3, s4⟩ := rFlow_at (HAT.out W hseen) hf
    subst hA
    have KF := Lib.hid (show ∀ W', Below W.heap.size W W' → ((W'.cell? ⟨bl, ofl + k * 5, none⟩ = some (.int .i64 f.key.kind) ∧ W'.cell? ⟨bl, ofl + k * 5 + 1, none⟩ = some (.int .u64 f.key.sig) ∧ W'.cell? ⟨bl, ofl + k * 5 + 2, none⟩ = some (.int .i64 f.key.comp) ∧ W'.cell? ⟨bl, ofl + k * 5 + 3, none⟩ = some (.slice A1 f.data.length c1) ∧ W'.cell? ⟨bl, ofl + k * 5 + 4, none⟩ = some (.slice A2 f.pages.length c2)) ∧
        rFlow.val (fun b => b < w.heap.size) W' (.agg #[.int .i64 f.key.kind, .int .u64 f.key.sig, .int .i64 f.key.comp, .slice A1 f.data.length c1, .slice A2 f.pages.length c2]) f) from fun W' h =>
      ⟨⟨(h.cell (p := ⟨bl, ofl + k * 5, none⟩) hbc.lt).trans d0, (h.cell (p := ⟨bl, ofl + k * 5 + 1, none⟩) hbc.lt).trans d1, (h.cell (p := ⟨bl, ofl + k * 5 + 2, none⟩) hbc.lt).trans d2, (h.cell (p := ⟨bl, ofl + k * 5 + 3, none⟩) hbc.lt).trans d3, (h.cell (p := ⟨bl, ofl + k * 5 + 4, none⟩) hbc.lt).trans d4⟩, rFlow_agg f0 f1 f2 (s3.below h (fun _ _ h => h.lt)) (s4.below h (fun _ _ h => h.lt))⟩)
    have hkl : (k : Int) < l.length := by have := (List.getElem?_eq_some_iff.1 hf).1; omega
    have HT := Lib.hid (newsAt_snoc (ps := pre.map Prod.fst) (i := i) hf)
    have HPL := Lib.hid (show (newsAt l (pre.map Prod.fst)).length + 1 ≤ maxLen ∧ ((newsAt l (pre.map Prod.fst)).length + 1) * 24 ≤ 140737488355328 by
      have h1 := newsAt_len l (pre.map Prod.fst)
      have h2 := placesTo_len HD.out k (by omega)
      have h3 := pieceCount_le (HD.out f (List.mem_of_getElem? hf))
      have h4 : (pre.map Prod.fst).length = (placesTo l k).length + i := by rw [hpre, List.length_append]; simp [spots]
      unfold maxLen
      omega)
    have HSEEN := Lib.hid hseen
    have HU := Lib.hid hu
    have HV := Lib.hid hv
    have HACC := Lib.hid hacc
    have HBW := Lib.hid hB
    have HGR := Lib.hid hG
    obtain ⟨z, hz⟩ : ∃ z, pageAt f i = z := ⟨_, rfl⟩
    have HZ := Lib.hid hz
    rw [hz] at HT
    clear hf hi hpre hseen hu hbox hbc d0 d1 d2 d3 d4 f0 f1 f2 s3 s4 hv hacc hB hz hfl hG hlow bL bR bP
    have HSZ := Lib.hid hsz
    clear hsz
    by_cases hz : z < 0
    · have HT2 := Lib.hid (show newsAt l ((pre ++ [((k, i), u)]).map Prod.fst) = newsAt l (pre.map Prod.fst) ++ [piece f.data i] by rw [List.map_append]; exact HT.out.trans (by rw [if_pos hz]))
      refine wpIn_block ?_
      refine wpIn_seq ?_
      refine region_round_held (S := fun W' => Below W.heap.size W W') (by kernel_rfl) (by kernel_rfl) (by rintro ⟨_, _, h⟩; exact h) (Below.refl _ _).drew (fun s0 => ?_)
      refine tkH (i := 0) (v := .slice (some ⟨bl, ofl, none⟩) l.length c) rfl (Or.inl ⟨by rfl, fun w' h => by obtain ⟨x0, x1, x2⟩ := KB.out w' h; obtain ⟨⟨y0, y1, y2, y3, y4⟩, _⟩ := KF.out w' h; go_simp⟩) s0 ?_
      go_simp
      refine tkHV (i := 1) (v := .pointer (some ⟨b, 0, none⟩)) rfl s0 ?_
      go_simp
      refine tkH (i := 2) (v := .int .i64 k) rfl (Or.inl ⟨by rfl, fun w' h => by obtain ⟨x0, x1, x2⟩ := KB.out w' h; obtain ⟨⟨y0, y1, y2, y3, y4⟩, _⟩ := KF.out w' h; go_simp⟩) s0 ?_
      go_simp
      refine tkHV (i := 3) (v := .pointer (some ⟨bl, ofl + k * 5, none⟩)) rfl s0 ?_
      go_simp
      refine tkH (i := 4) (v := .agg #[.int .i64 f.key.kind, .int .u64 f.key.sig, .int .i64 f.key.comp, .slice A1 f.data.length c1, .slice A2 f.pages.length c2]) rfl (Or.inl ⟨by rfl, fun w' h => by obtain ⟨x0, x1, x2⟩ := KB.out w' h; obtain ⟨⟨y0, y1, y2, y3, y4⟩, _⟩ := KF.out w' h; go_simp⟩) s0 ?_
      go_simp
      refine tkHV (i := 5) (v := .pointer (some ⟨b, 1, none⟩)) rfl s0 ?_
      go_simp
      refine tkH (i := 6) (v := .int .i64 i) rfl (Or.inl ⟨by rfl, fun w' h => by obtain ⟨x0, x1, x2⟩ := KB.out w' h; obtain ⟨⟨y0, y1, y2, y3, y4⟩, _⟩ := KF.out w' h; go_simp⟩) s0 ?_
      go_simp
      refine wpAnyH_all (rs := [7]) (by kernel_rfl) (by simp) ?_
      intro i hi
      obtain rfl : i = 7 := by simpa using hi
      clear hi
      refine wpOp_step rfl (fun K hK => ?_)
      go_simp
      refine (planAt_calls (KF.out _ s0).2).mono ?_
      rintro en w2 ⟨rfl, hb2⟩
      have s1 : Below W.heap.size W w2 := s0.trans (hb2.mono s0.size)
      rw [HZ.out]
      clear hb2
      refine hK _ _ ⟨s1, ?_⟩
      clear hK K
      refine tkHV (i := 8) (v := .bool true) rfl s1 ?_
      go_simp
      refine wpAnyH_done (by kernel_rfl) ?_ _
      refine wpIn_cond_true rfl ?_
      refine region_round_lit (by kernel_rfl) (by rintro ⟨_, _, h⟩; exact h) ?_
      have HS1 := Lib.hid s1
      have hv2 : Boxed w2 (w.heap.size + 1) 28 v := (s1.block _ HV.out.lt).trans HV.out
      have HA2 := Lib.hid (Rep.acc_later HACC.out s1)
      have HU2 := Lib.hid (show Rep.byte.list.val (fun b => W0.heap.size ≤ b ∧ v.ownBlock ≠ some b) w2 u (piece f.data i) from Rep.val_keep (fun b hb hl => ⟨⟨hb.1, fun e => hb.2.2 (.inr ⟨0, v, rfl, HV.out.cell, e⟩)⟩, s1.block b hl.lt⟩) HU.out)
      have HOC := Lib.hid (show ∀ b, v.ownBlock = some b → IsC W b from fun b hb => Rep.acc_isC HACC.out b hb)
      generalize newsAt l (pre.map Prod.fst) = q at *
      obtain ⟨Av, cv, rfl, _, _⟩ := Rep.acc_form HA2.out
      obtain ⟨Au, cu, rfl, _, _, _⟩ := Rep.val_list HU2.out
      have hc2 := hv2.cell
      have HV2 := Lib.hid hv2
      have HB2 := Lib.hid (show W0.heap.size ≤ w2.heap.size from Nat.le_trans HSEEN.out.1.le s1.size)
      clear hv2 s1 s0
      go_wp2_with (refine wpList_snoc (e := 71) (base := W0.heap.size) (Q := fun b => W0.heap.size ≤ b) (r := Rep.byte.list) rfl rfl _ _ 28 _ rfl rfl rfl (.slice none 0 0) 1 24 Tryz.underlying28 info36 rfl (by decide) rfl _ q HA2.out (piece f.data i) _ (by exact rfl) HU2.out (by exact rfl) (by exact rfl) HPL.out.1 HPL.out.2 HB2.out ?_; intro v7 w7 hacc7 hgr7 hat7; obtain ⟨A7, c7, rfl, _, _⟩ := Rep.acc_form hacc7; simp only [List.length_append, List.length_singleton] at hacc7 hat7; have hbx7 := HV2.out.kept hgr7 (fun e => by have := (Rep.acc_own HA2.out _ e.symm).1; have := HSZ.out; omega); have k0 := hbx7.cell; have k1 := hbx7.frozen; have HA7 := Lib.hid hacc7; have HG7 := Lib.hid hgr7; have HT7 := Lib.hid hat7; have HX7 := Lib.hid hbx7; clear hacc7 hgr7 hat7 hbx7)
      have hown7 := Rep.acc_own HA7.out
      have hk : Keeps (w.heap.size + 1) (fun o => o = 0) W0.heap.size W (w7.setCell ⟨w.heap.size + 1, 0, none⟩ (.slice A7 (q.length + 1) c7)) :=
        Keeps.collect rfl HS1.out HV.out.cell HG7.out (HT7.out.imp id fun e => ⟨_, e, Nat.le_succ _⟩) ⟨_, _, _, rfl⟩ hown7
      have hs : ∀ b, b ≠ w.heap.size + 1 → (w7.setCell ⟨w.heap.size + 1, 0, none⟩ (.slice A7 (q.length + 1) c7)).heap[b]? = w7.heap[b]? := fun b hb => Below.heap_setCell _ _ _ _ hb
      refine ⟨KeepsFrom.collect HS1.out HG7.out HOC.out, hk, ⟨_, HX7.out.set _, ?_⟩, ?_⟩
      · rw [HT2.out]
        exact Rep.acc_keep (fun b hb _ => hs b (by have := HSZ.out; rcases hb with hb | hb; · omega
                                                   · have := (hown7 b hb).1; omega)) (fun _ hb _ => hb) HA7.out
      · exact (((HBW.out.trans (HS1.out.mono HBW.out.size)).grown HG7.out (by have := HB2.out; have := HSZ.out; omega) (fun b hb => by have := (Rep.acc_own HA2.out b hb).1; have := HSZ.out; omega))).setCell (p := ⟨w.heap.size + 1, 0, none⟩) (Nat.le_succ _) _
    · have HT2 := Lib.hid (show newsAt l ((pre ++ [((k, i), u)]).map Prod.fst) = newsAt l (pre.map Prod.fst) by rw [List.map_append]; exact HT.out.trans (by rw [if_neg hz, List.append_nil]))
      refine wpIn_block ?_
      refine wpIn_seq ?_
      refine region_round_held (S := fun W' => Below W.heap.size W W') (by kernel_rfl) (by kernel_rfl) (by rintro ⟨_, _, h⟩; exact h) (Below.refl _ _).drew (fun s0 => ?_)
      refine tkH (i := 0) (v := .slice (some ⟨bl, ofl, none⟩) l.length c) rfl (Or.inl ⟨by rfl, fun w' h => by obtain ⟨x0, x1, x2⟩ := KB.out w' h; obtain ⟨⟨y0, y1, y2, y3, y4⟩, _⟩ := KF.out w' h; go_simp⟩) s0 ?_
      go_simp
      refine tkHV (i := 1) (v := .pointer (some ⟨b, 0, none⟩)) rfl s0 ?_
      go_simp
      refine tkH (i := 2) (v := .int .i64 k) rfl (Or.inl ⟨by rfl, fun w' h => by obtain ⟨x0, x1, x2⟩ := KB.out w' h; obtain ⟨⟨y0, y1, y2, y3, y4⟩, _⟩ := KF.out w' h; go_simp⟩) s0 ?_
      go_simp
      refine tkHV (i := 3) (v := .pointer (some ⟨bl, ofl + k * 5, none⟩)) rfl s0 ?_
      go_simp
      refine tkH (i := 4) (v := .agg #[.int .i64 f.key.kind, .int .u64 f.key.sig, .int .i64 f.key.comp, .slice A1 f.data.length c1, .slice A2 f.pages.length c2]) rfl (Or.inl ⟨by rfl, fun w' h => by obtain ⟨x0, x1, x2⟩ := KB.out w' h; obtain ⟨⟨y0, y1, y2, y3, y4⟩, _⟩ := KF.out w' h; go_simp⟩) s0 ?_
      go_simp
      refine tkHV (i := 5) (v := .pointer (some ⟨b, 1, none⟩)) rfl s0 ?_
      go_simp
      refine tkH (i := 6) (v := .int .i64 i) rfl (Or.inl ⟨by rfl, fun w' h => by obtain ⟨x0, x1, x2⟩ := KB.out w' h; obtain ⟨⟨y0, y1, y2, y3, y4⟩, _⟩ := KF.out w' h; go_simp⟩) s0 ?_
      go_simp
      refine wpAnyH_all (rs := [7]) (by kernel_rfl) (by simp) ?_
      intro i hi
      obtain rfl : i = 7 := by simpa using hi
      clear hi
      refine wpOp_step rfl (fun K hK => ?_)
      go_simp
      refine (planAt_calls (KF.out _ s0).2).mono ?_
      rintro en w2 ⟨rfl, hb2⟩
      have s1 : Below W.heap.size W w2 := s0.trans (hb2.mono s0.size)
      rw [HZ.out]
      clear hb2
      refine hK _ _ ⟨s1, ?_⟩
      clear hK K
      refine tkHV (i := 8) (v := .bool false) rfl s1 ?_
      go_simp
      refine wpAnyH_done (by kernel_rfl) ?_ _
      refine wpIn_cond_false rfl ?_
      gi_wp2
      exact ⟨(KeepsOthers.of_below s1).from _, Keeps.below s1, ⟨v, (s1.block _ HV.out.lt).trans HV.out, by rw [HT2.out]; exact Rep.acc_later HACC.out s1⟩, HBW.out.trans (s1.mono HBW.out.size)⟩
  case done =>
    rintro D ys W hD hys ⟨⟨v, hv, hacc⟩, hB⟩ hK
    have hc := hv.cell
    gi_wp2
    refine ⟨by simp, .inl ⟨_, _, rfl, run_takeDeferred hK, ?_⟩⟩
    rw [hys, newsAt_all] at hacc
    have hval : Rep.byte.list.acc 71 w.heap.size (fun b => w.heap.size ≤ b) (W.putObj D (.deferred none)) v (newsOf l) := by
      refine Rep.acc_base (base := W0.heap.size) (by omega) (Rep.acc_keep (w := W) (fun b' hb' hl => World.putObj_heap_other ?_) (fun b' hb' _ => by omega) hacc)
      rintro rfl
      obtain ⟨_, _, _, hl⟩ := hl
      rw [hK] at hl; cases hl
    exact ⟨_, results_tmp rfl _ _ _, v, rfl, hval, hB.trans (belowK_b (w := w) (Nat.le_refl _) W D _ _ (by omega) hK rfl rfl)⟩
  case stop =>
    rintro D c pre W _ h _
    exact h.elim
end Go.Proofs.YtghbfbohnoebiaaGreat
namespace Go.Proofs.YtghbfbohnoebiaaGreat
open Go.RowKit Go.Shelf
attribute [local go_sem] Oper.semAt_some
namespace Two

/-- What the body is told of the next piece. -/
def PieceV (R : Nat) (M C : Nat → Prop) (w : World) (l : List DFlow) (pre : List Spot) (x : Spot) (W : World) : Prop :=
  ∃ f, l[x.1.1]? = some f ∧ x.1.2 < pieceCount f ∧ pre.map Prod.fst = placesTo l x.1.1 ++ spots x.1.1 x.1.2 ∧ Seen R M C w W ∧ Rep.byte.list.val (Free R M C w.heap.size W) W x.2 (piece f.data x.1.2)
theorem pieceV_own (R : Nat) (M C : Nat → Prop) (w : World) (l : List DFlow) (B : Nat) : OwnFrom B (fun (p : List Spot × Spot) W => PieceV R M C w l p.1 p.2 W) := by
  rintro s X Y row ⟨f, h1, h2, h3, h4, h5⟩ hg hr
  exact ⟨f, h1, h2, h3, Seen.own B () X Y row h4 hg hr, (Free.val_own _ _ _ B () X Y row ⟨h4.1, h5⟩ hg hr).2⟩
set_option maxRecDepth 100000 in
set_option maxHeartbeats 2000000 in
/-- plan.pieces' iterator -/
theorem pieces_seq {n R : Nat} {M C : Nat → Prop} {w : World} {l : List DFlow} {A : Option Addr} {B c : Nat} (hn : 1 ≤ n) (hg : Ground R M C w.heap.size w) (hin : ∀ W, Seen R M C w W → FlowsIn l A B c W) (hd : ∀ f ∈ l, f.data.length ≤ 1000000) (hl : l.length ≤ 1000000) :
    SeqV Fence.wide n Tryz.prog 201 #[.pointer (some ⟨B, 0, none⟩)] encSpot (PieceV R M C w l) (Keeps R M C w.heap.size) (fun ys => ys.map Prod.fst = placesTo l l.length) w := by
  intro lp J Jx W hW hJ _ hY h0
  have HS0 := Lib.hid ((Seen.refl hg).below hW)
  have HIN := Lib.hid hin
  have HD := Lib.hid hd
  have HY := Lib.hid hY
  have HJ := Lib.hid hJ
  have HJ0 := Lib.hid h0
  have HN := Lib.hid hn
  have hbx := (hin W HS0.out).bx
  have hli : (l.length : Int) ≤ 1000000 := by omega
  obtain ⟨B0, hB0⟩ : ∃ B0, B0 = W.heap.size := ⟨_, rfl⟩
  have HBW := Lib.hid (Below.refl B0 W)
  clear hg hW hin hd hY hJ h0 hn
  refine callsIn_of_wp Tryz.func201 rfl trivial ?_ rfl
  simp only [Tryz.ntmps201, List.size_toArray, List.length_cons, List.length_nil, Nat.reduceAdd, Nat.reduceSub, Array.replicate_succ, Array.replicate_zero, List.push_toArray, List.append_toArray, List.nil_append, List.cons_append]
  gi_wp2
  gi_loopw [9] (fun v wr => ∃ k : Nat, v = .int .i64 k ∧ k ≤ l.length ∧ Hid (∃ ys : List Spot, ys.map Prod.fst = placesTo l k ∧ J ys wr) ∧ Hid (Seen R M C w wr) ∧ Hid (B0 ≤ wr.heap.size)) (fun i _ => l.length - (intOf i).toNat)
  case atStart => exact ⟨0, rfl, Nat.zero_le _, Lib.hid ⟨[], rfl, HJ0.out⟩, HS0, Lib.hid (Nat.le_of_eq hB0)⟩
  case round =>
    obtain ⟨k, rfl, hk, HYS, HSW, HZ⟩ := hrel
    by_cases hlt : (k : Int) < l.length
    · obtain ⟨f, hf⟩ : ∃ f, l[k]? = some f := ⟨_, List.getElem?_eq_getElem (by omega)⟩
      obtain ⟨b, off, A1, c1, A2, n2, c2, rfl, hb, d0, d1, d2, d3, d4, hdv⟩ := (HIN.out wr HSW.out).rd k f hf
      have HF := Lib.hid hf
      have HDF := Lib.hid (HD.out f (List.mem_of_getElem? hf))
      have HDV := Lib.hid hdv
      clear hf hdv
      obtain ⟨W1, hW1⟩ : ∃ W1, wr.alloc (.cells #[.int .i64 f.key.kind, .int .u64 f.key.sig, .int .i64 f.key.comp, .slice A1 f.data.length c1, .slice A2 n2 c2] 116) = W1 := ⟨_, rfl⟩
      have hb1 : Below wr.heap.size wr W1 := by rw [← hW1]; exact (Below.refl _ _).alloc (Nat.le_refl _) _
      have hn1 : W1.heap[wr.heap.size]? = some (.cells #[.int .i64 f.key.kind, .int .u64 f.key.sig, .int .i64 f.key.comp, .slice A1 f.data.length c1, .slice A2 n2 c2] 116 (0, 0)) := by rw [← hW1]; exact heap_alloc_new _ _
      have g3 := cell_row hn1 3
      have HB1 := Lib.hid hb1
      have HDV1 := Lib.hid (Rep.val_below HDV.out hb1 (fun _ h _ => h))
      clear hb1 hn1 HDV
      gi_wp2
      refine ⟨trivial, fun _ => HN.out, callsIn_wide.2 ?_⟩
      try rw [hW1]
      refine (cut_calls HDV1.out HDF.out).mono ?_
      clear hW1 g3
      rintro e w3 ⟨u3, rfl, hu3, hb3⟩
      obtain ⟨A5, c5, rfl, h51, h52, hat5⟩ := Rep.val_list hu3
      have HB3 := Lib.hid (HB1.out.trans (hb3.mono HB1.out.size))
      have HS3 := Lib.hid (HSW.out.below HB3.out)
      have HF3 := Lib.hid (show Rep.byte.list.At (Free R M C w.heap.size w3) w3 A5 (cut f.data) from Rep.At.keep (w := w3) (fun b hb hl => ⟨Free.fresh HSW.out.1 HB3.out (Nat.le_trans HB1.out.size hb) hl.lt, rfl⟩) hat5)
      have HY3 := Lib.hid (show ∃ ys : List Spot, ys.map Prod.fst = placesTo l k ++ spots k 0 ∧ J ys w3 by
        obtain ⟨ys, h1, h2⟩ := HYS.out
        exact ⟨ys, by rw [h1]; simp [spots], HJ.out ys wr w3 none h2 (grown_of_below HB3.out none) (fun r e => by cases e)⟩)
      have HZ3 := Lib.hid (Nat.le_trans HZ.out HB3.out.size)
      have HGET := Lib.hid (fun (i : Nat) (h : i < (f.data.length + 471) / 472) => cut_get h)
      have hlen : (cut f.data).length = pieceCount f := cut_length _
      have HPC := Lib.hid (show pieceCount f = (f.data.length + 471) / 472 from rfl)
      have hp3 : pieceCount f ≤ 3000 := by have := HDF.out; unfold pieceCount; omega
      generalize cut f.data = P at *
      obtain ⟨m, hm⟩ : ∃ m, P.length = m := ⟨_, rfl⟩
      have HNP := Lib.hid (show m = pieceCount f by rw [← hm, hlen])
      have hm3 : m ≤ 3000 := by have := HNP.out; omega
      rw [hm] at h51 ⊢
      unfold maxLen at h52
      clear hu3 hlen hm hat5 d0 d1 d2 d3 d4 hp3 HYS HSW HB1 HDV1 hb3
      gi_wp2
      gi_loopw [18] (fun v wx => ∃ i : Nat, v = .int .i64 i ∧ i ≤ m ∧ Hid (∃ ys : List Spot, ys.map Prod.fst = placesTo l k ++ spots k i ∧ J ys wx) ∧ Hid (Seen R M C w wx) ∧ Hid (Rep.byte.list.At (Free R M C w.heap.size wx) wx A5 P) ∧ Hid (B0 ≤ wx.heap.size)) (fun i _ => m - (intOf i).toNat)
      case atStart => exact ⟨0, rfl, Nat.zero_le _, HY3, HS3, HF3, HZ3⟩
      case round =>
        obtain ⟨i, rfl, hi, HYS, HSX, HFX, HZX⟩ := hrel
        by_cases hin : (i : Int) < m
        · have hgt := HGET.out i (by rw [← HPC.out, ← HNP.out]; omega)
          obtain ⟨bb, o5, B6, c6, rfl, hcell, hc6, hm6, hat6⟩ := Rep.At.list HFX.out hgt
          obtain ⟨ys, hys, hj⟩ := HYS.out
          obtain ⟨fn, tmps, assign, body, hy, hR⟩ := HY.out ys ((k, i), .slice B6 (piece f.data i).length c6) _ hj ⟨f, HF.out, by show i < pieceCount f; rw [← HNP.out]; omega, hys, HSX.out, Rep.list_val (r := Rep.byte) rfl hc6 hm6 hat6⟩
          dsimp only [encSpot] at hy
          have HYE := Lib.hid hys
          clear hys hj hgt hat6
          gi_wp2
          refine ⟨fun _ => HN.out, hR.mono ?_⟩
          clear hR hy
          rintro e W4 (⟨rfl, hJ4, hk4⟩ | ⟨rfl, hJx4⟩)
          · have HY4 := Lib.hid (show ∃ ys : List Spot, ys.map Prod.fst = placesTo l k ++ spots k (i + 1) ∧ J ys W4 from ⟨_, by rw [List.map_append, HYE.out, spots_succ, List.append_assoc]; rfl, hJ4⟩)
            have HS4 := Lib.hid (HSX.out.keeps hk4)
            have HF4 := Lib.hid (Free.at_keeps HFX.out HSX.out.1 hk4)
            have HZ4 := Lib.hid (Nat.le_trans HZX.out (hk4 HSX.out.1).size)
            clear hJ4 hk4
            gi_wp2
            go_roundw
            case rel => exact ⟨i + 1, by go_num, by omega, HY4, HS4, HF4, HZ4⟩
            case measure => simp [intOf]; omega
          · gi_wp2
            refine bodyPost_ret (results_none rfl _ _ _) rfl ?_
            exact ⟨⟨_, rfl⟩, .inr ⟨_, hJx4⟩⟩
        · obtain rfl : i = m := by omega
          have HY4 := Lib.hid (show ∃ ys : List Spot, ys.map Prod.fst = placesTo l (k + 1) ∧ J ys _ by rw [placesTo_succ HF.out, ← HNP.out]; exact HYS.out)
          gi_wp2
          go_roundw
          case rel => exact ⟨k + 1, by go_num, by omega, HY4, HSX, HZX⟩
          case measure => simp [intOf]; omega
    · obtain rfl : k = l.length := by omega
      gi_wp2
      go_end0
      obtain ⟨ys, h1, h2⟩ := HYS.out
      exact ⟨⟨_, rfl⟩, .inl ⟨ys, h1, h2⟩⟩
end Two
end Go.Proofs.YtghbfbohnoebiaaGreat
