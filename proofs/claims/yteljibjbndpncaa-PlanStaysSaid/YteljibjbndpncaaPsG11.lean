/- Texts on which the proofs stand: Pieces, Round. No condition is laid on any input. -/
import Derived.Test.YteljibjbndpncaaPsCut
import Derived.Test.YteljibjbndpncaaPsG10
import Derived.Test.YteljibjbndpncaaPsG2
import Derived.Test.YteljibjbndpncaaPsG4
import Derived.Deep.RegionHeld3
/- plan.pieces: an iterator over the pieces of flows, walked inside a fence. -/
namespace Go.Proofs.Yteljibjbndpncaa
open Go.RowKit Go.Shelf
attribute [local go_sem] Oper.semAt_some

def piecesAt (l : List DFlow) (k : Nat) : Nat := match l[k]? with
  | some f => pieceCount f
  | none => 0
def spots (k i : Nat) : List (Nat × Nat) := (List.range i).map fun j => (k, j)
/-- The places of the pieces of the first k flows. -/
def placesTo (l : List DFlow) (k : Nat) : List (Nat × Nat) := ((List.range k).map fun j => spots j (piecesAt l j)).flatten
theorem placesTo_succ {l : List DFlow} {k : Nat} {f : DFlow} (h : l[k]? = some f) : placesTo l (k + 1) = placesTo l k ++ spots k (pieceCount f) := by
  unfold placesTo
  rw [List.range_succ, List.map_append, List.flatten_append]
  simp [piecesAt, h]
theorem spots_succ (k i : Nat) : spots k (i + 1) = spots k i ++ [(k, i)] := by simp [spots, List.range_succ]
/-- A place, and the value of the piece there. -/
abbrev Spot := (Nat × Nat) × Value
def encSpot (x : Spot) : Array Value := #[.agg #[.int .i64 x.1.1, .int .i64 x.1.2], x.2]
/-- What the body is told of the next piece. -/
def PieceV (R : Nat) (M : Nat → Prop) (w : World) (l : List DFlow) (pre : List Spot) (x : Spot) (W : World) : Prop :=
  ∃ f, l[x.1.1]? = some f ∧ x.1.2 < pieceCount f ∧ pre.map Prod.fst = placesTo l x.1.1 ++ spots x.1.1 x.1.2 ∧ Seen R M w W ∧ Rep.byte.list.val (Free R M w.heap.size W) W x.2 (piece f.data x.1.2)
theorem pieceV_own (R : Nat) (M : Nat → Prop) (w : World) (l : List DFlow) (B : Nat) : OwnFrom B (fun (p : List Spot × Spot) W => PieceV R M w l p.1 p.2 W) := by
  rintro s X Y row ⟨f, h1, h2, h3, h4, h5⟩ hg hr
  exact ⟨f, h1, h2, h3, Seen.own B () X Y row h4 hg hr, (Free.val_own _ _ _ B () X Y row ⟨h4.1, h5⟩ hg hr).2⟩
/-- The box that the iterator reads, and what lies behind it. -/
structure FlowsIn (l : List DFlow) (A : Option Addr) (B c : Nat) (W : World) : Prop where
  bx : W.cell? ⟨B, 0, none⟩ = some (.slice A l.length c)
  rd : ∀ (k : Nat) (f : DFlow), l[k]? = some f → ∃ (b off : Nat) (A1 : Option Addr) (c1 : Nat) (A2 : Option Addr) (n2 c2 : Nat), A = some ⟨b, off, none⟩ ∧ b < W.heap.size ∧ W.cell? ⟨b, off + k * 5, none⟩ = some (.int .i64 f.key.kind) ∧ W.cell? ⟨b, off + k * 5 + 1, none⟩ = some (.int .u64 f.key.sig) ∧ W.cell? ⟨b, off + k * 5 + 2, none⟩ = some (.int .i64 f.key.comp) ∧
    W.cell? ⟨b, off + k * 5 + 3, none⟩ = some (.slice A1 f.data.length c1) ∧ W.cell? ⟨b, off + k * 5 + 4, none⟩ = some (.slice A2 n2 c2) ∧ Rep.byte.list.val (fun b => b < W.heap.size) W (.slice A1 f.data.length c1) f.data

theorem grown_of_below {w w' : World} (h : Below w.heap.size w w') (row : Option Nat) : w.grownBy w' row := ⟨h.os, h.tape, h.output, h.size, fun k hk _ => h.block k hk⟩

set_option maxRecDepth 100000 in
set_option maxHeartbeats 2000000 in
/-- plan.pieces' iterator -/
theorem pieces_seq {n R : Nat} {M : Nat → Prop} {w : World} {l : List DFlow} {A : Option Addr} {B c : Nat} (hn : 1 ≤ n) (hg : Ground R M w.heap.size w) (hin : ∀ W, Seen R M w W → FlowsIn l A B c W) (hd : ∀ f ∈ l, f.data.length ≤ 1000000) (hl : l.length ≤ 1000000) :
    SeqV Fence.wide n Try.prog 80 #[.pointer (some ⟨B, 0, none⟩)] encSpot (PieceV R M w l) (Keeps R M w.heap.size) (fun ys => ys.map Prod.fst = placesTo l l.length) w := by
  intro lp J Jx W hW hJ _ hY h0
  have HS0 := Lib.hid ((Seen.refl hg).below hW)
  have HIN := Lib.hid hin
  have HD := Lib.hid hd
  have HY := Lib.hid hY
  have HJ := Lib.hid hJ
  have HJ0 := Lib.hid h0
  have HN := Lib.hid hn
  have hbx := (hin W HS0.out).bx
  have hli : (l.length : Int) ≤ 1000000 := by omega
  obtain ⟨B0, hB0⟩ : ∃ B0, B0 = W.heap.size := ⟨_, rfl⟩
  have HBW := Lib.hid (Below.refl B0 W)
  clear hg hW hin hd hY hJ h0 hn
  refine callsIn_of_wp Try.func80 rfl trivial ?_ rfl
  simp only [Try.ntmps80, List.size_toArray, List.length_cons, List.length_nil, Nat.reduceAdd, Nat.reduceSub, Array.replicate_succ, Array.replicate_zero, List.push_toArray, List.append_toArray, List.nil_append, List.cons_append]
  gi_wp2
  gi_loopw [9] (fun v wr => ∃ k : Nat, v = .int .i64 k ∧ k ≤ l.length ∧ Hid (∃ ys : List Spot, ys.map Prod.fst = placesTo l k ∧ J ys wr) ∧ Hid (Seen R M w wr) ∧ Hid (B0 ≤ wr.heap.size)) (fun i _ => l.length - (intOf i).toNat)
  case atStart => exact ⟨0, rfl, Nat.zero_le _, Lib.hid ⟨[], rfl, HJ0.out⟩, HS0, Lib.hid (Nat.le_of_eq hB0)⟩
  case round =>
    obtain ⟨k, rfl, hk, HYS, HSW, HZ⟩ := hrel
    by_cases hlt : (k : Int) < l.length
    · obtain ⟨f, hf⟩ : ∃ f, l[k]? = some f := ⟨_, List.getElem?_eq_getElem (by omega)⟩
      obtain ⟨b, off, A1, c1, A2, n2, c2, rfl, hb, d0, d1, d2, d3, d4, hdv⟩ := (HIN.out wr HSW.out).rd k f hf
      have HF := Lib.hid hf
      have HDF := Lib.hid (HD.out f (List.mem_of_getElem? hf))
      have HDV := Lib.hid hdv
      clear hf hdv
      obtain ⟨W1, hW1⟩ : ∃ W1, wr.alloc (.cells #[.int .i64 f.key.kind, .int .u64 f.key.sig, .int .i64 f.key.comp, .slice A1 f.data.length c1, .slice A2 n2 c2] 35) = W1 := ⟨_, rfl⟩
      have hb1 : Below wr.heap.size wr W1 := by rw [← hW1]; exact (Below.refl _ _).alloc (Nat.le_refl _) _
      have hn1 : W1.heap[wr.heap.size]? = some (.cells #[.int .i64 f.key.kind, .int .u64 f.key.sig, .int .i64 f.key.comp, .slice A1 f.data.length c1, .slice A2 n2 c2] 35 (0, 0)) := by rw [← hW1]; exact heap_alloc_new _ _
      have g3 := cell_row hn1 3
      have HB1 := Lib.hid hb1
      have HDV1 := Lib.hid (Rep.val_below HDV.out hb1 (fun _ h _ => h))
      clear hb1 hn1 HDV
      gi_wp2
      refine ⟨trivial, fun _ => HN.out, callsIn_wide.2 ?_⟩
      try rw [hW1]
      refine (cut_calls HDV1.out HDF.out).mono ?_
      clear hW1 g3
      rintro e w3 ⟨u3, rfl, hu3, hb3⟩
      obtain ⟨A5, c5, rfl, h51, h52, hat5⟩ := Rep.val_list hu3
      have HB3 := Lib.hid (HB1.out.trans (hb3.mono HB1.out.size))
      have HS3 := Lib.hid (HSW.out.below HB3.out)
      have HF3 := Lib.hid (show Rep.byte.list.At (Free R M w.heap.size w3) w3 A5 (cut f.data) from Rep.At.keep (w := w3) (fun b hb hl => ⟨Free.fresh HSW.out.1 HB3.out (Nat.le_trans HB1.out.size hb) hl.lt, rfl⟩) hat5)
      have HY3 := Lib.hid (show ∃ ys : List Spot, ys.map Prod.fst = placesTo l k ++ spots k 0 ∧ J ys w3 by
        obtain ⟨ys, h1, h2⟩ := HYS.out
        exact ⟨ys, by rw [h1]; simp [spots], HJ.out ys wr w3 none h2 (grown_of_below HB3.out none) (fun r e => by cases e)⟩)
      have HZ3 := Lib.hid (Nat.le_trans HZ.out HB3.out.size)
      have HGET := Lib.hid (fun (i : Nat) (h : i < (f.data.length + 471) / 472) => cut_get h)
      have hlen : (cut f.data).length = pieceCount f := cut_length _
      have HPC := Lib.hid (show pieceCount f = (f.data.length + 471) / 472 from rfl)
      have hp3 : pieceCount f ≤ 3000 := by have := HDF.out; unfold pieceCount; omega
      generalize cut f.data = P at *
      obtain ⟨m, hm⟩ : ∃ m, P.length = m := ⟨_, rfl⟩
      have HNP := Lib.hid (show m = pieceCount f by rw [← hm, hlen])
      have hm3 : m ≤ 3000 := by have := HNP.out; omega
      rw [hm] at h51 ⊢
      unfold maxLen at h52
      clear hu3 hlen hm hat5 d0 d1 d2 d3 d4 hp3 HYS HSW HB1 HDV1 hb3
      gi_wp2
      gi_loopw [18] (fun v wx => ∃ i : Nat, v = .int .i64 i ∧ i ≤ m ∧ Hid (∃ ys : List Spot, ys.map Prod.fst = placesTo l k ++ spots k i ∧ J ys wx) ∧ Hid (Seen R M w wx) ∧ Hid (Rep.byte.list.At (Free R M w.heap.size wx) wx A5 P) ∧ Hid (B0 ≤ wx.heap.size)) (fun i _ => m - (intOf i).toNat)
      case atStart => exact ⟨0, rfl, Nat.zero_le _, HY3, HS3, HF3, HZ3⟩
      case round =>
        obtain ⟨i, rfl, hi, HYS, HSX, HFX, HZX⟩ := hrel
        by_cases hin : (i : Int) < m
        · have hgt := HGET.out i (by rw [← HPC.out, ← HNP.out]; omega)
          obtain ⟨bb, o5, B6, c6, rfl, hcell, hc6, hm6, hat6⟩ := Rep.At.list HFX.out hgt
          obtain ⟨ys, hys, hj⟩ := HYS.out
          obtain ⟨fn, tmps, assign, body, hy, hR⟩ := HY.out ys ((k, i), .slice B6 (piece f.data i).length c6) _ hj ⟨f, HF.out, by show i < pieceCount f; rw [← HNP.out]; omega, hys, HSX.out, Rep.list_val (r := Rep.byte) rfl hc6 hm6 hat6⟩
          dsimp only [encSpot] at hy
          have HYE := Lib.hid hys
          clear hys hj hgt hat6
          gi_wp2
          refine ⟨fun _ => HN.out, hR.mono ?_⟩
          clear hR hy
          rintro e W4 (⟨rfl, hJ4, hk4⟩ | ⟨rfl, hJx4⟩)
          · have HY4 := Lib.hid (show ∃ ys : List Spot, ys.map Prod.fst = placesTo l k ++ spots k (i + 1) ∧ J ys W4 from ⟨_, by rw [List.map_append, HYE.out, spots_succ, List.append_assoc]; rfl, hJ4⟩)
            have HS4 := Lib.hid (HSX.out.keeps hk4)
            have HF4 := Lib.hid (Free.at_keeps HFX.out HSX.out.1 hk4)
            have HZ4 := Lib.hid (Nat.le_trans HZX.out (hk4 HSX.out.1).size)
            clear hJ4 hk4
            gi_wp2
            go_roundw
            case rel => exact ⟨i + 1, by go_num, by omega, HY4, HS4, HF4, HZ4⟩
            case measure => simp [intOf]; omega
          · gi_wp2
            refine bodyPost_ret (results_none rfl _ _ _) rfl ?_
            exact ⟨⟨_, rfl⟩, .inr ⟨_, hJx4⟩⟩
        · obtain rfl : i = m := by omega
          have HY4 := Lib.hid (show ∃ ys : List Spot, ys.map Prod.fst = placesTo l (k + 1) ∧ J ys _ by rw [placesTo_succ HF.out, ← HNP.out]; exact HYS.out)
          gi_wp2
          go_roundw
          case rel => exact ⟨k + 1, by go_num, by omega, HY4, HSX, HZX⟩
          case measure => simp [intOf]; omega
    · obtain rfl : k = l.length := by omega
      gi_wp2
      go_end0
      obtain ⟨ys, h1, h2⟩ := HYS.out
      exact ⟨⟨_, rfl⟩, .inl ⟨ys, h1, h2⟩⟩

/-- plan.pieces -/
theorem pieces_calls (A : Option Addr) (n c : Nat) (w : World) : Calls Try.prog 51 #[.slice A n c] w fun e w' => e = .returned (.func (.func 80) #[] #[.pointer (some ⟨w.heap.size, 0, none⟩)]) ∧ w' = w.alloc (.cells #[.slice A n c] 22) := by
  go_enter Try.func51, Try.ntmps51
  go_wp2_with fail
  go_ret
  exact ⟨rfl, rfl⟩
end Go.Proofs.Yteljibjbndpncaa
/- Regions in a round of a range over a function: what is shown of them as0 of any region serves there. No program is named here. -/
namespace Go.Proofs.Yteljibjbndpncaa
open Go.RowKit

section
variable {n l : Nat} {P : Program} {ops : Array Oper} {Q : Exit → Act → World → Prop} {S : World → Prop}

/-- A region that draws its order, in a round, by a state that is held. -/
theorem region_round_held {id : Nat} {a : Act} {w : World} (hm : P.follows .mixedOrders = true) (hd : noDefer ops = true) (hout : ¬ LetsOut Q) (hS : S w.drew)
    (h : S w.drew → wpAnyH P .any ops Q S ops.size (Array.replicate ops.size false) a w.drew) : (Code.region id ops true).wpIn (Fence.wide.inRound l) n P Q a w :=
  region_round hm (noDefer_spec hd) hout (wpAny_of_held _ _ _ _ (h hS))

theorem list_round (hd : ∀ (i : Nat) (o : Oper), ops[i]? = some o → ∀ c, o.op ≠ .defer c) (hout : ¬ LetsOut Q) : ∀ (rest : List Oper) (_ : ∀ o ∈ rest, o ∈ ops.toList) (a : Act) (w : World), wpList P ops Q rest a w → wpListIn (Fence.wide.inRound l) n P ops Q rest a w
  | [], _, _, _, h => h
  | o :: rest, hr, a, w, h => by
    have hdo : ∀ c, o.op ≠ .defer c := by
      obtain ⟨i, hi, he⟩ := List.getElem_of_mem (hr o (by simp))
      exact hd i o (by rw [← Array.getElem?_toList, List.getElem?_eq_getElem hi, he])
    have ih := list_round hd hout rest (fun o ho => hr o (by simp [ho]))
    unfold wpList at h
    unfold wpListIn
    split
    · rename_i hw
      rw [if_pos hw] at h
      rcases h with h | ⟨_, h⟩
      · exact oper_round hdo (Oper.wp_mono (fun a w h => ih a w h) h)
      · exact absurd h hout
    · rename_i hw
      rw [if_neg hw] at h
      exact ⟨fun _ _ => trivial, ih _ _ h⟩

/-- A region in the order of the text, in a round. -/
theorem region_round_list {id : Nat} {a : Act} {w : World} (hd : noDefer ops = true) (hout : ¬ LetsOut Q) (h : wpList P ops Q ops.toList a w) : (Code.region id ops false).wpIn (Fence.wide.inRound l) n P Q a w :=
  wpIn_region_list (list_round (noDefer_spec hd) hout _ (fun _ h => h) _ _ h)
theorem region_round_lit {id : Nat} {ops : List Oper} {a : Act} {w : World} (hd : noDefer ops.toArray = true) (hout : ¬ LetsOut Q) (h : wpList P ops.toArray Q ops a w) : (Code.region id ops.toArray false).wpIn (Fence.wide.inRound l) n P Q a w :=
  region_round_list hd hout (by simpa using h)
end
end Go.Proofs.Yteljibjbndpncaa
