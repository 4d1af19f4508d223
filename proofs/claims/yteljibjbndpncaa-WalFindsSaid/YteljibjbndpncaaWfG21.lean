/- Texts on which the proofs stand: DiskOf, WalWrite. No condition is laid on any input. -/
import Derived.Test.YteljibjbndpncaaWfDiskNew
import Derived.Test.YteljibjbndpncaaWfG20
/- Walk of a device of given bytes. -/
namespace Go.Proofs.Yteljibjbndpncaa
open Go.RowKit
open Extern.Stop (cell)

theorem sec_row {Q Q' : Nat → Prop} {W : World} : ∀ {xs : List (List UInt8 × Nat)} {cs : List Value}, rSec.row Q W cs xs → (∀ x ∈ xs, Q x.2 → Q' x.2) → Rep.byte.list.row Q' W cs (xs.map (·.1))
  | [], _, h, _ => h
  | x :: xs, _, h, hq => by
    obtain ⟨es, rest, rfl, ⟨rfl, h1, h2⟩, h3⟩ := h
    refine ⟨_, rest, rfl, ?_, sec_row h3 fun y hy => hq y (by simp [hy])⟩
    have hv := h2.sl (a := 0) (n := 512) (c := 512) (by omega) (by omega) (by simp [maxLen])
    rw [List.drop_zero, List.take_of_length_le (by rw [h2.len]; omega)] at hv
    have hv2 := Rep.val_mono (Q' := Q') (fun b hb _ => by have : b = x.2 := hb; rw [this]; exact hq x (by simp) h1) hv
    obtain ⟨A', c', he, g1, g2, es, g3, g4⟩ := Rep.val_list hv2
    have hlen := h2.len
    rw [hlen] at he
    cases he
    exact ⟨_, _, es, by rw [hlen], g1, g2, g3, g4⟩
def newSt (l : List (List UInt8)) : DiskSt := ⟨l, fun _ => [], -1, false, 0, 0⟩
theorem empty_map {W : World} {M : Nat} (h : W.heap[M]? = some (.map #[] 0)) : W.ownsMap Try.prog 3 heldElem M 0 (.map []) :=
  ⟨#[], 0, h, ⟨by simp, Go.MapKept.stamped_empty 0, by simp⟩, Nat.le_refl _, rfl⟩
/-- A new device is a device. -/
theorem NewAt.disk {w0 W : World} {P M k : Nat} {Sf : Option Addr} {cs : Nat} {xs : List (List UInt8 × Nat)} (h : NewAt w0 W P M k Sf cs xs) :
    DiskAt W P (fun b => b = P ∨ b = M ∨ (Value.slice Sf k cs).ownBlock = some b) (fun b => b ∈ xs.map (·.2) ∧ (Value.slice Sf k cs).ownBlock ≠ some b) 0 (newSt (xs.map (·.1))) := by
  have hl : (xs.map (·.1)).length = k := by rw [List.length_map]; exact h.len
  have hown := Rep.acc_own h.acc
  have hpos := h.pos
  refine ⟨Sf, cs, M, .map [], ⟨?_, ?_, empty_map h.map, fun i => Rep.acc_nil, fun i => Nat.le_refl _, fun i hi => absurd rfl hi, rfl, .inl rfl, .inr (.inl rfl), ?_, fun i b hb => (by cases hb), fun i b hb => (by cases hb), fun i j b _ hb => (by cases hb), fun b hb hB => ?_, fun b hb => ?_, fun i hi => by cases hi⟩⟩
  · show W.heap[P]? = some (.cells #[.slice Sf (xs.map (·.1)).length cs, _, _, _, _, _] _ _)
    rw [hl]; exact h.blk
  · show Rep.byte.list.acc 33 0 _ W (.slice Sf (xs.map (·.1)).length cs) (xs.map (·.1))
    rw [hl]
    obtain ⟨cells, h1, h2⟩ := h.acc
    refine ⟨cells, ⟨?_, ?_⟩, ?_⟩
    · have := h1.1; rw [this, h.len, hl]; rfl
    · rcases h1.2 with ⟨e, e0⟩ | ⟨g, cap, cur, e, hb, hh, g1, g2, g3, g4⟩
      · exact .inl ⟨e, by rw [hl]; rw [h.len] at e0; exact e0⟩
      · rw [h.len] at e g1 g4
        exact .inr ⟨g, cap, cur, by rw [hl]; exact e, Nat.zero_le _, hh, by rw [hl]; exact g1, g2, g3, by rw [hl]; exact g4⟩
    · exact sec_row h2 fun x hx hq => ⟨⟨List.mem_map.2 ⟨x, hx, rfl⟩, hq.2⟩, hq.2⟩
  · show ∀ b, (Value.slice Sf (xs.map (·.1)).length cs).ownBlock = some b → _
    rw [hl]; exact fun b hb => .inr (.inr hb)
  · obtain ⟨x, hx, rfl⟩ := List.mem_map.1 hB.1
    have := (h.lt x hx).1
    rcases hb with hb | hb | hb
    · omega
    · omega
    · exact hB.2 hb
  · rcases hb with (hb | hb | hb) | hb
    · omega
    · omega
    · exact (hown b hb).2
    · obtain ⟨x, hx, rfl⟩ := List.mem_map.1 hb.1
      exact (h.lt x hx).2

theorem row_set {Q : Nat → Prop} {W W' : World} {C : List UInt8} {bk : Nat} : ∀ {xs : List (List UInt8 × Nat)} {cs : List Value} {k : Nat} (_ : k < xs.length) (_ : (xs.map (·.2)).Nodup) (_ : rSec.row Q W cs xs) (_ : (xs[k]'‹_›).2 = bk) (_ : SecAt W' bk 5 C) (_ : ∀ b, b ≠ bk → W'.heap[b]? = W.heap[b]?), rSec.row Q W' cs (xs.set k (C, bk))
  | [], _, k, hk, _, _, _, _, _ => by simp at hk
  | x :: xs, _, 0, hk, hd, h, hbk, hc, hw => by
    obtain ⟨es, rest, rfl, ⟨rfl, h1, h2⟩, h3⟩ := h
    have e : x.2 = bk := hbk
    refine ⟨_, rest, rfl, ⟨by rw [← e], e ▸ h1, hc⟩, ?_⟩
    have hd2 := (List.nodup_cons.1 hd).1
    have : ∀ {ys : List (List UInt8 × Nat)} {cs : List Value}, (∀ y ∈ ys, y.2 ≠ bk) → rSec.row Q W cs ys → rSec.row Q W' cs ys := by
      intro ys
      induction ys with
      | nil => intro cs _ h; exact h
      | cons y ys ih =>
        intro cs hne h
        obtain ⟨es, rest, rfl, ⟨rfl, g1, g2⟩, g3⟩ := h
        exact ⟨_, rest, rfl, ⟨rfl, g1, g2.keep (hw _ (hne y (by simp)))⟩, ih (fun z hz => hne z (by simp [hz])) g3⟩
    exact this (fun y hy e2 => hd2 (List.mem_map.2 ⟨y, hy, e2.trans e.symm⟩)) h3
  | x :: xs, _, k + 1, hk, hd, h, hbk, hc, hw => by
    obtain ⟨es, rest, rfl, ⟨rfl, h1, h2⟩, h3⟩ := h
    have hd2 := (List.nodup_cons.1 hd)
    have hk2 : k < xs.length := by simpa using hk
    have hne : x.2 ≠ bk := fun e => hd2.1 (List.mem_map.2 ⟨xs[k], List.getElem_mem hk2, hbk.trans e.symm⟩)
    exact ⟨_, rest, rfl, ⟨rfl, h1, h2.keep (hw _ hne)⟩, row_set hk2 hd2.2 h3 hbk hc hw⟩
theorem NewAt.set {w0 W W' : World} {P M k j : Nat} {Sf : Option Addr} {cs : Nat} {xs : List (List UInt8 × Nat)} {C : List UInt8} {bk : Nat} (h : NewAt w0 W P M k Sf cs xs) (hj : j < xs.length) (hbk : xs[j].2 = bk)
    (hc : SecAt W' bk 5 C) (hw : ∀ b, b ≠ bk → W'.heap[b]? = W.heap[b]?) (hs : W'.heap.size = W.heap.size) (ho : W'.os = W.os ∧ W'.tape = W.tape ∧ W'.output = W.output) (hne : (Value.slice Sf k cs).ownBlock ≠ some bk) :
    NewAt w0 W' P M k Sf cs (xs.set j (C, bk)) := by
  have hlt := h.lt xs[j] (List.getElem_mem hj)
  rw [hbk] at hlt
  have hpos := h.pos
  have hmap : (xs.set j (C, bk)).map (·.2) = xs.map (·.2) := by
    rw [List.map_set]
    show (xs.map (·.2)).set j bk = xs.map (·.2)
    have : (xs.map (·.2))[j]'(by simpa using hj) = bk := by simp [hbk]
    rw [← this, List.set_getElem_self]
  obtain ⟨cells, h1, h2⟩ := h.acc
  refine ⟨by rw [List.length_set]; exact h.len, (hw P (by omega)).trans h.blk, ⟨cells, ?_, row_set hj h.dis h2 hbk hc hw⟩, (hw M (by omega)).trans h.map,
    ⟨ho.1.trans h.bel.os, ho.2.1.trans h.bel.tape, ho.2.2.trans h.bel.output, by rw [hs]; exact h.bel.size, fun b hb => (hw b (by omega)).trans (h.bel.block b hb)⟩, by rw [hmap]; exact h.dis, fun x hx => ?_, ⟨hpos.1, hpos.2.1, by rw [hs]; exact hpos.2.2⟩⟩
  · rw [List.length_set]
    refine ⟨h1.1, ?_⟩
    rcases h1.2 with e | ⟨g, cap, cur, e, hb, hh, r⟩
    · exact .inl e
    · refine .inr ⟨g, cap, cur, e, hb, (hw g (fun e2 => ?_)).trans hh, r⟩
      apply hne
      rw [e, e2]; rfl
  · rw [hs]
    rcases List.mem_or_eq_of_mem_set hx with hx | rfl
    · exact h.lt x hx
    · exact hlt

theorem step_copy_set {P : Program} {ops : Array Oper} {o : Oper} {a : Act} {w : World} {K : Act → World → Prop} {Q : Exit → Act → World → Prop} {E : Prop} (hgd : o.guard = none) (d s : Operand) (dT sT : TypeId)
    (ho : o.op = .call { callee := .builtin .copy, args := #[d, s], argTypes := #[dT, sT] }) (elem : TypeId) (hu : P.underlying dT = some (.slice elem)) (hsz : (P.info? elem).map (·.size) = some 1)
    (g off dLen dCap : Nat) (ad : Addr) (sLen sCap : Nat) (hd : a.eval d = .slice (some ⟨g, off, none⟩) dLen dCap) (hs : a.eval s = .slice (some ad) sLen sCap)
    (cur : Array Value) (t : TypeId) (hg : w.heap[g]? = some (.cells cur t (0, 0))) (cs : List Value) (hn : cs.length = Nat.min sLen dLen)
    (hsrc : ∀ j v, cs[j]? = some v → w.cell? (ad.add j) = some v) (hfit : off + cs.length ≤ cur.size) (h1 : ∀ v ∈ cs, v.oneCell' = true)
    (h : K (a.put o.dst (goInt cs.length)) (w.setRow g (splice cur.toList off cs).toArray)) :
    if Region.wanted o (yielded ops a.tmps) = true then Oper.wp P o a w K Q else E := by
  have hw : Region.wanted o (yielded ops a.tmps) = true := by simp [Region.wanted, hgd]
  rw [if_pos hw]
  have hrun := run_copy_row (P := P) w dT sT o.type elem g off dLen dCap ad sLen sCap cur t cs hu hsz hg hn hsrc hfit h1
  unfold Oper.wp
  simp [execOp, ho, resolve, invoke, builtin, hd, hs, hrun, Result.andThen]
  have h2 := h
  unfold splice at h2
  exact h2

def chunk (b : List UInt8) (k : Nat) : List UInt8 := (b.drop (512 * k)).take 512
def chunks (b : List UInt8) : List (List UInt8) := (List.range (b.length / 512)).map (chunk b)
def OfPost (w : World) (b : List UInt8) (e : Ending) (W : World) : Prop :=
  ∃ (P : Nat) (F B : Nat → Prop), e = .returned (.pointer (some ⟨P, 0, none⟩)) ∧ DiskAt W P F B 0 (newSt (chunks b)) ∧ (∀ k, F k ∨ B k → w.heap.size ≤ k) ∧ Below w.heap.size w W
theorem NewAt.old {w0 W : World} {P M k : Nat} {Sf : Option Addr} {cs : Nat} {xs : List (List UInt8 × Nat)} (h : NewAt w0 W P M k Sf cs xs) : ∀ b, ((b = P ∨ b = M ∨ (Value.slice Sf k cs).ownBlock = some b) ∨ (b ∈ xs.map (·.2) ∧ (Value.slice Sf k cs).ownBlock ≠ some b)) → w0.heap.size ≤ b := by
  intro b hb
  have hpos := h.pos
  rcases hb with (hb | hb | hb) | hb
  · omega
  · omega
  · have := (Rep.acc_own h.acc b hb).1; omega
  · obtain ⟨x, hx, rfl⟩ := List.mem_map.1 hb.1
    have := (h.lt x hx).1; omega
theorem splice_whole (Z X : List Value) (h : Z.length = X.length) : splice Z 0 X = X := by
  have := splice_here (B := Z) (T := []) h
  simpa using this

end Go.Proofs.Yteljibjbndpncaa
/- Walks of a log's room, and of a piece written to it. -/
namespace Go.Proofs.Yteljibjbndpncaa
open Go.RowKit

/-- The cells of a log. -/
structure LogCells (W : World) (L P : Nat) (A : Option Addr) (cap : Nat) (c : DConf) (x : LogSt) : Prop where
  c0 : W.cell? ⟨L, 0, none⟩ = some (.pointer (some ⟨P, 0, none⟩))
  c1 : W.cell? ⟨L, 1, none⟩ = some (.int .i64 c.log)
  c2 : W.cell? ⟨L, 2, none⟩ = some (.int .i64 c.pages)
  c3 : W.cell? ⟨L, 3, none⟩ = some (.int .i64 c.entities)
  c4 : W.cell? ⟨L, 4, none⟩ = some (.int .i64 c.gens)
  c5 : W.cell? ⟨L, 5, none⟩ = some (.slice A c.comps.length cap)
  c6 : W.cell? ⟨L, 6, none⟩ = some (.int .i64 x.epoch)
  c7 : W.cell? ⟨L, 7, none⟩ = some (.int .i64 x.head)
  c8 : W.cell? ⟨L, 8, none⟩ = some (.int .i64 x.tail)
  c9 : W.cell? ⟨L, 9, none⟩ = some (.int .i64 x.seq)
theorem LogW.cells {W : World} {L P : Nat} {A : Option Addr} {cap : Nat} {G : Nat → Prop} {c : DConf} {x : LogSt} (h : LogW W L P A cap G c x) : LogCells W L P A cap c x :=
  ⟨cell_row h.blk 0, cell_row h.blk 1, cell_row h.blk 2, cell_row h.blk 3, cell_row h.blk 4, cell_row h.blk 5, cell_row h.blk 6, cell_row h.blk 7, cell_row h.blk 8, cell_row h.blk 9⟩
theorem LogW.below {W W' : World} {L P : Nat} {A : Option Addr} {cap : Nat} {G : Nat → Prop} {c : DConf} {x : LogSt} (h : LogW W L P A cap G c x) (hb : Below W.heap.size W W') : LogW W' L P A cap G c x :=
  h.keep hb.size fun b hb' => hb.block b (h.lt b hb')
theorem LogW.only {W W' : World} {L P : Nat} {A : Option Addr} {cap : Nat} {F G : Nat → Prop} {c : DConf} {x : LogSt} (h : LogW W L P A cap G c x) (ho : Only F W W') (hf : ∀ b, b = L ∨ G b → ¬ F b) : LogW W' L P A cap G c x :=
  h.keep ho.size fun b hb' => ho.block b (h.lt b hb') (hf b hb')

set_option maxRecDepth 100000 in
set_option maxHeartbeats 4000000 in
/-- (*wal.Log).Room -/
theorem wroom_calls {W : World} {L P : Nat} {A : Option Addr} {cap : Nat} {G : Nat → Prop} {c : DConf} {x : LogSt} (h : LogW W L P A cap G c x) :
    Calls Try.prog 57 #[.pointer (some ⟨L, 0, none⟩)] W fun e w' => e = .returned (.int .i64 (roomOf c x.head x.tail)) ∧ Below W.heap.size W w' := by
  have HL := Lib.hid (fun W' (hb : Below W.heap.size W W') => h.below hb)
  obtain ⟨rm, hrm⟩ : ∃ rm, roomOf c x.head x.tail = rm := ⟨_, rfl⟩
  rw [hrm]
  have HRM := Lib.hid hrm
  clear h hrm
  obtain ⟨ep, hd, tl, sq⟩ := x
  dsimp only at *
  have KS := Lib.hid (show ∀ W', Below W.heap.size W W' → W'.cell? ⟨L, 1, none⟩ = some (.int .i64 c.log) ∧ W'.cell? ⟨L, 2, none⟩ = some (.int .i64 c.pages) ∧ W'.cell? ⟨L, 3, none⟩ = some (.int .i64 c.entities) ∧ W'.cell? ⟨L, 4, none⟩ = some (.int .i64 c.gens) ∧ W'.cell? ⟨L, 5, none⟩ = some (.slice A c.comps.length cap) ∧ W'.cell? ⟨L, 7, none⟩ = some (.int .i64 hd) ∧ W'.cell? ⟨L, 8, none⟩ = some (.int .i64 tl) from fun W' hb => by
    have k := (HL.out W' hb).cells
    exact ⟨k.c1, k.c2, k.c3, k.c4, k.c5, k.c7, k.c8⟩)
  obtain ⟨s1, s2, s3, s4, s5, s7, s8⟩ := KS.out _ (Below.refl _ _).drew
  go_enter Try.func57, Try.ntmps57
  go_wp2_with fail
  go_region_held3 (fun W' => W'.cell? ⟨L, 1, none⟩ = some (.int .i64 c.log) ∧ W'.cell? ⟨L, 2, none⟩ = some (.int .i64 c.pages) ∧ W'.cell? ⟨L, 3, none⟩ = some (.int .i64 c.entities) ∧ W'.cell? ⟨L, 4, none⟩ = some (.int .i64 c.gens) ∧ W'.cell? ⟨L, 5, none⟩ = some (.slice A c.comps.length cap) ∧ W'.cell? ⟨L, 7, none⟩ = some (.int .i64 hd) ∧ W'.cell? ⟨L, 8, none⟩ = some (.int .i64 tl))
    (first
      | exact KS.out _ (Below.refl _ _).drew
      | exact KS.out _ D2.out)
    (first | (go_at_call 59; refine (geomRoom_calls (HL.out _ (Below.refl _ _).drew).conf).mono ?_; rintro e w2 ⟨rfl, hb2⟩; rw [HRM.out]; have D2 := Lib.hid ((Below.refl W.heap.size W).drew.trans hb2); clear hb2))
  go_wp2_with fail
  go_ret
  exact ⟨rfl, D2.out⟩

def sealOf (x : LogSt) (i : Int) (p : List UInt8) : DSeal := ⟨x.epoch, x.tail + i, 1, p⟩
def pieceSt (st : DiskSt) (c : DConf) (x : LogSt) (i : Int) (p : List UInt8) : DiskSt × Int := writeSt st (logOf c (x.tail + i)) (sealBytes (sealOf x i p))
theorem logOf_wf2 {c : DConf} (k : Int) : (Lit.int .i64 (logOf c k)).wf = true := by
  unfold logOf
  cases hr : confRight c with
  | false => rfl
  | true =>
    have hf := (right_facts hr).1
    obtain ⟨g1, g2, _⟩ := hf
    have m1 : 0 ≤ k % c.log := Int.emod_nonneg _ (by omega)
    have m2 : k % c.log < c.log := Int.emod_lt_of_pos _ (by omega)
    split
    · exact wf_i64 (by omega) (by omega)
    · decide

set_option maxRecDepth 100000 in
set_option maxHeartbeats 4000000 in
/-- (*wal.Log).write -/
theorem wwrite_calls {Q : Nat → Prop} {W : World} {L P : Nat} {A : Option Addr} {cap : Nat} {G : Nat → Prop} {c : DConf} {x : LogSt} {F B : Nat → Prop} {n : Nat} {st : DiskSt} {i : Int} {v : Value} {p : List UInt8}
    (h : LogW W L P A cap G c x) (hd : DiskAt W P F B n st) (hn : n ≤ 1000000000) (hf : ∀ b, b = L ∨ G b → ¬ F b) (he : (Lit.int .i64 x.epoch).wf = true) (hi : 0 ≤ x.tail + i ∧ x.tail + i ≤ 1000000000000000) (hp : Rep.byte.list.val Q W v p) :
    Calls Try.prog 67 #[.pointer (some ⟨L, 0, none⟩), .int .i64 i, v] W (WritePost F B P n W (pieceSt st c x i p)) := by
  have HL := Lib.hid (fun W' (hb : Below W.heap.size W W') => h.below hb)
  have HLO := Lib.hid (fun W' (ho : Only F W W') => h.only ho hf)
  have HD := Lib.hid (fun W' (hb : Below W.heap.size W W') => hd.below hb)
  have HFW := Lib.hid (show ∀ b, F b → b < W.heap.size by obtain ⟨_, _, _, _, hh⟩ := hd; exact fun b hb => hh.lt b (.inl hb))
  have HN := Lib.hid hn
  have HF := Lib.hid hf
  have HE := Lib.hid he
  have HS := Lib.hid (show pieceSt st c x i p = writeSt st (logOf c (x.tail + i)) (sealBytes (sealOf x i p)) from rfl)
  obtain ⟨Ap, cp, rfl, hc1, hc2, hA⟩ := Rep.val_list hp
  have HPV := Lib.hid (show ∀ W', Below W.heap.size W W' → Rep.byte.Sl (fun b => b < W.heap.size) W' Ap cp p from fun W' hb => ⟨hc1, hc2, (Rep.At.keep (w := W) (fun _ _ hl => ⟨hl.lt, hb.block _ hl.lt⟩) hA)⟩)
  clear h hd hn hf he hp hA
  obtain ⟨ep, hh, tl, sq⟩ := x
  dsimp only at *
  have i1 : IntKind.i64.wrap (tl + i) = tl + i := IntWalk.i64_in _ ⟨by omega, by omega⟩
  have HWF := Lib.hid (show (Lit.int .i64 (tl + i)).wf = true from wf_i64 (by omega) (by omega))
  have HLW := Lib.hid (logOf_wf2 (c := c) (tl + i))
  generalize hlg : logOf c (tl + i) = lg at *
  have HLG := Lib.hid hlg
  have KA := Lib.hid (show ∀ W', LogW W' L P A cap G c ⟨ep, hh, tl, sq⟩ → W'.cell? ⟨L, 0, none⟩ = some (.pointer (some ⟨P, 0, none⟩)) ∧ W'.cell? ⟨L, 1, none⟩ = some (.int .i64 c.log) ∧ W'.cell? ⟨L, 2, none⟩ = some (.int .i64 c.pages) ∧ W'.cell? ⟨L, 3, none⟩ = some (.int .i64 c.entities) ∧ W'.cell? ⟨L, 4, none⟩ = some (.int .i64 c.gens) ∧ W'.cell? ⟨L, 5, none⟩ = some (.slice A c.comps.length cap) ∧ W'.cell? ⟨L, 6, none⟩ = some (.int .i64 ep) ∧ W'.cell? ⟨L, 8, none⟩ = some (.int .i64 tl) from fun W' hw => ⟨hw.cells.c0, hw.cells.c1, hw.cells.c2, hw.cells.c3, hw.cells.c4, hw.cells.c5, hw.cells.c6, hw.cells.c8⟩)
  have KS := Lib.hid (fun W' (hb : Below W.heap.size W W') => KA.out W' (HL.out W' hb))
  obtain ⟨s0, s1, s2, s3, s4, s5, s6, s8⟩ := KS.out _ (Below.refl _ _).drew
  clear hlg
  go_enter Try.func67, Try.ntmps67
  go_wp2_with fail
  go_region_held3 (fun W' => W'.cell? ⟨L, 0, none⟩ = some (.pointer (some ⟨P, 0, none⟩)) ∧ W'.cell? ⟨L, 1, none⟩ = some (.int .i64 c.log) ∧ W'.cell? ⟨L, 2, none⟩ = some (.int .i64 c.pages) ∧ W'.cell? ⟨L, 3, none⟩ = some (.int .i64 c.entities) ∧ W'.cell? ⟨L, 4, none⟩ = some (.int .i64 c.gens) ∧ W'.cell? ⟨L, 5, none⟩ = some (.slice A c.comps.length cap) ∧ W'.cell? ⟨L, 6, none⟩ = some (.int .i64 ep) ∧ W'.cell? ⟨L, 8, none⟩ = some (.int .i64 tl))
    (first
      | exact KS.out _ (Below.refl _ _).drew
      | exact KS.out _ D2.out)
    (first | (go_at_call 94; refine (sealPut_calls (x := ⟨ep, tl + i, 1, p⟩) (rSeal_agg HE.out HWF.out rfl (HPV.out _ (Below.refl _ _).drew))).mono ?_; rintro e w2 ⟨u2, rfl, hu2, hb2⟩; have D2 := Lib.hid ((Below.refl W.heap.size W).drew.trans hb2); have HU2 := Lib.hid hu2; clear hb2 hu2))
  clear s0 s1 s2 s3 s4 s5 s6 s8
  obtain ⟨s0, s1, s2, s3, s4, s5, s6, s8⟩ := KS.out _ D2.out.drew
  obtain ⟨A2, c2, rfl, hc2, hm2, _⟩ := Rep.val_list HU2.out
  have HNQ := Lib.hid (show ∀ k, W.heap.size ≤ k → ¬ F k from fun k hk hf => by have := HFW.out k hf; omega)
  generalize hyl : (sealBytes ⟨ep, tl + i, 1, p⟩).length = yl at *
  clear hyl
  go_wp2_with fail
  go_region_held3 (fun W' => W'.cell? ⟨L, 0, none⟩ = some (.pointer (some ⟨P, 0, none⟩)) ∧ W'.cell? ⟨L, 1, none⟩ = some (.int .i64 c.log) ∧ W'.cell? ⟨L, 2, none⟩ = some (.int .i64 c.pages) ∧ W'.cell? ⟨L, 3, none⟩ = some (.int .i64 c.entities) ∧ W'.cell? ⟨L, 4, none⟩ = some (.int .i64 c.gens) ∧ W'.cell? ⟨L, 5, none⟩ = some (.slice A c.comps.length cap) ∧ W'.cell? ⟨L, 6, none⟩ = some (.int .i64 ep) ∧ W'.cell? ⟨L, 8, none⟩ = some (.int .i64 tl))
    (first
      | exact KS.out _ D2.out.drew
      | exact KS.out _ D3.out
      | exact KA.out _ (HLO.out _ O4.out))
    (first
      | (go_at_call 70; refine (geomLog_calls (HL.out _ D2.out.drew).conf).mono ?_; rintro e w3 ⟨rfl, hb3⟩; rw [HLG.out]; have B3 := Lib.hid (show Below w2.heap.size w2 w3 from (Below.refl w2.heap.size w2).drew.trans hb3); have D3 := Lib.hid (D2.out.drew.trans (hb3.mono D2.out.drew.size)); clear hb3)
      | (go_at_call 95; refine (dwrite_calls (HD.out _ D3.out) HLW.out HN.out (Rep.val_below HU2.out B3.out (fun _ _ hl => hl.lt)) HNQ.out).mono ?_; rintro e w4 ⟨rfl, ho4, hr4⟩; have O4 := Lib.hid ((Only.of_below (F := F) D3.out).trans ho4); have R4 := Lib.hid hr4; clear ho4 hr4))
  go_wp2_with fail
  go_ret
  obtain ⟨F', B', h1, h2, h3, h4⟩ := R4.out
  have hs3 := D3.out.size
  exact ⟨by rw [HS.out]; rfl, O4.out, F', B', by rw [HS.out]; exact h1, fun b hb => (h2 b hb).imp id fun e => by omega, fun b hb => (h3 b hb).imp id fun e => by omega, h4⟩
end Go.Proofs.Yteljibjbndpncaa
