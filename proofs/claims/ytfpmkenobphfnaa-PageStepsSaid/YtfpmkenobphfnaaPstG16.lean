/- Texts on which the proofs stand: DiskOf, Tear, Settle, DiskSet. No condition is laid on any input. -/
import Derived.Test.YtfpmkenobphfnaaPstDiskNew
import Derived.Maps.RangeWalk
/- Walk of a device of given bytes. -/
namespace Go.Proofs.Ytfpmkenobphfnaa
open Go.RowKit
open Extern.Stop (cell)

theorem sec_row {Q Q' : Nat → Prop} {W : World} : ∀ {xs : List (List UInt8 × Nat)} {cs : List Value}, rSec.row Q W cs xs → (∀ x ∈ xs, Q x.2 → Q' x.2) → Rep.byte.list.row Q' W cs (xs.map (·.1))
  | [], _, h, _ => h
  | x :: xs, _, h, hq => by
    obtain ⟨es, rest, rfl, ⟨rfl, h1, h2⟩, h3⟩ := h
    refine ⟨_, rest, rfl, ?_, sec_row h3 fun y hy => hq y (by simp [hy])⟩
    have hv := h2.sl (a := 0) (n := 512) (c := 512) (by omega) (by omega) (by simp [maxLen])
    rw [List.drop_zero, List.take_of_length_le (by rw [h2.len]; omega)] at hv
    have hv2 := Rep.val_mono (Q' := Q') (fun b hb _ => by have : b = x.2 := hb; rw [this]; exact hq x (by simp) h1) hv
    obtain ⟨A', c', he, g1, g2, es, g3, g4⟩ := Rep.val_list hv2
    have hlen := h2.len
    rw [hlen] at he
    cases he
    exact ⟨_, _, es, by rw [hlen], g1, g2, g3, g4⟩
def newSt (l : List (List UInt8)) : DiskSt := ⟨l, fun _ => [], -1, false, 0, 0⟩
theorem empty_map {W : World} {M : Nat} (h : W.heap[M]? = some (.map #[] 0)) : W.ownsMap Try.prog 3 heldElem M 0 (.map []) :=
  ⟨#[], 0, h, ⟨by simp, Go.MapKept.stamped_empty 0, by simp⟩, Nat.le_refl _, rfl⟩
/-- A new device is a device. -/
theorem NewAt.disk {w0 W : World} {P M k : Nat} {Sf : Option Addr} {cs : Nat} {xs : List (List UInt8 × Nat)} (h : NewAt w0 W P M k Sf cs xs) :
    DiskAt W P (fun b => b = P ∨ b = M ∨ (Value.slice Sf k cs).ownBlock = some b) (fun b => b ∈ xs.map (·.2) ∧ (Value.slice Sf k cs).ownBlock ≠ some b) 0 (newSt (xs.map (·.1))) := by
  have hl : (xs.map (·.1)).length = k := by rw [List.length_map]; exact h.len
  have hown := Rep.acc_own h.acc
  have hpos := h.pos
  refine ⟨Sf, cs, M, .map [], ⟨?_, ?_, empty_map h.map, fun i => Rep.acc_nil, fun i => Nat.le_refl _, fun i hi => absurd rfl hi, rfl, .inl rfl, .inr (.inl rfl), ?_, fun i b hb => (by cases hb), fun i b hb => (by cases hb), fun i j b _ hb => (by cases hb), fun b hb hB => ?_, fun b hb => ?_, fun i hi => by cases hi⟩⟩
  · show W.heap[P]? = some (.cells #[.slice Sf (xs.map (·.1)).length cs, _, _, _, _, _] _ _)
    rw [hl]; exact h.blk
  · show Rep.byte.list.acc 36 0 _ W (.slice Sf (xs.map (·.1)).length cs) (xs.map (·.1))
    rw [hl]
    obtain ⟨cells, h1, h2⟩ := h.acc
    refine ⟨cells, ⟨?_, ?_⟩, ?_⟩
    · have := h1.1; rw [this, h.len, hl]; rfl
    · rcases h1.2 with ⟨e, e0⟩ | ⟨g, cap, cur, e, hb, hh, g1, g2, g3, g4⟩
      · exact .inl ⟨e, by rw [hl]; rw [h.len] at e0; exact e0⟩
      · rw [h.len] at e g1 g4
        exact .inr ⟨g, cap, cur, by rw [hl]; exact e, Nat.zero_le _, hh, by rw [hl]; exact g1, g2, g3, by rw [hl]; exact g4⟩
    · exact sec_row h2 fun x hx hq => ⟨⟨List.mem_map.2 ⟨x, hx, rfl⟩, hq.2⟩, hq.2⟩
  · show ∀ b, (Value.slice Sf (xs.map (·.1)).length cs).ownBlock = some b → _
    rw [hl]; exact fun b hb => .inr (.inr hb)
  · obtain ⟨x, hx, rfl⟩ := List.mem_map.1 hB.1
    have := (h.lt x hx).1
    rcases hb with hb | hb | hb
    · omega
    · omega
    · exact hB.2 hb
  · rcases hb with (hb | hb | hb) | hb
    · omega
    · omega
    · exact (hown b hb).2
    · obtain ⟨x, hx, rfl⟩ := List.mem_map.1 hb.1
      exact (h.lt x hx).2

theorem row_set {Q : Nat → Prop} {W W' : World} {C : List UInt8} {bk : Nat} : ∀ {xs : List (List UInt8 × Nat)} {cs : List Value} {k : Nat} (_ : k < xs.length) (_ : (xs.map (·.2)).Nodup) (_ : rSec.row Q W cs xs) (_ : (xs[k]'‹_›).2 = bk) (_ : SecAt W' bk 5 C) (_ : ∀ b, b ≠ bk → W'.heap[b]? = W.heap[b]?), rSec.row Q W' cs (xs.set k (C, bk))
  | [], _, k, hk, _, _, _, _, _ => by simp at hk
  | x :: xs, _, 0, hk, hd, h, hbk, hc, hw => by
    obtain ⟨es, rest, rfl, ⟨rfl, h1, h2⟩, h3⟩ := h
    have e : x.2 = bk := hbk
    refine ⟨_, rest, rfl, ⟨by rw [← e], e ▸ h1, hc⟩, ?_⟩
    have hd2 := (List.nodup_cons.1 hd).1
    have : ∀ {ys : List (List UInt8 × Nat)} {cs : List Value}, (∀ y ∈ ys, y.2 ≠ bk) → rSec.row Q W cs ys → rSec.row Q W' cs ys := by
      intro ys
      induction ys with
      | nil => intro cs _ h; exact h
      | cons y ys ih =>
        intro cs hne h
        obtain ⟨es, rest, rfl, ⟨rfl, g1, g2⟩, g3⟩ := h
        exact ⟨_, rest, rfl, ⟨rfl, g1, g2.keep (hw _ (hne y (by simp)))⟩, ih (fun z hz => hne z (by simp [hz])) g3⟩
    exact this (fun y hy e2 => hd2 (List.mem_map.2 ⟨y, hy, e2.trans e.symm⟩)) h3
  | x :: xs, _, k + 1, hk, hd, h, hbk, hc, hw => by
    obtain ⟨es, rest, rfl, ⟨rfl, h1, h2⟩, h3⟩ := h
    have hd2 := (List.nodup_cons.1 hd)
    have hk2 : k < xs.length := by simpa using hk
    have hne : x.2 ≠ bk := fun e => hd2.1 (List.mem_map.2 ⟨xs[k], List.getElem_mem hk2, hbk.trans e.symm⟩)
    exact ⟨_, rest, rfl, ⟨rfl, h1, h2.keep (hw _ hne)⟩, row_set hk2 hd2.2 h3 hbk hc hw⟩
theorem NewAt.set {w0 W W' : World} {P M k j : Nat} {Sf : Option Addr} {cs : Nat} {xs : List (List UInt8 × Nat)} {C : List UInt8} {bk : Nat} (h : NewAt w0 W P M k Sf cs xs) (hj : j < xs.length) (hbk : xs[j].2 = bk)
    (hc : SecAt W' bk 5 C) (hw : ∀ b, b ≠ bk → W'.heap[b]? = W.heap[b]?) (hs : W'.heap.size = W.heap.size) (ho : W'.os = W.os ∧ W'.tape = W.tape ∧ W'.output = W.output) (hne : (Value.slice Sf k cs).ownBlock ≠ some bk) :
    NewAt w0 W' P M k Sf cs (xs.set j (C, bk)) := by
  have hlt := h.lt xs[j] (List.getElem_mem hj)
  rw [hbk] at hlt
  have hpos := h.pos
  have hmap : (xs.set j (C, bk)).map (·.2) = xs.map (·.2) := by
    rw [List.map_set]
    show (xs.map (·.2)).set j bk = xs.map (·.2)
    have : (xs.map (·.2))[j]'(by simpa using hj) = bk := by simp [hbk]
    rw [← this, List.set_getElem_self]
  obtain ⟨cells, h1, h2⟩ := h.acc
  refine ⟨by rw [List.length_set]; exact h.len, (hw P (by omega)).trans h.blk, ⟨cells, ?_, row_set hj h.dis h2 hbk hc hw⟩, (hw M (by omega)).trans h.map,
    ⟨ho.1.trans h.bel.os, ho.2.1.trans h.bel.tape, ho.2.2.trans h.bel.output, by rw [hs]; exact h.bel.size, fun b hb => (hw b (by omega)).trans (h.bel.block b hb)⟩, by rw [hmap]; exact h.dis, fun x hx => ?_, ⟨hpos.1, hpos.2.1, by rw [hs]; exact hpos.2.2⟩⟩
  · rw [List.length_set]
    refine ⟨h1.1, ?_⟩
    rcases h1.2 with e | ⟨g, cap, cur, e, hb, hh, r⟩
    · exact .inl e
    · refine .inr ⟨g, cap, cur, e, hb, (hw g (fun e2 => ?_)).trans hh, r⟩
      apply hne
      rw [e, e2]; rfl
  · rw [hs]
    rcases List.mem_or_eq_of_mem_set hx with hx | rfl
    · exact h.lt x hx
    · exact hlt

theorem step_copy_set {P : Program} {ops : Array Oper} {o : Oper} {a : Act} {w : World} {K : Act → World → Prop} {Q : Exit → Act → World → Prop} {E : Prop} (hgd : o.guard = none) (d s : Operand) (dT sT : TypeId)
    (ho : o.op = .call { callee := .builtin .copy, args := #[d, s], argTypes := #[dT, sT] }) (elem : TypeId) (hu : P.underlying dT = some (.slice elem)) (hsz : (P.info? elem).map (·.size) = some 1)
    (g off dLen dCap : Nat) (ad : Addr) (sLen sCap : Nat) (hd : a.eval d = .slice (some ⟨g, off, none⟩) dLen dCap) (hs : a.eval s = .slice (some ad) sLen sCap)
    (cur : Array Value) (t : TypeId) (hg : w.heap[g]? = some (.cells cur t (0, 0))) (cs : List Value) (hn : cs.length = Nat.min sLen dLen)
    (hsrc : ∀ j v, cs[j]? = some v → w.cell? (ad.add j) = some v) (hfit : off + cs.length ≤ cur.size) (h1 : ∀ v ∈ cs, v.oneCell' = true)
    (h : K (a.put o.dst (goInt cs.length)) (w.setRow g (splice cur.toList off cs).toArray)) :
    if Region.wanted o (yielded ops a.tmps) = true then Oper.wp P o a w K Q else E := by
  have hw : Region.wanted o (yielded ops a.tmps) = true := by simp [Region.wanted, hgd]
  rw [if_pos hw]
  have hrun := run_copy_row (P := P) w dT sT o.type elem g off dLen dCap ad sLen sCap cur t cs hu hsz hg hn hsrc hfit h1
  unfold Oper.wp
  simp [execOp, ho, resolve, invoke, builtin, hd, hs, hrun, Result.andThen]
  have h2 := h
  unfold splice at h2
  exact h2

def chunk (b : List UInt8) (k : Nat) : List UInt8 := (b.drop (512 * k)).take 512
def chunks (b : List UInt8) : List (List UInt8) := (List.range (b.length / 512)).map (chunk b)
def OfPost (w : World) (b : List UInt8) (e : Ending) (W : World) : Prop :=
  ∃ (P : Nat) (F B : Nat → Prop), e = .returned (.pointer (some ⟨P, 0, none⟩)) ∧ DiskAt W P F B 0 (newSt (chunks b)) ∧ (∀ k, F k ∨ B k → w.heap.size ≤ k) ∧ Below w.heap.size w W
theorem NewAt.old {w0 W : World} {P M k : Nat} {Sf : Option Addr} {cs : Nat} {xs : List (List UInt8 × Nat)} (h : NewAt w0 W P M k Sf cs xs) : ∀ b, ((b = P ∨ b = M ∨ (Value.slice Sf k cs).ownBlock = some b) ∨ (b ∈ xs.map (·.2) ∧ (Value.slice Sf k cs).ownBlock ≠ some b)) → w0.heap.size ≤ b := by
  intro b hb
  have hpos := h.pos
  rcases hb with (hb | hb | hb) | hb
  · omega
  · omega
  · have := (Rep.acc_own h.acc b hb).1; omega
  · obtain ⟨x, hx, rfl⟩ := List.mem_map.1 hb.1
    have := (h.lt x hx).1; omega
theorem splice_whole (Z X : List Value) (h : Z.length = X.length) : splice Z 0 X = X := by
  have := splice_here (B := Z) (T := []) h
  simpa using this

end Go.Proofs.Ytfpmkenobphfnaa
/- Walk of a torn sector. -/
namespace Go.Proofs.Ytfpmkenobphfnaa
open Go.RowKit
open Extern.Stop (cell)

/-- A part of one sector over another. -/
def tearOf (a b : List UInt8) (k : Int) : List UInt8 :=
  if 0 < k then (cutTo b 512).take (8 * (min k 64).toNat) ++ (cutTo a 512).drop (8 * (min k 64).toNat)
  else if k < 0 then (cutTo a 512).take (8 * (64 + max k (-64)).toNat) ++ (cutTo b 512).drop (8 * (64 + max k (-64)).toNat)
  else cutTo a 512
theorem tear_length (a b : List UInt8) (k : Int) : (tearOf a b k).length = 512 := by
  unfold tearOf
  split
  · rw [List.length_append, List.length_take, List.length_drop, cutTo_length, cutTo_length]; omega
  · split
    · rw [List.length_append, List.length_take, List.length_drop, cutTo_length, cutTo_length]; omega
    · exact cutTo_length _ _
theorem splice_front {α : Type} {X Y : List α} {n : Nat} (hn : n ≤ Y.length) : splice X 0 (Y.take n) = Y.take n ++ X.drop n := by
  unfold splice
  rw [List.take_zero, List.nil_append, List.length_take, Nat.zero_add, Nat.min_eq_left hn]
theorem splice_back {α : Type} {X Y : List α} {n : Nat} (hx : X.length = Y.length) : splice X n (Y.drop n) = X.take n ++ Y.drop n := by
  unfold splice
  rw [List.length_drop]
  by_cases h : n ≤ Y.length
  · rw [List.drop_of_length_le (show X.length ≤ n + (Y.length - n) by omega), List.append_nil]
  · rw [List.drop_of_length_le (show X.length ≤ n + (Y.length - n) by omega), List.append_nil]

end Go.Proofs.Ytfpmkenobphfnaa
/- Walk of what stays of a sector when the power fails. -/
namespace Go.Proofs.Ytfpmkenobphfnaa
open Go.RowKit

def keptOf (f : DFate) (n : Nat) : Nat := (min (max f.kept 0) (n : Int)).toNat
def settleOf (s : List UInt8) (l : List (List UInt8)) (f : DFate) : List UInt8 :=
  if keptOf f l.length < l.length then tearOf ((s :: l).getD (keptOf f l.length) []) ((s :: l).getD (keptOf f l.length + 1) []) f.torn else (s :: l).getD (keptOf f l.length) []
theorem kept_le (f : DFate) (n : Nat) : keptOf f n ≤ n := by unfold keptOf; omega
/-- 'append(s, xs...)', xs a slice of the call's own or kept as0 one. -/
theorem wpList_spread_acc {α : Type} {r : Rep α} {e base e2 base2 : Nat} {Q Q' : Nat → Prop} {P : Program} {w : World} {ops : Array Oper} {rest : List Oper} {o : Oper} {a : Act} {R : Exit → Act → World → Prop} (hg : o.guard = none) (s x : Operand) (t : TypeId)
    (ho : o.op = .call { callee := .builtin .append, args := #[s, x], argTypes := #[t, t] })
    (z : Value) (size bytes : Nat) (ht : P.underlying t = some (.slice e)) (hi : (P.info? e).map (fun i => (i.zero, i.size, i.bytes)) = some (some z, size, bytes)) (hzs : z.cells.size = size) (hsz : 0 < size)
    (hr : r.size = size) (v : Value) (xs : List α) (hs : a.eval s = v) (h : r.acc e base Q w v xs) (u : Value) (ys : List α) (hx : a.eval x = u) (hy : r.acc e2 base2 Q' w u ys)
    (hq : ∀ b, Q' b → IsC w b → Q b ∧ v.ownBlock ≠ some b)
    (h63 : xs.length + ys.length ≤ maxLen) (hbytes : (xs.length + ys.length) * bytes ≤ 140737488355328) (hbase : base ≤ w.heap.size)
    (K : ∀ v' w', r.acc e base Q w' v' (xs ++ ys) → w.grownBy w' v.ownBlock → (v'.ownBlock = v.ownBlock ∨ v'.ownBlock = some w.heap.size) → wpList P ops R rest (a.put o.dst v') w') :
    wpList P ops R (o :: rest) a w := by
  obtain ⟨A, c, rfl, _, _⟩ := Rep.acc_form hy
  obtain ⟨cells, h1, h2⟩ := hy
  refine wpList_plain hg fun K2 hK2 => ?_
  obtain ⟨v', w', q1, q2, q3, q4⟩ := Rep.acc_more (P := P) (ty := o.type) (c := c) (A := A) ht hi hzs hsz hr h rfl (Rep.row_keep (fun b hb hl => ⟨hq b hb.1 hl, rfl⟩) h2)
    (fun hn => by
      rcases h1.2 with ⟨hv, h0⟩ | ⟨g, cap, cur, hv, _⟩
      · omega
      · cases hv
        refine ⟨g, 0, rfl, fun j u hj => ?_⟩
        have := h1.cells (g := g) rfl j u hj
        rwa [Addr.add_lit] at this) h63 hbytes hbase
  unfold Oper.wp execOp
  simp only [ho, resolve, invoke, builtin, Sem.run_bind, Sem.run_pure, Result.andThen_ok, List.map_toArray, List.map_cons, List.map_nil, hs, hx, q1]
  exact hK2 _ _ (K v' w' q2 q3 q4)
theorem cell_lt {w : World} {b o : Nat} {v : Value} (h : w.cell? ⟨b, o, none⟩ = some v) : b < w.heap.size := by
  unfold World.cell? at h
  by_cases hb : b < w.heap.size
  · exact hb
  · rw [Array.getElem?_eq_none (show w.heap.size ≤ b by omega)] at h
    simp at h
/-- A slice of one element, just built. -/
theorem Rep.acc_one {α : Type} {r : Rep α} {e base : Nat} {Q : Nat → Prop} {w : World} {v : Value} {x : α} (hr : r.size = 1) (hb : base ≤ w.heap.size) (h : r.val Q w v x) (hv : v.cells = #[v]) : 
    r.acc e base (fun b => Q b ∧ b < w.heap.size) (w.alloc (.cells #[v] e)) (.slice (some ⟨w.heap.size, 0, none⟩) 1 1) [x] := by
  obtain ⟨cs, he, hrd⟩ := h
  have hb2 : cs = [v] := by
    have := r.back hrd
    rw [← he, hv] at this
    exact this.symm
  subst hb2
  refine ⟨[v], ⟨by simp [hr], .inr ⟨w.heap.size, 1, #[v], rfl, hb, heap_alloc_new w _, Nat.le_refl _, by simp [maxLen], by simp [hr], by simp [hr]⟩⟩, Rep.row_one_elem ?_⟩
  exact r.keep (fun b hb' hl => ⟨⟨⟨hb', hl.lt⟩, fun e => by have := hl.lt; have e2 : w.heap.size = b := Option.some.inj e; omega⟩, Below.heap_alloc _ _ _ hl.lt⟩) hrd

end Go.Proofs.Ytfpmkenobphfnaa
/- A sector is laid anew; the waiting writes are struck: what the device is then. -/
namespace Go.Proofs.Ytfpmkenobphfnaa
open Go.RowKit

theorem Rep.row_put {α : Type} {r : Rep α} {Q : Nat → Prop} {w : World} {u : Value} {y : α} (hr : r.size = 1) (hrd : r.rd Q w [u] y) : ∀ {xs : List α} {cs : List Value} (i : Nat), r.row Q w cs xs → r.row Q w (cs.set i u) (xs.set i y)
  | [], cs, i, h => by have h' : cs = [] := h; subst h'; exact h
  | x :: xs, cs, 0, h => by
    obtain ⟨es, rest, rfl, h1, h2⟩ := h
    have hl := r.len h1
    rw [hr] at hl
    obtain ⟨e, rfl⟩ : ∃ e, es = [e] := List.length_eq_one_iff.1 hl
    exact ⟨[u], rest, rfl, hrd, h2⟩
  | x :: xs, cs, i + 1, h => by
    obtain ⟨es, rest, rfl, h1, h2⟩ := h
    have hl := r.len h1
    rw [hr] at hl
    obtain ⟨e, rfl⟩ : ∃ e, es = [e] := List.length_eq_one_iff.1 hl
    exact ⟨[e], rest.set i u, rfl, h1, Rep.row_put hr hrd i h2⟩
theorem Rep.acc_put {α : Type} {r : Rep α} {e base : Nat} {Q : Nat → Prop} {w : World} {v u : Value} {xs : List α} {y : α} {i : Nat} (hr : r.size = 1) (h : r.acc e base Q w v xs) (hi : i < xs.length) (hu : r.rd (fun b => Q b ∧ v.ownBlock ≠ some b) w [u] y) (_ : u.oneCell' = true) :
    ∃ g cap, v = .slice (some ⟨g, 0, none⟩) xs.length cap ∧ w.heap[g]? ≠ none ∧ r.acc e base Q (w.setCell ⟨g, i, none⟩ u) v (xs.set i y) := by
  obtain ⟨cells, g1, g2⟩ := h
  rcases g1.2 with ⟨rfl, h0⟩ | ⟨g, cap, cur, rfl, hb, hg, h3, h4, h5, h6⟩
  · omega
  · have hown : (Value.slice (some ⟨g, 0, none⟩) xs.length cap).ownBlock = some g := rfl
    refine ⟨g, cap, rfl, by rw [hg]; simp, cells.set i u, ⟨by rw [List.length_set, List.length_set]; exact g1.1, .inr ⟨g, cap, cur.setIfInBounds i u, by rw [List.length_set], hb, heap_setRow hg, by rw [List.length_set]; exact h3, h4, by simp [h5], ?_⟩⟩, ?_⟩
    · rw [List.length_set, hr, Nat.mul_one] at *
      rw [Array.toList_setIfInBounds, List.take_set, h6]
    · refine Rep.row_put hr ?_ i (Rep.row_keep (w := w) (fun b hb' hl => ⟨hb', Below.heap_setCell _ _ _ _ (fun e => hb'.2 (by rw [e]; rfl))⟩) g2)
      exact r.keep (fun b hb' hl => ⟨hb', Below.heap_setCell _ _ _ _ (fun e => hb'.2 (by rw [e]; rfl))⟩) hu

/-- An element of a slice of slices of bytes. -/
theorem Rep.acc_elem {e base : Nat} {Q : Nat → Prop} {w : World} {v : Value} {xs : List (List UInt8)} (h : Rep.byte.list.acc e base Q w v xs) {i : Nat} {x : List UInt8} (hx : xs[i]? = some x) :
    ∃ g B c cap, v = .slice (some ⟨g, 0, none⟩) xs.length cap ∧ w.cell? ⟨g, i, none⟩ = some (.slice B x.length c) ∧ w.frozen? ⟨g, i, none⟩ = false ∧ g < w.heap.size ∧ Rep.byte.list.val (fun b => Q b ∧ g ≠ b) w (.slice B x.length c) x := by
  obtain ⟨cells, g1, g2⟩ := h
  have hi := (List.getElem?_eq_some_iff.1 hx).1
  rcases g1.2 with ⟨rfl, h0⟩ | ⟨g, cap, cur, rfl, hb, hg, h3, h4, h5, h6⟩
  · omega
  · obtain ⟨es, hrd, hcell⟩ := Rep.row_get g2 hx
    have hval : Rep.byte.list.val (fun b => Q b ∧ g ≠ b) w (Rep.byte.list.wrap es) x := ⟨es, rfl, Rep.byte.list.mono (fun b hb' _ => ⟨hb'.1, fun e => hb'.2 (by rw [e]; rfl)⟩) hrd⟩
    obtain ⟨B, c, he, hc1, hc2, hat⟩ := Rep.val_list hval
    rw [he] at hval
    have hes : es = [.slice B x.length c] := by
      have := Rep.byte.list.back hrd
      rw [he] at this
      exact this.symm
    subst hes
    refine ⟨g, B, c, cap, rfl, ?_, frozen_row hg i, (Array.getElem?_eq_some_iff.1 hg).1, hval⟩
    have := g1.cells (g := g) rfl i (.slice B x.length c) (by have := hcell 0 _ rfl; simpa [Rep.list] using this)
    rw [Addr.add_lit, Nat.zero_add] at this
    exact this

namespace DiskW
variable {W W' : World} {P : Nat} {Sf : Option Addr} {cs M : Nat} {D : DataW Value} {F B : Nat → Prop} {n : Nat} {st : DiskSt}
theorem wide (h : DiskW W P Sf cs M D F B n st) {B' : Nat → Prop} (hb : ∀ b, B b → B' b) (ha : ∀ b, F b → ¬ B' b) (hl : ∀ b, B' b → b < W.heap.size) : DiskW W P Sf cs M D F B' n st :=
  ⟨h.blk, Rep.acc_keep (fun _ _ _ => rfl) (fun b hb' _ => hb b hb') h.safe, h.map, fun i => Rep.acc_keep (fun _ _ _ => rfl) (fun b hb' _ => hb b hb') (h.wt i), h.len, h.keys, h.wf, h.fP, h.fM, h.fS, h.fW, h.dSW, h.dWW, ha, fun b hb' => hb'.elim (fun e => h.lt b (.inl e)) (hl b), h.has⟩
/-- A sector is laid anew. -/
theorem setSafe (h : DiskW W P Sf cs M D F B n st) {i : Nat} (hi : i < st.safe.length) {u : Value} {y : List UInt8} (hu : Rep.byte.list.val B W u y) :
    ∃ g, Sf = some ⟨g, 0, none⟩ ∧ F g ∧ DiskW (W.setCell ⟨g, i, none⟩ u) P Sf cs M D F B n { st with safe := st.safe.set i y } := by
  obtain ⟨A', c', rfl, _, _, _⟩ := Rep.val_list hu
  obtain ⟨cs', he, hrd⟩ := hu
  have hcs : cs' = [.slice A' y.length c'] := by
    have := Rep.byte.list.back hrd
    rw [← he] at this
    exact this.symm
  subst hcs
  have hown : ∀ b, B b → (Value.slice Sf st.safe.length cs).ownBlock ≠ some b := fun b hb e => h.apart b (h.fS b e) hb
  obtain ⟨g, cap, hv, _, hacc⟩ := Rep.acc_put rfl h.safe hi (Rep.byte.list.mono (fun b hb _ => ⟨hb, hown b hb⟩) hrd) rfl
  cases hv
  have hg : (Value.slice (some ⟨g, 0, none⟩) st.safe.length cs).ownBlock = some g := rfl
  have hFg := h.fS g hg
  have ek : ∀ b, b ≠ g → (W.setCell ⟨g, i, none⟩ (.slice A' y.length c')).heap[b]? = W.heap[b]? := fun b hb => Below.heap_setCell _ _ _ _ hb
  have hlen : (st.safe.set i y).length = st.safe.length := List.length_set ..
  refine ⟨g, rfl, hFg, ⟨?_, ?_, h.map_keep (ek M (fun e => h.sM hg e.symm)), fun j => ?_, h.len, fun j hj => ?_, h.wf, h.fP, h.fM, ?_, h.fW, ?_, h.dWW, h.apart, fun b hb => ?_, h.has⟩⟩
  · rw [ek P (fun e => h.sP hg e.symm)]
    show W.heap[P]? = some (.cells #[.slice _ (st.safe.set i y).length _, _, _, _, _, _] _ _)
    rw [hlen]; exact h.blk
  · show Rep.byte.list.acc 36 0 B _ (.slice _ (st.safe.set i y).length cs) (st.safe.set i y)
    rw [hlen]; exact hacc
  · exact Rep.acc_keep (fun b hb _ => ek b (hb.elim (fun e e2 => h.apart g hFg (e2 ▸ e)) (fun e e2 => h.dSW j b e (by rw [e2]; exact hg)))) (fun _ hb _ => hb) (h.wt j)
  · show 0 ≤ j ∧ j < ((st.safe.set i y).length : Int)
    rw [hlen]; exact h.keys j hj
  · show ∀ b, (Value.slice _ (st.safe.set i y).length cs).ownBlock = some b → F b
    rw [hlen]; exact h.fS
  · show ∀ j b, (valAt D j).ownBlock = some b → (Value.slice _ (st.safe.set i y).length cs).ownBlock ≠ some b
    rw [hlen]; exact h.dSW
  · have := h.lt b hb; simpa using this
/-- The waiting writes are struck. -/
theorem struck (h : DiskW W P Sf cs M D F B n st) {clock : Nat} (hm : W'.heap[M]? = some (.map #[] clock)) (hs : W'.heap.size = W.heap.size) (hk : ∀ b, b ≠ M → W'.heap[b]? = W.heap[b]?) :
    DiskW W' P Sf cs M (.map []) F B n { st with wait := fun _ => [] } := by
  have hBM : ∀ b, B b → b ≠ M := fun b hb e => h.apart M h.fM (e ▸ hb)
  refine ⟨(hk P (fun e => h.mP e.symm)).trans h.blk, ?_, ⟨#[], clock, hm, ⟨by simp, Go.MapKept.stamped_empty clock, by simp⟩, Nat.zero_le _, rfl⟩, fun i => Rep.acc_nil, fun i => Nat.zero_le _, fun i hi => absurd rfl hi, h.wf, h.fP, h.fM, h.fS, fun i b hb => (by cases hb), fun i b hb => (by cases hb), fun i j b _ hb => (by cases hb), h.apart, fun b hb => by rw [hs]; exact h.lt b hb, fun i hi => by cases hi⟩
  exact Rep.acc_keep (fun b hb _ => hk b (hb.elim (hBM b) h.sM)) (fun _ hb _ => hb) h.safe
/-- A key with waiting writes is one of the map's. -/
theorem of_wait (h : DiskW W P Sf cs M D F B n st) {i : Int} (hw : st.wait i ≠ []) : Go.Maps.has D (.int .i64 i) = true := by
  cases hh : Go.Maps.has D (.int .i64 i) with
  | true => rfl
  | false =>
    exfalso
    have e : valAt D i = nilList := by unfold valAt; rw [Go.Maps.atKey_of_not_has hh]
    have h1 := h.wt i
    rw [e] at h1
    obtain ⟨A, c, he, _⟩ := Rep.acc_form h1
    cases hl : st.wait i with
    | nil => exact hw hl
    | cons y ys => rw [hl] at he; unfold nilList at he; injection he with _ h2 _; simp at h2
end DiskW
/-- clear(m). -/
theorem clear_map {w : World} {M : Nat} {es : Array MapEntry} {clock : Nat} {ty : TypeId} (hb : w.heap[M]? = some (.map es clock)) :
    ∃ w' c', (Builtin.clear_ #[129] ty #[.map (some M)]).run Try.prog w = .ok (.tuple #[]) w' ∧ w'.heap[M]? = some (.map #[] c') ∧ w'.heap.size = w.heap.size ∧ (∀ b, b ≠ M → w'.heap[b]? = w.heap[b]?) ∧ w'.os = w.os ∧ w'.tape = w.tape ∧ w'.output = w.output := by
  have hm := Try.underlying129
  have hlt : M < w.heap.size := (Array.getElem?_eq_some_iff.1 hb).1
  refine ⟨{ w with heap := w.heap.setIfInBounds M (.map #[] clock) }, clock, ?_, ?_, by simp, fun b hne => ?_, rfl, rfl, rfl⟩
  · simp [Builtin.clear_, run_underlying hm, Go.MapKept.run_getObj_map hb, Go.MapKept.run_setObj_map _ hb, Result.andThen]
  · simp [hlt]
  · show (w.heap.setIfInBounds M _)[b]? = w.heap[b]?
    rw [Array.getElem?_setIfInBounds_ne (fun e => hne e.symm)]
end Go.Proofs.Ytfpmkenobphfnaa
