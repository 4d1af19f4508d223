/- Texts on which the proofs stand: WalFindsAt, FrameOk. No condition is laid on any input. -/
import Derived.Test.YteljibjbndpncaaWfFGet
import Derived.Test.YteljibjbndpncaaWfG10
import Derived.Test.YteljibjbndpncaaWfG23
import Derived.Test.YteljibjbndpncaaWfWalLive
/- How a log, its device and what is wanted of it lie in memory. -/
namespace Go.Proofs.Yteljibjbndpncaa
open Go.RowKit

/-- A log's blocks and its device's. -/
def Own (L : Nat) (G F B : Nat → Prop) (b : Nat) : Prop := b = L ∨ G b ∨ F b ∨ B b
def FindAt (w : World) (base L P : Nat) (A : Option Addr) (cap : Nat) (G : Nat → Prop) (n : Nat) (c : DConf) (s : DiskSt) (x : LogSt) (u : Value) (want : List (List UInt8)) : Prop :=
  ∃ F B : Nat → Prop, WalAt w L P A cap G F B n c s x ∧ (∀ b, F b ∨ b = L → base ≤ b) ∧ Rep.byte.list.acc 33 base (fun b => ¬ Own L G F B b) w u want ∧ (∀ b, u.ownBlock = some b → ¬ Own L G F B b)
section
variable {w w' : World} {base L P : Nat} {A : Option Addr} {cap : Nat} {G F B : Nat → Prop} {n : Nat} {c : DConf} {s : DiskSt} {x : LogSt} {u : Value} {want : List (List UInt8)}
theorem WalAt.own_lt (h : WalAt w L P A cap G F B n c s x) (b : Nat) (hb : Own L G F B b) : b < w.heap.size := by
  obtain ⟨_, _, _, _, hh⟩ := h.dev
  rcases hb with hb | hb | hb | hb
  · exact h.log.lt b (.inl hb)
  · exact h.log.lt b (.inr hb)
  · exact hh.lt b (.inl hb)
  · exact hh.lt b (.inr hb)
theorem WalAt.hold (h : WalAt w L P A cap G F B n c s x) (hs : w.heap.size ≤ w'.heap.size) (hk : ∀ b, Own L G F B b → w'.heap[b]? = w.heap[b]?) : WalAt w' L P A cap G F B n c s x :=
  ⟨h.log.keep hs (fun b hb => hk b (hb.elim (fun e => .inl e) (fun e => .inr (.inl e)))), h.dev.keep hs (fun b hb => hk b (hb.elim (fun e => .inr (.inr (.inl e))) (fun e => .inr (.inr (.inr e))))), h.nf, h.nb⟩
theorem FindAt.below (h : FindAt w base L P A cap G n c s x u want) (hb : Below w.heap.size w w') : FindAt w' base L P A cap G n c s x u want := by
  obtain ⟨F, B, h1, h2, h3, h4⟩ := h
  exact ⟨F, B, h1.below hb, h2, Rep.acc_later h3 hb, h4⟩
theorem FindAt.empty (h : FindAt w base L P A cap G n c s x u want) : FindAt w base L P A cap G n c s x (.slice none 0 0) [] := by
  obtain ⟨F, B, h1, h2, h3, h4⟩ := h
  exact ⟨F, B, h1, h2, Rep.acc_nil, fun b hb => by cases hb⟩
theorem FindAt.push {u' : Value} {y : List UInt8} (h1 : WalAt w L P A cap G F B n c s x) (h2 : ∀ b, F b ∨ b = L → base ≤ b) (h4 : ∀ b, u.ownBlock = some b → ¬ Own L G F B b) (hgr : w.grownBy w' u.ownBlock)
    (hat : u'.ownBlock = u.ownBlock ∨ u'.ownBlock = some (w.heap.size + 1)) (hacc : Rep.byte.list.acc 33 base (fun b => ¬ Own L G F B b) w' u' (want ++ [y])) : FindAt w' base L P A cap G n c s x u' (want ++ [y]) := by
  refine ⟨F, B, h1.hold hgr.size (fun b hb => hgr.block b (h1.own_lt b hb) (fun e => h4 b e.symm hb)), h2, hacc, fun b hb => ?_⟩
  rcases hat with he | he
  · exact h4 b (he ▸ hb)
  · intro ho
    have h5 := h1.own_lt b ho
    rw [he] at hb
    have := Option.some.inj hb
    omega
theorem Own.new {F' B' : Nat → Prop} {z b : Nat} (hF : ∀ b, F' b → F b ∨ z ≤ b) (hB : ∀ b, B' b → B b ∨ z ≤ b) (hl : b < z) (hno : ¬ Own L G F B b) : ¬ Own L G F' B' b := by
  intro hb
  rcases hb with hb | hb | hb | hb
  · exact hno (.inl hb)
  · exact hno (.inr (.inl hb))
  · exact (hF b hb).elim (fun h => hno (.inr (.inr (.inl h)))) (fun h => by omega)
  · exact (hB b hb).elim (fun h => hno (.inr (.inr (.inr h)))) (fun h => by omega)
theorem Own.not {b : Nat} (hno : ¬ Own L G F B b) : ¬ (F b ∨ b = L) := fun hb => hno (hb.elim (fun h => .inr (.inr (.inl h))) .inl)
theorem FindAt.app {F' B' : Nat → Prop} (h2 : ∀ b, F b ∨ b = L → base ≤ b) (h3 : Rep.byte.list.acc 33 base (fun b => ¬ Own L G F B b) w u want) (h4 : ∀ b, u.ownBlock = some b → ¬ Own L G F B b)
    (hb : base ≤ w.heap.size) (ho : Only (fun b => F b ∨ b = L) w w') (hF : ∀ b, F' b → F b ∨ w.heap.size ≤ b) (hB : ∀ b, B' b → B b ∨ w.heap.size ≤ b) :
    (∀ b, F' b ∨ b = L → base ≤ b) ∧ Rep.byte.list.acc 33 base (fun b => ¬ Own L G F' B' b) w' u want ∧ (∀ b, u.ownBlock = some b → ¬ Own L G F' B' b) := by
  refine ⟨fun b hb2 => ?_, Rep.acc_keep (fun b hb2 hl => ?_) (fun b hb2 hl => Own.new hF hB hl.lt hb2) h3, fun b hb2 => Own.new hF hB (Rep.acc_own h3 b hb2).2 (h4 b hb2)⟩
  · rcases hb2 with hb2 | hb2
    · exact (hF b hb2).elim (fun h => h2 b (.inl h)) (fun h => by omega)
    · exact h2 b (.inr hb2)
  · exact ho.block b hl.lt (Own.not (hb2.elim id (fun e => h4 b e)))
theorem FindAt.cut {x' : LogSt} (h : FindAt w base L P A cap G n c s x u want) (hl : LogW w' L P A cap G c x') (ho : Only (fun b => b = L) w w') : FindAt w' base L P A cap G n c s x' u want := by
  obtain ⟨F, B, h1, h2, h3, h4⟩ := h
  refine ⟨F, B, ⟨hl, h1.dev.keep ho.size (fun b hb => ho.block b (h1.own_lt b (hb.elim (fun h => .inr (.inr (.inl h))) (fun h => .inr (.inr (.inr h))))) (fun e => ?_)), h1.nf, h1.nb⟩, h2, Rep.acc_keep (fun b hb hl => ho.block b hl.lt (fun e => ?_)) (fun b hb _ => hb) h3, h4⟩
  · subst e
    exact hb.elim (h1.nf _ (.inl rfl)) h1.nb
  · exact (hb.elim id (fun e => h4 b e)) (.inl e)
theorem FindAt.new (h1 : WalAt w L P A cap G F B n c s x) (h2 : ∀ b, F b ∨ b = L → base ≤ b) : FindAt w base L P A cap G n c s x (.slice none 0 0) [] :=
  ⟨F, B, h1, h2, Rep.acc_nil, fun b hb => by cases hb⟩
end
/-- No sector is long. -/
def SmallSt (s : DiskSt) : Prop := (∀ x ∈ s.safe, x.length ≤ 100000) ∧ ∀ j, ∀ x ∈ s.wait j, x.length ≤ 100000
theorem SmallSt.piece {s : DiskSt} {c : DConf} {x : LogSt} {i : Int} {p : List UInt8} (h : SmallSt s) : SmallSt (pieceSt s c x i p).1 := by
  unfold pieceSt writeSt
  have ha := atSt_same s (logOf c (x.tail + i))
  split
  · refine ⟨fun y hy => h.1 y (by rw [← ha.1]; exact hy), fun j y hy => ?_⟩
    unfold pushSt at hy
    dsimp only at hy
    split at hy
    · rcases List.mem_append.1 hy with hy | hy
      · exact h.2 _ y (by rw [← ha.2]; exact hy)
      · rw [List.mem_singleton.1 hy, cutTo_length]; decide
    · exact h.2 _ y (by rw [← ha.2]; exact hy)
  · exact ⟨fun y hy => h.1 y (by rw [← ha.1]; exact hy), fun j y hy => h.2 _ y (by rw [← ha.2]; exact hy)⟩
theorem SmallSt.each {c : DConf} {x : LogSt} : ∀ {ls : List (List UInt8)} {s : DiskSt} {j : Nat}, SmallSt s → SmallSt (eachSt c x s j ls).1
  | [], _, _, h => h
  | p :: ps, s, j, h => by
    unfold eachSt
    split
    · exact SmallSt.each h.piece
    · exact h.piece
theorem SmallSt.app {s : DiskSt} {c : DConf} {x : LogSt} {b : List UInt8} (h : SmallSt s) : SmallSt (appendSt s c x b).1 := by
  unfold appendSt
  split
  · split
    · exact h.each
    · exact h.each
  · exact h
theorem bool_at {Q : Nat → Prop} {w : World} {A : Option Addr} {xs : List Bool} (h : Rep.bool.At Q w A xs) {i : Nat} {x : Bool} (hx : xs[i]? = some x) : ∃ b off, A = some ⟨b, off, none⟩ ∧ w.cell? ⟨b, off + i, none⟩ = some (.bool x) := by
  obtain ⟨b, off, es, h1, _, _, h2, h6⟩ := h.get hx
  have he : es = [.bool x] := h2
  subst he
  exact ⟨b, off, h1, by simpa [Rep.bool] using h6 0 _ rfl⟩
end Go.Proofs.Yteljibjbndpncaa
/- A frame's bytes are a frame: the plain law. -/
namespace Go.Proofs.Yteljibjbndpncaa
open Go.RowKit

theorem cNum_at {B : List UInt8} {pos w : Nat} (h1 : 1 ≤ w) (h8 : w ≤ 8) (h : pos + w ≤ B.length) : cNum B ⟨pos, false, 0⟩ (w : Int) = (i64of (natAt B pos w), ⟨pos + w, false, 0⟩) := by
  unfold cNum
  rw [rdNum_at h1 h8 h]; simp
theorem cNum_small {B : List UInt8} {pos w n : Nat} (h1 : 1 ≤ w) (h8 : w ≤ 7) (h : pos + w ≤ B.length) (hn : natAt B pos w = n) : cNum B ⟨pos, false, 0⟩ (w : Int) = ((n : Int), ⟨pos + w, false, 0⟩) := by
  rw [cNum_at h1 (by omega) h, i64of_natAt B pos w h8, hn]
theorem cMust_true (e : Int) (s : RS) : cMust true e s = s := by simp [cMust]
theorem early_at {B : List UInt8} {k : Nat} (hk : k ≤ 3) (h0 : natAt B 0 1 = k) (hl : 1 ≤ B.length) : cmdEarly B ⟨0, false, 0⟩ = ((k : Int), ⟨1, false, 0⟩) := by
  have e0 : cNum B ⟨0, false, 0⟩ 1 = ((k : Int), ⟨1, false, 0⟩) := cNum_small (w := 1) (by decide) (by decide) (by omega) h0
  have hq : knownB (k : Int) = true := by unfold knownB; simp; omega
  unfold cmdEarly
  rw [e0]
  dsimp only
  rw [hq, cMust_true]
theorem run_none {B : List UInt8} (h0 : natAt B 0 1 = 0) (hl : 1 ≤ B.length) : (cmdRun B ⟨0, false, 0⟩).2 = ⟨1, false, 0⟩ := by
  unfold cmdRun
  rw [early_at (by decide) h0 hl, if_neg (by simp)]
theorem more_loc {B : List UInt8} {d : Int} (h1 : natAt B 1 1 = 1) (hl : 10 ≤ B.length) : ∃ i g : Int, ∃ l : Bool, cmdMore B d ⟨1, false, 0⟩ = (fun r6 : RS =>
      let r7 := if d = 1 then (0, r6) else cNum B r6 8
      if d = 2 then
        let r8 := cNum B r7.2 2
        let s9 := cMust (decide (r8.1 ≤ 64)) 13 r8.2
        let x := rdBytes B s9.pos s9.bad r8.1
        ((⟨d, l, ⟨i, g⟩, r7.1, x.1⟩ : DCmd), cMust (!x.2.2) 12 ⟨x.2.1, x.2.2, s9.err⟩)
      else ((⟨d, l, ⟨i, g⟩, r7.1, []⟩ : DCmd), r7.2)) ⟨10, false, 0⟩ := by
  have e1 : cNum B ⟨1, false, 0⟩ 1 = (1, ⟨2, false, 0⟩) := cNum_small (w := 1) (by decide) (by decide) (by omega) h1
  have e2 : cNum B ⟨2, false, 0⟩ 8 = (i64of (natAt B 2 8), ⟨10, false, 0⟩) := cNum_at (w := 8) (by decide) (by decide) (by omega)
  refine ⟨i64of (natAt B 2 8), 0, true, ?_⟩
  unfold cmdMore
  rw [e1]
  dsimp only
  rw [show decide ((1 : Int) ≤ 1) = true from rfl, cMust_true, e2]
  dsimp only
  rw [if_pos rfl]
  rfl
theorem more_all {B : List UInt8} {d : Int} (h1 : natAt B 1 1 = 0) (hl : 18 ≤ B.length) : ∃ i g : Int, ∃ l : Bool, cmdMore B d ⟨1, false, 0⟩ = (fun r6 : RS =>
      let r7 := if d = 1 then (0, r6) else cNum B r6 8
      if d = 2 then
        let r8 := cNum B r7.2 2
        let s9 := cMust (decide (r8.1 ≤ 64)) 13 r8.2
        let x := rdBytes B s9.pos s9.bad r8.1
        ((⟨d, l, ⟨i, g⟩, r7.1, x.1⟩ : DCmd), cMust (!x.2.2) 12 ⟨x.2.1, x.2.2, s9.err⟩)
      else ((⟨d, l, ⟨i, g⟩, r7.1, []⟩ : DCmd), r7.2)) ⟨18, false, 0⟩ := by
  have e1 : cNum B ⟨1, false, 0⟩ 1 = (0, ⟨2, false, 0⟩) := cNum_small (w := 1) (by decide) (by decide) (by omega) h1
  have e2 : cNum B ⟨2, false, 0⟩ 8 = (i64of (natAt B 2 8), ⟨10, false, 0⟩) := cNum_at (w := 8) (by decide) (by decide) (by omega)
  have e3 : cNum B ⟨10, false, 0⟩ 8 = (i64of (natAt B 10 8), ⟨18, false, 0⟩) := cNum_at (w := 8) (by decide) (by decide) (by omega)
  refine ⟨i64of (natAt B 2 8), i64of (natAt B 10 8), false, ?_⟩
  unfold cmdMore
  rw [e1]
  dsimp only
  rw [show decide ((0 : Int) ≤ 1) = true from rfl, cMust_true, e2]
  dsimp only
  rw [if_neg (show ¬ (0 : Int) = 1 by decide), e3]
  rfl
theorem run_more {B : List UInt8} {k n t : Nat} {loc : Bool} (hk : 1 ≤ k ∧ k ≤ 3) (hn : n ≤ 64) (h0 : natAt B 0 1 = k) (h1 : natAt B 1 1 = if loc then 1 else 0) (ht : t = if loc then 10 else 18)
    (h2 : k = 2 → natAt B (t + 8) 2 = n) (hl : t + (if k = 2 ∨ k = 3 then 8 else 0) + (if k = 2 then 2 + n else 0) ≤ B.length) :
    (cmdRun B ⟨0, false, 0⟩).2 = ⟨t + (if k = 2 ∨ k = 3 then 8 else 0) + (if k = 2 then 2 + n else 0), false, 0⟩ := by
  have ht2 : 10 ≤ t := by rw [ht]; split <;> omega
  unfold cmdRun
  rw [early_at hk.2 h0 (by omega), if_pos ⟨rfl, by show ((k : Int)) ≠ 0; omega⟩]
  dsimp only
  have e4 : t + 8 ≤ B.length → cNum B ⟨t, false, 0⟩ 8 = (i64of (natAt B t 8), ⟨t + 8, false, 0⟩) := fun h => cNum_at (w := 8) (by decide) (by decide) h
  obtain ⟨i, g, l, he⟩ : ∃ i g : Int, ∃ l : Bool, cmdMore B k ⟨1, false, 0⟩ = (fun r6 : RS =>
      let r7 := if (k : Int) = 1 then (0, r6) else cNum B r6 8
      if (k : Int) = 2 then
        let r8 := cNum B r7.2 2
        let s9 := cMust (decide (r8.1 ≤ 64)) 13 r8.2
        let x := rdBytes B s9.pos s9.bad r8.1
        ((⟨k, l, ⟨i, g⟩, r7.1, x.1⟩ : DCmd), cMust (!x.2.2) 12 ⟨x.2.1, x.2.2, s9.err⟩)
      else ((⟨k, l, ⟨i, g⟩, r7.1, []⟩ : DCmd), r7.2)) ⟨t, false, 0⟩ := by
    cases loc with
    | true => simp only [if_true] at ht h1; subst ht; exact more_loc h1 (by omega)
    | false => simp only [Bool.false_eq_true, if_false] at ht h1; subst ht; exact more_all h1 (by omega)
  rw [he]
  dsimp only
  rcases (show k = 1 ∨ k = 2 ∨ k = 3 by omega) with rfl | rfl | rfl
  · rfl
  · have hlen : t + 8 + (2 + n) ≤ B.length := hl
    have e3 : cNum B ⟨t + 8, false, 0⟩ 2 = ((n : Int), ⟨t + 8 + 2, false, 0⟩) := cNum_small (w := 2) (by decide) (by decide) (by omega) (h2 rfl)
    have e5 : rdBytes B (t + 8 + 2) false (n : Int) = ((B.drop (t + 8 + 2)).take n, t + 8 + 2 + n, false) := rdBytes_at (by omega)
    have q2 : decide ((n : Int) ≤ 64) = true := decide_eq_true (by omega)
    rw [if_pos (show ((2 : Nat) : Int) = 2 from rfl), if_neg (show ¬ ((2 : Nat) : Int) = 1 by decide), e4 (by omega)]
    dsimp only
    rw [e3]
    dsimp only
    rw [q2, cMust_true]
    dsimp only
    rw [e5]
    dsimp only
    rw [show (!false) = true from rfl, cMust_true]
    show (⟨t + 8 + 2 + n, false, 0⟩ : RS) = ⟨t + 8 + (2 + n), false, 0⟩
    rw [Nat.add_assoc (t + 8) 2 n]
  · have hlen : t + 8 + 0 ≤ B.length := hl
    rw [if_neg (show ¬ ((3 : Nat) : Int) = 2 by decide), if_neg (show ¬ ((3 : Nat) : Int) = 1 by decide), e4 (by omega)]
    rfl

def tgtLen (x : DCmd) : Nat := if x.loc then 10 else 18
theorem target_len (x : DCmd) : (targetBytes x).length + 1 = tgtLen x := by
  unfold targetBytes tgtLen
  split <;> simp only [List.length_append, num_len1, num_len8]
/-- A command's bytes are got as0 one. -/
theorem cmd_run {x : DCmd} (hk : knownB x.kind = true) (hd : x.data.length ≤ 64) (S : List UInt8) : ∃ n, n = (cmdBytes x).length ∧ (cmdRun (cmdBytes x ++ S) ⟨0, false, 0⟩).2 = ⟨n, false, 0⟩ := by
  refine ⟨_, rfl, ?_⟩
  obtain ⟨k, hkk⟩ : ∃ k : Nat, x.kind = k := ⟨x.kind.toNat, by simp [knownB] at hk; omega⟩
  have hk3 : k ≤ 3 := by simp [knownB] at hk; omega
  have hc : cmdBytes x = num 1 (k : Int) ++ ((if k = 0 then [] else targetBytes x) ++ ((if k = 2 ∨ k = 3 then num 8 x.comp else []) ++ (if k = 2 then dataBytes x else []))) := by
    unfold cmdBytes
    rw [if_pos hk, hkk]
    rcases (show k = 0 ∨ k = 1 ∨ k = 2 ∨ k = 3 by omega) with rfl | rfl | rfl | rfl <;> simp
  have h0 : natAt (cmdBytes x ++ S) 0 1 = k := by
    rw [hc, List.append_assoc]; exact natAt_num (A := []) (w := 1) rfl (by decide) (by decide) (by omega)
  by_cases hz : k = 0
  · subst hz
    have hl : (cmdBytes x).length = 1 := by rw [hc]; simp [num_len1]
    rw [hl]
    exact run_none h0 (by rw [List.length_append, hl]; omega)
  · have htl := target_len x
    have hdl : (dataBytes x).length = 2 + x.data.length := by unfold dataBytes; rw [List.length_append, num_len2]
    have hl : (cmdBytes x).length = tgtLen x + (if k = 2 ∨ k = 3 then 8 else 0) + (if k = 2 then 2 + x.data.length else 0) := by
      rw [hc, if_neg hz, List.length_append, List.length_append, List.length_append, num_len1]
      rcases (show k = 1 ∨ k = 2 ∨ k = 3 by omega) with rfl | rfl | rfl <;> simp [num_len8, hdl] <;> omega
    rw [hl]
    refine run_more (loc := x.loc) ⟨by omega, hk3⟩ hd h0 ?_ rfl ?_ (by rw [List.length_append, hl]; omega)
    · rw [hc, if_neg hz]
      unfold targetBytes
      cases x.loc
      · simp only [Bool.false_eq_true, if_false, List.append_assoc]
        exact natAt_num (w := 1) (n := 0) (num_len1 _) (by decide) (by decide) (by omega)
      · simp only [if_true, List.append_assoc]
        exact natAt_num (w := 1) (n := 1) (num_len1 _) (by decide) (by decide) (by omega)
    · rintro rfl
      rw [hc]
      simp only [true_or, if_true, dataBytes]
      rw [if_neg (by decide)]
      have e : num 1 ((2 : Nat) : Int) ++ (targetBytes x ++ (num 8 x.comp ++ (num 2 (x.data.length : Int) ++ x.data))) ++ S = (num 1 ((2 : Nat) : Int) ++ targetBytes x ++ num 8 x.comp) ++ (num 2 (x.data.length : Int) ++ (x.data ++ S)) := by simp only [List.append_assoc]
      rw [e]
      exact natAt_num (w := 2) (by rw [List.length_append, List.length_append, num_len1, num_len8]; omega) (by decide) (by decide) (by omega)
theorem cmd_get {x : DCmd} (hk : knownB x.kind = true) (hd : x.data.length ≤ 64) (A S : List UInt8) : ∃ y, cmdGet (A ++ (cmdBytes x ++ S)) (A.length : Int) = (y, ((A.length + (cmdBytes x).length : Nat) : Int), 0) := by
  obtain ⟨n, hn, hr⟩ := cmd_run hk hd S
  unfold cmdGet
  rw [if_neg (by simp only [List.length_append]; omega), Int.toNat_natCast, List.drop_left, hr, if_pos rfl]
  refine ⟨(cmdRun (cmdBytes x ++ S) ⟨0, false, 0⟩).1, Prod.ext rfl (Prod.ext ?_ rfl)⟩
  simp only [List.length_append]
  omega
theorem got_all {A : List UInt8} {l : List DCmd} (h : ∀ x ∈ l, knownB x.kind = true ∧ x.data.length ≤ 64) : ∀ k, k ≤ l.length → ∃ ys, gotSt (A ++ (l.map cmdBytes).flatten) (A.length : Int) k = some (ys, ((A.length + (((l.take k).map cmdBytes).flatten).length : Nat) : Int)) := by
  intro k
  induction k with
  | zero => intro _; exact ⟨[], by simp [gotSt]⟩
  | succ k ih =>
    intro hk
    obtain ⟨ys, hy⟩ := ih (by omega)
    have hm := h l[k] (List.getElem_mem (by omega))
    obtain ⟨y, hg⟩ := cmd_get hm.1 hm.2 (A ++ ((l.take k).map cmdBytes).flatten) (((l.drop (k + 1)).map cmdBytes).flatten)
    have e : (A ++ ((l.take k).map cmdBytes).flatten) ++ (cmdBytes l[k] ++ ((l.drop (k + 1)).map cmdBytes).flatten) = A ++ (l.map cmdBytes).flatten := by
      have e1 : l = l.take k ++ (l[k] :: l.drop (k + 1)) := by rw [← List.drop_eq_getElem_cons (by omega), List.take_append_drop]
      have e2 : l.map cmdBytes = (l.take k).map cmdBytes ++ (cmdBytes l[k] :: (l.drop (k + 1)).map cmdBytes) := by rw [← List.map_cons, ← List.map_append, ← e1]
      rw [e2, List.flatten_append, List.flatten_cons, List.append_assoc]
    rw [e] at hg
    unfold gotSt
    rw [hy]
    dsimp only
    rw [List.length_append] at hg
    rw [hg, if_pos rfl]
    refine ⟨ys ++ [y], ?_⟩
    rw [List.take_succ_eq_append_getElem (by omega : k < l.length), List.map_append, List.flatten_append, List.length_append]
    simp only [List.map_cons, List.map_nil, List.flatten_cons, List.flatten_nil, List.append_nil, Nat.add_assoc]
/-- A frame's bytes are a frame. -/
theorem frame_ok {l : List DCmd} (hn : l.length ≤ 64) (hl : ∀ x ∈ l, knownB x.kind = true ∧ x.data.length ≤ 64) : (frameGet (frameBytes l)).2 = 0 := by
  have hc : (crcOf (cmdsBytes l) : Nat) < 4294967296 := crcOf_lt _
  have h4 := num_len4 (crcOf (cmdsBytes l) : Int)
  have h1 : 1 ≤ (cmdsBytes l).length := by unfold cmdsBytes; rw [List.length_append, num_len1]; omega
  have hlen : (frameBytes l).length = (cmdsBytes l).length + 4 := by unfold frameBytes; rw [List.length_append, h4]
  have htk : (frameBytes l).take ((frameBytes l).length - 4) = cmdsBytes l := by
    rw [hlen, Nat.add_sub_cancel]; unfold frameBytes; exact List.take_left
  have hsum : (getNum (frameBytes l) (((frameBytes l).length - 4 : Nat) : Int) 4).getD 0 = (crcOf (cmdsBytes l) : Int) := by
    rw [show (4 : Int) = ((4 : Nat) : Int) from rfl, getNum_nat _ _ (by decide) (by decide), if_pos (by omega)]
    rw [hlen, Nat.add_sub_cancel]
    have e : natAt (frameBytes l) (cmdsBytes l).length 4 = crcOf (cmdsBytes l) := by
      have := natAt_num (A := cmdsBytes l) (C := []) (w := 4) (n := crcOf (cmdsBytes l)) rfl (by decide) (by decide) hc
      rw [List.append_nil] at this; exact this
    have e2 : i64of (natAt (frameBytes l) (cmdsBytes l).length 4) = (natAt (frameBytes l) (cmdsBytes l).length 4 : Int) := i64of_natAt _ _ 4 (by decide)
    rw [e2, e]; rfl
  have hhd : ((frameBytes l).headD 0).toNat = l.length := by
    have e : natAt (frameBytes l) 0 1 = l.length := by
      unfold frameBytes cmdsBytes
      rw [List.append_assoc]
      exact natAt_num (A := []) (w := 1) (n := l.length) rfl (by decide) (by decide) (by omega)
    obtain ⟨a, r, hb⟩ : ∃ a r, frameBytes l = a :: r := by
      cases hb : frameBytes l with
      | nil => rw [hb] at hlen; simp at hlen
      | cons a r => exact ⟨a, r, rfl⟩
    rw [hb] at e ⊢
    rw [natAt_one (by simp)] at e
    exact e
  obtain ⟨ys, hy⟩ := got_all (A := num 1 (l.length : Int)) hl l.length (Nat.le_refl _)
  rw [List.take_length, num_len1] at hy
  unfold frameGet
  rw [if_neg (by omega), htk, hsum, if_neg (by simp), hhd, if_neg (by omega)]
  have hcb : cmdsBytes l = num 1 (l.length : Int) ++ (l.map cmdBytes).flatten := rfl
  have hy' : gotSt (num 1 (l.length : Int) ++ (l.map cmdBytes).flatten) 1 l.length = some (ys, ((1 + ((l.map cmdBytes).flatten).length : Nat) : Int)) := hy
  rw [hcb, hy']
  dsimp only
  rw [hlen, Nat.add_sub_cancel, hcb, List.length_append, num_len1, if_pos rfl]
end Go.Proofs.Yteljibjbndpncaa
