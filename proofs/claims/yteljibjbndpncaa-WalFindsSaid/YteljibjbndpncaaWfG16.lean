/- Texts on which the proofs stand: EqLists, PartJoin, RangeV. No condition is laid on any input. -/
import Derived.Test.YteljibjbndpncaaWfG12
import Derived.Test.YteljibjbndpncaaWfG14
import Derived.Test.YteljibjbndpncaaWfPartSplit
import Derived.RangeFuncWrites
/- Walk of slices.EqualFunc at lists of bytes. -/
namespace Go.Proofs.Yteljibjbndpncaa
open Go.RowKit

theorem take_eq_more {α : Type} {l m : List α} {k : Nat} {x y : α} (hx : l[k]? = some x) (hy : m[k]? = some y) (h : l.take k = m.take k) (he : x = y) : l.take (k + 1) = m.take (k + 1) := by
  obtain ⟨h1, rfl⟩ := List.getElem?_eq_some_iff.1 hx
  obtain ⟨h2, rfl⟩ := List.getElem?_eq_some_iff.1 hy
  rw [List.take_succ_eq_append_getElem h1, List.take_succ_eq_append_getElem h2, h, he]
theorem ne_one {α : Type} {l m : List α} {k : Nat} {x y : α} (hx : l[k]? = some x) (hy : m[k]? = some y) (he : x ≠ y) : l ≠ m := by
  rintro rfl
  rw [hx] at hy
  exact he (by injection hy)

set_option maxRecDepth 100000 in
set_option maxHeartbeats 2000000 in
/-- slices.EqualFunc of lists of bytes -/
theorem eqLists_calls {Q Q' : Nat → Prop} {w : World} {u v : Value} {xs ys : List (List UInt8)} (hx : Rep.byte.list.list.val Q w u xs) (hy : Rep.byte.list.list.val Q' w v ys) :
    Calls Try.prog 120 #[u, v, .func (.func 84) #[] #[]] w fun en w' => en = .returned (.bool (decide (xs = ys))) ∧ w' = w := by
  obtain ⟨A, c, rfl, hc1, hc2, hA⟩ := Rep.val_list hx
  obtain ⟨B, d, rfl, hd1, hd2, hB⟩ := Rep.val_list hy
  unfold maxLen at hc2 hd2
  have HA := Lib.hid hA
  have HB := Lib.hid hB
  clear hx hy hA hB
  by_cases hlen : xs.length = ys.length
  · have hne : ((xs.length : Int) != (ys.length : Int)) = false := by simp [hlen]
    have hll : (xs.length : Int) = (ys.length : Int) := by omega
    have HLN := Lib.hid hlen
    clear hlen
    go_enter Try.func120, Try.ntmps120
    go_wp2_with fail
    clear hne hll
    go_loopw [17] (fun i wr => ∃ k : Nat, i = .int .i64 k ∧ k ≤ xs.length ∧ Hid (xs.take k = ys.take k) ∧ Hid (wr = w)) (fun i _ => xs.length - (intOf i).toNat)
    case atStart => exact ⟨0, rfl, Nat.zero_le _, Lib.hid (by simp), Lib.hid rfl⟩
    case round =>
      obtain ⟨k, rfl, hk, HT, HW⟩ := hrel
      obtain rfl := HW.out
      by_cases hlt : (k : Int) < xs.length
      · have hlt2 : (k : Int) < ys.length := by have := HLN.out; omega
        obtain ⟨x, hx⟩ : ∃ x, xs[k]? = some x := ⟨_, List.getElem?_eq_getElem (by omega)⟩
        obtain ⟨y, hy⟩ : ∃ y, ys[k]? = some y := ⟨_, List.getElem?_eq_getElem (by omega)⟩
        obtain ⟨b, off, B5, c5, rfl, e0, g1, g2, hat⟩ := Rep.At.list HA.out hx
        obtain ⟨b', off', B6, c6, rfl, e1, g3, g4, hat'⟩ := Rep.At.list HB.out hy
        have HEQ := Lib.hid (fun h : x = y => take_eq_more hx hy HT.out h)
        have HNE := Lib.hid (fun h : x ≠ y => ne_one hx hy h)
        have HV1 := Lib.hid (show Rep.byte.list.val Q wr (.slice B5 x.length c5) x from Rep.list_val rfl g1 g2 hat)
        have HV2 := Lib.hid (show Rep.byte.list.val Q' wr (.slice B6 y.length c6) y from Rep.list_val rfl g3 g4 hat')
        clear hx hy g1 g2 g3 g4 hat hat'
        go_wp2_with fail
        refine (bytesEqual HV1.out HV2.out).mono ?_
        rintro en w4 ⟨rfl, hw⟩
        obtain rfl := hw.symm
        by_cases hxy : x = y
        · have HE := Lib.hid (HEQ.out hxy)
          rw [decide_eq_true hxy]
          clear hxy
          go_wp2_with fail
          exact ⟨⟨k + 1, by go_num, by omega, HE, by first | trivial | exact Lib.hid rfl⟩, by simp [intOf]; omega⟩
        · have HE := Lib.hid (show decide (xs = ys) = false from decide_eq_false (HNE.out hxy))
          rw [decide_eq_false hxy]
          clear hxy
          go_wp2_with fail
          go_ret
          exact ⟨by rw [HE.out]; rfl, rfl⟩
      · obtain rfl : k = xs.length := by omega
        have HE := Lib.hid (show decide (xs = ys) = true by
          apply decide_eq_true
          have := HT.out
          rwa [List.take_length, HLN.out, List.take_length] at this)
        have hnl : ¬ (xs.length : Int) < ys.length := by have := HLN.out; omega
        go_wp2_with fail
        go_ret
        exact ⟨by rw [HE.out]; rfl, rfl⟩
  · have hne : ((xs.length : Int) != (ys.length : Int)) = true := by simp; omega
    have HE := Lib.hid (show decide (xs = ys) = false from decide_eq_false (fun h => hlen (by rw [h])))
    clear hlen
    go_enter Try.func120, Try.ntmps120
    go_wp2_with fail
    go_ret
    exact ⟨by rw [HE.out]; rfl, rfl⟩
end Go.Proofs.Yteljibjbndpncaa
/- Walk of pieces that are joined: where they are one record's. -/
namespace Go.Proofs.Yteljibjbndpncaa
open Go.RowKit

/-- The bytes behind what stands ahead. -/
def bodies (l : List (List UInt8)) : List UInt8 := l.flatMap (fun p => p.drop 12)
theorem bodies_snoc {l : List (List UInt8)} {k : Nat} {p : List UInt8} (h : l[k]? = some p) : bodies (l.take (k + 1)) = bodies (l.take k) ++ p.drop 12 := by
  obtain ⟨h1, rfl⟩ := List.getElem?_eq_some_iff.1 h
  unfold bodies
  rw [List.take_succ_eq_append_getElem h1, List.flatMap_append]; simp
theorem bodies_len {l : List (List UInt8)} (h : ∀ p ∈ l, p.length ≤ 472) (k : Nat) : (bodies (l.take k)).length ≤ 460 * k := by
  induction k with
  | zero => simp [bodies]
  | succ k ih =>
    by_cases hk : k < l.length
    · rw [bodies_snoc (List.getElem?_eq_getElem hk), List.length_append, List.length_drop]
      have := h _ (List.getElem_mem hk)
      omega
    · rw [List.take_of_length_le (by omega)] at ih ⊢
      omega

set_option maxRecDepth 100000 in
set_option maxHeartbeats 4000000 in
/-- part.Join, of pieces that are one record's -/
theorem join_calls {Q : Nat → Prop} {w : World} {v : Value} {l : List (List UInt8)} {seq a n : Int} {p0 : List UInt8} (hx : Rep.byte.list.list.val Q w v l) (h0 : l[0]? = some p0) (hh : pheadOf p0 = (a, n, seq, true))
    (h12 : ∀ p ∈ l, 12 < p.length ∧ p.length ≤ 472) (hl : l.length ≤ 1024) (hs : splitOf seq (bodies l) = l) (hseq : (Lit.int .i64 seq).wf = true) :
    Calls Try.prog 100 #[v] w fun e w' => ∃ u, e = .returned (.tuple #[.int .i64 seq, u, .bool true]) ∧ Rep.byte.list.val (fun k => w.heap.size ≤ k) w' u (bodies l) ∧ Below w.heap.size w w' := by
  obtain ⟨A, c, rfl, hc1, hc2, hA⟩ := Rep.val_list hx
  unfold maxLen at hc2
  have HA := Lib.hid (show ∀ W', Below w.heap.size w W' → Rep.byte.list.At Q W' A l from fun W' ho => Rep.At.keep (w := w) (fun b hb hl => ⟨hb, ho.block b hl.lt⟩) hA)
  have hpos : 0 < l.length := (List.getElem?_eq_some_iff.1 h0).1
  have hpos2 : 0 < (l.length : Int) := by omega
  have hne : ¬ (l.length : Int) = 0 := by omega
  obtain ⟨b0, o0, B0, c0, rfl, e0, g1, g2, hat0⟩ := Rep.At.list hA h0
  have HV0 := Lib.hid (show Rep.byte.list.val Q w (.slice B0 p0.length c0) p0 from Rep.list_val rfl g1 g2 hat0)
  have H12 := Lib.hid h12
  have HL := Lib.hid hl
  have HS := Lib.hid hs
  have HH := Lib.hid hh
  have HSQ := Lib.hid hseq
  have HX := Lib.hid hx
  have HBL := Lib.hid (fun k => bodies_len (l := l) (fun p hp => (h12 p hp).2) k)
  have HALL := Lib.hid (show bodies (l.take l.length) = bodies l by rw [List.take_length])
  clear hx hA g1 g2 hat0 h12 hl hs hh hseq h0
  rw [Nat.add_zero] at e0
  go_enter Try.func100, Try.ntmps100
  go_wp2_with fail
  refine (head_calls HV0.out).mono ?_
  rintro e w1 ⟨rfl, hb1⟩
  rw [HH.out]
  have HB1 := Lib.hid hb1
  clear hb1 e0
  go_wp2_with fail
  go_loopw [2, 3, 4, 23] (fun u2 u u4 i wr => ∃ k : Nat, u2 = .int .i64 seq ∧ u4 = .bool true ∧ i = .int .i64 k ∧ k ≤ l.length ∧ Rep.byte.acc 5 w.heap.size (fun b => w.heap.size ≤ b) wr u (bodies (l.take k)) ∧ Below w.heap.size w wr) (fun _ _ _ i _ => l.length - (intOf i).toNat)
  case atStart => exact ⟨0, rfl, rfl, rfl, Nat.zero_le _, Rep.acc_nil, HB1.out⟩
  case round =>
    obtain ⟨k, rfl, rfl, rfl, hk, hacc, hbel⟩ := hrel
    have HACC := Lib.hid hacc
    have HB := Lib.hid hbel
    obtain ⟨Au, cu, rfl, hcu, hmu⟩ := Rep.acc_form hacc
    clear hacc hbel
    by_cases hlt : (k : Int) < l.length
    · obtain ⟨p, hp⟩ : ∃ p, l[k]? = some p := ⟨_, List.getElem?_eq_getElem (by omega)⟩
      have hp12 := H12.out p (List.mem_of_getElem? hp)
      obtain ⟨b, off, B5, c5, hb0, e1, g1, g2, hat⟩ := Rep.At.list (HA.out wr HB.out) hp
      obtain ⟨rfl, rfl⟩ : b0 = b ∧ o0 = off := by injection hb0 with h; injection h with h1 h2; exact ⟨h1, h2⟩
      obtain ⟨b5, o5, rfl⟩ := Rep.At.addr hat (by omega)
      obtain ⟨y, hy⟩ : ∃ y, y = p.drop 12 := ⟨_, rfl⟩
      have hyl : y.length = p.length - 12 := by rw [hy, List.length_drop]
      have HSN := Lib.hid (show bodies (l.take k) ++ y = bodies (l.take (k + 1)) by rw [bodies_snoc hp, hy])
      have HYV := Lib.hid (show Rep.byte.list.val (fun _ => True) wr (.slice (some ⟨b5, o5 + 12, none⟩) y.length (c5 - 12)) y by
        have h4 := hat.drop (n := 12) (by omega)
        simp only [Rep.byte, Nat.mul_one] at h4
        rw [← hy] at h4
        exact Rep.list_val rfl (by omega) (by unfold maxLen at g2 ⊢; omega) (h4.keep (w' := wr) fun _ _ _ => ⟨trivial, rfl⟩))
      have q1 : ¬ (p.length : Int) < 12 := by omega
      have q2 : ¬ c5 = 12 := by omega
      have q3 : ¬ c5 - 12 = 0 := by omega
      have q4 : p.length - 12 = y.length := hyl.symm
      have q5 : (12 : Int) ≤ p.length := by omega
      have q6 : (p.length : Int) ≤ c5 := by omega
      have HLN := Lib.hid (show (bodies (l.take k)).length + y.length ≤ maxLen ∧ ((bodies (l.take k)).length + y.length) * 1 ≤ 140737488355328 by have := HBL.out k; have := HL.out; unfold maxLen; omega)
      have HSZ := Lib.hid HB.out.size
      clear hp hp12 g1 g2 hat hb0 hy hyl
      go_wp2_with (refine wpList_spread_leaf (e := 5) (base := w.heap.size) (Q := fun x => w.heap.size ≤ x) (r := Rep.byte) Rep.leaf_byte rfl _ _ 33 rfl (.int .u8 0) 1 1 Try.underlying33 info5 rfl (by decide) rfl _ (bodies (l.take k)) (by exact rfl) HACC.out _ y (by exact rfl) HYV.out HLN.out.1 HLN.out.2 HSZ.out ?_; intro v5 w5 hacc5 hgr5 hat5; rw [HSN.out] at hacc5; have HU5 := Lib.hid hacc5)
      exact ⟨⟨k + 1, rfl, rfl, by go_num, by omega, hacc5, HB.out.grown hgr5 HB.out.size (fun x hx => (Rep.acc_own HACC.out x hx).1)⟩, by show l.length - ((k : Int) + 1).toNat < l.length - (k : Int).toNat; omega⟩
    · obtain rfl : k = l.length := by omega
      rw [HALL.out] at HACC
      have HBX := Lib.hid (show (bodies l).length ≤ 10000000 by have := HBL.out l.length; rw [HALL.out] at this; have := HL.out; omega)
      go_wp2_with fail
      refine (split_calls (Rep.acc_val HACC.out) HSQ.out HBX.out).mono ?_
      rintro e w6 ⟨v6, rfl, hv6, hb6⟩
      rw [HS.out] at hv6
      have HV6 := Lib.hid hv6
      have HB6 := Lib.hid (HB.out.trans (hb6.mono HB.out.size))
      have HBL6 := Lib.hid hb6
      have HVU := Lib.hid (Rep.acc_val HACC.out)
      clear hv6 hb6
      go_wp2_with fail
      refine (eqLists_calls HV6.out (Rep.list_val rfl hc1 (by unfold maxLen; omega) (HA.out w6 HB6.out))).mono ?_
      rintro e w7 ⟨rfl, hw7⟩
      obtain rfl := hw7.symm
      rw [decide_eq_true rfl]
      go_wp2_with fail
      refine bodyPost_ret (results_tmp3 rfl _ _ _) rfl ?_
      refine ⟨_, rfl, Rep.val_keep (fun x hx hl => ⟨hx.elim id (fun e => (Rep.acc_own HACC.out x e).1), (HBL6.out.block x hl.lt)⟩) HVU.out, HB6.out⟩
end Go.Proofs.Yteljibjbndpncaa
/- A range over a function whose elements lie in memory: the law of the statement, for an iterator that tells of each element what it reads as0. No program is named here. -/
namespace Go.Proofs.Yteljibjbndpncaa
open Go.RowKit

/-- The contract of an iterator: an element is handed on in a world in which 'V' holds of it. -/
def SeqV {α : Type} (F : Fence) (n : Nat) (P : Program) (g : Nat) (lb : Array Value) (encs : α → Array Value) (V : List α → α → World → Prop) (Kp : World → World → Prop) (S : List α → Prop) (w : World) : Prop :=
  ∀ (l : Nat) (J Jx : List α → World → Prop) (W : World), Below w.heap.size w W → AbidesFrom W.heap.size J → AbidesFrom W.heap.size Jx →
    (∀ pre x W1, J pre W1 → V pre x W1 → YieldAt F (n - 1) P l (encs x) W1 fun e W' =>
      (e = .returned (.bool true) ∧ J (pre ++ [x]) W' ∧ Kp W1 W') ∨ (e = .returned (.bool false) ∧ Jx (pre ++ [x]) W')) →
    J [] W →
    CallsIn F n P g (#[.func (.yield l) #[] #[]] ++ lb) W fun e W' => (∃ v, e = .returned v) ∧ ((∃ xs, S xs ∧ J xs W') ∨ (∃ pre, Jx pre W'))

/-- Both blocks of the statement: that of the deferred calls, at B, and the loop's record behind it. -/
def Laid (B : Nat) (r : Loop) (W : World) : Prop := W.heap[B]? = some (.deferred (some [])) ∧ W.heap[B + 1]? = some (.loop r)
theorem Laid.keep {B : Nat} {r : Loop} {W W' : World} (h : Laid B r W) (hk : ∀ (k : Nat) (o : Obj), B ≤ k → W.heap[k]? = some o → o.isCells = false → o.isWalk = false → W'.heap[k]? = some o) : Laid B r W' :=
  ⟨hk _ _ (Nat.le_refl _) h.1 rfl rfl, hk _ _ (Nat.le_succ _) h.2 rfl rfl⟩
theorem Laid.turn {B : Nat} {r : Loop} {W : World} (h : Laid B r W) (r' : Loop) : Laid B r' (W.putObj (B + 1) (.loop r')) :=
  ⟨(World.putObj_heap_other (by omega)).trans h.1, World.putObj_heap_same (Array.getElem?_eq_some_iff.1 h.2).1⟩
theorem Laid.grown {B C : Nat} {r : Loop} {W W' : World} {row : Option Nat} (h : Laid B r W) (hg : W.grownBy W' row) (hr : ∀ k, row = some k → C ≤ k ∧ ∃ o : Obj, W.heap[k]? = some o ∧ o.isWalk = true) : Laid B r W' :=
  h.keep fun k o _ ho _ hw => (hg.block k (Array.getElem?_eq_some_iff.1 ho).1 (fun e => by
    obtain ⟨_, o', ho', hw'⟩ := hr k e.symm
    rw [ho] at ho'
    cases ho'
    rw [hw] at hw'
    cases hw')).trans ho
theorem Laid.from {B : Nat} {r : Loop} {W W' : World} (h : Laid B r W) (hk : KeepsFrom B W W') : Laid B r W' := h.keep fun k o hB ho hc _ => hk.same k o hB ho hc
theorem own_turn {α : Type} {B : Nat} {I : α → World → Prop} (hI : OwnFrom B I) {s : α} {W : World} {r : Loop} (h : I s W) (hl : Laid B r W) (r' : Loop) : I s (W.putObj (B + 1) (.loop r')) :=
  hI.putObj _ h (by omega) hl.2 rfl

section
variable {F : Fence} {n : Nat} {P : Program}

/-- A round's end, by the way in which its body is left. -/
theorem round_ends {α : Type} {B l : Nat} (hl : l = B + 1) {Kp : World → World → Prop} {I : List α → World → Prop} {Ix : Code → List α → World → Prop} (hI : OwnFrom B I) (hIx : ∀ c, OwnFrom B (Ix c))
    (hKt : ∀ {X Y Z : World}, Kp X Y → Kp Y Z → Kp X Z) (hKb : ∀ (W : World) (l : Nat) (o o' : Obj), B ≤ l → W.heap[l]? = some o → o.isCells = false → o.isWalk = false → Kp W (W.putObj l o'))
    (R : LoopState → Option Code → Loop) (hR : ∀ s p s' p', ({ state := s', pending := p', fn := (R s p).fn, tmps := (R s p).tmps, params := (R s p).params, assign := (R s p).assign, body := (R s p).body, defers := (R s p).defers } : Loop) = R s' p') {xs : List α} {W0 W : World} (h0 : Kp W0 W) (hL : Laid B (R .busy none) W) :
    ∀ e a W3, ownPostG B Kp I Ix xs W e a W3 → roundPost P l (fun e W' => (e = .returned (.bool true) ∧ (I xs W' ∧ Laid B (R .ready none) W') ∧ Kp W0 W') ∨ (e = .returned (.bool false) ∧ ∃ c, Ix c xs W' ∧ Laid B (R .done (some c)) W')) e a W3 := by
  subst hl
  intro e a W3 hp
  have stop : ∀ c, KeepsFrom B W W3 → Ix c xs W3 → ∃ v w', (Instr.endRound (B + 1) (some c)).run P W3 = .ok v w' ∧ ((.returned v = Ending.returned (.bool true) ∧ (I xs w' ∧ Laid B (R .ready none) w') ∧ Kp W0 w') ∨ (Ending.returned v = .returned (.bool false) ∧ ∃ c, Ix c xs w' ∧ Laid B (R .done (some c)) w')) := fun c hk hi => by
    have hL3 := hL.from hk
    have hrun := run_endRound (P := P) (some c) hL3.2
    rw [hR] at hrun
    exact ⟨_, _, hrun, .inr ⟨rfl, c, own_turn (hIx c) hi hL3 _, hL3.turn _⟩⟩
  cases e with
  | normal =>
    obtain ⟨hk, hkp, hi⟩ := hp
    have hL3 := hL.from hk
    have hrun := run_endRound (P := P) none hL3.2
    rw [hR] at hrun
    exact ⟨_, _, hrun, .inl ⟨rfl, ⟨own_turn hI hi hL3 _, hL3.turn _⟩, hKt (hKt h0 hkp) (hKb _ _ _ _ (Nat.le_succ _) hL3.2 rfl rfl)⟩⟩
  | ret => exact stop .ret hp.1 hp.2
  | exit id => exact stop (.exit id) hp.1 hp.2
  | goto t => exact stop (.goto t) hp.1 hp.2
  | panic _ => exact hp.elim
  | outgrown => exact hp.elim

/-- The statement 'for .. := range g { .. }', over such an iterator. -/
theorem wpIn_rangeFunc_v {α : Type} {g : Operand} {ps : Array Tmp} {assign body : Code} {Q : Exit → Act → World → Prop} {a : Act} {w : World}
    (hro : F.round = none) (h1 : 1 ≤ n) {gf : Nat} {lb : Array Value} (hg : a.eval g = .func (.func gf) #[] lb) (hFg : F.fn gf) (eg : ∀ args w, (callFunc gf args).run P w = .ok (.enter gf args) w)
    {encs : α → Array Value} {V : List α → α → World → Prop} {Kp : World → World → Prop} {S : List α → Prop} {w0 : World} (hseq : SeqV F (n - 1) P gf lb encs V Kp S w0)
    (hKt : ∀ {X Y Z : World}, Kp X Y → Kp Y Z → Kp X Z) (hKb : ∀ (W : World) (l : Nat) (o o' : Obj), w.heap.size ≤ l → W.heap[l]? = some o → o.isCells = false → o.isWalk = false → Kp W (W.putObj l o')) (hb0 : Below w0.heap.size w0 w) (hps : ∀ x, (encs x).size = ps.size)
    (I : List α → World → Prop) (Ix : Code → List α → World → Prop) (hI : OwnFrom w.heap.size I) (hIx : ∀ c, OwnFrom w.heap.size (Ix c)) (hV : OwnFrom w.heap.size fun (p : List α × α) W => V p.1 p.2 W) (h0 : I [] w) (a₁ : α → Act)
    (hassign : ∀ (l : Nat) (x : α) (W : World) (K : Act → World → Prop), K (a₁ x) W →
      assign.wpIn (F.inRound l) (n - 1 - 1) P (Exit.then K (fun _ _ _ => False)) { tmps := (ps.zip (encs x)).foldl (fun t (p, v) => t.setIfInBounds p v) a.tmps, defers := [] } W)
    (hbody : ∀ (l : Nat) (pre : List α) (x : α) (W : World), I pre W → V pre x W → body.wpIn (F.inRound l) (n - 1 - 1) P (ownPostG w.heap.size Kp I Ix (pre ++ [x]) W) (a₁ x) W)
    (hdone : ∀ (D : Nat) (xs : List α) (W : World), w.heap.size ≤ D → S xs → I xs W → W.heap[D]? = some (.deferred (some [])) → Q .normal { a with defers := { target := .collected D, args := #[] } :: a.defers } W)
    (hstop : ∀ (D : Nat) (c : Code) (pre : List α) (W : World), w.heap.size ≤ D → Ix c pre W → W.heap[D]? = some (.deferred (some [])) → c.wpIn F n P Q { a with defers := { target := .collected D, args := #[] } :: a.defers } W) :
    (Code.rangeFunc g ps assign body).wpIn F n P Q a w := by
  refine wpIn_rangeFunc fun fn hfn => ?_
  rw [hro]
  obtain ⟨R, hR⟩ : ∃ R : LoopState → Option Code → Loop, R = fun st pe => { state := st, pending := pe, fn, tmps := a.tmps, params := ps, assign, body, defers := w.heap.size } := ⟨_, rfl⟩
  have hRR : ∀ s p s' p', ({ state := s', pending := p', fn := (R s p).fn, tmps := (R s p).tmps, params := (R s p).params, assign := (R s p).assign, body := (R s p).body, defers := (R s p).defers } : Loop) = R s' p' := fun _ _ _ _ => by rw [hR]
  obtain ⟨W1, hW1⟩ : ∃ W1, (w.alloc (.deferred (some []))).alloc (.loop (R .ready none)) = W1 := ⟨_, rfl⟩
  have hsz : W1.heap.size = w.heap.size + 2 := by rw [← hW1]; simp
  have hL1 : Laid w.heap.size (R .ready none) W1 := by
    rw [← hW1]
    refine ⟨(Below.heap_alloc _ _ _ (by simp)).trans (World.alloc_heap_new w _), ?_⟩
    have := World.alloc_heap_new (w.alloc (.deferred (some []))) (.loop (R .ready none))
    rwa [World.size_alloc] at this
  have hbel : Below w.heap.size w W1 := by rw [← hW1]; exact ((Below.refl _ w).alloc (Nat.le_refl _) _).alloc (by simp) _
  have hI1 : I [] W1 := by rw [← hW1]; exact hI.alloc _ (hI.alloc _ h0)
  refine ⟨w.heap.size + 1, [{ target := .collected w.heap.size, args := #[] }], W1, { target := .fn (.func gf) lb, args := #[.func (.yield (w.heap.size + 1)) #[] #[]] }, W1, gf, #[.func (.yield (w.heap.size + 1)) #[] #[]] ++ lb, W1, ?_, ?_, ?_, ?_, fun _ => h1, ?_⟩
  · rw [← hW1, hR]; exact run_enterLoop_outer _ _ _ _ _
  · simp only [resolve, hg]
    simp [go_sem]
  · intro f' hf'
    simp [Target.leads] at hf'
    subst hf'
    exact hFg
  · simp [invoke, go_sem, eg]
  · have hcells : ∀ {X : World} {row : Option Nat}, (∀ r, row = some r → W1.heap.size ≤ r ∧ ∃ o : Obj, X.heap[r]? = some o ∧ o.isWalk = true) → (∀ r, row = some r → w.heap.size ≤ r ∧ ∃ o : Obj, X.heap[r]? = some o ∧ o.isCells = false) := fun hr r e => by
      obtain ⟨hB, o, ho, hw⟩ := hr r e
      exact ⟨by omega, o, ho, Obj.not_cells_of_walk hw⟩
    refine (hseq (w.heap.size + 1) (fun pre W => I pre W ∧ Laid w.heap.size (R .ready none) W) (fun pre W => ∃ c, Ix c pre W ∧ Laid w.heap.size (R .done (some c)) W) W1 (hb0.trans (hbel.mono hb0.size))
      (fun s X Y row hs hg' hr => ⟨hI s X Y row hs.1 hg' (hcells hr), hs.2.grown hg' hr⟩)
      (fun s X Y row hs hg' hr => by
        obtain ⟨c, hc, hl⟩ := hs
        exact ⟨c, hIx c s X Y row hc hg' (hcells hr), hl.grown hg' hr⟩) ?_ ⟨hI1, hL1⟩).mono ?_
    · rintro pre x W ⟨hi, hl⟩ hv
      have hy := run_yield (P := P) (args := encs x) hl.2 (by rw [hR]; exact hps x)
      rw [hR] at hy
      have hl2 : Laid w.heap.size (R .busy none) (W.putObj (w.heap.size + 1) (.loop (R .busy none))) := hl.turn _
      have hbr := run_beginRound (P := P) hl.2 (by rw [hR])
      rw [hRR, show (R .ready none).pending = none by rw [hR]] at hbr
      refine ⟨fn, _, assign, body, hy, roundIn_of_wpIn hfn (hassign _ x W _ ⟨_, hbr, ?_⟩)⟩
      exact wpIn_mono (hbody _ pre x _ (own_turn hI hi hl _) (hV.putObj (s := (pre, x)) _ hv (by omega) hl.2 rfl)) (round_ends (Kp := Kp) rfl hI hIx (fun h k => hKt h k) hKb R hRR (hKb _ _ _ _ (Nat.le_succ _) hl.2 rfl rfl) hl2)
    · rintro e W2 ⟨⟨v, rfl⟩, (⟨xs, hS, hi, hl⟩ | ⟨pre, c, hi, hl⟩)⟩
      · have hrun := run_endLoop (P := P) hl.2 (by rw [hR]; simp)
        refine ⟨none, _, by rw [hrun, hR], hdone _ xs _ (Nat.le_refl _) hS (own_turn hI hi hl _) ((World.putObj_heap_other (by omega)).trans hl.1)⟩
      · have hrun := run_endLoop (P := P) hl.2 (by rw [hR]; simp)
        refine ⟨some c, _, by rw [hrun, hR], hstop _ c pre _ (Nat.le_refl _) (own_turn (hIx c) hi hl _) ((World.putObj_heap_other (by omega)).trans hl.1)⟩
end
end Go.Proofs.Yteljibjbndpncaa
