/- Walk of frame.Get. Printed by gen_fget.py. -/
import Derived.Test.YteljibjbndpncaaWfG18
import Derived.Test.YteljibjbndpncaaWfRoot
namespace Go.Proofs.Yteljibjbndpncaa
open Go.RowKit Go.Shelf
attribute [local go_sem] Oper.semAt_some

/-- What stands while the commands are got: the results' boxes n0 and n0 + 1, the list's n0 + 3, the place's n0 + 4. -/
def FIn (w : World) (n0 base : Nat) (b : List UInt8) (pre : List Gt) (W : World) : Prop :=
  ∃ l p v, gotSt b 1 pre.length = some (l, p) ∧ Boxed W (n0 + 3) 59 v ∧ rCmd.acc 116 base (fun b => base ≤ b) W v l ∧ Boxed W (n0 + 4) 3 (.int .i64 p) ∧ Boxed W n0 59 (.slice none 0 0) ∧ Boxed W (n0 + 1) 63 (.int .i64 0) ∧ Below n0 w W ∧ base ≤ W.heap.size
def FOut (w : World) (n0 : Nat) (b : List UInt8) (n : Nat) (W : World) : Prop :=
  ∃ e, e ≠ 0 ∧ gotSt b 1 n = none ∧ gotErr b 1 n = e ∧ Boxed W n0 59 (.slice none 0 0) ∧ Boxed W (n0 + 1) 63 (.int .i64 e) ∧ Below n0 w W
theorem FIn.keep {w X Y : World} {n0 base : Nat} {b : List UInt8} {pre : List Gt} (h : FIn w n0 base b pre X) (hb : Below n0 w Y) (hs : X.heap.size ≤ Y.heap.size) (hk : ∀ k, IsC X k → (n0 ≤ k ∧ k < n0 + 5) ∨ base ≤ k → Y.heap[k]? = X.heap[k]?) : FIn w n0 base b pre Y := by
  obtain ⟨l, p, v, h1, h2, h3, h4, h5, h6, _, h8⟩ := h
  refine ⟨l, p, v, h1, (hk _ ⟨_, _, _, h2⟩ (.inl (by omega))).trans h2, Rep.acc_keep (fun k hk' hl => hk k hl (.inr ?_)) (fun _ hb _ => hb) h3, (hk _ ⟨_, _, _, h4⟩ (.inl (by omega))).trans h4, (hk _ ⟨_, _, _, h5⟩ (.inl (by omega))).trans h5, (hk _ ⟨_, _, _, h6⟩ (.inl (by omega))).trans h6, hb, Nat.le_trans h8 hs⟩
  rcases hk' with hk' | hk'
  · exact hk'
  · exact (Rep.acc_own h3 k hk').1
theorem FIn.own {w : World} {n0 base : Nat} {b : List UInt8} {B : Nat} (hB : n0 ≤ B) (hn : n0 ≤ w.heap.size) : OwnFrom B (fun pre W => FIn w n0 base b pre W) := by
  intro s X Y row h hg hrow
  have hne : ∀ k, IsC X k → some k ≠ row := fun k hk e => by
    obtain ⟨_, o, ho, hc⟩ := hrow k e.symm
    obtain ⟨c', e', f, hk⟩ := hk
    rw [hk] at ho; cases ho; cases hc
  have hb : Below n0 w X := by obtain ⟨_, _, _, _, _, _, _, _, _, h7, _⟩ := h; exact h7
  exact h.keep (hb.grown hg (Nat.le_trans hn hb.size) fun k hk => Nat.le_trans hB (hrow k hk).1) hg.size fun k hk _ => hg.block k hk.lt (hne k hk)
theorem FIn.set {w W : World} {n0 base : Nat} {b : List UInt8} {pre : List Gt} {k off : Nat} {v : Value} (h : FIn w n0 base b pre W) (h1 : n0 + 5 ≤ k) (h2 : k < base) : FIn w n0 base b pre (W.setCell ⟨k, off, none⟩ v) := by
  have hb : Below n0 w W := by obtain ⟨_, _, _, _, _, _, _, _, _, h7, _⟩ := h; exact h7
  exact h.keep (hb.setCell (p := ⟨k, off, none⟩) (show n0 ≤ k by omega) _) (by simp) fun j _ hj => Below.heap_setCell _ _ _ _ (show j ≠ k by omega)
theorem FOut.own {w : World} {n0 : Nat} {b : List UInt8} {n B : Nat} (hB : n0 ≤ B) (hn : n0 ≤ w.heap.size) : OwnFrom B (fun (_ : List Gt) W => FOut w n0 b n W) := by
  rintro s X Y row ⟨e, h0, h1, h2, h3, h4, h5⟩ hg hrow
  have hne : ∀ k, IsC X k → some k ≠ row := fun k hk e => by
    obtain ⟨_, o, ho, hc⟩ := hrow k e.symm
    obtain ⟨c', e', f, hk⟩ := hk
    rw [hk] at ho; cases ho; cases hc
  exact ⟨e, h0, h1, h2, (hg.block _ h3.lt (hne _ ⟨_, _, _, h3⟩)).trans h3, (hg.block _ h4.lt (hne _ ⟨_, _, _, h4⟩)).trans h4, h5.grown hg (Nat.le_trans hn h5.size) fun k hk => Nat.le_trans hB (hrow k hk).1⟩
theorem info116 : (Try.prog.info? 116).map (fun i => (i.zero, i.size, i.bytes)) = some (some (.agg #[.int .i64 0, .bool false, .int .i64 0, .int .i64 0, .int .i64 0, .slice none 0 0]), 6, 64) := by kernel_rfl
theorem info116' : (Try.prog.info? 116).map (fun i => (i.zero, i.size)) = some (some (.agg #[.int .i64 0, .bool false, .int .i64 0, .int .i64 0, .int .i64 0, .slice none 0 0]), 6) := by kernel_rfl
def gotCells (g : Gt) : Array Value := #[.int .i64 g.x.kind, .bool g.x.loc, .int .i64 g.x.id.index, .int .i64 g.x.id.gen, .int .i64 g.x.comp, .slice g.A g.x.data.length g.c, .int .i64 g.nx, .int .i64 g.e]
theorem got_ne {W : World} {base b9 : Nat} {g : Gt} {v : Value} {l : List DCmd} {Q : Nat → Prop} (h : W.heap[b9]? = some (.cells (gotCells g) 199 (0, 0))) (ha : rCmd.acc 116 base Q W v l) : some b9 ≠ v.ownBlock := fun e => by
  obtain ⟨cells, h1, _⟩ := ha
  rcases h1.2 with ⟨rfl, _⟩ | ⟨q, cap, cur, rfl, _, hq, _⟩
  · cases e
  · injection e with e
    subst e
    have := hq.symm.trans h
    simp at this
theorem KeepsFrom.two {W W7 : World} {B : Nat} {a a' : Addr} {u u' : Value} {row : Option Nat} (hg : W.drew.grownBy W7 row) (hr : ∀ b, row = some b → IsC W b) : KeepsFrom B W ((W7.setCell a u).setCell a' u') := by
  refine (((KeepsOthers.trans (A := W) (B := W.drew) ⟨Nat.le_refl _, fun k _ hk _ => hk⟩ (KeepsOthers.of_grownBy hg fun j o hj ho => ?_)).trans (KeepsOthers.setCell _ _ _)).trans (KeepsOthers.setCell _ _ _)).from B
  obtain ⟨c, e, f, h⟩ := hr j hj
  have ho' : W.heap[j]? = some o := ho
  rw [h] at ho'
  cases ho'; rfl
def FGetRes (w : World) (r : List DCmd × Int) (e : Ending) (w' : World) : Prop :=
  ∃ u, e = .returned (.tuple #[u, .int .i64 r.2]) ∧ rCmd.list.val (fun k => w.heap.size ≤ k) w' u r.1 ∧ Below w.heap.size w w'
theorem take_val {Q : Nat → Prop} {w : World} {A : Option Addr} {c n : Nat} {l : List UInt8} (h : Rep.byte.At Q w A l) (hn : n ≤ l.length) (h1 : l.length ≤ c) (h2 : c ≤ maxLen) : Rep.byte.list.val Q w (.slice A n c) (l.take n) :=
  Rep.list_val (by rw [List.length_take]; omega) (by omega) h2 (h.take n)

set_option maxRecDepth 100000 in
set_option maxHeartbeats 4000000 in
/-- frame.Get -/
theorem fget_calls {Q0 : Nat → Prop} {w : World} {v : Value} {b : List UInt8} (hx : Rep.byte.list.val Q0 w v b) (hb : b.length ≤ 1000000000) :
    Calls Try.prog 101 #[v] w (FGetRes w (frameGet b)) := by
  obtain ⟨A, c, rfl, hc1, hc2, hA0⟩ := Rep.val_list hx
  have hA : Rep.byte.At (fun k => k < w.heap.size) w A b := Rep.At.keep (w := w) (fun _ _ hl => ⟨hl.lt, rfl⟩) hA0
  have HA := Lib.hid hA
  have HBL := Lib.hid hb
  have HMX := Lib.hid hc2
  have HC1 := Lib.hid hc1
  unfold maxLen at hc2
  obtain ⟨n0, hn0⟩ : ∃ n0, w.heap.size = n0 := ⟨_, rfl⟩
  have HN0 := Lib.hid hn0
  have hfr : Try.f101.results = #[.cell 2 59, .cell 3 63] := rfl
  have HFR := Lib.hid hfr
  obtain ⟨W1, hW1⟩ : ∃ W1, (w.alloc (.cells #[.slice none 0 0] 59)).alloc (.cells #[.int .i64 0] 63) = W1 := ⟨_, rfl⟩
  have hb1 : Below n0 w W1 := by rw [← hW1, ← hn0]; exact ((Below.refl _ w).alloc (Nat.le_refl _) _).alloc (by simp) _
  have hz1 : W1.heap.size = n0 + 2 := by rw [← hW1]; simp [hn0]
  have hr0 : Boxed W1 n0 59 (.slice none 0 0) := by rw [← hW1, ← hn0]; exact (Boxed.new w 59 _).alloc _
  have hr1 : Boxed W1 (n0 + 1) 63 (.int .i64 0) := by
    have := Boxed.new (w.alloc (.cells #[.slice none 0 0] 59)) 63 (.int .i64 0)
    simp only [World.size_alloc] at this
    rw [← hW1, ← hn0]; exact this
  have HB1 := Lib.hid hb1
  have HZ1 := Lib.hid hz1
  have HR0 := Lib.hid hr0
  have HR1 := Lib.hid hr1
  have HA1 := Lib.hid (show ∀ W, Below n0 w W → Rep.byte.At (fun k => k < n0) W A b from fun W h => Rep.At.keep (w := w) (fun k hk hl => ⟨by have hk' : k < w.heap.size := hk; omega, h.block k (by have hk' : k < w.heap.size := hk; omega)⟩) HA.out)
  clear hx hA0 hA hb hfr hb1 hz1 hr0 hr1 hc1
  by_cases hlen : (b.length : Int) < 5
  · have HF := Lib.hid (show frameGet b = ([], 12) by unfold frameGet; rw [if_pos (by omega)])
    have c0 := HR0.out.cell
    have c1 := HR1.out.cell
    have z0 := HR0.out.frozen
    have z1 := HR1.out.frozen
    go_enter Try.func101, Try.ntmps101
    go_wp2_with fail
    refine ⟨rfl, .tuple #[.slice none 0 0, .int .i64 12], ?_, ?_⟩
    · simp only [results, HFR.out]
      go_simp
    · rw [HF.out]
      refine ⟨_, rfl, Rep.val_nil (by simp [maxLen]), ?_⟩
      rw [HN0.out]
      exact (HB1.out.setCell (p := ⟨n0, 0, none⟩) (Nat.le_refl _) _).setCell (p := ⟨n0 + 1, 0, none⟩) (Nat.le_succ _) _
  · obtain ⟨len, hln⟩ : ∃ len, b.length - 4 = len := ⟨_, rfl⟩
    have hl5 : b.length = len + 4 := by omega
    have hl1 : 1 ≤ len := by omega
    obtain ⟨inb, hin⟩ : ∃ inb, b.take len = inb := ⟨_, rfl⟩
    obtain ⟨sum, hsum⟩ : ∃ sum, (getNum b (len : Int) 4).getD 0 = sum := ⟨_, rfl⟩
    obtain ⟨isok, hok⟩ : ∃ o, (getNum b (len : Int) 4).isSome = o := ⟨_, rfl⟩
    obtain ⟨crc, hcrc⟩ : ∃ crc, crcOf inb = crc := ⟨_, rfl⟩
    obtain ⟨b0, hb0⟩ : ∃ b0, b[0]? = some b0 := ⟨_, List.getElem?_eq_getElem (by omega)⟩
    have hhd : b.headD 0 = b0 := by cases b with
      | nil => simp at hb0
      | cons x l => simpa using hb0
    have HF0 := Lib.hid (show frameGet b = if sum ≠ (crc : Int) then ([], 11) else if 64 < b0.toNat then ([], 13) else match gotSt inb 1 b0.toNat with
        | some (l, p) => if p = (len : Int) then (l, 0) else ([], 11)
        | none => ([], gotErr inb 1 b0.toNat) by
      unfold frameGet
      rw [if_neg (by omega), hln, hin, hsum, hcrc, hhd]
      rfl)
    have hlb : len ≤ 1000000000 := by have := HBL.out; omega
    have hil : inb.length = len := by rw [← hin, List.length_take]; omega
    have hi0 : inb[0]? = some b0 := by rw [← hin, List.getElem?_take, if_pos (by omega)]; exact hb0
    have hcl : crc < 4294967296 := by rw [← hcrc]; exact crcOf_lt _
    have i1 : IntKind.i64.wrap (crc : Int) = crc := IntWalk.i64_in _ ⟨by omega, by omega⟩
    have i2 : IntKind.i64.wrap ((b.length : Int) - 4) = len := by rw [hl5]; exact (IntWalk.i64_in _ ⟨by omega, by omega⟩).trans (by omega)
    have HV1 := Lib.hid (show ∀ W, Below n0 w W → Rep.byte.list.val (fun k => k < n0) W (.slice A len c) inb from fun W h => by rw [← hin]; exact take_val (HA1.out W h) (by omega) (by have := HC1.out; omega) HMX.out)
    have HLR := Lib.hid (show ∀ W, Below W1.heap.size W1 W → Rep.byte.list.rd (fun _ => True) (W.alloc (.cells #[.slice A len c] 33)) [.slice A len c] inb from fun W h => by
      have hb2 : Below n0 w (W.alloc (.cells #[.slice A len c] 33)) := (HB1.out.trans (h.mono (by have := HZ1.out; omega))).alloc (by have := h.size; have := HZ1.out; omega) _
      obtain ⟨cs, e, hrd⟩ := Rep.val_mono (Q' := fun _ => True) (fun _ _ _ => trivial) (HV1.out _ hb2)
      obtain ⟨A', c', es, rfl, h1⟩ := hrd
      have e2 : Value.slice A len c = Value.slice A' inb.length c' := e
      cases e2
      exact ⟨A, c, es, rfl, h1⟩)
    have HG := Lib.hid (show ∀ W, Below n0 w W → Calls Try.prog 121 #[.slice A b.length c, .int .i64 len, .int .i64 4] W fun e w' => e = .returned (.tuple #[.int .i64 sum, .bool isok]) ∧ w' = W from fun W h => by
      rw [← hsum, ← hok]
      exact get_calls (Rep.list_val rfl HC1.out HMX.out (HA1.out W h)) (wf_i64 (by omega) (by omega)))
    have hc4 : (len : Int) ≤ c := by have := HC1.out; omega
    have h4 : (4 : Int) ≤ b.length := by omega
    have HIL := Lib.hid hil
    have HI0 := Lib.hid hi0
    have HCR := Lib.hid hcrc
    have HL5 := Lib.hid hl5
    have HL1 := Lib.hid hl1
    clear hin hsum hok hcrc hb0 hhd hil hi0 hcl hln hl5
    obtain ⟨W2, hW2⟩ : ∃ W2, W1.alloc (.cells #[.slice A len c] 33) = W2 := ⟨_, rfl⟩
    have hb2 : Below (n0 + 2) W1 W2 := by rw [← hW2]; exact (Below.refl _ _).alloc (by have := HZ1.out; omega) _
    have HB2 := Lib.hid (HB1.out.trans (hb2.mono (by omega)))
    have HZ2 := Lib.hid (show W2.heap.size = n0 + 3 by rw [← hW2]; simp [HZ1.out])
    have HR0 := Lib.hid (show Boxed W2 n0 59 (.slice none 0 0) from (hb2.block _ (by omega)).trans HR0.out)
    have HR1 := Lib.hid (show Boxed W2 (n0 + 1) 63 (.int .i64 0) from (hb2.block _ (by omega)).trans HR1.out)
    have HCC := Lib.hid (show Calls Try.prog 122 #[.slice (some ⟨W1.heap.size, 0, none⟩) 1 1] W2 fun e w' => e = .returned (.int .u32 (crc : Int)) ∧ w' = W2 from by
      have := crcOf_calls (lit_list (r := Rep.byte.list) (e := 33) (w := W1) (xs := [inb]) (n := 1) (cs := [.slice A len c]) (Q := fun _ => True) rfl (by simp [maxLen]) trivial (Rep.row_one_elem (HLR.out _ (Below.refl _ _))))
      rw [show crcOf [inb].flatten = crc by rw [← HCR.out]; simp] at this
      rw [← hW2]
      exact this)
    have c0 := HR0.out.cell
    have c1 := HR1.out.cell
    have z0 := HR0.out.frozen
    have z1 := HR1.out.frozen
    clear hb2
    by_cases hs : sum = (crc : Int)
    case neg =>
      have HF := Lib.hid (show frameGet b = ([], 11) by rw [HF0.out, if_pos hs])
      have hs' : (sum == (crc : Int)) = false := beq_eq_false_iff_ne.2 hs
      clear hs
      go_enter Try.func101, Try.ntmps101
      go_wp2_with fail
      refine (HG.out _ HB1.out).mono ?_
      rintro e w2 ⟨rfl, hw⟩
      obtain rfl := hw.symm
      clear hw
      go_wp2_with fail
      refine HCC.out.mono ?_
      rintro e w3 ⟨rfl, hw⟩
      obtain rfl := hw
      go_wp2_with fail
      refine ⟨rfl, .tuple #[.slice none 0 0, .int .i64 11], ?_, ?_⟩
      · simp only [results, HFR.out]
        go_simp
      · rw [HF.out]
        refine ⟨_, rfl, Rep.val_nil (by simp [maxLen]), ?_⟩
        rw [HN0.out]
        exact (HB2.out.setCell (p := ⟨n0, 0, none⟩) (Nat.le_refl _) _).setCell (p := ⟨n0 + 1, 0, none⟩) (Nat.le_succ _) _
    case pos =>
    have hs' : (sum == (crc : Int)) = true := by simp [hs]
    obtain ⟨bb, off, hAe⟩ : ∃ bb off, A = some ⟨bb, off, none⟩ := (HA.out).addr (by have := HL5.out; omega)
    subst hAe
    have HB0 := Lib.hid (show ∀ W, Below n0 w W → W.cell? ⟨bb, off, none⟩ = some (.int .u8 (b0.toNat : Int)) from fun W h => by
      obtain ⟨_, _, e, _, _, hat⟩ := Rep.val_list (HV1.out W h)
      obtain ⟨b2, o2, e2, hc⟩ := hat.byte HI0.out
      cases e
      cases e2
      simpa using hc)
    have hc0 := HB0.out W2 HB2.out
    have hlp : (0 : Int) < len := by have := HL1.out; omega
    by_cases hbig : (64 : Int) < (b0.toNat : Int)
    case pos =>
      have HF := Lib.hid (show frameGet b = ([], 13) by rw [HF0.out, if_neg (by simpa using hs), if_pos (by omega)])
      clear hs
      go_enter Try.func101, Try.ntmps101
      go_wp2_with fail
      refine (HG.out _ HB1.out).mono ?_
      rintro e w2 ⟨rfl, hw⟩
      obtain rfl := hw.symm
      clear hw
      go_wp2_with fail
      refine HCC.out.mono ?_
      rintro e w3 ⟨rfl, hw⟩
      obtain rfl := hw
      go_wp2_with fail
      refine ⟨rfl, .tuple #[.slice none 0 0, .int .i64 13], ?_, ?_⟩
      · simp only [results, HFR.out]
        go_simp
      · rw [HF.out]
        refine ⟨_, rfl, Rep.val_nil (by simp [maxLen]), ?_⟩
        rw [HN0.out]
        exact (HB2.out.setCell (p := ⟨n0, 0, none⟩) (Nat.le_refl _) _).setCell (p := ⟨n0 + 1, 0, none⟩) (Nat.le_succ _) _
    case neg =>
      have HF := Lib.hid (show frameGet b = match gotSt inb 1 b0.toNat with
        | some (l, p) => if p = (len : Int) then (l, 0) else ([], 11)
        | none => ([], gotErr inb 1 b0.toNat) by rw [HF0.out, if_neg (by simpa using hs), if_neg (by omega)])
      clear hs
      have HBG := Lib.hid (show b0.toNat ≤ 64 by omega)
      refine (callsIn_wide (n := 9)).1 ?_
      refine callsIn_of_wp_marks Try.func101 rfl trivial ?_ rfl
      simp only [Try.ntmps101, List.size_toArray, List.length_cons, List.length_nil, Nat.reduceAdd, Nat.reduceSub, Array.replicate_succ, Array.replicate_zero, List.push_toArray, List.append_toArray, List.nil_append, List.cons_append]
      gi_wp2
      refine ⟨trivial, callsIn_wide.2 ?_⟩
      refine (HG.out _ HB1.out).mono ?_
      rintro e w2 ⟨rfl, hw⟩
      obtain rfl := hw.symm
      clear hw
      gi_wp2
      refine ⟨trivial, callsIn_wide.2 ?_⟩
      refine HCC.out.mono ?_
      rintro e w3 ⟨rfl, hw⟩
      obtain rfl := hw
      have hz3 := HZ2.out
      obtain ⟨W4, hW4⟩ : ∃ W4, (w3.alloc (.cells #[.slice none 0 0] 59)).alloc (.cells #[.int .i64 1] 3) = W4 := ⟨_, rfl⟩
      have hb4 : Below (n0 + 3) w3 W4 := by rw [← hW4]; exact ((Below.refl _ _).alloc (Nat.le_of_eq hz3.symm) _).alloc (by simp; omega) _
      have hz4 : W4.heap.size = n0 + 5 := by rw [← hW4]; simp [hz3]
      have hl4 : Boxed W4 (n0 + 3) 59 (.slice none 0 0) := by rw [← hW4, ← hz3]; exact (Boxed.new w3 59 _).alloc _
      have ht4 : Boxed W4 (n0 + 4) 3 (.int .i64 1) := by
        have := Boxed.new (w3.alloc (.cells #[.slice none 0 0] 59)) 3 (.int .i64 1)
        simp only [World.size_alloc, hz3] at this
        rw [← hW4]; exact this
      have HW4 := Lib.hid hW4
      have HB4 := Lib.hid (HB2.out.trans (hb4.mono (by omega)))
      have HR04 := Lib.hid (show Boxed W4 n0 59 (.slice none 0 0) from (hb4.block _ (by omega)).trans HR0.out)
      have HR14 := Lib.hid (show Boxed W4 (n0 + 1) 63 (.int .i64 0) from (hb4.block _ (by omega)).trans HR1.out)
      have HL4 := Lib.hid hl4
      have HT4 := Lib.hid ht4
      have HZ4 := Lib.hid hz4
      clear hW4 hb4 hl4 ht4 hz4
      gi_wp2
      rw [HW4.out]
      refine wpIn_wide.2 ?_
      clear c0 c1 z0 z1 hc0 hz3
      have KB := Lib.hid (show ∀ W', Below (n0 + 5) W4 W' → (W'.cell? ⟨n0 + 4, 0, none⟩ = some (.int .i64 1) ∧ W'.cell? ⟨bb, off, none⟩ = some (.int .u8 (b0.toNat : Int))) from fun W' h =>
        ⟨(h.cell (p := ⟨n0 + 4, 0, none⟩) (show n0 + 4 < n0 + 5 by omega)).trans HT4.out.cell, HB0.out W' (HB4.out.trans (h.mono (by omega)))⟩)
      have hz4 := HZ4.out
      have i3 : IntKind.i64.wrap (b0.toNat : Int) = b0.toNat := IntWalk.i64_in _ ⟨by omega, by have := HBG.out; omega⟩
      refine wp_region_noPanic ?_
      refine wp_region_held_drew (S := fun W' => Below (n0 + 5) W4 W') (by kernel_rfl) (Below.refl _ _).drew (fun s0 => ?_)
      refine wpAnyH_take (i := 0) (v := .slice (some ⟨bb, off, none⟩) len c) rfl (by kernel_rfl) (by kernel_rfl) (by kernel_rfl) (fun _ _ _ h => h) (Or.inl ⟨by rfl, fun w' _ => by go_simp <;> omega⟩) s0 ?_
      go_simp
      refine wpAnyH_take (i := 1) (v := .int .i64 1) rfl (by kernel_rfl) (by kernel_rfl) (by kernel_rfl) (fun _ _ _ h => h) (Or.inl ⟨by rfl, fun w' h => by obtain ⟨x0, x1⟩ := KB.out w' h; go_simp⟩) s0 ?_
      go_simp
      refine wpAnyH_take (i := 2) (v := .slice (some ⟨bb, off, none⟩) len c) rfl (by kernel_rfl) (by kernel_rfl) (by kernel_rfl) (fun _ _ _ h => h) (Or.inl ⟨by rfl, fun w' _ => by go_simp <;> omega⟩) s0 ?_
      go_simp
      refine wpAnyH_take (i := 3) (v := .pointer (some ⟨bb, off, none⟩)) rfl (by kernel_rfl) (by kernel_rfl) (by kernel_rfl) (fun _ _ _ h => h) (Or.inl ⟨by rfl, fun w' _ => by go_simp <;> omega⟩) s0 ?_
      go_simp
      refine wpAnyH_take (i := 4) (v := .int .u8 (b0.toNat : Int)) rfl (by kernel_rfl) (by kernel_rfl) (by kernel_rfl) (fun _ _ _ h => h) (Or.inl ⟨by rfl, fun w' h => by obtain ⟨x0, x1⟩ := KB.out w' h; go_simp⟩) s0 ?_
      go_simp
      refine wpAnyH_take (i := 5) (v := .int .i64 (b0.toNat : Int)) rfl (by kernel_rfl) (by kernel_rfl) (by kernel_rfl) (fun _ _ _ h => h) (Or.inl ⟨by rfl, fun w' _ => by go_simp <;> omega⟩) s0 ?_
      go_simp
      refine wpAnyH_all (rs := [6]) (by kernel_rfl) (by simp) ?_
      intro i hi
      obtain rfl : i = 6 := by simpa using hi
      clear hi
      refine wpOp_step rfl (fun K hK => ?_)
      go_simp
      refine (each_calls (some ⟨bb, off, none⟩) len c 1 (b0.toNat : Int) _).mono ?_
      rintro en w5 ⟨rfl, hw5⟩
      refine hK _ _ ⟨by rw [hw5]; exact ((s0.alloc (by have := HZ4.out; simp <;> omega) _).alloc (by have := HZ4.out; simp <;> omega) _).alloc (by have := HZ4.out; simp <;> omega) _, ?_⟩
      clear hK K
      refine wpAnyH_done (by kernel_rfl) ?_ _
      refine NoPanic.normal ?_
      clear i3
      gi_wp2
      rw [hw5]
      simp only [World.size_drew, hz4]
      clear hw5 s0
      obtain ⟨W5, hW5⟩ : ∃ W5, ((W4.drew.alloc (.cells #[.slice (some ⟨bb, off, none⟩) len c] 33)).alloc (.cells #[.int .i64 1] 3)).alloc (.cells #[.int .i64 (b0.toNat : Int)] 3) = W5 := ⟨_, rfl⟩
      rw [hW5]
      have hb5 : Below (n0 + 5) W4 W5 := by rw [← hW5]; exact ((((Below.refl _ W4).drew).alloc (by simp [hz4]) _).alloc (by simp [hz4]) _).alloc (by simp [hz4]) _
      have hz5 : W5.heap.size = n0 + 8 := by rw [← hW5]; simp [hz4]
      have hd : W4.drew.heap.size = n0 + 5 := hz4
      have g0 : Boxed W5 (n0 + 5) 33 (.slice (some ⟨bb, off, none⟩) len c) := by rw [← hW5, ← hd]; exact ((Boxed.new W4.drew 33 _).alloc _).alloc _
      have g1 : Boxed W5 (n0 + 6) 3 (.int .i64 1) := by
        have := Boxed.new (W4.drew.alloc (.cells #[.slice (some ⟨bb, off, none⟩) len c] 33)) 3 (.int .i64 1)
        simp only [World.size_alloc, hd] at this
        rw [← hW5]; exact this.alloc _
      have g2 : Boxed W5 (n0 + 7) 3 (.int .i64 (b0.toNat : Int)) := by
        have := Boxed.new ((W4.drew.alloc (.cells #[.slice (some ⟨bb, off, none⟩) len c] 33)).alloc (.cells #[.int .i64 1] 3)) 3 (.int .i64 (b0.toNat : Int))
        simp only [World.size_alloc, hd] at this
        rw [← hW5]; exact this
      have hbw5 := HB4.out.trans (hb5.mono (by omega))
      clear hW5
      have hn0w : n0 ≤ w.heap.size := Nat.le_of_eq HN0.out.symm
      have hq5 : Rep.byte.list.val (fun k => k < n0) W5 (.slice (some ⟨bb, off, none⟩) inb.length c) inb := by rw [HIL.out]; exact HV1.out W5 hbw5
      refine wpIn_rangeFunc_w rfl (by omega) (gf := 139) (lb := #[.pointer (some ⟨n0 + 5 + 2, 0, none⟩), .pointer (some ⟨n0 + 5, 0, none⟩), .pointer (some ⟨n0 + 5 + 1, 0, none⟩)]) rfl trivial (enters_of Try.func139 (by kernel_rfl) rfl)
        (each_seq (m := 8) (B := n0 + 5) (n := b0.toNat) (D := fun k => k < n0 ∨ n0 + 5 ≤ k ∧ k < n0 + 8) (Q := fun k => k < n0) (by omega) (by omega) (by rw [HIL.out]; exact g0) g1 g2 hq5 (by rw [HIL.out]; have := HBL.out; have := HL5.out; omega) (by have := HBG.out; omega) (fun x hx => by omega) (fun k hk => by omega))
        KeepB.trans (fun W o _ => ⟨by simp, fun k _ hk => Below.heap_alloc _ _ _ hk.lt⟩) (fun W l o o' _ h1 h2 _ => ⟨by simp, fun k _ hk => World.putObj_heap_other (fun e => by
          obtain ⟨c', t, f, hk⟩ := hk
          rw [e, h1] at hk
          cases hk; cases h2)⟩) (Below.refl _ _) (fun _ => rfl)
        (fun pre W => FIn w n0 W5.heap.size inb pre W)
        (fun c _ W => c = .ret ∧ FOut w n0 inb b0.toNat W)
        (FIn.own (by omega) hn0w) (fun c s X Y row hs hg hr => ⟨hs.1, FOut.own (B := W5.heap.size) (by omega) hn0w s X Y row hs.2 hg hr⟩)
        (fun s W k off v hk _ h => FIn.set h (by omega) (by omega))
        (gotV_own _ _ _ _)
        ⟨[], 1, .slice none 0 0, rfl, (hb5.block _ (by omega)).trans HL4.out, Rep.acc_nil, (hb5.block _ (by omega)).trans HT4.out, (hb5.block _ (by omega)).trans HR04.out, (hb5.block _ (by omega)).trans HR14.out, hbw5, Nat.le_refl _⟩
        (fun g b9 => { tmps := #[.slice (some ⟨bb, off, none⟩) b.length c, undef, .pointer (some ⟨n0, 0, none⟩), .pointer (some ⟨n0 + 1, 0, none⟩), .slice (some ⟨bb, off, none⟩) len c, .int .i64 sum, .bool isok, .pointer (some ⟨n0 + 3, 0, none⟩), .pointer (some ⟨n0 + 4, 0, none⟩), .pointer (some ⟨b9, 0, none⟩), .slice (some ⟨bb, off, none⟩) b.length c, .int .i64 (b.length : Int), .bool false, .slice (some ⟨bb, off, none⟩) b.length c, .slice (some ⟨bb, off, none⟩) b.length c, .int .i64 (b.length : Int), .int .i64 (len : Int), .slice (some ⟨bb, off, none⟩) len c, .tuple #[.int .i64 sum, .bool isok], .slice (some ⟨bb, off, none⟩) b.length c, .slice (some ⟨bb, off, none⟩) len c, .int .i64 (len : Int), .tuple #[.int .i64 sum, .bool isok], .int .i64 sum, .bool isok, .bool false, .int .i64 sum, .slice (some ⟨bb, off, none⟩) len c, .slice (some ⟨W1.heap.size, 0, none⟩) 1 1, .int .u32 (crc : Int), .int .i64 (crc : Int), .bool false, .bool (decide (64 < (b0.toNat : Int))), .slice (some ⟨bb, off, none⟩) len c, .pointer (some ⟨bb, off, none⟩), .int .u8 (b0.toNat : Int), .bool (decide (64 < (b0.toNat : Int))), .slice (some ⟨bb, off, none⟩) len c, .int .i64 1, .slice (some ⟨bb, off, none⟩) len c, .pointer (some ⟨bb, off, none⟩), .int .u8 (b0.toNat : Int), .int .i64 (b0.toNat : Int), .func (.func 139) #[] #[.pointer (some ⟨n0 + 5 + 2, 0, none⟩), .pointer (some ⟨n0 + 5, 0, none⟩), .pointer (some ⟨n0 + 5 + 1, 0, none⟩)], g.val, undef, undef, undef, undef, undef, undef, undef, undef, undef, undef, undef, undef, undef, undef, undef, undef, undef], defers := [] })
        (fun g => .cells #[.int .i64 g.x.kind, .bool g.x.loc, .int .i64 g.x.id.index, .int .i64 g.x.id.gen, .int .i64 g.x.comp, .slice g.A g.x.data.length g.c, .int .i64 g.nx, .int .i64 g.e] 199) ?assign ?body ?done ?stop
      case assign =>
        intro lp g W K hK
        simp only [Gt.val] at hK ⊢
        gi_wp2
        exact hK
      case body =>
        rintro lr pre g b9 W0 W hi0 hi hgw ⟨l, p, hst, hlt, hget, hwf, hsl⟩ hb1 hb2 hbox
        obtain ⟨l0, p0, v, h1, hbx, hacc, hbt, hr0, hr1, hbel, hsz⟩ := hi
        obtain ⟨rfl, rfl⟩ : l0 = l ∧ p0 = p := by rw [h1] at hst; cases hst; exact ⟨rfl, rfl⟩
        obtain ⟨l1, p1, v1, k1, kbx, kacc, _, _, _, _, hi0s⟩ := hi0
        obtain rfl : v1 = v := by
          have h2 := (hgw.2 _ ⟨_, _, _, kbx⟩).trans kbx
          have h3 : W.heap[n0 + 3]? = some (.cells #[v] 59 (0, 0)) := hbx
          rw [h3] at h2
          simpa using h2.symm
        have hown : ∀ k, v1.ownBlock = some k → W5.heap.size ≤ k ∧ k < W0.heap.size := Rep.acc_own kacc
        have hbox' : W.heap[b9]? = some (.cells (gotCells g) 199 (0, 0)) := hbox
        have hne9 := got_ne hbox' hacc
        have hlen := got_len h1
        have HLEN := Lib.hid (show l0.length + 1 ≤ maxLen ∧ (l0.length + 1) * 64 ≤ 140737488355328 by have := HBG.out; unfold maxLen; omega)
        have HX := Lib.hid (show rCmd.val (fun k => W5.heap.size ≤ k ∧ v1.ownBlock ≠ some k) W (.agg #[.int .i64 g.x.kind, .bool g.x.loc, .int .i64 g.x.id.index, .int .i64 g.x.id.gen, .int .i64 g.x.comp, .slice g.A g.x.data.length g.c]) g.x from
          rCmd_agg hwf.1 hwf.2.1 hwf.2.2.1 hwf.2.2.2 (Rep.Sl.keep (fun k hk _ => ⟨⟨by have hk' : W0.heap.size ≤ k := hk; omega, fun e => by have := (hown k e).2; have hk' : W0.heap.size ≤ k := hk; omega⟩, rfl⟩) hsl))
        obtain ⟨Av, cv, rfl, _, _⟩ := Rep.acc_form hacc
        have HS := Lib.hid hbox'
        have HACC := Lib.hid hacc
        have HBX := Lib.hid hbx
        have HBT := Lib.hid hbt
        have HR0' := Lib.hid hr0
        have HR1' := Lib.hid hr1
        have HBE := Lib.hid hbel
        have HSZ := Lib.hid hsz
        have HST := Lib.hid h1
        have HGET := Lib.hid hget
        have HLT := Lib.hid hlt
        have HN9 := Lib.hid hne9
        have H9 := Lib.hid (show n0 + 8 ≤ b9 ∧ b9 < W.heap.size by omega)
        have HZ5 := Lib.hid hz5
        have HNW := Lib.hid hn0w
        have x7 := cell_row hbox' 7
        simp only [gotCells] at x7
        clear hbx hacc hbt hr0 hr1 hbel hsz h1 hst hget hlt hne9 hbox hbox' k1 kbx kacc hown hwf hsl hgw hb1 hb2 hi0s hz5 hn0w hlen g0 g1 g2 hbw5 hq5 hb5 hd
        by_cases he : g.e = 0
        · have he' : (g.e == 0) = true := by simp [he]
          gi_wp2
          refine region_round_held (S := fun W' => W'.heap[b9]? = some (.cells (gotCells g) 199 (0, 0))) (by kernel_rfl) (by kernel_rfl) (by rintro ⟨_, _, h⟩; exact h) HS.out (fun s0 => ?_)
          have HBXD : Boxed W.drew (n0 + 3) 59 (.slice Av l0.length cv) := HBX.out
          have HACD : rCmd.acc 116 W5.heap.size (fun k => W5.heap.size ≤ k) W.drew (.slice Av l0.length cv) l0 := Rep.acc_keep (w := W) (w' := W.drew) (fun _ _ _ => rfl) (fun _ hb _ => hb) HACC.out
          have HXD : rCmd.val (fun k => W5.heap.size ≤ k ∧ (Value.slice Av l0.length cv).ownBlock ≠ some k) W.drew (.agg #[.int .i64 g.x.kind, .bool g.x.loc, .int .i64 g.x.id.index, .int .i64 g.x.id.gen, .int .i64 g.x.comp, .slice g.A g.x.data.length g.c]) g.x := Rep.val_keep (w := W) (w' := W.drew) (fun _ hb _ => ⟨hb, rfl⟩) HX.out
          refine wpAnyH_take (i := 1) (v := .pointer (some ⟨b9, 0, none⟩)) rfl (by kernel_rfl) (by kernel_rfl) (by kernel_rfl) (fun _ _ _ h => h) (Or.inl ⟨by rfl, fun w' h => by go_simp⟩) s0 ?_
          go_simp
          refine wpAnyH_take (i := 2) (v := .agg #[.int .i64 g.x.kind, .bool g.x.loc, .int .i64 g.x.id.index, .int .i64 g.x.id.gen, .int .i64 g.x.comp, .slice g.A g.x.data.length g.c]) rfl (by kernel_rfl) (by kernel_rfl) (by kernel_rfl) (fun _ _ _ h => h) (Or.inl ⟨by rfl, fun w' h => by have y0 := cell_row h 0; have y1 := cell_row h 1; have y2 := cell_row h 2; have y3 := cell_row h 3; have y4 := cell_row h 4; have y5 := cell_row h 5; have y6 := cell_row h 6; simp only [gotCells] at y0 y1 y2 y3 y4 y5 y6; go_simp⟩) s0 ?_
          go_simp
          refine wpAnyH_take (i := 5) (v := .pointer (some ⟨b9, 6, none⟩)) rfl (by kernel_rfl) (by kernel_rfl) (by kernel_rfl) (fun _ _ _ h => h) (Or.inl ⟨by rfl, fun w' h => by go_simp⟩) s0 ?_
          go_simp
          refine wpAnyH_take (i := 6) (v := .int .i64 g.nx) rfl (by kernel_rfl) (by kernel_rfl) (by kernel_rfl) (fun _ _ _ h => h) (Or.inl ⟨by rfl, fun w' h => by have y0 := cell_row h 0; have y1 := cell_row h 1; have y2 := cell_row h 2; have y3 := cell_row h 3; have y4 := cell_row h 4; have y5 := cell_row h 5; have y6 := cell_row h 6; simp only [gotCells] at y0 y1 y2 y3 y4 y5 y6; go_simp⟩) s0 ?_
          go_simp
          refine wpAnyH_all (rs := [0, 3]) (by kernel_rfl) (by simp) ?_
          intro i hi
          rcases (by simpa using hi : i = 0 ∨ i = 3) with rfl | rfl
          · refine wpOp_step rfl (fun K hK => ?_)
            refine step_run rfl (exec_load_box (by rfl) (by rfl) Try.underlying59 HBXD) ?_
            refine hK _ _ ⟨s0, ?_⟩
            clear hK K hi
            refine wpAnyH_all (rs := [3]) (by kernel_rfl) (by simp) ?_
            intro i hi
            obtain rfl : i = 3 := by simpa using hi
            clear hi
            refine wpOp_step rfl (fun K hK => ?_)
            refine step_run rfl (exec_buildSlice (vy := .agg #[.int .i64 g.x.kind, .bool g.x.loc, .int .i64 g.x.id.index, .int .i64 g.x.id.gen, .int .i64 g.x.comp, .slice g.A g.x.data.length g.c]) rfl (.agg #[.int .i64 0, .bool false, .int .i64 0, .int .i64 0, .int .i64 0, .slice none 0 0]) 6 Try.underlying59 info116' rfl rfl (by decide)) ?_
            have s3 : (W.drew.alloc (.cells (Value.cells (.agg #[.int .i64 g.x.kind, .bool g.x.loc, .int .i64 g.x.id.index, .int .i64 g.x.id.gen, .int .i64 g.x.comp, .slice g.A g.x.data.length g.c])) 116)).heap[b9]? = some (.cells (gotCells g) 199 (0, 0)) := (Below.heap_alloc _ _ _ H9.out.2).trans s0
            refine hK _ _ ⟨s3, ?_⟩
            clear hK K
            refine wpAnyH_all (rs := [4]) (by kernel_rfl) (by simp) ?_
            intro i hi
            obtain rfl : i = 4 := by simpa using hi
            clear hi
            refine wpOp_step rfl (fun K hK => ?_)
            refine step_snoc2 (w := W.drew) rfl _ _ 59 rfl (.agg #[.int .i64 0, .bool false, .int .i64 0, .int .i64 0, .int .i64 0, .slice none 0 0]) 6 64 Try.underlying59 info116 rfl (by decide) rfl _ l0 (by exact rfl) HACD g.x (.agg #[.int .i64 g.x.kind, .bool g.x.loc, .int .i64 g.x.id.index, .int .i64 g.x.id.gen, .int .i64 g.x.comp, .slice g.A g.x.data.length g.c]) HXD (by exact rfl) HLEN.out.1 HLEN.out.2 HSZ.out (fun v7 w7 hacc7 hgr7 hat7 => ?_)
            obtain ⟨A7, c7, rfl, _, _⟩ := Rep.acc_form hacc7
            simp only [List.length_append, List.length_singleton] at hacc7 hat7
            have s7 : w7.heap[b9]? = some (.cells (gotCells g) 199 (0, 0)) := (hgr7.block b9 H9.out.2 HN9.out).trans s0
            refine hK _ _ ⟨s7, ?_⟩
            clear hK K
            have hl7 : Boxed w7 (n0 + 3) 59 (.slice Av l0.length cv) := HBXD.kept hgr7 (fun e => by have := (Rep.acc_own HACC.out _ e.symm).1; have := HZ5.out; omega)
            have ht7 : Boxed w7 (n0 + 4) 3 (.int .i64 p0) := (show Boxed W.drew (n0 + 4) 3 (.int .i64 p0) from HBT.out).kept hgr7 (fun e => by have := (Rep.acc_own HACC.out _ e.symm).1; have := HZ5.out; omega)
            refine wpAnyH_all (rs := [7]) (by kernel_rfl) (by simp) ?_
            intro i hi
            obtain rfl : i = 7 := by simpa using hi
            clear hi
            refine wpOp_step rfl (fun K hK => ?_)
            refine step_run_skip rfl (exec_store_box (by rfl) (by rfl) (by rfl) (by kernel_rfl) hl7 ⟨_, _, _, rfl⟩) ?_
            refine hK _ _ ⟨(Below.heap_setCell _ _ _ _ (show b9 ≠ n0 + 3 by have := H9.out; omega)).trans s7, ?_⟩
            clear hK K
            have q0 := ht7.cell
            have q1 := ht7.frozen
            have q2 : n0 + 3 ≠ n0 + 4 := by omega
            refine wpAnyH_all (rs := [8]) (by kernel_rfl) (by simp) ?_
            intro i hi
            obtain rfl : i = 8 := by simpa using hi
            clear hi
            refine wpOp_step rfl (fun K hK => ?_)
            go_simp
            refine hK _ _ ⟨(Below.heap_setCell _ _ _ _ (show b9 ≠ n0 + 4 by have := H9.out; omega)).trans ((Below.heap_setCell _ _ _ _ (show b9 ≠ n0 + 3 by have := H9.out; omega)).trans s7), ?_⟩
            clear hK K q0 q1 q2
            refine wpAnyH_done (by kernel_rfl) ?_ _
            have hown7 := Rep.acc_own hacc7
            have hgs : gotSt inb 1 (pre ++ [g]).length = some (l0 ++ [g.x], g.nx) := by
              rw [List.length_append]
              simp only [List.length_singleton, gotSt, HST.out, HGET.out]
              rw [if_pos he]
            have hk : ∀ k, k ≠ n0 + 3 → k ≠ n0 + 4 → ((w7.setCell ⟨n0 + 3, 0, none⟩ (.slice A7 (l0.length + 1) c7)).setCell ⟨n0 + 4, 0, none⟩ (.int .i64 g.nx)).heap[k]? = w7.heap[k]? := fun k h3 h4 => by
              rw [Below.heap_setCell _ _ _ _ h4, Below.heap_setCell _ _ _ _ h3]
            have hz := HZ5.out
            have hsw := HSZ.out
            have how := Rep.acc_own HACC.out
            have hg7 : ∀ k, k < W5.heap.size → k < W.heap.size → w7.heap[k]? = W.heap[k]? := fun k h5 hw => hgr7.block k hw (fun e => by have := (how k e.symm).1; omega)
            have hb7 : Below n0 w (((w7.setCell ⟨n0 + 3, 0, none⟩ (.slice A7 (l0.length + 1) c7)).setCell ⟨n0 + 4, 0, none⟩ (.int .i64 g.nx))) :=
              ((HBE.out.drew.grown hgr7 (by have : (World.drew W).heap.size = W.heap.size := rfl; omega) (fun k hk => by have := (how k hk).1; omega)).setCell (p := ⟨n0 + 3, 0, none⟩) (show n0 ≤ n0 + 3 by omega) _).setCell (p := ⟨n0 + 4, 0, none⟩) (show n0 ≤ n0 + 4 by omega) _
            refine ⟨KeepsFrom.two hgr7 (Rep.acc_isC HACC.out), ⟨by simpa [World.setCell] using hgr7.size, fun k hD hc => ?_⟩, ⟨l0 ++ [g.x], g.nx, .slice A7 (l0.length + 1) c7, hgs, ?_, ?_, ?_, ?_, ?_, hb7, by have := hgr7.size; have e : (World.drew W).heap.size = W.heap.size := rfl; simp [World.setCell]; omega⟩⟩
            · have := hc.lt
              rw [hk k (by omega) (by omega), hg7 k (by omega) (by omega)]
            · exact (Below.heap_setCell _ _ _ _ (show n0 + 3 ≠ n0 + 4 by omega)).trans (Boxed.set _ ((hg7 _ (by omega) HBX.out.lt).trans HBX.out))
            · exact Rep.acc_keep (fun k hk' _ => hk k (by rcases hk' with h | h
                                                          · have h' : W5.heap.size ≤ k := h; omega
                                                          · have := (hown7 k h).1; omega) (by rcases hk' with h | h
                                                                                              · have h' : W5.heap.size ≤ k := h; omega
                                                                                              · have := (hown7 k h).1; omega)) (fun _ hb _ => hb) hacc7
            · exact Boxed.set _ ((Below.heap_setCell _ _ _ _ (show n0 + 4 ≠ n0 + 3 by omega)).trans ((hg7 _ (by omega) HBT.out.lt).trans HBT.out))
            · exact (hk n0 (by omega) (by omega)).trans ((hg7 _ (by omega) HR0'.out.lt).trans HR0'.out)
            · exact (hk _ (by omega) (by omega)).trans ((hg7 _ (by omega) HR1'.out.lt).trans HR1'.out)
          · refine wpOp_step rfl (fun K hK => ?_)
            refine step_run rfl (exec_buildSlice (vy := .agg #[.int .i64 g.x.kind, .bool g.x.loc, .int .i64 g.x.id.index, .int .i64 g.x.id.gen, .int .i64 g.x.comp, .slice g.A g.x.data.length g.c]) rfl (.agg #[.int .i64 0, .bool false, .int .i64 0, .int .i64 0, .int .i64 0, .slice none 0 0]) 6 Try.underlying59 info116' rfl rfl (by decide)) ?_
            have s3 : (W.drew.alloc (.cells (Value.cells (.agg #[.int .i64 g.x.kind, .bool g.x.loc, .int .i64 g.x.id.index, .int .i64 g.x.id.gen, .int .i64 g.x.comp, .slice g.A g.x.data.length g.c])) 116)).heap[b9]? = some (.cells (gotCells g) 199 (0, 0)) := (Below.heap_alloc _ _ _ H9.out.2).trans s0
            refine hK _ _ ⟨s3, ?_⟩
            clear hK K hi
            refine wpAnyH_all (rs := [0]) (by kernel_rfl) (by simp) ?_
            intro i hi
            obtain rfl : i = 0 := by simpa using hi
            clear hi
            refine wpOp_step rfl (fun K hK => ?_)
            refine step_run rfl (exec_load_box (by rfl) (by rfl) Try.underlying59 (HBXD.alloc _)) ?_
            refine hK _ _ ⟨s3, ?_⟩
            clear hK K
            refine wpAnyH_all (rs := [4]) (by kernel_rfl) (by simp) ?_
            intro i hi
            obtain rfl : i = 4 := by simpa using hi
            clear hi
            refine wpOp_step rfl (fun K hK => ?_)
            refine step_snoc2 (w := W.drew) rfl _ _ 59 rfl (.agg #[.int .i64 0, .bool false, .int .i64 0, .int .i64 0, .int .i64 0, .slice none 0 0]) 6 64 Try.underlying59 info116 rfl (by decide) rfl _ l0 (by exact rfl) HACD g.x (.agg #[.int .i64 g.x.kind, .bool g.x.loc, .int .i64 g.x.id.index, .int .i64 g.x.id.gen, .int .i64 g.x.comp, .slice g.A g.x.data.length g.c]) HXD (by exact rfl) HLEN.out.1 HLEN.out.2 HSZ.out (fun v7 w7 hacc7 hgr7 hat7 => ?_)
            obtain ⟨A7, c7, rfl, _, _⟩ := Rep.acc_form hacc7
            simp only [List.length_append, List.length_singleton] at hacc7 hat7
            have s7 : w7.heap[b9]? = some (.cells (gotCells g) 199 (0, 0)) := (hgr7.block b9 H9.out.2 HN9.out).trans s0
            refine hK _ _ ⟨s7, ?_⟩
            clear hK K
            have hl7 : Boxed w7 (n0 + 3) 59 (.slice Av l0.length cv) := HBXD.kept hgr7 (fun e => by have := (Rep.acc_own HACC.out _ e.symm).1; have := HZ5.out; omega)
            have ht7 : Boxed w7 (n0 + 4) 3 (.int .i64 p0) := (show Boxed W.drew (n0 + 4) 3 (.int .i64 p0) from HBT.out).kept hgr7 (fun e => by have := (Rep.acc_own HACC.out _ e.symm).1; have := HZ5.out; omega)
            refine wpAnyH_all (rs := [7]) (by kernel_rfl) (by simp) ?_
            intro i hi
            obtain rfl : i = 7 := by simpa using hi
            clear hi
            refine wpOp_step rfl (fun K hK => ?_)
            refine step_run_skip rfl (exec_store_box (by rfl) (by rfl) (by rfl) (by kernel_rfl) hl7 ⟨_, _, _, rfl⟩) ?_
            refine hK _ _ ⟨(Below.heap_setCell _ _ _ _ (show b9 ≠ n0 + 3 by have := H9.out; omega)).trans s7, ?_⟩
            clear hK K
            have q0 := ht7.cell
            have q1 := ht7.frozen
            have q2 : n0 + 3 ≠ n0 + 4 := by omega
            refine wpAnyH_all (rs := [8]) (by kernel_rfl) (by simp) ?_
            intro i hi
            obtain rfl : i = 8 := by simpa using hi
            clear hi
            refine wpOp_step rfl (fun K hK => ?_)
            go_simp
            refine hK _ _ ⟨(Below.heap_setCell _ _ _ _ (show b9 ≠ n0 + 4 by have := H9.out; omega)).trans ((Below.heap_setCell _ _ _ _ (show b9 ≠ n0 + 3 by have := H9.out; omega)).trans s7), ?_⟩
            clear hK K q0 q1 q2
            refine wpAnyH_done (by kernel_rfl) ?_ _
            have hown7 := Rep.acc_own hacc7
            have hgs : gotSt inb 1 (pre ++ [g]).length = some (l0 ++ [g.x], g.nx) := by
              rw [List.length_append]
              simp only [List.length_singleton, gotSt, HST.out, HGET.out]
              rw [if_pos he]
            have hk : ∀ k, k ≠ n0 + 3 → k ≠ n0 + 4 → ((w7.setCell ⟨n0 + 3, 0, none⟩ (.slice A7 (l0.length + 1) c7)).setCell ⟨n0 + 4, 0, none⟩ (.int .i64 g.nx)).heap[k]? = w7.heap[k]? := fun k h3 h4 => by
              rw [Below.heap_setCell _ _ _ _ h4, Below.heap_setCell _ _ _ _ h3]
            have hz := HZ5.out
            have hsw := HSZ.out
            have how := Rep.acc_own HACC.out
            have hg7 : ∀ k, k < W5.heap.size → k < W.heap.size → w7.heap[k]? = W.heap[k]? := fun k h5 hw => hgr7.block k hw (fun e => by have := (how k e.symm).1; omega)
            have hb7 : Below n0 w (((w7.setCell ⟨n0 + 3, 0, none⟩ (.slice A7 (l0.length + 1) c7)).setCell ⟨n0 + 4, 0, none⟩ (.int .i64 g.nx))) :=
              ((HBE.out.drew.grown hgr7 (by have : (World.drew W).heap.size = W.heap.size := rfl; omega) (fun k hk => by have := (how k hk).1; omega)).setCell (p := ⟨n0 + 3, 0, none⟩) (show n0 ≤ n0 + 3 by omega) _).setCell (p := ⟨n0 + 4, 0, none⟩) (show n0 ≤ n0 + 4 by omega) _
            refine ⟨KeepsFrom.two hgr7 (Rep.acc_isC HACC.out), ⟨by simpa [World.setCell] using hgr7.size, fun k hD hc => ?_⟩, ⟨l0 ++ [g.x], g.nx, .slice A7 (l0.length + 1) c7, hgs, ?_, ?_, ?_, ?_, ?_, hb7, by have := hgr7.size; have e : (World.drew W).heap.size = W.heap.size := rfl; simp [World.setCell]; omega⟩⟩
            · have := hc.lt
              rw [hk k (by omega) (by omega), hg7 k (by omega) (by omega)]
            · exact (Below.heap_setCell _ _ _ _ (show n0 + 3 ≠ n0 + 4 by omega)).trans (Boxed.set _ ((hg7 _ (by omega) HBX.out.lt).trans HBX.out))
            · exact Rep.acc_keep (fun k hk' _ => hk k (by rcases hk' with h | h
                                                          · have h' : W5.heap.size ≤ k := h; omega
                                                          · have := (hown7 k h).1; omega) (by rcases hk' with h | h
                                                                                              · have h' : W5.heap.size ≤ k := h; omega
                                                                                              · have := (hown7 k h).1; omega)) (fun _ hb _ => hb) hacc7
            · exact Boxed.set _ ((Below.heap_setCell _ _ _ _ (show n0 + 4 ≠ n0 + 3 by omega)).trans ((hg7 _ (by omega) HBT.out.lt).trans HBT.out))
            · exact (hk n0 (by omega) (by omega)).trans ((hg7 _ (by omega) HR0'.out.lt).trans HR0'.out)
            · exact (hk _ (by omega) (by omega)).trans ((hg7 _ (by omega) HR1'.out.lt).trans HR1'.out)
        · have he' : (g.e == 0) = false := beq_eq_false_iff_ne.2 he
          gi_wp2
          have q0 := HR0'.out.cell
          have q1 := HR0'.out.frozen
          have q2 := HR1'.out.cell
          have q3 := HR1'.out.frozen
          refine region_round_held (S := fun W' => W'.heap[b9]? = some (.cells (gotCells g) 199 (0, 0))) (by kernel_rfl) (by kernel_rfl) (by rintro ⟨_, _, h⟩; exact h) HS.out (fun s0 => ?_)
          refine wpAnyH_take (i := 0) (v := .pointer (some ⟨b9, 7, none⟩)) rfl (by kernel_rfl) (by kernel_rfl) (by kernel_rfl) (fun _ _ _ h => h) (Or.inl ⟨by rfl, fun w' _ => by go_simp <;> omega⟩) s0 ?_
          go_simp
          refine wpAnyH_take (i := 1) (v := .int .i64 g.e) rfl (by kernel_rfl) (by kernel_rfl) (by kernel_rfl) (fun _ _ _ h => h) (Or.inl ⟨by rfl, fun w' h => by have y7 := cell_row h 7; simp only [gotCells] at y7; go_simp⟩) s0 ?_
          go_simp
          refine wpAnyH_all (rs := [2]) (by kernel_rfl) (by simp) ?_
          intro i hi
          obtain rfl : i = 2 := by simpa using hi
          clear hi
          refine wpOp_step rfl (fun K hK => ?_)
          go_simp
          refine hK _ _ ⟨(Below.heap_setCell _ _ _ _ (show b9 ≠ n0 by have := H9.out; omega)).trans s0, ?_⟩
          clear hK K
          refine wpAnyH_all (rs := [3]) (by kernel_rfl) (by simp) ?_
          intro i hi
          obtain rfl : i = 3 := by simpa using hi
          clear hi
          refine wpOp_step rfl (fun K hK => ?_)
          go_simp
          refine hK _ _ ⟨(Below.heap_setCell _ _ _ _ (show b9 ≠ n0 + 1 by have := H9.out; omega)).trans ((Below.heap_setCell _ _ _ _ (show b9 ≠ n0 by have := H9.out; omega)).trans s0), ?_⟩
          clear hK K
          refine wpAnyH_done (by kernel_rfl) ?_ _
          gi_wp2
          obtain ⟨hf1, hf2⟩ := got_fail HST.out (by rw [HGET.out]; exact he) b0.toNat HLT.out
          rw [HGET.out] at hf2
          refine ⟨KeepsFrom.two (row := none) (World.grownBy.refl _ _) (fun b e => by cases e), rfl, g.e, he, hf1, hf2, ?_, ?_, ?_⟩
          · exact (Below.heap_setCell _ _ _ _ (show n0 ≠ n0 + 1 by omega)).trans (Boxed.set (W := W.drew) _ HR0'.out)
          · exact Boxed.set _ ((Below.heap_setCell _ _ _ _ (show n0 + 1 ≠ n0 by omega)).trans HR1'.out)
          · exact (HBE.out.drew.setCell (p := ⟨n0, 0, none⟩) (Nat.le_refl _) _).setCell (p := ⟨n0 + 1, 0, none⟩) (Nat.le_succ _) _
      case done =>
        rintro D ys W hD hS ⟨l, p, v, h1, hbx, hacc, hbt, hr0, hr1, hbel, hsz⟩ hK
        have hyl : ys.length = b0.toNat := by
          rcases hS with h | h
          · exact h
          · rw [h] at h1; cases h1
        rw [hyl] at h1
        obtain ⟨Av, cv, rfl, hc1, hc2⟩ := Rep.acc_form hacc
        have HACC := Lib.hid hacc
        have HR0' := Lib.hid hr0
        have HR1' := Lib.hid hr1
        have HBE := Lib.hid hbel
        have HST := Lib.hid h1
        have HK := Lib.hid hK
        have HNW := Lib.hid hn0w
        have HZ5 := Lib.hid hz5
        have HD' := Lib.hid hD
        have q0 := hbt.cell
        have q1 := hbx.cell
        have q2 := hr0.cell
        have q3 := hr0.frozen
        have q4 := hr1.cell
        have q5 := hr1.frozen
        have q6 : n0 ≠ n0 + 1 := by omega
        have q7 : n0 + 1 ≠ n0 := by omega
        clear h1 hbx hacc hbt hr0 hr1 hbel hsz hK g0 g1 g2 hbw5 hq5 hb5 hd hz5 hn0w hz4 hS hyl hD
        have hdc : ∀ k, IsC W k → D ≠ k := fun k hk e => by
          obtain ⟨_, _, _, hk⟩ := hk
          rw [← e, HK.out] at hk; cases hk
        have HDC := Lib.hid hdc
        clear hdc
        by_cases hp : p = (len : Int)
        · have hp' : (p == (len : Int)) = true := by simp [hp]
          have HFF := Lib.hid (show frameGet b = (l, 0) by rw [HF.out, HST.out]; exact if_pos hp)
          gi_wp2
          refine ⟨by simp, .inl ⟨_, _, rfl, run_takeDeferred (w := _) ((Below.heap_setCell _ _ _ _ (show D ≠ n0 + 1 from HDC.out _ ⟨_, _, _, HR1'.out⟩)).trans ((Below.heap_setCell _ _ _ _ (show D ≠ n0 from HDC.out _ ⟨_, _, _, HR0'.out⟩)).trans HK.out)), ?_⟩⟩
          have hK2 : ((W.setCell ⟨n0, 0, none⟩ (.slice Av l.length cv)).setCell ⟨n0 + 1, 0, none⟩ (.int .i64 0)).heap[D]? = some (.deferred (some [])) := (Below.heap_setCell _ _ _ _ (show D ≠ n0 + 1 from HDC.out _ ⟨_, _, _, HR1'.out⟩)).trans ((Below.heap_setCell _ _ _ _ (show D ≠ n0 from HDC.out _ ⟨_, _, _, HR0'.out⟩)).trans HK.out)
          obtain ⟨Wf, hWf⟩ : ∃ Wf, ((W.setCell ⟨n0, 0, none⟩ (.slice Av l.length cv)).setCell ⟨n0 + 1, 0, none⟩ (.int .i64 0)).putObj D (.deferred none) = Wf := ⟨_, rfl⟩
          have hbf : Below n0 w Wf := by
            rw [← hWf]
            exact ((HBE.out.setCell (p := ⟨n0, 0, none⟩) (Nat.le_refl _) _).setCell (p := ⟨n0 + 1, 0, none⟩) (Nat.le_succ _) _).trans (belowK_b (w := w) (Nat.le_of_eq HN0.out.symm) _ D _ _ (by have := HN0.out; have := HD'.out; have := HZ5.out; omega) hK2 rfl rfl)
          have hk : ∀ k, IsC W k → k ≠ n0 → k ≠ n0 + 1 → Wf.heap[k]? = W.heap[k]? := fun k hc h0 h1 => by
            rw [← hWf, World.putObj_heap_other (fun e => HDC.out k hc e.symm), Below.heap_setCell _ _ _ _ h1, Below.heap_setCell _ _ _ _ h0]
          have f0 : Boxed Wf n0 59 (.slice Av l.length cv) := by
            rw [← hWf]
            exact (World.putObj_heap_other (fun e => HDC.out n0 ⟨_, _, _, HR0'.out⟩ e.symm)).trans ((Below.heap_setCell _ _ _ _ (show n0 ≠ n0 + 1 by omega)).trans (Boxed.set _ HR0'.out))
          have f1 : Boxed Wf (n0 + 1) 63 (.int .i64 0) := by
            rw [← hWf]
            exact (World.putObj_heap_other (fun e => HDC.out (n0 + 1) ⟨_, _, _, HR1'.out⟩ e.symm)).trans (Boxed.set _ ((Below.heap_setCell _ _ _ _ (show n0 + 1 ≠ n0 by omega)).trans HR1'.out))
          rw [hWf]
          have y0 := f0.cell
          have y1 := f1.cell
          clear hWf q0 q1 q2 q3 q4 q5 q6 q7
          refine ⟨.tuple #[.slice Av l.length cv, .int .i64 0], ?_, ?_⟩
          · simp only [results, HFR.out]
            go_simp
          · rw [HFF.out]
            refine ⟨_, rfl, ?_, ?_⟩
            · rw [HN0.out]
              have hge : ∀ k, (W5.heap.size ≤ k ∨ (Value.slice Av l.length cv).ownBlock = some k) → n0 + 8 ≤ k := fun k h => by
                have := HZ5.out
                rcases h with h | h
                · omega
                · have := (Rep.acc_own HACC.out k h).1; omega
              exact Rep.val_keep (fun k hk' hl => ⟨by have := hge k hk'; omega, hk k hl (by have := hge k hk'; omega) (by have := hge k hk'; omega)⟩) (Rep.acc_val HACC.out)
            · rw [HN0.out]; exact hbf
        · have hp' : (p == (len : Int)) = false := beq_eq_false_iff_ne.2 hp
          have HFF := Lib.hid (show frameGet b = ([], 11) by rw [HF.out, HST.out]; exact if_neg hp)
          clear hp
          gi_wp2
          refine ⟨by simp, .inl ⟨_, _, rfl, run_takeDeferred (w := _) ((Below.heap_setCell _ _ _ _ (show D ≠ n0 + 1 from HDC.out _ ⟨_, _, _, HR1'.out⟩)).trans ((Below.heap_setCell _ _ _ _ (show D ≠ n0 from HDC.out _ ⟨_, _, _, HR0'.out⟩)).trans HK.out)), ?_⟩⟩
          have hK2 : ((W.setCell ⟨n0, 0, none⟩ (.slice none 0 0)).setCell ⟨n0 + 1, 0, none⟩ (.int .i64 11)).heap[D]? = some (.deferred (some [])) := (Below.heap_setCell _ _ _ _ (show D ≠ n0 + 1 from HDC.out _ ⟨_, _, _, HR1'.out⟩)).trans ((Below.heap_setCell _ _ _ _ (show D ≠ n0 from HDC.out _ ⟨_, _, _, HR0'.out⟩)).trans HK.out)
          obtain ⟨Wf, hWf⟩ : ∃ Wf, ((W.setCell ⟨n0, 0, none⟩ (.slice none 0 0)).setCell ⟨n0 + 1, 0, none⟩ (.int .i64 11)).putObj D (.deferred none) = Wf := ⟨_, rfl⟩
          have hbf : Below n0 w Wf := by
            rw [← hWf]
            exact ((HBE.out.setCell (p := ⟨n0, 0, none⟩) (Nat.le_refl _) _).setCell (p := ⟨n0 + 1, 0, none⟩) (Nat.le_succ _) _).trans (belowK_b (w := w) (Nat.le_of_eq HN0.out.symm) _ D _ _ (by have := HN0.out; have := HD'.out; have := HZ5.out; omega) hK2 rfl rfl)
          have hk : ∀ k, IsC W k → k ≠ n0 → k ≠ n0 + 1 → Wf.heap[k]? = W.heap[k]? := fun k hc h0 h1 => by
            rw [← hWf, World.putObj_heap_other (fun e => HDC.out k hc e.symm), Below.heap_setCell _ _ _ _ h1, Below.heap_setCell _ _ _ _ h0]
          have f0 : Boxed Wf n0 59 (.slice none 0 0) := by
            rw [← hWf]
            exact (World.putObj_heap_other (fun e => HDC.out n0 ⟨_, _, _, HR0'.out⟩ e.symm)).trans ((Below.heap_setCell _ _ _ _ (show n0 ≠ n0 + 1 by omega)).trans (Boxed.set _ HR0'.out))
          have f1 : Boxed Wf (n0 + 1) 63 (.int .i64 11) := by
            rw [← hWf]
            exact (World.putObj_heap_other (fun e => HDC.out (n0 + 1) ⟨_, _, _, HR1'.out⟩ e.symm)).trans (Boxed.set _ ((Below.heap_setCell _ _ _ _ (show n0 + 1 ≠ n0 by omega)).trans HR1'.out))
          rw [hWf]
          have y0 := f0.cell
          have y1 := f1.cell
          clear hWf q0 q1 q2 q3 q4 q5 q6 q7
          refine ⟨.tuple #[.slice none 0 0, .int .i64 11], ?_, ?_⟩
          · simp only [results, HFR.out]
            go_simp
          · rw [HFF.out]
            refine ⟨_, rfl, ?_, ?_⟩
            · rw [HN0.out]
              exact Rep.val_nil (by simp [maxLen])
            · rw [HN0.out]; exact hbf
      case stop =>
        rintro D c' pre W hD ⟨rfl, e, he0, hf1, hf2, hr0, hr1, hbel⟩ hK
        have HFF := Lib.hid (show frameGet b = ([], e) by rw [HF.out, hf1, ← hf2])
        have q2 := hr0.cell
        have q4 := hr1.cell
        have HR0' := Lib.hid hr0
        have HR1' := Lib.hid hr1
        have HBE := Lib.hid hbel
        have HK := Lib.hid hK
        clear hr0 hr1 hbel
        gi_wp2
        refine ⟨by simp, .inl ⟨_, _, rfl, run_takeDeferred hK, ?_⟩⟩
        have hdc : ∀ k, IsC W k → D ≠ k := fun k hk e => by
          obtain ⟨_, _, _, hk⟩ := hk
          rw [← e, HK.out] at hk; cases hk
        obtain ⟨Wf, hWf⟩ : ∃ Wf, W.putObj D (.deferred none) = Wf := ⟨_, rfl⟩
        have hbf : Below n0 w Wf := by
          rw [← hWf]
          exact HBE.out.trans (belowK_b (w := w) (Nat.le_of_eq HN0.out.symm) _ D _ _ (by have := HN0.out; omega) HK.out rfl rfl)
        have f0 : Boxed Wf n0 59 (.slice none 0 0) := by
          rw [← hWf]
          exact (World.putObj_heap_other (fun e => hdc n0 ⟨_, _, _, HR0'.out⟩ e.symm)).trans HR0'.out
        have f1 : Boxed Wf (n0 + 1) 63 (.int .i64 e) := by
          rw [← hWf]
          exact (World.putObj_heap_other (fun e => hdc (n0 + 1) ⟨_, _, _, HR1'.out⟩ e.symm)).trans HR1'.out
        rw [hWf]
        have y0 := f0.cell
        have y1 := f1.cell
        clear hWf q2 q4
        refine ⟨.tuple #[.slice none 0 0, .int .i64 e], ?_, ?_⟩
        · simp only [results, HFR.out]
          go_simp
        · rw [HFF.out]
          refine ⟨_, rfl, Rep.val_nil (by simp [maxLen]), ?_⟩
          rw [HN0.out]; exact hbf
end Go.Proofs.Yteljibjbndpncaa
