/- Texts on which the proofs stand: WalLoad, AllInt, DiskWrite, DiskNew, DiskOf, SuperMath, StoreMath, Supers, AllBytes. No condition is laid on any input. -/
import Derived.Test.YtghbfbohnoebiaaGreatSnG18
import Derived.Test.YtghbfbohnoebiaaGreatSnG29
namespace Go.Proofs.YtghbfbohnoebiaaGreat
open Go.RowKit

theorem Only.grow {F : Nat → Prop} {X Y Z : World} (h : Only F X Y) (hb : Below X.heap.size Y Z) : Only F X Z :=
  ⟨hb.os.trans h.os, hb.tape.trans h.tape, hb.output.trans h.output, Nat.le_trans h.size hb.size, fun b hl hf => (hb.block b hl).trans (h.block b hl hf)⟩
theorem Only.sub {F G : Nat → Prop} {X Y : World} (h : Only F X Y) (hf : ∀ b, F b → G b) : Only G X Y := ⟨h.os, h.tape, h.output, h.size, fun b hl hg => h.block b hl fun e => hg (hf b e)⟩

/-- Sectors read one behind the other, up to the first error. -/
def readAll (st : DiskSt) : List Int → DiskSt × List (List UInt8) × Int
  | [] => (st, [], 0)
  | i :: is => if (readSt st i).2.2 = 0 then ((readAll (readSt st i).1 is).1, (readSt st i).2.1 :: (readAll (readSt st i).1 is).2.1, (readAll (readSt st i).1 is).2.2) else ((readSt st i).1, [], (readSt st i).2.2)
def LoadPost (F B : Nat → Prop) (P n : Nat) (W : World) (r : DiskSt × List (List UInt8) × Int) (e : Ending) (W' : World) : Prop :=
  ∃ u, e = .returned (.tuple #[u, .int .i64 r.2.2]) ∧ Rep.byte.list.list.val (fun b => W.heap.size ≤ b) W' u r.2.1 ∧ DiskAt W' P F B n r.1 ∧ Only F W W'
/-- Where a reading is: what is read already, and what is left. -/
def Upto (st : DiskSt) (is : List Int) (s : DiskSt) (ls : List (List UInt8)) (k : Nat) : Prop :=
  s.safe = st.safe ∧ s.wait = st.wait ∧ ls.length = k ∧ readAll st is = ((readAll s (is.drop k)).1, ls ++ (readAll s (is.drop k)).2.1, (readAll s (is.drop k)).2.2)
theorem readSt_same (st : DiskSt) (i : Int) : (readSt st i).1.safe = st.safe ∧ (readSt st i).1.wait = st.wait := by
  have h := atSt_same st i
  unfold readSt; split
  · exact h
  · exact h
theorem Upto.start (st : DiskSt) (is : List Int) : Upto st is st [] 0 := ⟨rfl, rfl, rfl, by simp⟩
theorem Upto.next {st : DiskSt} {is : List Int} {s : DiskSt} {ls : List (List UInt8)} {k : Nat} {i : Int} (h : Upto st is s ls k) (hi : is[k]? = some i) (h0 : (readSt s i).2.2 = 0) : Upto st is (readSt s i).1 (ls ++ [(readSt s i).2.1]) (k + 1) := by
  obtain ⟨h1, h2, h3, h4⟩ := h
  obtain ⟨g1, g2⟩ := readSt_same s i
  obtain ⟨hk, he⟩ := List.getElem?_eq_some_iff.1 hi
  refine ⟨g1.trans h1, g2.trans h2, by simp [h3], ?_⟩
  rw [h4, List.drop_eq_getElem_cons hk, he]
  simp [readAll, h0]
theorem Upto.stop {st : DiskSt} {is : List Int} {s : DiskSt} {ls : List (List UInt8)} {k : Nat} {i : Int} (h : Upto st is s ls k) (hi : is[k]? = some i) (h0 : (readSt s i).2.2 ≠ 0) : (readAll st is).1 = (readSt s i).1 ∧ (readAll st is).2.2 = (readSt s i).2.2 := by
  obtain ⟨h1, h2, h3, h4⟩ := h
  obtain ⟨hk, he⟩ := List.getElem?_eq_some_iff.1 hi
  rw [h4, List.drop_eq_getElem_cons hk, he]
  simp [readAll, h0]
theorem Upto.all {st : DiskSt} {is : List Int} {s : DiskSt} {ls : List (List UInt8)} {k : Nat} (h : Upto st is s ls k) (hk : is.length ≤ k) : readAll st is = (s, ls, 0) := by
  obtain ⟨h1, h2, h3, h4⟩ := h
  rw [h4, List.drop_of_length_le hk]
  simp [readAll]
theorem logOf_wf {c : DConf} (hr : confRight c = true) (k : Nat) : (Lit.int .i64 (logOf c k)).wf = true := by
  have hf := (right_facts hr).1
  obtain ⟨g1, g2, _⟩ := hf
  have m1 : 0 ≤ (k : Int) % c.log := Int.emod_nonneg _ (by omega)
  have m2 : (k : Int) % c.log < c.log := Int.emod_lt_of_pos _ (by omega)
  unfold logOf; split
  · exact wf_i64 (by omega) (by omega)
  · decide

end Go.Proofs.YtghbfbohnoebiaaGreat
namespace Go.Proofs.YtghbfbohnoebiaaGreat
open Go.RowKit

theorem info_all2 : (Tryz.prog.info? 3).map (fun i => (i.zero, i.size, i.bytes)) = some (some (.int .i64 0), 1, 8) := by kernel_rfl
/-- Behind store.all[int]. -/
def allIntPost {σ : Type} (I : World → σ → Prop) (F : Nat → Prop) (W : World) (r : σ × List Int × Int) (e : Ending) (W' : World) : Prop :=
  ∃ u, e = .returned (.tuple #[u, .int .i64 r.2.2]) ∧ (Rep.int .i64).acc 3 W.heap.size (fun b => W.heap.size ≤ b) W' u r.2.1 ∧ I W' r.1 ∧ Only F W W'
/-- Behind a closure. -/
def allIntOne {σ : Type} (I : World → σ → Prop) (F : Nat → Prop) (W : World) (r : σ × Int × Int) (e : Ending) (W' : World) : Prop :=
  ∃ u, e = .returned (.tuple #[u, .int .i64 r.2.2]) ∧ (Rep.int .i64).val (fun b => W.heap.size ≤ b) W' u r.2.1 ∧ I W' r.1 ∧ Only F W W'

set_option maxRecDepth 100000 in
set_option maxHeartbeats 2000000 in
/-- store.all[int] -/
theorem allInt_calls {σ : Type} {I : World → σ → Prop} {F : Nat → Prop} {W : World} {cap : Array Value} {g m : Nat} {st : σ} (f : σ → Nat → σ × Int × Int) (hm : m ≤ 100000)
    (hen : ∀ (args : Array Value) (w : World), (callFunc g args).run Tryz.prog w = .ok (.enter g args) w)
    (hF : ∀ b, F b → b < W.heap.size) (hI : ∀ V V' s, I V s → Only F W V → V.heap.size ≤ V'.heap.size → (∀ b, b < W.heap.size → V'.heap[b]? = V.heap[b]?) → I V' s) (h0 : I W st)
    (hf : ∀ (k : Nat) (V : World) (s : σ), k < m → I V s → Only F W V → Calls Tryz.prog g (#[.int .i64 k] ++ cap) V (allIntOne I F V (f s k))) :
    Calls Tryz.prog 111 #[.int .i64 m, .func (.func g) #[] cap] W (allIntPost I F W (allTo f st m)) := by
  have HF := Lib.hid hf
  have HFB := Lib.hid hF
  have HI := Lib.hid hI
  have HZ := Lib.hid h0
  clear hf hF hI h0
  go_enter Tryz.func111, Tryz.ntmps111
  go_wp2_with fail
  go_loopw [6, 11] (fun u i wr => ∃ (k : Nat) (s : σ) (ls : List Int), i = .int .i64 k ∧ k ≤ m ∧ (Rep.int .i64).acc 3 W.heap.size (fun b => W.heap.size ≤ b) wr u ls ∧ I wr s ∧ Only F W wr ∧ Hid (allTo f st k = (s, ls, 0))) (fun _ i _ => m - (intOf i).toNat)
  case atStart => exact ⟨0, st, [], rfl, Nat.zero_le _, Rep.acc_nil, HZ.out, Only.refl _ _, Lib.hid rfl⟩
  case round =>
    obtain ⟨k, s, ls, rfl, hk, hacc, hi, ho, HUP⟩ := hrel
    have HACC := Lib.hid hacc
    have HS := Lib.hid hi
    have HO := Lib.hid ho
    obtain ⟨A6, c6, rfl, hc6, hm6⟩ := Rep.acc_form hacc
    have HLL := Lib.hid (show ls.length = k by have := allTo_len (f := f) (st := st) (k := k) (by rw [HUP.out]); rw [HUP.out] at this; exact this)
    generalize hll : ls.length = len at *
    have HLEN := Lib.hid hll
    clear hacc hi ho hll
    by_cases hlt : (k : Int) < m
    · go_wp2_with fail
      refine (HF.out k _ s (by omega) HS.out HO.out).mono ?_
      rintro e w4 ⟨u, rfl, hu, hd4, ho4⟩
      have HNEXT := Lib.hid (show (f s k).2.2 = 0 → allTo f st (k + 1) = ((f s k).1, ls ++ [(f s k).2.1], 0) from fun h0 => by have e := HUP.out; have := allTo_next (f := f) (st := st) (k := k) (by rw [e]) (by rw [e]; exact h0); rwa [e] at this)
      have HSTOP := Lib.hid (show (f s k).2.2 ≠ 0 → allTo f st m = ((f s k).1, [], (f s k).2.2) from fun h0 => by have e := HUP.out; have := allTo_bad (f := f) (st := st) (k := k) (by rw [e]) (by rw [e]; exact h0) m (by omega); rwa [e] at this)
      generalize f s k = r at *
      obtain ⟨s4, y, er⟩ := r
      dsimp only at *
      have HO4 := Lib.hid (HO.out.trans ho4)
      have HD4 := Lib.hid hd4
      obtain ⟨rfl, hyw⟩ := Rep.val_int hu
      have HY := Lib.hid (show (Rep.int .i64).val (fun b => W.heap.size ≤ b ∧ (Value.slice A6 len c6).ownBlock ≠ some b) w4 (.int .i64 y) y from Rep.val_mono (fun b hb _ => ⟨Nat.le_trans HO.out.size hb, fun he => by have := (Rep.acc_own HACC.out b he).2; omega⟩) hu)
      clear hyw
      have HACC4 := Lib.hid (show (Rep.int .i64).acc 3 W.heap.size (fun b => W.heap.size ≤ b) w4 (.slice A6 len c6) ls from by
        refine Rep.acc_keep (fun b hb hl => ?_) (fun _ hb _ => hb) HACC.out
        have hge : W.heap.size ≤ b := hb.elim id fun e => (Rep.acc_own HACC.out b e).1
        exact ho4.block b hl.lt (fun hf => by have := HFB.out _ hf; omega))
      have HSZ4 := Lib.hid HO4.out.size
      clear hu hd4 ho4
      by_cases he0 : er = 0
      · subst he0
        have HL1 := Lib.hid (show ls.length + 1 ≤ maxLen ∧ (ls.length + 1) * 8 ≤ 140737488355328 by have := HLEN.out; have := HLL.out; unfold maxLen; omega)
        have iw : IntKind.i64.wrap ((k : Int) + 1) = (k : Int) + 1 := IntWalk.i64_in _ ⟨by omega, by omega⟩
        go_wp2_with (refine wpList_snoc (e := 3) (base := W.heap.size) (Q := fun b => W.heap.size ≤ b) (r := (Rep.int .i64)) rfl rfl _ _ 35 _ rfl rfl rfl (.int .i64 0) 1 8 Tryz.underlying35 info_all2 rfl (by decide) rfl _ ls HACC4.out y _ (by exact rfl) HY.out (by exact rfl) (by exact rfl) HL1.out.1 HL1.out.2 HSZ4.out ?_; intro s' w' hacc' hgr hat)
        have hgb : Below W.heap.size w4 w' := (Below.refl _ _).grown hgr HSZ4.out (fun b hb => (Rep.acc_own HACC4.out b hb).1)
        refine ⟨⟨k + 1, s4, ls ++ [y], rfl, by omega, hacc', HI.out _ _ _ HD4.out HO4.out hgb.size (fun b hb => hgb.block b hb), HO4.out.grow hgb, Lib.hid (HNEXT.out (by simp))⟩, ?_⟩
        show m - ((k : Int) + 1).toNat < m - (k : Int).toNat
        omega
      · have g0 : (er == 0) = false := by simpa using he0
        have HST := Lib.hid (HSTOP.out he0)
        clear he0
        go_wp2_with fail
        go_ret2
        refine ⟨_, by rw [HST.out]; rfl, by rw [HST.out]; exact Rep.acc_nil, by rw [HST.out]; exact HD4.out, HO4.out⟩
    · obtain rfl : k = m := by omega
      go_wp2_with fail
      go_ret2
      exact ⟨_, by rw [HUP.out]; rfl, by rw [HUP.out]; exact HACC.out, by rw [HUP.out]; exact HS.out, HO.out⟩
end Go.Proofs.YtghbfbohnoebiaaGreat
namespace Go.Proofs.YtghbfbohnoebiaaGreat
open Go.RowKit
open Extern.Stop (cell)

namespace DiskW
variable {W W' : World} {P : Nat} {Sf : Option Addr} {cs M : Nat} {D : DataW Value} {F B : Nat → Prop} {n : Nat} {st : DiskSt}
theorem sM (h : DiskW W P Sf cs M D F B n st) {b : Nat} (hb : (Value.slice Sf st.safe.length cs).ownBlock = some b) : b ≠ M := by
  rintro rfl
  obtain ⟨cur, hc⟩ := acc_block h.safe hb
  obtain ⟨es, clock, hm, _⟩ := h.map
  rw [hm] at hc; cases hc
theorem wM (h : DiskW W P Sf cs M D F B n st) {i : Int} {b : Nat} (hb : (valAt D i).ownBlock = some b) : b ≠ M := by
  rintro rfl
  obtain ⟨cur, hc⟩ := acc_block (h.wt i) hb
  obtain ⟨es, clock, hm, _⟩ := h.map
  rw [hm] at hc; cases hc
end DiskW

def pushSt (st : DiskSt) (i : Int) (x : List UInt8) : DiskSt := { st with wait := fun j => if j = i then st.wait i ++ [x] else st.wait j }
theorem DiskW.write {W2 w4 w5 w6 : World} {P : Nat} {Sf : Option Addr} {cs M : Nat} {D : DataW Value} {F B : Nat → Prop} {n : Nat} {st : DiskSt} (h : DiskW W2 P Sf cs M D F B n st) {i : Int} {x : List UInt8} {v' : Value}
    (hi : 0 ≤ i ∧ i < st.safe.length) (hb4 : Below W2.heap.size W2 w4) (hz4 : W2.heap.size < w4.heap.size) (ha : Rep.byte.list.acc 71 0 (fun b => B b ∨ b = W2.heap.size) w5 v' (st.wait i ++ [x]))
    (g5 : w4.grownBy w5 (valAt D i).ownBlock) (ho : v'.ownBlock = (valAt D i).ownBlock ∨ v'.ownBlock = some w4.heap.size) (hm : w6.ownsMap Tryz.prog 3 heldElem M (n + 1) (D.put (.int .i64 i) (.held v'))) (g6 : w5.grownBy w6 (some M)) :
    DiskW w6 P Sf cs M (D.put (.int .i64 i) (.held v')) (fun b => F b ∨ v'.ownBlock = some b) (fun b => B b ∨ b = W2.heap.size) (n + 1) (pushSt st i x) := by
  have hD := h.map.isMap
  have hMlt := h.lt M (.inl h.fM)
  have e : ∀ b, b < W2.heap.size → b ≠ M → (valAt D i).ownBlock ≠ some b → w6.heap[b]? = W2.heap[b]? := fun b hb h1 h2 => by
    have s4 := hb4.size
    have s5 := g5.size
    rw [g6.block b (by omega) (fun e => h1 (Option.some.inj e)), g5.block b (by omega) (fun e => h2 e.symm), hb4.block b hb]
  have hBM : ∀ b, B b → b ≠ M := fun b hb e => h.apart M h.fM (e ▸ hb)
  have hBW : ∀ b, B b → (valAt D i).ownBlock ≠ some b := fun b hb e => h.apart b (h.fW i b e) hb
  have hown5 : ∀ b, v'.ownBlock = some b → b < w5.heap.size := fun b hb => (Rep.acc_own ha b hb).2
  have hownM : ∀ b, v'.ownBlock = some b → b ≠ M := fun b hb => by
    rcases ho with ho | ho
    · exact h.wM (ho ▸ hb)
    · have := Option.some.inj (ho.symm.trans hb)
      have := hb4.size
      omega
  have hs6 : W2.heap.size ≤ w6.heap.size := Nat.le_trans hb4.size (Nat.le_trans g5.size g6.size)
  refine ⟨?_, ?_, hm, fun j => ?_, fun j => ?_, fun j hj => ?_, h.wf, .inl h.fP, .inl h.fM, fun b hb => .inl (h.fS b hb), fun j b hb => ?_, fun j b hb => ?_, fun j k b hne hb => ?_, fun b hb => ?_, fun b hb => ?_, fun j hj => ?_⟩
  · rw [e P (h.lt P (.inl h.fP)) h.mP.symm (fun hb => h.wP hb rfl)]; exact h.blk
  · exact Rep.acc_keep (fun b hb _ => e b (h.lt b (hb.elim .inr fun e => .inl (h.fS b e))) (hb.elim (hBM b) h.sM) (fun hw => hb.elim (fun hB => hBW b hB hw) (fun hs => h.dSW i b hw hs))) (fun _ hb _ => .inl hb) h.safe
  · by_cases hj : j = i
    · subst hj
      rw [valAt_put_same hD]
      show Rep.byte.list.acc _ _ _ _ _ (if j = j then st.wait j ++ [x] else st.wait j)
      rw [if_pos rfl]
      refine Rep.acc_keep (fun b hb hl => g6.block b hl.lt (fun e => ?_)) (fun _ hb _ => hb) ha
      have e := Option.some.inj e
      rcases hb with (hb | hb) | hb
      · exact hBM b hb e
      · omega
      · exact hownM b hb e
    · rw [valAt_put_other hj]
      show Rep.byte.list.acc _ _ _ _ _ (if j = i then st.wait i ++ [x] else st.wait j)
      rw [if_neg hj]
      exact Rep.acc_keep (fun b hb _ => e b (h.lt b (hb.elim .inr fun e => .inl (h.fW j b e))) (hb.elim (hBM b) h.wM) (fun hw => hb.elim (fun hB => hBW b hB hw) (fun hs => h.dWW i j b (fun e => hj e.symm) hw hs))) (fun _ hb _ => .inl hb) (h.wt j)
  · show (if j = i then st.wait i ++ [x] else st.wait j).length ≤ n + 1
    split
    · rw [List.length_append]; have := h.len i; simp; omega
    · have := h.len j; omega
  · change (if j = i then st.wait i ++ [x] else st.wait j) ≠ [] at hj
    split at hj
    · rename_i e; rw [e]; exact hi
    · exact h.keys j hj
  · by_cases hj : j = i
    · subst hj; rw [valAt_put_same hD] at hb; exact .inr hb
    · rw [valAt_put_other hj] at hb; exact .inl (h.fW j b hb)
  · show (Value.slice Sf st.safe.length cs).ownBlock ≠ some b
    by_cases hj : j = i
    · subst hj
      rw [valAt_put_same hD] at hb
      rcases ho with ho | ho
      · exact h.dSW j b (ho ▸ hb)
      · intro hs
        have h1 := h.lt b (.inl (h.fS b hs))
        have h2 := Option.some.inj (ho.symm.trans hb)
        omega
    · rw [valAt_put_other hj] at hb; exact h.dSW j b hb
  · by_cases hj : j = i
    · subst hj
      have hk : k ≠ j := fun e => hne e.symm
      rw [valAt_put_same hD] at hb
      rw [valAt_put_other hk]
      rcases ho with ho | ho
      · exact h.dWW j k b hne (ho ▸ hb)
      · intro hs
        have h1 := h.lt b (.inl (h.fW k b hs))
        have h2 := Option.some.inj (ho.symm.trans hb)
        omega
    · rw [valAt_put_other hj] at hb
      by_cases hk : k = i
      · subst hk
        rw [valAt_put_same hD]
        intro hs
        rcases ho with ho | ho
        · exact h.dWW j k b hj hb (ho ▸ hs)
        · have h1 := h.lt b (.inl (h.fW j b hb))
          have h2 := Option.some.inj (ho.symm.trans hs)
          omega
      · rw [valAt_put_other hk]; exact h.dWW j k b hne hb
  · rcases hb with hb | hb
    · rintro (h1 | h1)
      · exact h.apart b hb h1
      · have := h.lt b (.inl hb); omega
    · rintro (h1 | h1)
      · rcases ho with ho | ho
        · exact h.apart b (h.fW i b (ho ▸ hb)) h1
        · have := h.lt b (.inr h1)
          have := Option.some.inj (ho.symm.trans hb)
          omega
      · rcases ho with ho | ho
        · have := h.lt b (.inl (h.fW i b (ho ▸ hb))); omega
        · have := Option.some.inj (ho.symm.trans hb)
          omega
  · rcases hb with (hb | hb) | (hb | hb)
    · have := h.lt b (.inl hb); omega
    · have := hown5 b hb; have := g6.size; omega
    · have := h.lt b (.inr hb); omega
    · have := g5.size; have := g6.size; omega
  · show (if j = i then st.wait i ++ [x] else st.wait j) ≠ []
    by_cases hji : j = i
    · rw [if_pos hji]; simp
    · rw [if_neg hji]
      rw [Go.Maps.has_put_other (fun e => hji (by cases e; rfl))] at hj
      exact h.has j hj

def writeSt (st : DiskSt) (i : Int) (b : List UInt8) : DiskSt × Int :=
  if (atSt st i).2 = 0 then (pushSt { (atSt st i).1 with writes := wrap64 ((atSt st i).1.writes + 1) } i (cutTo b 512), 0) else ((atSt st i).1, (atSt st i).2)
def WritePost (F B : Nat → Prop) (P n : Nat) (W : World) (r : DiskSt × Int) (e : Ending) (W' : World) : Prop :=
  e = .returned (.int .i64 r.2) ∧ Only F W W' ∧ ∃ F' B' : Nat → Prop, DiskAt W' P F' B' (n + 1) r.1 ∧ (∀ b, F' b → F b ∨ W.heap.size ≤ b) ∧ (∀ b, B' b → B b ∨ W.heap.size ≤ b) ∧ (∀ b, F b → F' b)
theorem DiskW.more {W : World} {P : Nat} {Sf : Option Addr} {cs M : Nat} {D : DataW Value} {F B : Nat → Prop} {n n' : Nat} {st : DiskSt} (h : DiskW W P Sf cs M D F B n st) (hn : n ≤ n') : DiskW W P Sf cs M D F B n' st :=
  ⟨h.blk, h.safe, h.map.mono hn, h.wt, fun i => Nat.le_trans (h.len i) hn, h.keys, h.wf, h.fP, h.fM, h.fS, h.fW, h.dSW, h.dWW, h.apart, h.lt, h.has⟩
theorem exec_lookup {o : Oper} {a : Act} {w : World} {m x : Operand} {M n : Nat} {D : DataW Value} {i : Int} (ho : o.op = Op.lookup 93 m x false) (hm : a.eval m = .map (some M)) (hx : a.eval x = .int .i64 i)
    (h : w.ownsMap Tryz.prog 3 heldElem M n D) (hi : (Lit.int .i64 i).wf = true) : (execOp a.eval o).run Tryz.prog w = .ok (.value (valAt D i)) w := by
  have hrun := lookup_held h hi
  simp [execOp, ho, hm, hx, hrun, Result.andThen]
theorem exec_mapUpdate {o : Oper} {a : Act} {w w' : World} {m x y : Operand} {t : TypeId} {M : Nat} {key val : Value} (ho : o.op = Op.mapUpdate t m x y) (hm : a.eval m = .map (some M)) (hx : a.eval x = key) (hy : a.eval y = val)
    (hrun : (Instr.mapUpdate t (.map (some M)) key val).run Tryz.prog w = .ok () w') : (execOp a.eval o).run Tryz.prog w = .ok .skip w' := by
  simp [execOp, ho, hm, hx, hy, hrun, Result.andThen]

set_option maxRecDepth 100000 in
set_option maxHeartbeats 4000000 in
/-- (*disk.Disk).Write -/
theorem dwrite_calls {Q : Nat → Prop} {W : World} {P : Nat} {F B : Nat → Prop} {n : Nat} {st : DiskSt} {i : Int} {v : Value} {b : List UInt8} (h : DiskAt W P F B n st) (hi : (Lit.int .i64 i).wf = true) (hn : n ≤ 1000000000) (hx : Rep.byte.list.val Q W v b)
    (hQ : ∀ k, Q k → ¬ F k) :
    Calls Tryz.prog 109 #[.pointer (some ⟨P, 0, none⟩), .int .i64 i, v] W (WritePost F B P n W (writeSt st i b)) := by
  have HA := Lib.hid h
  have HI := Lib.hid hi
  by_cases hc : (atSt st i).2 = 0
  case neg =>
    have HF := Lib.hid (show writeSt st i b = ((atSt st i).1, (atSt st i).2) by unfold writeSt; rw [if_neg hc])
    have g0 : ((atSt st i).2 == 0) = false := by simpa using hc
    clear h hc
    go_enter Tryz.func109, Tryz.ntmps109
    go_wp2_with fail
    refine (dat_calls HA.out).mono ?_
    rintro e w1 ⟨rfl, hd1, ho⟩
    have HD1 := Lib.hid hd1
    have HO := Lib.hid ho
    clear hd1 ho
    go_wp2_with fail
    go_ret
    exact ⟨by rw [HF.out]; rfl, HO.out, F, B, by rw [HF.out]; obtain ⟨_, _, _, _, hh⟩ := HD1.out; exact ⟨_, _, _, _, hh.more (Nat.le_succ n)⟩, fun _ hb => .inl hb, fun _ hb => .inl hb, fun _ hb => hb⟩
  case pos =>
    have HF := Lib.hid (show writeSt st i b = (pushSt { (atSt st i).1 with writes := wrap64 ((atSt st i).1.writes + 1) } i (cutTo b 512), 0) by unfold writeSt; rw [if_pos hc])
    have HC := Lib.hid hc
    have hr := atSt_range hc
    have hs := atSt_same st i
    have HR := Lib.hid (show 0 ≤ i ∧ i < (atSt st i).1.safe.length by rw [hs.1]; exact hr)
    have HXB := Lib.hid (show ∀ W', Only F W W' → Rep.byte.list.val Q W' v b from fun W' ho => Rep.val_keep (fun k hk hl => ⟨hk, ho.block k hl.lt (hQ k hk)⟩) hx)
    clear h hc hr hs hx
    go_enter Tryz.func109, Tryz.ntmps109
    go_wp2_with fail
    refine (dat_calls HA.out).mono ?_
    rintro e w1 ⟨rfl, hd1, ho⟩
    rw [HC.out]
    generalize (atSt st i).1 = s1 at *
    obtain ⟨Sf, cs, M, D, hd1⟩ := hd1
    have HO1 := Lib.hid ho
    have e5 := cell_row hd1.blk 5
    have z5 := frozen_row hd1.blk 5
    obtain ⟨W2, hW2⟩ : ∃ W2, w1.setCell ⟨P, 5, none⟩ (.int .i64 (wrap64 (s1.writes + 1))) = W2 := ⟨_, rfl⟩
    have hd2 : DiskW W2 P Sf cs M D F B n { s1 with writes := wrap64 (s1.writes + 1) } := by
      rw [← hW2]; exact hd1.scal rfl rfl hd1.wf (heap_setRow hd1.blk) (by simp) fun b hb _ => Below.heap_setCell _ _ _ _ hb
    have HO2 := Lib.hid (show Only F W W2 from HO1.out.trans (by rw [← hW2]; exact Only.set hd1.fP))
    have HD2 := Lib.hid hd2
    have HW2 := Lib.hid hW2
    clear hd1 ho hd2 hW2
    go_wp2_with fail
    rw [HW2.out]
    clear HW2 e5 z5
    have KP := Lib.hid (show ∀ W', Below W2.heap.size W2 W' → W'.cell? ⟨P, 1, none⟩ = some (.map (some M)) from fun W' hb => (hb.cell (p := ⟨P, 1, none⟩) (HD2.out.lt P (.inl HD2.out.fP))).trans (cell_row HD2.out.blk 1))
    have s1' := KP.out W2.drew (Below.refl _ _).drew
    refine wp_region_held (S := fun W' => W'.cell? ⟨P, 1, none⟩ = some (.map (some M))) (by kernel_rfl) ?_
    refine tkHV (i := 0) (v := .pointer (some ⟨P, 0, none⟩)) rfl s1' ?_
    go_simp
    refine tkHV (i := 1) (v := .pointer (some ⟨P, 0, none⟩)) rfl s1' ?_
    go_simp
    refine tkHV (i := 2) (v := .pointer (some ⟨P, 1, none⟩)) rfl s1' ?_
    go_simp
    refine tkH (i := 3) (v := .map (some M)) rfl (Or.inl ⟨by rfl, fun w' h => by have hc : w'.cell? ⟨P, 1, none⟩ = some (.map (some M)) := h; go_simp⟩) s1' ?_
    go_simp
    refine tkHV (i := 4) (v := .int .i64 i) rfl s1' ?_
    go_simp
    refine tkHV (i := 5) (v := .pointer (some ⟨P, 0, none⟩)) rfl s1' ?_
    go_simp
    refine tkHV (i := 6) (v := .pointer (some ⟨P, 0, none⟩)) rfl s1' ?_
    go_simp
    refine tkHV (i := 7) (v := .pointer (some ⟨P, 1, none⟩)) rfl s1' ?_
    go_simp
    refine tkH (i := 8) (v := .map (some M)) rfl (Or.inl ⟨by rfl, fun w' h => by have hc : w'.cell? ⟨P, 1, none⟩ = some (.map (some M)) := h; go_simp⟩) s1' ?_
    go_simp
    refine tkHV (i := 9) (v := .int .i64 i) rfl s1' ?_
    go_simp
    refine tkHV (i := 11) (v := v) rfl s1' ?_
    go_simp
    refine wpAnyH_all (rs := [10, 12]) (by kernel_rfl) (by simp) ?_
    intro j hj
    rcases (by simpa using hj : j = 10 ∨ j = 12) with rfl | rfl
    · refine wpOp_step rfl (fun K hK => ?_)
      refine step_run rfl (exec_lookup (M := M) (n := n) (D := D) (i := i) rfl (by rfl) (by rfl) (HD2.out.map) HI.out) ?_
      go_simp
      refine hK _ _ ⟨KP.out _ (Below.refl _ _).drew, ?_⟩
      clear hK K
      refine wpAnyH_all (rs := [12]) (by kernel_rfl) (by simp) ?_
      intro j hj
      obtain rfl : j = 12 := by simpa using hj
      refine wpOp_step rfl (fun K hK => ?_)
      go_simp
      refine (lecut_calls (n := 512) (HXB.out _ (HO2.out.trans (Only.of_below (Below.refl _ _).drew))) (by decide)).mono ?_
      rintro e w3 ⟨rfl, hg, hb3⟩
      have HG := Lib.hid (show w3.heap[W2.heap.size]? = some (.cells ((cutTo b 512).map cell).toArray 5 (0, 0)) from hg)
      have HB3 := Lib.hid (show Below W2.heap.size W2 w3 from (Below.refl _ _).drew.trans hb3)
      clear hg hb3
      refine hK _ _ ⟨KP.out _ HB3.out, ?_⟩
      clear hK K
      refine wpAnyH_all (rs := [13]) (by kernel_rfl) (by simp) ?_
      intro j hj
      obtain rfl : j = 13 := by simpa using hj
      refine wpOp_step rfl (fun K hK => ?_)
      refine step_run rfl (exec_buildSlice (vy := .slice (some ⟨W2.heap.size, 0, none⟩) 512 512) rfl (.slice none 0 0) 1 Tryz.underlying28 info22' rfl rfl (by decide)) ?_
      go_simp
      have HB4 := Lib.hid (HB3.out.alloc HB3.out.size (.cells #[.slice (some ⟨W2.heap.size, 0, none⟩) 512 512] 71))
      refine hK _ _ ⟨KP.out _ HB4.out, ?_⟩
      clear hK K
      have hg4 := heap_alloc_new w3 (.cells #[.slice (some ⟨W2.heap.size, 0, none⟩) 512 512] 71)
      have hz3 : W2.heap.size < w3.heap.size := IsC.lt ⟨_, _, _, HG.out⟩
      have hz4 : (w3.alloc (.cells #[.slice (some ⟨W2.heap.size, 0, none⟩) 512 512] 71)).heap.size = w3.heap.size + 1 := by simp
      have hacc4 : Rep.byte.list.acc 71 0 (fun k => B k ∨ k = W2.heap.size) (w3.alloc (.cells #[.slice (some ⟨W2.heap.size, 0, none⟩) 512 512] 71)) (valAt D i) (s1.wait i) :=
        Rep.acc_keep (fun k hk hl => HB4.out.block k hl.lt) (fun _ hk _ => .inl hk) (HD2.out.wt i)
      have hu4 : Rep.byte.list.rd (fun k => (B k ∨ k = W2.heap.size) ∧ (valAt D i).ownBlock ≠ some k) (w3.alloc (.cells #[.slice (some ⟨W2.heap.size, 0, none⟩) 512 512] 71)) [.slice (some ⟨W2.heap.size, 0, none⟩) 512 512] (cutTo b 512) := by
        have hS : SecAt w3 W2.heap.size 5 (cutTo b 512) := ⟨HG.out, cutTo_length _ _⟩
        have hv := hS.sl (a := 0) (n := 512) (c := 512) (by omega) (by omega) (by simp [maxLen])
        rw [List.drop_zero, List.take_of_length_le (by rw [cutTo_length]; omega)] at hv
        have hv2 := Rep.val_keep (w' := w3.alloc (.cells #[.slice (some ⟨W2.heap.size, 0, none⟩) 512 512] 71)) (Q' := fun k => (B k ∨ k = W2.heap.size) ∧ (valAt D i).ownBlock ≠ some k) (fun k hk hl => ⟨⟨.inr hk, fun e => by have := HD2.out.lt k (.inl (HD2.out.fW i k e)); have hk' : k = W2.heap.size := hk; omega⟩, Below.heap_alloc _ _ _ hl.lt⟩) hv
        obtain ⟨A', c', he, h1, h2, es, h3, h4⟩ := Rep.val_list hv2
        have hlen : (cutTo b 512).length = 512 := cutTo_length _ _
        rw [hlen] at he
        cases he
        exact ⟨_, _, es, by rw [hlen], h1, h2, h3, h4⟩
      obtain ⟨v', w5, q1, q2, q3, q4⟩ := Rep.acc_more (P := Tryz.prog) (ty := 28) (ys := [cutTo b 512]) (A := some ⟨w3.heap.size, 0, none⟩) (m := 1) (c := 1) Tryz.underlying28 info22 rfl (by decide) rfl hacc4 rfl (Rep.row_one_elem hu4)
        (fun _ => ⟨w3.heap.size, 0, rfl, fun j u hj => by rw [cell_of_row _ _ _ _ _ _ hg4, Nat.zero_add, ← hj]; simp⟩) (by have := HD2.out.len i; have hl : (s1.wait i).length ≤ n := this; simp; unfold maxLen; omega) (by have := HD2.out.len i; have hl : (s1.wait i).length ≤ n := this; simp; omega) (Nat.zero_le _)
      have hD5 : w5.ownsMap Tryz.prog 3 heldElem M n D := by
        have hMl := HD2.out.lt M (.inl HD2.out.fM)
        exact HD2.out.map_keep ((q3.block M (by omega) (fun e => HD2.out.wM e.symm rfl)).trans (HB4.out.block M hMl))
      obtain ⟨w6, u1, u2, u3⟩ := hD5.update int_law Tryz.underlying93 (by unfold maxLen; omega) (key_i64 HI.out) (val := v') (d := .held v') (ps := []) rfl
      have hfin := HD2.out.write (x := cutTo b 512) HR.out HB4.out (by rw [hz4]; omega) q2 q3 q4 u2 u3
      have hP6 := cell_row hfin.blk 1
      refine wpAnyH_all (rs := [14]) (by kernel_rfl) (by simp) ?_
      intro j hj
      obtain rfl : j = 14 := by simpa using hj
      refine wpOp_step rfl (fun K hK => ?_)
      refine step_run rfl (exec_append (by rfl) (by rfl) (by rfl) q1) ?_
      go_simp
      refine hK _ _ ⟨?_, ?_⟩
      · have hPl := HD2.out.lt P (.inl HD2.out.fP)
        rw [World.cell?_of_block (w := w3.alloc (.cells #[.slice (some ⟨W2.heap.size, 0, none⟩) 512 512] 71)) (w' := w5) (a := ⟨P, 1, none⟩) (q3.block P (by omega) (fun e => HD2.out.wP e.symm rfl))]
        exact KP.out _ HB4.out
      clear hK K
      refine wpAnyH_all (rs := [15]) (by kernel_rfl) (by simp) ?_
      intro j hj
      obtain rfl : j = 15 := by simpa using hj
      refine wpOp_step rfl (fun K hK => ?_)
      refine step_run_skip rfl (exec_mapUpdate (M := M) (key := .int .i64 i) (val := v') rfl (by rfl) (by rfl) (by rfl) u1) ?_
      go_simp
      refine hK _ _ ⟨hP6, ?_⟩
      clear hK K
      refine wpAnyH_done (by kernel_rfl) ?_ _
      clear hP6 u1 q1 hg4
      have HFIN := Lib.hid hfin
      have HOF := Lib.hid (show Only F W w6 from by
        have s2 := HO2.out.size
        have s4 := HB4.out.size
        have s5 := q3.size
        refine ⟨(u3.os.trans q3.os).trans (HB4.out.os.trans HO2.out.os), (u3.tape.trans q3.tape).trans (HB4.out.tape.trans HO2.out.tape), (u3.output.trans q3.output).trans (HB4.out.output.trans HO2.out.output), Nat.le_trans s2 (Nat.le_trans s4 (Nat.le_trans s5 u3.size)), fun k hk hf => ?_⟩
        have hMF : ¬ k = M := fun e => hf (e ▸ HD2.out.fM)
        rw [u3.block k (by omega) (fun e => hMF (Option.some.inj e)), q3.block k (by omega) (fun e => hf (HD2.out.fW i k e.symm)), HB4.out.block k (by omega)]
        exact HO2.out.block k hk hf)
      have HFB := Lib.hid (show (∀ k, (F k ∨ v'.ownBlock = some k) → F k ∨ W.heap.size ≤ k) ∧ (∀ k, (B k ∨ k = W2.heap.size) → B k ∨ W.heap.size ≤ k) from by
        have s2 := HO2.out.size
        have s4 := HB4.out.size
        refine ⟨fun k hk => hk.elim .inl fun hk => ?_, fun k hk => hk.elim .inl fun hk => .inr (by omega)⟩
        rcases q4 with q4 | q4
        · exact .inl (HD2.out.fW i k (q4 ▸ hk))
        · have := Option.some.inj (q4.symm.trans hk)
          exact .inr (by omega))
      clear hfin u2 u3 q2 q3 q4 hacc4 hu4 hD5
      go_wp2_with fail
      go_ret
      exact ⟨by rw [HF.out]; rfl, HOF.out, _, _, by rw [HF.out]; exact ⟨_, _, _, _, HFIN.out⟩, HFB.out.1, HFB.out.2, fun _ hb => .inl hb⟩
    · refine wpOp_step rfl (fun K hK => ?_)
      go_simp
      refine (lecut_calls (n := 512) (HXB.out _ (HO2.out.trans (Only.of_below (Below.refl _ _).drew))) (by decide)).mono ?_
      rintro e w3 ⟨rfl, hg, hb3⟩
      have HG := Lib.hid (show w3.heap[W2.heap.size]? = some (.cells ((cutTo b 512).map cell).toArray 5 (0, 0)) from hg)
      have HB3 := Lib.hid (show Below W2.heap.size W2 w3 from (Below.refl _ _).drew.trans hb3)
      clear hg hb3
      refine hK _ _ ⟨KP.out _ HB3.out, ?_⟩
      clear hK K
      refine wpAnyH_all (rs := [10, 13]) (by kernel_rfl) (by simp) ?_
      intro j hj
      rcases (by simpa using hj : j = 10 ∨ j = 13) with rfl | rfl
      · refine wpOp_step rfl (fun K hK => ?_)
        refine step_run rfl (exec_lookup (M := M) (n := n) (D := D) (i := i) rfl (by rfl) (by rfl) (HD2.out.map_keep (HB3.out.block M (HD2.out.lt M (.inl HD2.out.fM)))) HI.out) ?_
        go_simp
        refine hK _ _ ⟨KP.out _ HB3.out, ?_⟩
        clear hK K
        refine wpAnyH_all (rs := [13]) (by kernel_rfl) (by simp) ?_
        intro j hj
        obtain rfl : j = 13 := by simpa using hj
        refine wpOp_step rfl (fun K hK => ?_)
        refine step_run rfl (exec_buildSlice (vy := .slice (some ⟨W2.heap.size, 0, none⟩) 512 512) rfl (.slice none 0 0) 1 Tryz.underlying28 info22' rfl rfl (by decide)) ?_
        go_simp
        have HB4 := Lib.hid (HB3.out.alloc HB3.out.size (.cells #[.slice (some ⟨W2.heap.size, 0, none⟩) 512 512] 71))
        refine hK _ _ ⟨KP.out _ HB4.out, ?_⟩
        clear hK K
        have hg4 := heap_alloc_new w3 (.cells #[.slice (some ⟨W2.heap.size, 0, none⟩) 512 512] 71)
        have hz3 : W2.heap.size < w3.heap.size := IsC.lt ⟨_, _, _, HG.out⟩
        have hz4 : (w3.alloc (.cells #[.slice (some ⟨W2.heap.size, 0, none⟩) 512 512] 71)).heap.size = w3.heap.size + 1 := by simp
        have hacc4 : Rep.byte.list.acc 71 0 (fun k => B k ∨ k = W2.heap.size) (w3.alloc (.cells #[.slice (some ⟨W2.heap.size, 0, none⟩) 512 512] 71)) (valAt D i) (s1.wait i) :=
          Rep.acc_keep (fun k hk hl => HB4.out.block k hl.lt) (fun _ hk _ => .inl hk) (HD2.out.wt i)
        have hu4 : Rep.byte.list.rd (fun k => (B k ∨ k = W2.heap.size) ∧ (valAt D i).ownBlock ≠ some k) (w3.alloc (.cells #[.slice (some ⟨W2.heap.size, 0, none⟩) 512 512] 71)) [.slice (some ⟨W2.heap.size, 0, none⟩) 512 512] (cutTo b 512) := by
          have hS : SecAt w3 W2.heap.size 5 (cutTo b 512) := ⟨HG.out, cutTo_length _ _⟩
          have hv := hS.sl (a := 0) (n := 512) (c := 512) (by omega) (by omega) (by simp [maxLen])
          rw [List.drop_zero, List.take_of_length_le (by rw [cutTo_length]; omega)] at hv
          have hv2 := Rep.val_keep (w' := w3.alloc (.cells #[.slice (some ⟨W2.heap.size, 0, none⟩) 512 512] 71)) (Q' := fun k => (B k ∨ k = W2.heap.size) ∧ (valAt D i).ownBlock ≠ some k) (fun k hk hl => ⟨⟨.inr hk, fun e => by have := HD2.out.lt k (.inl (HD2.out.fW i k e)); have hk' : k = W2.heap.size := hk; omega⟩, Below.heap_alloc _ _ _ hl.lt⟩) hv
          obtain ⟨A', c', he, h1, h2, es, h3, h4⟩ := Rep.val_list hv2
          have hlen : (cutTo b 512).length = 512 := cutTo_length _ _
          rw [hlen] at he
          cases he
          exact ⟨_, _, es, by rw [hlen], h1, h2, h3, h4⟩
        obtain ⟨v', w5, q1, q2, q3, q4⟩ := Rep.acc_more (P := Tryz.prog) (ty := 28) (ys := [cutTo b 512]) (A := some ⟨w3.heap.size, 0, none⟩) (m := 1) (c := 1) Tryz.underlying28 info22 rfl (by decide) rfl hacc4 rfl (Rep.row_one_elem hu4)
          (fun _ => ⟨w3.heap.size, 0, rfl, fun j u hj => by rw [cell_of_row _ _ _ _ _ _ hg4, Nat.zero_add, ← hj]; simp⟩) (by have := HD2.out.len i; have hl : (s1.wait i).length ≤ n := this; simp; unfold maxLen; omega) (by have := HD2.out.len i; have hl : (s1.wait i).length ≤ n := this; simp; omega) (Nat.zero_le _)
        have hD5 : w5.ownsMap Tryz.prog 3 heldElem M n D := by
          have hMl := HD2.out.lt M (.inl HD2.out.fM)
          exact HD2.out.map_keep ((q3.block M (by omega) (fun e => HD2.out.wM e.symm rfl)).trans (HB4.out.block M hMl))
        obtain ⟨w6, u1, u2, u3⟩ := hD5.update int_law Tryz.underlying93 (by unfold maxLen; omega) (key_i64 HI.out) (val := v') (d := .held v') (ps := []) rfl
        have hfin := HD2.out.write (x := cutTo b 512) HR.out HB4.out (by rw [hz4]; omega) q2 q3 q4 u2 u3
        have hP6 := cell_row hfin.blk 1
        refine wpAnyH_all (rs := [14]) (by kernel_rfl) (by simp) ?_
        intro j hj
        obtain rfl : j = 14 := by simpa using hj
        refine wpOp_step rfl (fun K hK => ?_)
        refine step_run rfl (exec_append (by rfl) (by rfl) (by rfl) q1) ?_
        go_simp
        refine hK _ _ ⟨?_, ?_⟩
        · have hPl := HD2.out.lt P (.inl HD2.out.fP)
          rw [World.cell?_of_block (w := w3.alloc (.cells #[.slice (some ⟨W2.heap.size, 0, none⟩) 512 512] 71)) (w' := w5) (a := ⟨P, 1, none⟩) (q3.block P (by omega) (fun e => HD2.out.wP e.symm rfl))]
          exact KP.out _ HB4.out
        clear hK K
        refine wpAnyH_all (rs := [15]) (by kernel_rfl) (by simp) ?_
        intro j hj
        obtain rfl : j = 15 := by simpa using hj
        refine wpOp_step rfl (fun K hK => ?_)
        refine step_run_skip rfl (exec_mapUpdate (M := M) (key := .int .i64 i) (val := v') rfl (by rfl) (by rfl) (by rfl) u1) ?_
        go_simp
        refine hK _ _ ⟨hP6, ?_⟩
        clear hK K
        refine wpAnyH_done (by kernel_rfl) ?_ _
        clear hP6 u1 q1 hg4
        have HFIN := Lib.hid hfin
        have HOF := Lib.hid (show Only F W w6 from by
          have s2 := HO2.out.size
          have s4 := HB4.out.size
          have s5 := q3.size
          refine ⟨(u3.os.trans q3.os).trans (HB4.out.os.trans HO2.out.os), (u3.tape.trans q3.tape).trans (HB4.out.tape.trans HO2.out.tape), (u3.output.trans q3.output).trans (HB4.out.output.trans HO2.out.output), Nat.le_trans s2 (Nat.le_trans s4 (Nat.le_trans s5 u3.size)), fun k hk hf => ?_⟩
          have hMF : ¬ k = M := fun e => hf (e ▸ HD2.out.fM)
          rw [u3.block k (by omega) (fun e => hMF (Option.some.inj e)), q3.block k (by omega) (fun e => hf (HD2.out.fW i k e.symm)), HB4.out.block k (by omega)]
          exact HO2.out.block k hk hf)
        have HFB := Lib.hid (show (∀ k, (F k ∨ v'.ownBlock = some k) → F k ∨ W.heap.size ≤ k) ∧ (∀ k, (B k ∨ k = W2.heap.size) → B k ∨ W.heap.size ≤ k) from by
          have s2 := HO2.out.size
          have s4 := HB4.out.size
          refine ⟨fun k hk => hk.elim .inl fun hk => ?_, fun k hk => hk.elim .inl fun hk => .inr (by omega)⟩
          rcases q4 with q4 | q4
          · exact .inl (HD2.out.fW i k (q4 ▸ hk))
          · have := Option.some.inj (q4.symm.trans hk)
            exact .inr (by omega))
        clear hfin u2 u3 q2 q3 q4 hacc4 hu4 hD5
        go_wp2_with fail
        go_ret
        exact ⟨by rw [HF.out]; rfl, HOF.out, _, _, by rw [HF.out]; exact ⟨_, _, _, _, HFIN.out⟩, HFB.out.1, HFB.out.2, fun _ hb => .inl hb⟩
      · refine wpOp_step rfl (fun K hK => ?_)
        refine step_run rfl (exec_buildSlice (vy := .slice (some ⟨W2.heap.size, 0, none⟩) 512 512) rfl (.slice none 0 0) 1 Tryz.underlying28 info22' rfl rfl (by decide)) ?_
        go_simp
        have HB4 := Lib.hid (HB3.out.alloc HB3.out.size (.cells #[.slice (some ⟨W2.heap.size, 0, none⟩) 512 512] 71))
        refine hK _ _ ⟨KP.out _ HB4.out, ?_⟩
        clear hK K
        refine wpAnyH_all (rs := [10]) (by kernel_rfl) (by simp) ?_
        intro j hj
        obtain rfl : j = 10 := by simpa using hj
        refine wpOp_step rfl (fun K hK => ?_)
        refine step_run rfl (exec_lookup (M := M) (n := n) (D := D) (i := i) rfl (by rfl) (by rfl) (HD2.out.map_keep (HB4.out.block M (HD2.out.lt M (.inl HD2.out.fM)))) HI.out) ?_
        go_simp
        refine hK _ _ ⟨KP.out _ HB4.out, ?_⟩
        clear hK K
        have hg4 := heap_alloc_new w3 (.cells #[.slice (some ⟨W2.heap.size, 0, none⟩) 512 512] 71)
        have hz3 : W2.heap.size < w3.heap.size := IsC.lt ⟨_, _, _, HG.out⟩
        have hz4 : (w3.alloc (.cells #[.slice (some ⟨W2.heap.size, 0, none⟩) 512 512] 71)).heap.size = w3.heap.size + 1 := by simp
        have hacc4 : Rep.byte.list.acc 71 0 (fun k => B k ∨ k = W2.heap.size) (w3.alloc (.cells #[.slice (some ⟨W2.heap.size, 0, none⟩) 512 512] 71)) (valAt D i) (s1.wait i) :=
          Rep.acc_keep (fun k hk hl => HB4.out.block k hl.lt) (fun _ hk _ => .inl hk) (HD2.out.wt i)
        have hu4 : Rep.byte.list.rd (fun k => (B k ∨ k = W2.heap.size) ∧ (valAt D i).ownBlock ≠ some k) (w3.alloc (.cells #[.slice (some ⟨W2.heap.size, 0, none⟩) 512 512] 71)) [.slice (some ⟨W2.heap.size, 0, none⟩) 512 512] (cutTo b 512) := by
          have hS : SecAt w3 W2.heap.size 5 (cutTo b 512) := ⟨HG.out, cutTo_length _ _⟩
          have hv := hS.sl (a := 0) (n := 512) (c := 512) (by omega) (by omega) (by simp [maxLen])
          rw [List.drop_zero, List.take_of_length_le (by rw [cutTo_length]; omega)] at hv
          have hv2 := Rep.val_keep (w' := w3.alloc (.cells #[.slice (some ⟨W2.heap.size, 0, none⟩) 512 512] 71)) (Q' := fun k => (B k ∨ k = W2.heap.size) ∧ (valAt D i).ownBlock ≠ some k) (fun k hk hl => ⟨⟨.inr hk, fun e => by have := HD2.out.lt k (.inl (HD2.out.fW i k e)); have hk' : k = W2.heap.size := hk; omega⟩, Below.heap_alloc _ _ _ hl.lt⟩) hv
          obtain ⟨A', c', he, h1, h2, es, h3, h4⟩ := Rep.val_list hv2
          have hlen : (cutTo b 512).length = 512 := cutTo_length _ _
          rw [hlen] at he
          cases he
          exact ⟨_, _, es, by rw [hlen], h1, h2, h3, h4⟩
        obtain ⟨v', w5, q1, q2, q3, q4⟩ := Rep.acc_more (P := Tryz.prog) (ty := 28) (ys := [cutTo b 512]) (A := some ⟨w3.heap.size, 0, none⟩) (m := 1) (c := 1) Tryz.underlying28 info22 rfl (by decide) rfl hacc4 rfl (Rep.row_one_elem hu4)
          (fun _ => ⟨w3.heap.size, 0, rfl, fun j u hj => by rw [cell_of_row _ _ _ _ _ _ hg4, Nat.zero_add, ← hj]; simp⟩) (by have := HD2.out.len i; have hl : (s1.wait i).length ≤ n := this; simp; unfold maxLen; omega) (by have := HD2.out.len i; have hl : (s1.wait i).length ≤ n := this; simp; omega) (Nat.zero_le _)
        have hD5 : w5.ownsMap Tryz.prog 3 heldElem M n D := by
          have hMl := HD2.out.lt M (.inl HD2.out.fM)
          exact HD2.out.map_keep ((q3.block M (by omega) (fun e => HD2.out.wM e.symm rfl)).trans (HB4.out.block M hMl))
        obtain ⟨w6, u1, u2, u3⟩ := hD5.update int_law Tryz.underlying93 (by unfold maxLen; omega) (key_i64 HI.out) (val := v') (d := .held v') (ps := []) rfl
        have hfin := HD2.out.write (x := cutTo b 512) HR.out HB4.out (by rw [hz4]; omega) q2 q3 q4 u2 u3
        have hP6 := cell_row hfin.blk 1
        refine wpAnyH_all (rs := [14]) (by kernel_rfl) (by simp) ?_
        intro j hj
        obtain rfl : j = 14 := by simpa using hj
        refine wpOp_step rfl (fun K hK => ?_)
        refine step_run rfl (exec_append (by rfl) (by rfl) (by rfl) q1) ?_
        go_simp
        refine hK _ _ ⟨?_, ?_⟩
        · have hPl := HD2.out.lt P (.inl HD2.out.fP)
          rw [World.cell?_of_block (w := w3.alloc (.cells #[.slice (some ⟨W2.heap.size, 0, none⟩) 512 512] 71)) (w' := w5) (a := ⟨P, 1, none⟩) (q3.block P (by omega) (fun e => HD2.out.wP e.symm rfl))]
          exact KP.out _ HB4.out
        clear hK K
        refine wpAnyH_all (rs := [15]) (by kernel_rfl) (by simp) ?_
        intro j hj
        obtain rfl : j = 15 := by simpa using hj
        refine wpOp_step rfl (fun K hK => ?_)
        refine step_run_skip rfl (exec_mapUpdate (M := M) (key := .int .i64 i) (val := v') rfl (by rfl) (by rfl) (by rfl) u1) ?_
        go_simp
        refine hK _ _ ⟨hP6, ?_⟩
        clear hK K
        refine wpAnyH_done (by kernel_rfl) ?_ _
        clear hP6 u1 q1 hg4
        have HFIN := Lib.hid hfin
        have HOF := Lib.hid (show Only F W w6 from by
          have s2 := HO2.out.size
          have s4 := HB4.out.size
          have s5 := q3.size
          refine ⟨(u3.os.trans q3.os).trans (HB4.out.os.trans HO2.out.os), (u3.tape.trans q3.tape).trans (HB4.out.tape.trans HO2.out.tape), (u3.output.trans q3.output).trans (HB4.out.output.trans HO2.out.output), Nat.le_trans s2 (Nat.le_trans s4 (Nat.le_trans s5 u3.size)), fun k hk hf => ?_⟩
          have hMF : ¬ k = M := fun e => hf (e ▸ HD2.out.fM)
          rw [u3.block k (by omega) (fun e => hMF (Option.some.inj e)), q3.block k (by omega) (fun e => hf (HD2.out.fW i k e.symm)), HB4.out.block k (by omega)]
          exact HO2.out.block k hk hf)
        have HFB := Lib.hid (show (∀ k, (F k ∨ v'.ownBlock = some k) → F k ∨ W.heap.size ≤ k) ∧ (∀ k, (B k ∨ k = W2.heap.size) → B k ∨ W.heap.size ≤ k) from by
          have s2 := HO2.out.size
          have s4 := HB4.out.size
          refine ⟨fun k hk => hk.elim .inl fun hk => ?_, fun k hk => hk.elim .inl fun hk => .inr (by omega)⟩
          rcases q4 with q4 | q4
          · exact .inl (HD2.out.fW i k (q4 ▸ hk))
          · have := Option.some.inj (q4.symm.trans hk)
            exact .inr (by omega))
        clear hfin u2 u3 q2 q3 q4 hacc4 hu4 hD5
        go_wp2_with fail
        go_ret
        exact ⟨by rw [HF.out]; rfl, HOF.out, _, _, by rw [HF.out]; exact ⟨_, _, _, _, HFIN.out⟩, HFB.out.1, HFB.out.2, fun _ hb => .inl hb⟩
end Go.Proofs.YtghbfbohnoebiaaGreat
namespace Go.Proofs.YtghbfbohnoebiaaGreat
open Go.RowKit
open Extern.Stop (cell)

/-- A sector of 512 bytes in a block of its own. -/
def rSec : Rep (List UInt8 × Nat) where
  size := 1
  wrap cs := cs.headD undef
  rd Q w cs x := cs = [.slice (some ⟨x.2, 0, none⟩) 512 512] ∧ Q x.2 ∧ SecAt w x.2 5 x.1
  len h := by rw [h.1]; rfl
  one h := by rw [h.1]; simp [Value.oneCell']
  back h := by rw [h.1]; rfl
  keep hk h := ⟨h.1, (hk _ h.2.1 ⟨_, _, _, h.2.2.blk⟩).1, h.2.2.keep (hk _ h.2.1 ⟨_, _, _, h.2.2.blk⟩).2⟩
/-- A new device as0 it grows: k sectors so far. -/
structure NewAt (w0 W : World) (P M k : Nat) (Sf : Option Addr) (cs : Nat) (xs : List (List UInt8 × Nat)) : Prop where
  len : xs.length = k
  blk : W.heap[P]? = some (.cells #[.slice Sf k cs, .map (some M), .int .i64 (-1), .bool false, .int .i64 0, .int .i64 0] 95 (0, 0))
  acc : rSec.acc 71 (P + 1) (fun b => P < b) W (.slice Sf k cs) xs
  map : W.heap[M]? = some (.map #[] 0)
  bel : Below w0.heap.size w0 W
  dis : (xs.map (·.2)).Nodup
  lt : ∀ x ∈ xs, P < x.2 ∧ x.2 < W.heap.size
  pos : w0.heap.size ≤ M ∧ M < P ∧ P < W.heap.size
def newN (n : Int) : Nat := (if n < 0 then 0 else if 4096 < n then 4096 else n).toNat
def NewPost (w : World) (n : Int) (e : Ending) (W : World) : Prop :=
  ∃ P M Sf cs xs, e = .returned (.pointer (some ⟨P, 0, none⟩)) ∧ NewAt w W P M (newN n) Sf cs xs ∧ ∀ x ∈ xs, x.1 = zeros 512
theorem newN_cases (n : Int) : (n < 0 ∧ newN n = 0) ∨ (4096 < n ∧ newN n = 4096) ∨ (0 ≤ n ∧ n ≤ 4096 ∧ n = (newN n : Nat)) := by
  unfold newN
  by_cases h : n < 0
  · exact .inl ⟨h, by rw [if_pos h]; rfl⟩
  · by_cases h2 : 4096 < n
    · exact .inr (.inl ⟨h2, by rw [if_neg h, if_pos h2]; rfl⟩)
    · exact .inr (.inr ⟨by omega, by omega, by rw [if_neg h, if_neg h2]; omega⟩)

theorem new_step {w0 wr v5 W7 : World} {P M k : Nat} {Sf A7 : Option Addr} {cs c7 : Nat} {xs : List (List UInt8 × Nat)} {u : Array Value} (h : NewAt w0 wr P M k Sf cs xs) (hb6 : Below wr.heap.size wr (v5.alloc (.cells u 71))) (hl : wr.heap.size < v5.heap.size)
    (q2 : rSec.acc 71 (P + 1) (fun b => P < b) W7 (.slice A7 (k + 1) c7) (xs ++ [(zeros 512, wr.heap.size)])) (q3 : (v5.alloc (.cells u 71)).grownBy W7 (Value.slice Sf k cs).ownBlock)
    (b7 : W7.heap[P]? = some (.cells #[.slice Sf k cs, .map (some M), .int .i64 (-1), .bool false, .int .i64 0, .int .i64 0] 95 (0, 0))) (hx : (xs ++ [(zeros 512, wr.heap.size)]).length = k + 1) :
    NewAt w0 (W7.setCell ⟨P, 0, none⟩ (.slice A7 (k + 1) c7)) P M (k + 1) A7 c7 (xs ++ [(zeros 512, wr.heap.size)]) := by
  have hown := Rep.acc_own h.acc
  have hown7 := Rep.acc_own q2
  have hpos := h.pos
  have s6 := hb6.size
  have s7 := q3.size
  have hs5 : (v5.alloc (.cells u 71)).heap.size = v5.heap.size + 1 := by simp
  refine ⟨hx, heap_setRow b7, Rep.acc_keep (fun b hb _ => Below.heap_setCell _ _ _ _ ?_) (fun _ hb _ => hb) q2, ?_, ?_, ?_, fun x hx => ?_, ⟨hpos.1, hpos.2.1, by simp; omega⟩⟩
  · show b ≠ P
    rcases hb with hb | hb
    · have hb' : P < b := hb; omega
    · have := (hown7 b hb).1; omega
  · rw [Below.heap_setCell _ _ _ _ (show M ≠ P by omega), q3.block M (by omega) (fun e => by have := (hown M e.symm).1; omega), hb6.block M (by omega)]
    exact h.map
  · exact below_set ((h.bel.trans (hb6.mono h.bel.size)).grown q3 (by have := h.bel.size; omega) (fun b hb => by have := (hown b hb).1; omega)) (by omega)
  · rw [List.map_append, List.nodup_append]
    refine ⟨h.dis, by simp, fun a ha b hb => ?_⟩
    simp at hb
    obtain ⟨x, hx, rfl⟩ := List.mem_map.1 ha
    have := (h.lt x hx).2
    omega
  · have hz : (W7.setCell ⟨P, 0, none⟩ (.slice A7 (k + 1) c7)).heap.size = W7.heap.size := by simp
    rw [hz]
    rcases List.mem_append.1 hx with hx | hx
    · have := h.lt x hx; omega
    · simp at hx; rw [hx]; exact ⟨hpos.2.2, by show wr.heap.size < _; omega⟩

set_option maxRecDepth 100000 in
set_option maxHeartbeats 400000 in
/-- disk.New -/
theorem dnew_calls {n : Int} (h0 : 0 ≤ n) (h1 : n ≤ 4096) (w : World) : Calls Tryz.prog 11 #[.int .i64 n] w (NewPost w n) := by
  have hmk : ∀ w, (Instr.makeSlice 71 (.int .i64 512) (.int .i64 512)).run Tryz.prog w = .ok (.slice (some ⟨w.heap.size, 0, none⟩) 512 512) (w.alloc (.cells (zeroBytes 512) 5)) :=
    fun w => run_make_bytes Tryz.underlying71 info5 512 (by omega) w
  have hmm := @run_makeMap Tryz.prog
  obtain ⟨Z, hZ⟩ : ∃ Z, Z = zeroBytes 512 := ⟨_, rfl⟩
  rw [← hZ] at hmk
  have HZ := Lib.hid (show Z = ((zeros 512).map cell).toArray by rw [hZ, zeroBytes_is])
  clear hZ
  obtain ⟨N, hN⟩ : ∃ N, N = newN n := ⟨_, rfl⟩
  have hcase : n = (N : Int) := by rcases newN_cases n with h | h | h <;> omega
  have HN := Lib.hid hN
  have HN4 := Lib.hid (show N ≤ 4096 by omega)
  clear hN
  obtain ⟨W1, hW1⟩ : ∃ W1, w.alloc (.map #[] 0) = W1 := ⟨_, rfl⟩
  have hm1 : W1.heap[w.heap.size]? = some (.map #[] 0) := by rw [← hW1]; exact heap_alloc_new _ _
  have hb1 : Below w.heap.size w W1 := by rw [← hW1]; exact (Below.refl _ _).alloc (Nat.le_refl _) _
  have hz1 : W1.heap.size = w.heap.size + 1 := by rw [← hW1]; simp
  obtain ⟨W2, hW2⟩ : ∃ W2, W1.alloc (.cells #[.slice none 0 0, .map (some w.heap.size), .int .i64 (-1), .bool false, .int .i64 0, .int .i64 0] 95) = W2 := ⟨_, rfl⟩
  have hz2 : W2.heap.size = w.heap.size + 1 + 1 := by rw [← hW2]; simp [hz1]
  have H0 := Lib.hid (show NewAt w W2 (w.heap.size + 1) w.heap.size 0 none 0 [] from ⟨rfl, by rw [← hW2, ← hz1]; exact heap_alloc_new _ _, Rep.acc_nil, by rw [← hW2, heap_alloc_old _ _ (by omega)]; exact hm1, by rw [← hW2]; exact hb1.alloc (by omega) _, by simp, by simp, ⟨Nat.le_refl _, by omega, by omega⟩⟩)
  clear hm1 hb1
  subst hcase
  go_enter Tryz.func11, Tryz.ntmps11
  go_wp2_with fail
  try rw [hW1]
  try rw [hW2]
  go_wp2_with fail
  clear hW1 hW2 hz1 hz2
  go_loopw [10] (fun i wr => ∃ (k : Nat) (Sf : Option Addr) (cs : Nat) (xs : List (List UInt8 × Nat)), i = .int .i64 k ∧ k ≤ N ∧ NewAt w wr (w.heap.size + 1) w.heap.size k Sf cs xs ∧ Hid (∀ x ∈ xs, x.1 = zeros 512)) (fun i _ => N - (intOf i).toNat)
  case atStart => exact ⟨0, none, 0, [], rfl, Nat.zero_le _, H0.out, fun x hx => by simp at hx⟩
  case round =>
    obtain ⟨k, Sf, cs, xs, rfl, hk, hr, hall⟩ := hrel
    have HR := Lib.hid hr
    by_cases hlt : (k : Int) < N
    · have hk2 : k < 4096 := by have := HN4.out; omega
      have hgb := hr.blk
      have hgp := hr.pos
      have c0 := cell_row hr.blk 0
      clear hr
      go_wp2_with fail
      refine wp_region_any (by kernel_rfl) ?_
      try (change wpAny _ _ _ _ _ _ _ (World.drew _))
      refine wpAny_take (i := 0) (v := .pointer (some ⟨w.heap.size + 1, 0, none⟩)) rfl (by kernel_rfl) (by kernel_rfl) (by kernel_rfl) (fun _ _ _ h => h) (Or.inl ⟨by rfl, fun w' => by go_simp⟩) ?_
      go_simp
      refine wpAny_take (i := 1) (v := .pointer (some ⟨w.heap.size + 1, 0, none⟩)) rfl (by kernel_rfl) (by kernel_rfl) (by kernel_rfl) (fun _ _ _ h => h) (Or.inl ⟨by rfl, fun w' => by go_simp⟩) ?_
      go_simp
      refine wpAny_take (i := 2) (v := .pointer (some ⟨w.heap.size + 1, 0, none⟩)) rfl (by kernel_rfl) (by kernel_rfl) (by kernel_rfl) (fun _ _ _ h => h) (Or.inl ⟨by rfl, fun w' => by go_simp⟩) ?_
      go_simp
      refine wpAny_take (i := 3) (v := .pointer (some ⟨w.heap.size + 1, 0, none⟩)) rfl (by kernel_rfl) (by kernel_rfl) (by kernel_rfl) (fun _ _ _ h => h) (Or.inl ⟨by rfl, fun w' => by go_simp⟩) ?_
      go_simp
      refine any_step [4, 5] (by kernel_rfl) (by simp) ?_
      intro j hj
      rcases (by simpa using hj : j = 4 ∨ j = 5) with rfl | rfl
      · refine wpOp_step rfl (fun K hK => ?_)
        go_simp
        refine hK _ _ ?_
        clear hK K
        refine any_step [5] (by kernel_rfl) (by simp) ?_
        intro j hj
        obtain rfl : j = 5 := by simpa using hj
        refine wpOp_step rfl (fun K hK => ?_)
        go_simp
        refine hK _ _ ?_
        clear hK K
        have HB5 := Lib.hid (show Below wr.heap.size wr (wr.alloc (.cells Z 5)).drew from ((Below.refl _ _).alloc (Nat.le_refl _) _).drew)
        have HS5 := Lib.hid (show SecAt (wr.alloc (.cells Z 5)).drew wr.heap.size 5 (zeros 512) from ⟨by rw [← HZ.out]; exact heap_alloc_new wr _, zeros_length _⟩)
        have c5 := (HB5.out.cell (p := ⟨w.heap.size + 1, 0, none⟩) hgp.2.2).trans c0
        generalize (wr.alloc (.cells Z 5)).drew = W5 at *
        refine any_step [6] (by kernel_rfl) (by simp) ?_
        intro j hj
        obtain rfl : j = 6 := by simpa using hj
        refine wpOp_step rfl (fun K hK => ?_)
        refine step_run rfl (exec_buildSlice (vy := .slice (some ⟨wr.heap.size, 0, none⟩) 512 512) rfl (.slice none 0 0) 1 Tryz.underlying28 info22' rfl rfl (by decide)) ?_
        go_simp
        refine hK _ _ ?_
        clear hK K
        have HB6 := Lib.hid (HB5.out.alloc HB5.out.size (.cells #[.slice (some ⟨wr.heap.size, 0, none⟩) 512 512] 71))
        have c6 := (HB6.out.cell (p := ⟨w.heap.size + 1, 0, none⟩) hgp.2.2).trans c0
        have hg6 := heap_alloc_new W5 (.cells #[.slice (some ⟨wr.heap.size, 0, none⟩) 512 512] 71)
        have hz6 : (W5.alloc (.cells #[.slice (some ⟨wr.heap.size, 0, none⟩) 512 512] 71)).heap.size = W5.heap.size + 1 := by simp
        have hacc6 : rSec.acc 71 (w.heap.size + 1 + 1) (fun b => w.heap.size + 1 < b) (W5.alloc (.cells #[.slice (some ⟨wr.heap.size, 0, none⟩) 512 512] 71)) (.slice Sf k cs) xs :=
          Rep.acc_keep (fun b _ hl => HB6.out.block b hl.lt) (fun _ hb _ => hb) HR.out.acc
        have hown := Rep.acc_own HR.out.acc
        have hrd6 : rSec.rd (fun b => w.heap.size + 1 < b ∧ (Value.slice Sf k cs).ownBlock ≠ some b) (W5.alloc (.cells #[.slice (some ⟨wr.heap.size, 0, none⟩) 512 512] 71)) [.slice (some ⟨wr.heap.size, 0, none⟩) 512 512] (zeros 512, wr.heap.size) :=
          ⟨rfl, ⟨hgp.2.2, fun e => by have := (hown _ e).2; omega⟩, HS5.out.keep (heap_alloc_old _ _ HS5.out.lt)⟩
        obtain ⟨v', W7, q1, q2, q3, q4⟩ := Rep.acc_more (P := Tryz.prog) (ty := 28) (ys := [(zeros 512, wr.heap.size)]) (A := some ⟨W5.heap.size, 0, none⟩) (m := 1) (c := 1) Tryz.underlying28 info22 rfl (by decide) rfl hacc6 rfl (Rep.row_one_elem hrd6)
          (fun _ => ⟨W5.heap.size, 0, rfl, fun j u hj => by rw [cell_of_row _ _ _ _ _ _ hg6, Nat.zero_add, ← hj]; simp⟩) (by have := HR.out.len; simp; unfold maxLen; omega) (by have := HR.out.len; simp; omega) (by have := HB6.out.size; omega)
        obtain ⟨A7, c7, rfl, hf1, hf2⟩ := Rep.acc_form q2
        have hxl : (xs ++ [(zeros 512, wr.heap.size)]).length = k + 1 := by rw [List.length_append, HR.out.len]; rfl
        rw [hxl] at q1 q2 q4
        refine any_step [7] (by kernel_rfl) (by simp) ?_
        intro j hj
        obtain rfl : j = 7 := by simpa using hj
        refine wpOp_step rfl (fun K hK => ?_)
        refine step_run rfl (exec_append (by rfl) (by rfl) (by rfl) q1) ?_
        go_simp
        refine hK _ _ ?_
        clear hK K
        have hPne : ∀ W8 : World, (W5.alloc (.cells #[.slice (some ⟨wr.heap.size, 0, none⟩) 512 512] 71)).grownBy W8 (Value.slice Sf k cs).ownBlock → W8.heap[w.heap.size + 1]? = wr.heap[w.heap.size + 1]? := fun W8 hg => (hg.block _ (by have := HB6.out.size; omega) (fun e => by have := (hown _ e.symm).1; omega)).trans (HB6.out.block _ hgp.2.2)
        have b7 := (hPne W7 q3).trans hgb
        obtain ⟨d0, z0⟩ := rw1 b7
        refine wpAny_take (i := 8) (v := .pointer (some ⟨w.heap.size + 1, 0, none⟩)) rfl (by kernel_rfl) (by kernel_rfl) (by kernel_rfl) (fun _ _ _ h => h) (Or.inl ⟨by rfl, fun w' => by go_simp⟩) ?_
        go_simp
        refine wpAny_take (i := 9) (v := .pointer (some ⟨w.heap.size + 1, 0, none⟩)) rfl (by kernel_rfl) (by kernel_rfl) (by kernel_rfl) (fun _ _ _ h => h) (Or.inl ⟨by rfl, fun w' => by go_simp⟩) ?_
        go_simp
        refine any_step [10] (by kernel_rfl) (by simp) ?_
        intro j hj
        obtain rfl : j = 10 := by simpa using hj
        refine wpOp_step rfl (fun K hK => ?_)
        go_simp
        refine hK _ _ ?_
        clear hK K
        have HNEW := Lib.hid (new_step (w0 := w) (v5 := W5) HR.out HB6.out HS5.out.lt q2 q3 b7 hxl)
        have HALL := Lib.hid (show ∀ x ∈ xs ++ [(zeros 512, wr.heap.size)], x.1 = zeros 512 from fun x hx => by rcases List.mem_append.1 hx with hx | hx; exact hall x hx; simp at hx; rw [hx])
        refine wpAny_done (by kernel_rfl) ?_ _
        clear q1 q2 q3 q4 b7 d0 z0 hrd6 hacc6 hg6 hz6 hPne hown
        go_wp2_with fail
        exact ⟨⟨k + 1, _, _, _, by go_num, by omega, HNEW.out, HALL.out⟩, by simp [intOf]; omega⟩
      · refine wpOp_step rfl (fun K hK => ?_)
        go_simp
        refine hK _ _ ?_
        clear hK K
        have HB5 := Lib.hid (show Below wr.heap.size wr (wr.alloc (.cells Z 5)).drew from ((Below.refl _ _).alloc (Nat.le_refl _) _).drew)
        have HS5 := Lib.hid (show SecAt (wr.alloc (.cells Z 5)).drew wr.heap.size 5 (zeros 512) from ⟨by rw [← HZ.out]; exact heap_alloc_new wr _, zeros_length _⟩)
        have c5 := (HB5.out.cell (p := ⟨w.heap.size + 1, 0, none⟩) hgp.2.2).trans c0
        generalize (wr.alloc (.cells Z 5)).drew = W5 at *
        refine any_step [4, 6] (by kernel_rfl) (by simp) ?_
        intro j hj
        rcases (by simpa using hj : j = 4 ∨ j = 6) with rfl | rfl
        · refine wpOp_step rfl (fun K hK => ?_)
          go_simp
          refine hK _ _ ?_
          clear hK K
          refine any_step [6] (by kernel_rfl) (by simp) ?_
          intro j hj
          obtain rfl : j = 6 := by simpa using hj
          refine wpOp_step rfl (fun K hK => ?_)
          refine step_run rfl (exec_buildSlice (vy := .slice (some ⟨wr.heap.size, 0, none⟩) 512 512) rfl (.slice none 0 0) 1 Tryz.underlying28 info22' rfl rfl (by decide)) ?_
          go_simp
          refine hK _ _ ?_
          clear hK K
          have HB6 := Lib.hid (HB5.out.alloc HB5.out.size (.cells #[.slice (some ⟨wr.heap.size, 0, none⟩) 512 512] 71))
          have c6 := (HB6.out.cell (p := ⟨w.heap.size + 1, 0, none⟩) hgp.2.2).trans c0
          have hg6 := heap_alloc_new W5 (.cells #[.slice (some ⟨wr.heap.size, 0, none⟩) 512 512] 71)
          have hz6 : (W5.alloc (.cells #[.slice (some ⟨wr.heap.size, 0, none⟩) 512 512] 71)).heap.size = W5.heap.size + 1 := by simp
          have hacc6 : rSec.acc 71 (w.heap.size + 1 + 1) (fun b => w.heap.size + 1 < b) (W5.alloc (.cells #[.slice (some ⟨wr.heap.size, 0, none⟩) 512 512] 71)) (.slice Sf k cs) xs :=
            Rep.acc_keep (fun b _ hl => HB6.out.block b hl.lt) (fun _ hb _ => hb) HR.out.acc
          have hown := Rep.acc_own HR.out.acc
          have hrd6 : rSec.rd (fun b => w.heap.size + 1 < b ∧ (Value.slice Sf k cs).ownBlock ≠ some b) (W5.alloc (.cells #[.slice (some ⟨wr.heap.size, 0, none⟩) 512 512] 71)) [.slice (some ⟨wr.heap.size, 0, none⟩) 512 512] (zeros 512, wr.heap.size) :=
            ⟨rfl, ⟨hgp.2.2, fun e => by have := (hown _ e).2; omega⟩, HS5.out.keep (heap_alloc_old _ _ HS5.out.lt)⟩
          obtain ⟨v', W7, q1, q2, q3, q4⟩ := Rep.acc_more (P := Tryz.prog) (ty := 28) (ys := [(zeros 512, wr.heap.size)]) (A := some ⟨W5.heap.size, 0, none⟩) (m := 1) (c := 1) Tryz.underlying28 info22 rfl (by decide) rfl hacc6 rfl (Rep.row_one_elem hrd6)
            (fun _ => ⟨W5.heap.size, 0, rfl, fun j u hj => by rw [cell_of_row _ _ _ _ _ _ hg6, Nat.zero_add, ← hj]; simp⟩) (by have := HR.out.len; simp; unfold maxLen; omega) (by have := HR.out.len; simp; omega) (by have := HB6.out.size; omega)
          obtain ⟨A7, c7, rfl, hf1, hf2⟩ := Rep.acc_form q2
          have hxl : (xs ++ [(zeros 512, wr.heap.size)]).length = k + 1 := by rw [List.length_append, HR.out.len]; rfl
          rw [hxl] at q1 q2 q4
          refine any_step [7] (by kernel_rfl) (by simp) ?_
          intro j hj
          obtain rfl : j = 7 := by simpa using hj
          refine wpOp_step rfl (fun K hK => ?_)
          refine step_run rfl (exec_append (by rfl) (by rfl) (by rfl) q1) ?_
          go_simp
          refine hK _ _ ?_
          clear hK K
          have hPne : ∀ W8 : World, (W5.alloc (.cells #[.slice (some ⟨wr.heap.size, 0, none⟩) 512 512] 71)).grownBy W8 (Value.slice Sf k cs).ownBlock → W8.heap[w.heap.size + 1]? = wr.heap[w.heap.size + 1]? := fun W8 hg => (hg.block _ (by have := HB6.out.size; omega) (fun e => by have := (hown _ e.symm).1; omega)).trans (HB6.out.block _ hgp.2.2)
          have b7 := (hPne W7 q3).trans hgb
          obtain ⟨d0, z0⟩ := rw1 b7
          refine wpAny_take (i := 8) (v := .pointer (some ⟨w.heap.size + 1, 0, none⟩)) rfl (by kernel_rfl) (by kernel_rfl) (by kernel_rfl) (fun _ _ _ h => h) (Or.inl ⟨by rfl, fun w' => by go_simp⟩) ?_
          go_simp
          refine wpAny_take (i := 9) (v := .pointer (some ⟨w.heap.size + 1, 0, none⟩)) rfl (by kernel_rfl) (by kernel_rfl) (by kernel_rfl) (fun _ _ _ h => h) (Or.inl ⟨by rfl, fun w' => by go_simp⟩) ?_
          go_simp
          refine any_step [10] (by kernel_rfl) (by simp) ?_
          intro j hj
          obtain rfl : j = 10 := by simpa using hj
          refine wpOp_step rfl (fun K hK => ?_)
          go_simp
          refine hK _ _ ?_
          clear hK K
          have HNEW := Lib.hid (new_step (w0 := w) (v5 := W5) HR.out HB6.out HS5.out.lt q2 q3 b7 hxl)
          have HALL := Lib.hid (show ∀ x ∈ xs ++ [(zeros 512, wr.heap.size)], x.1 = zeros 512 from fun x hx => by rcases List.mem_append.1 hx with hx | hx; exact hall x hx; simp at hx; rw [hx])
          refine wpAny_done (by kernel_rfl) ?_ _
          clear q1 q2 q3 q4 b7 d0 z0 hrd6 hacc6 hg6 hz6 hPne hown
          go_wp2_with fail
          exact ⟨⟨k + 1, _, _, _, by go_num, by omega, HNEW.out, HALL.out⟩, by simp [intOf]; omega⟩
        · refine wpOp_step rfl (fun K hK => ?_)
          refine step_run rfl (exec_buildSlice (vy := .slice (some ⟨wr.heap.size, 0, none⟩) 512 512) rfl (.slice none 0 0) 1 Tryz.underlying28 info22' rfl rfl (by decide)) ?_
          go_simp
          refine hK _ _ ?_
          clear hK K
          have HB6 := Lib.hid (HB5.out.alloc HB5.out.size (.cells #[.slice (some ⟨wr.heap.size, 0, none⟩) 512 512] 71))
          have c6 := (HB6.out.cell (p := ⟨w.heap.size + 1, 0, none⟩) hgp.2.2).trans c0
          refine any_step [4] (by kernel_rfl) (by simp) ?_
          intro j hj
          obtain rfl : j = 4 := by simpa using hj
          refine wpOp_step rfl (fun K hK => ?_)
          go_simp
          refine hK _ _ ?_
          clear hK K
          have hg6 := heap_alloc_new W5 (.cells #[.slice (some ⟨wr.heap.size, 0, none⟩) 512 512] 71)
          have hz6 : (W5.alloc (.cells #[.slice (some ⟨wr.heap.size, 0, none⟩) 512 512] 71)).heap.size = W5.heap.size + 1 := by simp
          have hacc6 : rSec.acc 71 (w.heap.size + 1 + 1) (fun b => w.heap.size + 1 < b) (W5.alloc (.cells #[.slice (some ⟨wr.heap.size, 0, none⟩) 512 512] 71)) (.slice Sf k cs) xs :=
            Rep.acc_keep (fun b _ hl => HB6.out.block b hl.lt) (fun _ hb _ => hb) HR.out.acc
          have hown := Rep.acc_own HR.out.acc
          have hrd6 : rSec.rd (fun b => w.heap.size + 1 < b ∧ (Value.slice Sf k cs).ownBlock ≠ some b) (W5.alloc (.cells #[.slice (some ⟨wr.heap.size, 0, none⟩) 512 512] 71)) [.slice (some ⟨wr.heap.size, 0, none⟩) 512 512] (zeros 512, wr.heap.size) :=
            ⟨rfl, ⟨hgp.2.2, fun e => by have := (hown _ e).2; omega⟩, HS5.out.keep (heap_alloc_old _ _ HS5.out.lt)⟩
          obtain ⟨v', W7, q1, q2, q3, q4⟩ := Rep.acc_more (P := Tryz.prog) (ty := 28) (ys := [(zeros 512, wr.heap.size)]) (A := some ⟨W5.heap.size, 0, none⟩) (m := 1) (c := 1) Tryz.underlying28 info22 rfl (by decide) rfl hacc6 rfl (Rep.row_one_elem hrd6)
            (fun _ => ⟨W5.heap.size, 0, rfl, fun j u hj => by rw [cell_of_row _ _ _ _ _ _ hg6, Nat.zero_add, ← hj]; simp⟩) (by have := HR.out.len; simp; unfold maxLen; omega) (by have := HR.out.len; simp; omega) (by have := HB6.out.size; omega)
          obtain ⟨A7, c7, rfl, hf1, hf2⟩ := Rep.acc_form q2
          have hxl : (xs ++ [(zeros 512, wr.heap.size)]).length = k + 1 := by rw [List.length_append, HR.out.len]; rfl
          rw [hxl] at q1 q2 q4
          refine any_step [7] (by kernel_rfl) (by simp) ?_
          intro j hj
          obtain rfl : j = 7 := by simpa using hj
          refine wpOp_step rfl (fun K hK => ?_)
          refine step_run rfl (exec_append (by rfl) (by rfl) (by rfl) q1) ?_
          go_simp
          refine hK _ _ ?_
          clear hK K
          have hPne : ∀ W8 : World, (W5.alloc (.cells #[.slice (some ⟨wr.heap.size, 0, none⟩) 512 512] 71)).grownBy W8 (Value.slice Sf k cs).ownBlock → W8.heap[w.heap.size + 1]? = wr.heap[w.heap.size + 1]? := fun W8 hg => (hg.block _ (by have := HB6.out.size; omega) (fun e => by have := (hown _ e.symm).1; omega)).trans (HB6.out.block _ hgp.2.2)
          have b7 := (hPne W7 q3).trans hgb
          obtain ⟨d0, z0⟩ := rw1 b7
          refine wpAny_take (i := 8) (v := .pointer (some ⟨w.heap.size + 1, 0, none⟩)) rfl (by kernel_rfl) (by kernel_rfl) (by kernel_rfl) (fun _ _ _ h => h) (Or.inl ⟨by rfl, fun w' => by go_simp⟩) ?_
          go_simp
          refine wpAny_take (i := 9) (v := .pointer (some ⟨w.heap.size + 1, 0, none⟩)) rfl (by kernel_rfl) (by kernel_rfl) (by kernel_rfl) (fun _ _ _ h => h) (Or.inl ⟨by rfl, fun w' => by go_simp⟩) ?_
          go_simp
          refine any_step [10] (by kernel_rfl) (by simp) ?_
          intro j hj
          obtain rfl : j = 10 := by simpa using hj
          refine wpOp_step rfl (fun K hK => ?_)
          go_simp
          refine hK _ _ ?_
          clear hK K
          have HNEW := Lib.hid (new_step (w0 := w) (v5 := W5) HR.out HB6.out HS5.out.lt q2 q3 b7 hxl)
          have HALL := Lib.hid (show ∀ x ∈ xs ++ [(zeros 512, wr.heap.size)], x.1 = zeros 512 from fun x hx => by rcases List.mem_append.1 hx with hx | hx; exact hall x hx; simp at hx; rw [hx])
          refine wpAny_done (by kernel_rfl) ?_ _
          clear q1 q2 q3 q4 b7 d0 z0 hrd6 hacc6 hg6 hz6 hPne hown
          go_wp2_with fail
          exact ⟨⟨k + 1, _, _, _, by go_num, by omega, HNEW.out, HALL.out⟩, by simp [intOf]; omega⟩
    · have hke : k = N := by omega
      have HK := Lib.hid hke
      go_wp2_with fail
      go_ret
      exact ⟨_, _, Sf, cs, xs, rfl, by rw [← HN.out, ← HK.out]; exact HR.out, hall⟩
end Go.Proofs.YtghbfbohnoebiaaGreat
namespace Go.Proofs.YtghbfbohnoebiaaGreat
open Go.RowKit
open Extern.Stop (cell)

theorem sec_row {Q Q' : Nat → Prop} {W : World} : ∀ {xs : List (List UInt8 × Nat)} {cs : List Value}, rSec.row Q W cs xs → (∀ x ∈ xs, Q x.2 → Q' x.2) → Rep.byte.list.row Q' W cs (xs.map (·.1))
  | [], _, h, _ => h
  | x :: xs, _, h, hq => by
    obtain ⟨es, rest, rfl, ⟨rfl, h1, h2⟩, h3⟩ := h
    refine ⟨_, rest, rfl, ?_, sec_row h3 fun y hy => hq y (by simp [hy])⟩
    have hv := h2.sl (a := 0) (n := 512) (c := 512) (by omega) (by omega) (by simp [maxLen])
    rw [List.drop_zero, List.take_of_length_le (by rw [h2.len]; omega)] at hv
    have hv2 := Rep.val_mono (Q' := Q') (fun b hb _ => by have : b = x.2 := hb; rw [this]; exact hq x (by simp) h1) hv
    obtain ⟨A', c', he, g1, g2, es, g3, g4⟩ := Rep.val_list hv2
    have hlen := h2.len
    rw [hlen] at he
    cases he
    exact ⟨_, _, es, by rw [hlen], g1, g2, g3, g4⟩
def newSt (l : List (List UInt8)) : DiskSt := ⟨l, fun _ => [], -1, false, 0, 0⟩
theorem empty_map {W : World} {M : Nat} (h : W.heap[M]? = some (.map #[] 0)) : W.ownsMap Tryz.prog 3 heldElem M 0 (.map []) :=
  ⟨#[], 0, h, ⟨by simp, Go.MapKept.stamped_empty 0, by simp⟩, Nat.le_refl _, rfl⟩
/-- A new device is a device. -/
theorem NewAt.disk {w0 W : World} {P M k : Nat} {Sf : Option Addr} {cs : Nat} {xs : List (List UInt8 × Nat)} (h : NewAt w0 W P M k Sf cs xs) :
    DiskAt W P (fun b => b = P ∨ b = M ∨ (Value.slice Sf k cs).ownBlock = some b) (fun b => b ∈ xs.map (·.2) ∧ (Value.slice Sf k cs).ownBlock ≠ some b) 0 (newSt (xs.map (·.1))) := by
  have hl : (xs.map (·.1)).length = k := by rw [List.length_map]; exact h.len
  have hown := Rep.acc_own h.acc
  have hpos := h.pos
  refine ⟨Sf, cs, M, .map [], ⟨?_, ?_, empty_map h.map, fun i => Rep.acc_nil, fun i => Nat.le_refl _, fun i hi => absurd rfl hi, rfl, .inl rfl, .inr (.inl rfl), ?_, fun i b hb => (by cases hb), fun i b hb => (by cases hb), fun i j b _ hb => (by cases hb), fun b hb hB => ?_, fun b hb => ?_, fun i hi => by cases hi⟩⟩
  · show W.heap[P]? = some (.cells #[.slice Sf (xs.map (·.1)).length cs, _, _, _, _, _] _ _)
    rw [hl]; exact h.blk
  · show Rep.byte.list.acc 71 0 _ W (.slice Sf (xs.map (·.1)).length cs) (xs.map (·.1))
    rw [hl]
    obtain ⟨cells, h1, h2⟩ := h.acc
    refine ⟨cells, ⟨?_, ?_⟩, ?_⟩
    · have := h1.1; rw [this, h.len, hl]; rfl
    · rcases h1.2 with ⟨e, e0⟩ | ⟨g, cap, cur, e, hb, hh, g1, g2, g3, g4⟩
      · exact .inl ⟨e, by rw [hl]; rw [h.len] at e0; exact e0⟩
      · rw [h.len] at e g1 g4
        exact .inr ⟨g, cap, cur, by rw [hl]; exact e, Nat.zero_le _, hh, by rw [hl]; exact g1, g2, g3, by rw [hl]; exact g4⟩
    · exact sec_row h2 fun x hx hq => ⟨⟨List.mem_map.2 ⟨x, hx, rfl⟩, hq.2⟩, hq.2⟩
  · show ∀ b, (Value.slice Sf (xs.map (·.1)).length cs).ownBlock = some b → _
    rw [hl]; exact fun b hb => .inr (.inr hb)
  · obtain ⟨x, hx, rfl⟩ := List.mem_map.1 hB.1
    have := (h.lt x hx).1
    rcases hb with hb | hb | hb
    · omega
    · omega
    · exact hB.2 hb
  · rcases hb with (hb | hb | hb) | hb
    · omega
    · omega
    · exact (hown b hb).2
    · obtain ⟨x, hx, rfl⟩ := List.mem_map.1 hb.1
      exact (h.lt x hx).2

theorem row_set {Q : Nat → Prop} {W W' : World} {C : List UInt8} {bk : Nat} : ∀ {xs : List (List UInt8 × Nat)} {cs : List Value} {k : Nat} (_ : k < xs.length) (_ : (xs.map (·.2)).Nodup) (_ : rSec.row Q W cs xs) (_ : (xs[k]'‹_›).2 = bk) (_ : SecAt W' bk 5 C) (_ : ∀ b, b ≠ bk → W'.heap[b]? = W.heap[b]?), rSec.row Q W' cs (xs.set k (C, bk))
  | [], _, k, hk, _, _, _, _, _ => by simp at hk
  | x :: xs, _, 0, hk, hd, h, hbk, hc, hw => by
    obtain ⟨es, rest, rfl, ⟨rfl, h1, h2⟩, h3⟩ := h
    have e : x.2 = bk := hbk
    refine ⟨_, rest, rfl, ⟨by rw [← e], e ▸ h1, hc⟩, ?_⟩
    have hd2 := (List.nodup_cons.1 hd).1
    have : ∀ {ys : List (List UInt8 × Nat)} {cs : List Value}, (∀ y ∈ ys, y.2 ≠ bk) → rSec.row Q W cs ys → rSec.row Q W' cs ys := by
      intro ys
      induction ys with
      | nil => intro cs _ h; exact h
      | cons y ys ih =>
        intro cs hne h
        obtain ⟨es, rest, rfl, ⟨rfl, g1, g2⟩, g3⟩ := h
        exact ⟨_, rest, rfl, ⟨rfl, g1, g2.keep (hw _ (hne y (by simp)))⟩, ih (fun z hz => hne z (by simp [hz])) g3⟩
    exact this (fun y hy e2 => hd2 (List.mem_map.2 ⟨y, hy, e2.trans e.symm⟩)) h3
  | x :: xs, _, k + 1, hk, hd, h, hbk, hc, hw => by
    obtain ⟨es, rest, rfl, ⟨rfl, h1, h2⟩, h3⟩ := h
    have hd2 := (List.nodup_cons.1 hd)
    have hk2 : k < xs.length := by simpa using hk
    have hne : x.2 ≠ bk := fun e => hd2.1 (List.mem_map.2 ⟨xs[k], List.getElem_mem hk2, hbk.trans e.symm⟩)
    exact ⟨_, rest, rfl, ⟨rfl, h1, h2.keep (hw _ hne)⟩, row_set hk2 hd2.2 h3 hbk hc hw⟩
theorem NewAt.set {w0 W W' : World} {P M k j : Nat} {Sf : Option Addr} {cs : Nat} {xs : List (List UInt8 × Nat)} {C : List UInt8} {bk : Nat} (h : NewAt w0 W P M k Sf cs xs) (hj : j < xs.length) (hbk : xs[j].2 = bk)
    (hc : SecAt W' bk 5 C) (hw : ∀ b, b ≠ bk → W'.heap[b]? = W.heap[b]?) (hs : W'.heap.size = W.heap.size) (ho : W'.os = W.os ∧ W'.tape = W.tape ∧ W'.output = W.output) (hne : (Value.slice Sf k cs).ownBlock ≠ some bk) :
    NewAt w0 W' P M k Sf cs (xs.set j (C, bk)) := by
  have hlt := h.lt xs[j] (List.getElem_mem hj)
  rw [hbk] at hlt
  have hpos := h.pos
  have hmap : (xs.set j (C, bk)).map (·.2) = xs.map (·.2) := by
    rw [List.map_set]
    show (xs.map (·.2)).set j bk = xs.map (·.2)
    have : (xs.map (·.2))[j]'(by simpa using hj) = bk := by simp [hbk]
    rw [← this, List.set_getElem_self]
  obtain ⟨cells, h1, h2⟩ := h.acc
  refine ⟨by rw [List.length_set]; exact h.len, (hw P (by omega)).trans h.blk, ⟨cells, ?_, row_set hj h.dis h2 hbk hc hw⟩, (hw M (by omega)).trans h.map,
    ⟨ho.1.trans h.bel.os, ho.2.1.trans h.bel.tape, ho.2.2.trans h.bel.output, by rw [hs]; exact h.bel.size, fun b hb => (hw b (by omega)).trans (h.bel.block b hb)⟩, by rw [hmap]; exact h.dis, fun x hx => ?_, ⟨hpos.1, hpos.2.1, by rw [hs]; exact hpos.2.2⟩⟩
  · rw [List.length_set]
    refine ⟨h1.1, ?_⟩
    rcases h1.2 with e | ⟨g, cap, cur, e, hb, hh, r⟩
    · exact .inl e
    · refine .inr ⟨g, cap, cur, e, hb, (hw g (fun e2 => ?_)).trans hh, r⟩
      apply hne
      rw [e, e2]; rfl
  · rw [hs]
    rcases List.mem_or_eq_of_mem_set hx with hx | rfl
    · exact h.lt x hx
    · exact hlt

theorem NewAt.old {w0 W : World} {P M k : Nat} {Sf : Option Addr} {cs : Nat} {xs : List (List UInt8 × Nat)} (h : NewAt w0 W P M k Sf cs xs) : ∀ b, ((b = P ∨ b = M ∨ (Value.slice Sf k cs).ownBlock = some b) ∨ (b ∈ xs.map (·.2) ∧ (Value.slice Sf k cs).ownBlock ≠ some b)) → w0.heap.size ≤ b := by
  intro b hb
  have hpos := h.pos
  rcases hb with (hb | hb | hb) | hb
  · omega
  · omega
  · have := (Rep.acc_own h.acc b hb).1; omega
  · obtain ⟨x, hx, rfl⟩ := List.mem_map.1 hb.1
    have := (h.lt x hx).1; omega
end Go.Proofs.YtghbfbohnoebiaaGreat
namespace Go.Proofs.YtghbfbohnoebiaaGreat
open Go.RowKit

theorem At2.take {b x : List UInt8} {a : Nat} (h : At2 b a x) : (b.drop a).take x.length = x := by
  obtain ⟨A, C, ha, rfl⟩ := h
  rw [← ha, List.drop_left, List.take_left]
def superHead (x : DSuper) : List UInt8 := num 4 x.log ++ (num 4 x.pages ++ (num 8 x.head ++ (num 8 x.seq ++ num 4 x.long)))
def superBody (x : DSuper) : List UInt8 := superHead x ++ (x.dir.map (num 2)).flatten
def superBytes (x : DSuper) : List UInt8 := sealBytes ⟨x.epoch, x.gen, 3, superBody x⟩
theorem nums2_length (l : List Int) : ((l.map (num 2)).flatten).length = 2 * l.length := by
  induction l with
  | nil => rfl
  | cons x l ih => rw [List.map_cons, List.flatten_cons, List.length_append, ih, num_len2, List.length_cons]; omega
theorem superHead_length (x : DSuper) : (superHead x).length = 28 := by simp [superHead, num_len4, num_len8]
theorem superBody_length (x : DSuper) : (superBody x).length = 28 + 2 * x.dir.length := by
  unfold superBody; rw [List.length_append, superHead_length, nums2_length]
/-- Both stamps of a sector's epoch. -/
def wordOf (n : Int) : Int := if 0 ≤ n ∧ n ≤ maxEpoch then n else -1
def epochsOf (s : List UInt8) : Int × Int := if s.length = 512 then (wordOf (i64of (natAt s 0 8)), wordOf (i64of (natAt s 504 8))) else (-1, -1)
end Go.Proofs.YtghbfbohnoebiaaGreat
namespace Go.Proofs.YtghbfbohnoebiaaGreat
open Go.RowKit

structure StSt where
  log : Int
  pages : Int
  epoch : Int
  slot : Int
  cur : DSuper
  flows : List DFlow
  other : List Int
  dead : Bool
/-- The layout of so many sectors. -/
def conf27 (log pages : Int) : DConf := ⟨log, pages, 1, 1, []⟩
def StSt.conf (x : StSt) : DConf := conf27 x.log x.pages
def noSuper : DSuper := ⟨0, 0, 0, 0, 0, 0, 0, []⟩
def blankS (log pages : Int) : StSt := ⟨log, pages, 0, 1, noSuper, [], [], false⟩
/-- A directory's bytes. -/
def dirFlows (l : List DFlow) : List UInt8 := dirBytes (l.map entryOf)
/-- How many pages are written for flows. -/
def needFlows (fl : List DFlow) : Int := (newsOf fl).length + pageCount ((dirFlows fl).length : Nat)
/-- May the keys be, and do they rise? -/
def riseAt (l : List DStream) (i : Nat) : Bool := match l[i]? with
  | none => true
  | some s => keyRight s.key && (decide (i = 0) || decide (keyOrder ((l.map (·.key)).getD (i - 1) ⟨0, 0, 0⟩) s.key < 0))
def riseB (l : List DStream) : Bool := (List.range l.length).all (riseAt l)
theorem rise_stop {l : List DStream} {k : Nat} (hk : k < l.length) (h : riseAt l k = false) : riseB l = false := by
  unfold riseB
  rw [Bool.eq_false_iff]
  intro h2
  rw [List.all_eq_true] at h2
  have := h2 k (List.mem_range.2 hk)
  rw [h] at this
  cases this
theorem rise_all {l : List DStream} (h : ∀ k, k < l.length → riseAt l k = true) : riseB l = true := by
  unfold riseB
  rw [List.all_eq_true]
  exact fun k hk => h k (List.mem_range.1 hk)
theorem rise_first {l : List DStream} {s : DStream} (h : l[0]? = some s) : riseAt l 0 = keyRight s.key := by
  unfold riseAt; rw [h]; simp
theorem rise_next {l : List DStream} {k : Nat} {s t : DStream} (ht : l[k]? = some t) (h : l[k + 1]? = some s) : riseAt l (k + 1) = (keyRight s.key && decide (keyOrder t.key s.key < 0)) := by
  unfold riseAt; rw [h]
  have e : (l.map (·.key)).getD (k + 1 - 1) ⟨0, 0, 0⟩ = t.key := by rw [Nat.add_sub_cancel, List.getD_eq_getElem?_getD, List.getElem?_map, ht]; rfl
  simp only [e]
  simp
/-- How many are free. -/
def freeN (refs : List Int) : Nat := refs.countP fun r => decide (r ≤ 0)
/-- The least one that is free is taken. -/
def takeOne (refs : List Int) : List Int × Int := match refs.findIdx? (fun r => decide (r = 0)) with
  | none => (refs, 0)
  | some i => (refs.set i 1, i)
/-- The page of a piece, where pages are given for those that have none. -/
def fillAt (l : List DFlow) (pages : List Int) (k i : Nat) : Int := match l[k]? with
  | none => 0
  | some f => if 0 ≤ pageAt f i then pageAt f i else pages.getD ((newsOf (l.take k)).length + (newsTo f i).length) 0
def fillFlow (l : List DFlow) (pages : List Int) (k : Nat) (n : Nat) : List Int := (List.range n).map (fillAt l pages k)
def fillOf (l : List DFlow) (pages : List Int) : List DFlow := (List.range l.length).map fun k => match l[k]? with
  | none => ⟨⟨0, 0, 0⟩, [], []⟩
  | some f => ⟨f.key, f.data, fillFlow l pages k (pieceCount f)⟩
def reachOf (flows : List DFlow) (x : DSuper) : List Int := pagesOf flows ++ x.dir
end Go.Proofs.YtghbfbohnoebiaaGreat
namespace Go.Proofs.YtghbfbohnoebiaaGreat
open Go.RowKit

theorem geomSuper_calls {i : Nat} (hi : i < 2) (w : World) : Calls Tryz.prog 105 #[.int .i64 i] w fun e w' => e = .returned (.int .i64 i) ∧ w' = w := by
  have h2 : (i : Int) < 2 := by omega
  go_enter Tryz.func105, Tryz.ntmps105
  go_wp2_with fail
  go_ret
  exact ⟨rfl, rfl⟩

/-- What is read of sectors, up to the first error. -/
def allSt (st : DiskSt) (is : List Int) : DiskSt × List (List UInt8) × Int := ((readAll st is).1, if (readAll st is).2.2 = 0 then (readAll st is).2.1 else [], (readAll st is).2.2)

set_option maxRecDepth 100000 in
set_option maxHeartbeats 2000000 in
/-- store.all at sectors -/
theorem allBytes_calls {W : World} {P X g : Nat} {F B : Nat → Prop} {n m : Nat} {st : DiskSt} {is : List Int} (hm : m ≤ 100000) (hlen : is.length = m) (h : DiskAt W P F B n st) (hen : ∀ (args : Array Value) (w : World), (callFunc g args).run Tryz.prog w = .ok (.enter g args) w)
    (hf : ∀ (k : Nat) (i : Int) (V : World) (s : DiskSt), is[k]? = some i → Only F W V → DiskAt V P F B n s → s.safe = st.safe → s.wait = st.wait → Calls Tryz.prog g #[.int .i64 k, .pointer (some ⟨X, 0, none⟩)] V (ReadPost F B P n V (readSt s i))) :
    Calls Tryz.prog 102 #[.int .i64 m, .func (.func g) #[] #[.pointer (some ⟨X, 0, none⟩)]] W (LoadPost F B P n W (allSt st is)) := by
  have HLT := Lib.hid (show ∀ b, F b ∨ B b → b < W.heap.size by obtain ⟨_, _, _, _, hh⟩ := h; exact hh.lt)
  have HD := Lib.hid h
  have HF := Lib.hid hf
  have HN := Lib.hid hlen
  have HZ := Lib.hid (show ∀ w' : World, Rep.byte.list.list.val (fun x => W.heap.size ≤ x) w' (.slice none 0 0) ([] : List (List UInt8)) from fun w => Rep.val_nil (by simp [maxLen]))
  clear h hf hlen
  go_enter Tryz.func102, Tryz.ntmps102
  go_wp2_with fail
  go_loopw [6, 11] (fun u i wr => ∃ (k : Nat) (s : DiskSt) (ls : List (List UInt8)), i = .int .i64 k ∧ k ≤ m ∧ Rep.byte.list.acc 71 W.heap.size (fun b => W.heap.size ≤ b) wr u ls ∧ DiskAt wr P F B n s ∧ Only F W wr ∧ Hid (Upto st is s ls k)) (fun _ i _ => m - (intOf i).toNat)
  case atStart => exact ⟨0, st, [], rfl, Nat.zero_le _, Rep.acc_nil, HD.out, Only.refl _ _, Upto.start _ _⟩
  case round =>
    obtain ⟨k, s, ls, rfl, hk, hacc, hd, ho, hup⟩ := hrel
    have HACC := Lib.hid hacc
    have HD3 := Lib.hid hd
    have HO3 := Lib.hid ho
    have hform := Rep.acc_form hacc
    obtain ⟨A6, c6, rfl, hc6, hm6⟩ := hform
    have HUP := Lib.hid hup.out
    have HLL := Lib.hid hup.out.2.2.1
    generalize hll : ls.length = len at *
    have HLEN := Lib.hid hll
    clear hacc hd ho hup hll
    by_cases hlt : (k : Int) < m
    · obtain ⟨i, hi⟩ : ∃ i, is[k]? = some i := ⟨_, List.getElem?_eq_getElem (by have := HN.out; omega)⟩
      have HGET := Lib.hid hi
      clear hi
      go_wp2_with fail
      refine (HF.out k i _ s HGET.out HO3.out HD3.out HUP.out.1 HUP.out.2.1).mono ?_
      rintro e w4 ⟨u, rfl, hu, hd4, ho4⟩
      have HNEXT := Lib.hid (fun h0 => HUP.out.next HGET.out h0)
      have HSTOP := Lib.hid (fun h0 => HUP.out.stop HGET.out h0)
      generalize readSt s i = r at *
      obtain ⟨s4, y, er⟩ := r
      dsimp only at *
      have HO4 := Lib.hid (HO3.out.trans ho4)
      have HD4 := Lib.hid hd4
      obtain ⟨A7, c7, rfl, hc7, hm7, _⟩ := Rep.val_list hu
      have HY := Lib.hid (show Rep.byte.list.val (fun b => W.heap.size ≤ b ∧ (Value.slice A6 len c6).ownBlock ≠ some b) w4 (.slice A7 y.length c7) y from Rep.val_mono (fun b hb _ => ⟨Nat.le_trans HO3.out.size hb, fun he => by have := (Rep.acc_own HACC.out b he).2; omega⟩) hu)
      have HACC4 := Lib.hid (show Rep.byte.list.acc 71 W.heap.size (fun b => W.heap.size ≤ b) w4 (.slice A6 len c6) ls from by
        refine Rep.acc_keep (fun b hb hl => ?_) (fun _ hb _ => hb) HACC.out
        have hge : W.heap.size ≤ b := hb.elim id fun e => (Rep.acc_own HACC.out b e).1
        exact ho4.block b hl.lt (fun hf => by have := HLT.out _ (.inl hf); omega))
      have HSZ4 := Lib.hid HO4.out.size
      clear hu hd4 ho4
      by_cases he0 : er = 0
      · subst he0
        have HL1 := Lib.hid (show ls.length + 1 ≤ maxLen ∧ (ls.length + 1) * 24 ≤ 140737488355328 by have := HLEN.out; have := HLL.out; unfold maxLen; omega)
        have iw : IntKind.i64.wrap ((k : Int) + 1) = (k : Int) + 1 := IntWalk.i64_in _ ⟨by omega, by omega⟩
        go_wp2_with (refine wpList_snoc (e := 71) (base := W.heap.size) (Q := fun b => W.heap.size ≤ b) (r := Rep.byte.list) rfl rfl _ _ 28 _ rfl rfl rfl (.slice none 0 0) 1 24 Tryz.underlying28 info22 rfl (by decide) rfl _ ls HACC4.out y _ (by exact rfl) HY.out (by exact rfl) (by exact rfl) HL1.out.1 HL1.out.2 HSZ4.out ?_; intro s' w' hacc' hgr hat)
        have hgb : Below W.heap.size w4 w' := (Below.refl _ _).grown hgr HSZ4.out (fun b hb => (Rep.acc_own HACC4.out b hb).1)
        refine ⟨⟨k + 1, s4, ls ++ [y], rfl, by omega, hacc', HD4.out.keep hgb.size (fun b hb => hgb.block b (HLT.out b hb)), HO4.out.grow hgb, HNEXT.out rfl⟩, ?_⟩
        show m - ((k : Int) + 1).toNat < m - (k : Int).toNat
        omega
      · have g0 : (er == 0) = false := by simpa using he0
        have HST := Lib.hid (HSTOP.out he0)
        have HNE := Lib.hid he0
        clear he0
        go_wp2_with fail
        go_ret2
        refine ⟨_, by unfold allSt; dsimp only; rw [HST.out.2]; rfl, by unfold allSt; dsimp only; rw [HST.out.2, if_neg HNE.out]; exact HZ.out _, by unfold allSt; dsimp only; rw [HST.out.1]; exact HD4.out, HO4.out⟩
    · have HALL := Lib.hid (HUP.out.all (by have := HN.out; omega))
      have HV6 := Lib.hid (show Rep.byte.list.list.val (fun b => W.heap.size ≤ b) wr (.slice A6 len c6) ls from by
        refine Rep.val_mono (fun b hb _ => ?_) (Rep.acc_val HACC.out)
        rcases hb with hb | hb
        · exact hb
        · exact (Rep.acc_own HACC.out b hb).1)
      go_wp2_with fail
      go_ret2
      exact ⟨_, by unfold allSt; rw [HALL.out]; rfl, by unfold allSt; rw [HALL.out]; exact HV6.out, by unfold allSt; rw [HALL.out]; exact HD3.out, HO3.out⟩

set_option maxRecDepth 100000 in
set_option maxHeartbeats 2000000 in
/-- store.supers, its closure -/
theorem supers1_calls {W : World} {P X : Nat} {F B : Nat → Prop} {n : Nat} {st : DiskSt} {i : Nat} (hi : i < 2) (h : DiskAt W P F B n st) (hX : W.cell? ⟨X, 0, none⟩ = some (.pointer (some ⟨P, 0, none⟩))) (hF : ¬ F X)
    (hl : ∀ x ∈ st.safe, x.length ≤ 100000) (hw : ∀ j, ∀ x ∈ st.wait j, x.length ≤ 100000) :
    Calls Tryz.prog 103 #[.int .i64 i, .pointer (some ⟨X, 0, none⟩)] W (ReadPost F B P n W (readSt st i)) := by
  have HD := Lib.hid h
  have HI := Lib.hid hi
  have HL := Lib.hid hl
  have HW := Lib.hid hw
  have HX := Lib.hid hX
  clear h hi hl hw
  go_enter Tryz.func103, Tryz.ntmps103
  go_wp2_with fail
  refine wp_region_held_drew (S := fun V => Only F W V) (by kernel_rfl) ((Only.refl _ _).drw) (fun s0 => ?_)
  obtain ⟨v1, hv1⟩ : ∃ V, V = W.drew := ⟨_, rfl⟩
  rw [← hv1] at s0 ⊢
  have HV1 := Lib.hid (show DiskAt v1 P F B n st by rw [hv1]; exact HD.out.below ((Below.refl _ _).drew))
  have t1 : Only F W v1 := s0
  clear hv1 s0
  refine tkH (i := 0) (v := .pointer (some ⟨P, 0, none⟩)) rfl (Or.inl ⟨by rfl, fun w' h => by have e := cell_only (h : Only F W w') hF HX.out; go_simp⟩) t1 ?_
  go_simp
  refine tkHV (i := 1) (v := .int .i64 i) rfl t1 ?_
  go_simp
  refine wpAnyH_all (rs := [2]) (by kernel_rfl) (by simp) ?_
  intro i2 hi2
  obtain rfl : i2 = 2 := by simpa using hi2
  clear hi2
  refine wpOp_step rfl (fun K hK => ?_)
  go_simp
  refine (geomSuper_calls HI.out _).mono ?_
  rintro e v2 ⟨rfl, hw2⟩
  obtain rfl := hw2.symm
  refine hK _ _ ⟨t1, ?_⟩
  clear hK K hw2
  refine wpAnyH_all (rs := [3]) (by kernel_rfl) (by simp) ?_
  intro i2 hi2
  obtain rfl : i2 = 3 := by simpa using hi2
  clear hi2
  refine wpOp_step rfl (fun K hK => ?_)
  go_simp
  refine (dread_calls HV1.out (wf_i64 (by omega) (by have := HI.out; omega)) HL.out HW.out).mono ?_
  rintro e v3 ⟨u, rfl, hu, hd3, ho3⟩
  have t3 : Only F W v3 := t1.trans ho3
  have HU := Lib.hid (show Rep.byte.list.val (fun b => W.heap.size ≤ b) v3 u (readSt st i).2.1 from Rep.val_mono (fun b hb _ => Nat.le_trans t1.size hb) hu)
  have HD3 := Lib.hid hd3
  refine hK _ _ ⟨t3, ?_⟩
  clear hK K hd3 hu
  refine tkHV (i := 4) (v := u) rfl t3 ?_
  go_simp
  refine tkHV (i := 5) (v := .int .i64 (readSt st i).2.2) rfl t3 ?_
  go_simp
  refine tkHV (i := 6) (v := u) rfl t3 ?_
  go_simp
  refine tkHV (i := 7) (v := .int .i64 (readSt st i).2.2) rfl t3 ?_
  go_simp
  refine wpAnyH_done (by kernel_rfl) ?_ _
  go_wp2_with fail
  go_ret2
  exact ⟨_, rfl, HU.out, HD3.out, t3⟩

set_option maxRecDepth 100000 in
set_option maxHeartbeats 2000000 in
/-- store.supers -/
theorem supers_calls {W : World} {P : Nat} {F B : Nat → Prop} {n : Nat} {st : DiskSt} (h : DiskAt W P F B n st) (hl : ∀ x ∈ st.safe, x.length ≤ 100000) (hw : ∀ j, ∀ x ∈ st.wait j, x.length ≤ 100000) :
    Calls Tryz.prog 49 #[.pointer (some ⟨P, 0, none⟩)] W (LoadPost F B P n W (allSt st [0, 1])) := by
  have hmf : ∀ (fn : Fn) (first cap : Array Value) (w : World), (Instr.makeFunc fn first cap).run Tryz.prog w = .ok (.func fn first cap) w := fun _ _ _ _ => rfl
  have HLT := Lib.hid (show ∀ b, F b ∨ B b → b < W.heap.size by obtain ⟨_, _, _, _, hh⟩ := h; exact hh.lt)
  obtain ⟨W1, hW1⟩ : ∃ W1, W.alloc (.cells #[.pointer (some ⟨P, 0, none⟩)] 41) = W1 := ⟨_, rfl⟩
  have hb1 : Below W.heap.size W W1 := by rw [← hW1]; exact (Below.refl _ _).alloc (Nat.le_refl _) _
  have HB1 := Lib.hid hb1
  have HX := Lib.hid (show W1.cell? ⟨W.heap.size, 0, none⟩ = some (.pointer (some ⟨P, 0, none⟩)) by rw [← hW1]; simp)
  have HD1 := Lib.hid (h.below hb1)
  have HL := Lib.hid hl
  have HW := Lib.hid hw
  clear h hl hw hb1
  go_enter Tryz.func49, Tryz.ntmps49
  go_wp2_with fail
  try rw [hW1]
  clear hW1
  try go_wp2_with fail
  refine (allBytes_calls (X := W.heap.size) (m := 2) (is := [0, 1]) (by decide) rfl HD1.out (enters_of Tryz.func103 (by kernel_rfl) rfl) (fun k i V s hi ho hd h1 h2 => ?_)).mono ?_
  · have hk : k < 2 := (List.getElem?_eq_some_iff.1 hi).1
    obtain rfl : i = (k : Int) := by
      rcases k with _ | _ | k
      · simpa using hi.symm
      · simpa using hi.symm
      · omega
    exact supers1_calls hk hd (cell_only ho (fun hf => by have := HLT.out _ (.inl hf); omega) HX.out) (fun hf => by have := HLT.out _ (.inl hf); omega) (by rw [h1]; exact HL.out) (by rw [h2]; exact HW.out)
  · rintro e w2 ⟨u, rfl, hu, hd, ho⟩
    have HU := Lib.hid (show Rep.byte.list.list.val (fun b => W.heap.size ≤ b) w2 u (allSt st [0, 1]).2.1 from Rep.val_mono (fun b hb _ => Nat.le_trans HB1.out.size hb) hu)
    have HO := Lib.hid ((Only.of_below (F := F) HB1.out).trans ho)
    have HD2 := Lib.hid hd
    clear hu hd ho
    go_wp2_with fail
    go_ret2
    exact ⟨_, rfl, HU.out, HD2.out, HO.out⟩
end Go.Proofs.YtghbfbohnoebiaaGreat
namespace Go.Proofs.YtghbfbohnoebiaaGreat
open Go.RowKit

theorem info_all1 : (Tryz.prog.info? 71).map (fun i => (i.zero, i.size, i.bytes)) = some (some (.slice none 0 0), 1, 24) := by kernel_rfl
/-- Behind store.all[[]byte]. -/
def allBytes2Post {σ : Type} (I : World → σ → Prop) (F : Nat → Prop) (W : World) (r : σ × List (List UInt8) × Int) (e : Ending) (W' : World) : Prop :=
  ∃ u, e = .returned (.tuple #[u, .int .i64 r.2.2]) ∧ Rep.byte.list.acc 71 W.heap.size (fun b => W.heap.size ≤ b) W' u r.2.1 ∧ I W' r.1 ∧ Only F W W'
/-- Behind a closure. -/
def allBytes2One {σ : Type} (I : World → σ → Prop) (F : Nat → Prop) (W : World) (r : σ × (List UInt8) × Int) (e : Ending) (W' : World) : Prop :=
  ∃ u, e = .returned (.tuple #[u, .int .i64 r.2.2]) ∧ Rep.byte.list.val (fun b => W.heap.size ≤ b) W' u r.2.1 ∧ I W' r.1 ∧ Only F W W'

set_option maxRecDepth 100000 in
set_option maxHeartbeats 2000000 in
/-- store.all[[]byte] -/
theorem allBytes2_calls {σ : Type} {I : World → σ → Prop} {F : Nat → Prop} {W : World} {cap : Array Value} {g m : Nat} {st : σ} (f : σ → Nat → σ × (List UInt8) × Int) (hm : m ≤ 100000)
    (hen : ∀ (args : Array Value) (w : World), (callFunc g args).run Tryz.prog w = .ok (.enter g args) w)
    (hF : ∀ b, F b → b < W.heap.size) (hI : ∀ V V' s, I V s → Only F W V → V.heap.size ≤ V'.heap.size → (∀ b, b < W.heap.size → V'.heap[b]? = V.heap[b]?) → I V' s) (h0 : I W st)
    (hf : ∀ (k : Nat) (V : World) (s : σ), k < m → I V s → Only F W V → Calls Tryz.prog g (#[.int .i64 k] ++ cap) V (allBytes2One I F V (f s k))) :
    Calls Tryz.prog 102 #[.int .i64 m, .func (.func g) #[] cap] W (allBytes2Post I F W (allTo f st m)) := by
  have HF := Lib.hid hf
  have HFB := Lib.hid hF
  have HI := Lib.hid hI
  have HZ := Lib.hid h0
  clear hf hF hI h0
  go_enter Tryz.func102, Tryz.ntmps102
  go_wp2_with fail
  go_loopw [6, 11] (fun u i wr => ∃ (k : Nat) (s : σ) (ls : List (List UInt8)), i = .int .i64 k ∧ k ≤ m ∧ Rep.byte.list.acc 71 W.heap.size (fun b => W.heap.size ≤ b) wr u ls ∧ I wr s ∧ Only F W wr ∧ Hid (allTo f st k = (s, ls, 0))) (fun _ i _ => m - (intOf i).toNat)
  case atStart => exact ⟨0, st, [], rfl, Nat.zero_le _, Rep.acc_nil, HZ.out, Only.refl _ _, Lib.hid rfl⟩
  case round =>
    obtain ⟨k, s, ls, rfl, hk, hacc, hi, ho, HUP⟩ := hrel
    have HACC := Lib.hid hacc
    have HS := Lib.hid hi
    have HO := Lib.hid ho
    obtain ⟨A6, c6, rfl, hc6, hm6⟩ := Rep.acc_form hacc
    have HLL := Lib.hid (show ls.length = k by have := allTo_len (f := f) (st := st) (k := k) (by rw [HUP.out]); rw [HUP.out] at this; exact this)
    generalize hll : ls.length = len at *
    have HLEN := Lib.hid hll
    clear hacc hi ho hll
    by_cases hlt : (k : Int) < m
    · go_wp2_with fail
      refine (HF.out k _ s (by omega) HS.out HO.out).mono ?_
      rintro e w4 ⟨u, rfl, hu, hd4, ho4⟩
      have HNEXT := Lib.hid (show (f s k).2.2 = 0 → allTo f st (k + 1) = ((f s k).1, ls ++ [(f s k).2.1], 0) from fun h0 => by have e := HUP.out; have := allTo_next (f := f) (st := st) (k := k) (by rw [e]) (by rw [e]; exact h0); rwa [e] at this)
      have HSTOP := Lib.hid (show (f s k).2.2 ≠ 0 → allTo f st m = ((f s k).1, [], (f s k).2.2) from fun h0 => by have e := HUP.out; have := allTo_bad (f := f) (st := st) (k := k) (by rw [e]) (by rw [e]; exact h0) m (by omega); rwa [e] at this)
      generalize f s k = r at *
      obtain ⟨s4, y, er⟩ := r
      dsimp only at *
      have HO4 := Lib.hid (HO.out.trans ho4)
      have HD4 := Lib.hid hd4
      obtain ⟨A7, c7, rfl, hc7, hm7, _⟩ := Rep.val_list hu
      have HY := Lib.hid (show Rep.byte.list.val (fun b => W.heap.size ≤ b ∧ (Value.slice A6 len c6).ownBlock ≠ some b) w4 (.slice A7 y.length c7) y from Rep.val_mono (fun b hb _ => ⟨Nat.le_trans HO.out.size hb, fun he => by have := (Rep.acc_own HACC.out b he).2; omega⟩) hu)
      have HACC4 := Lib.hid (show Rep.byte.list.acc 71 W.heap.size (fun b => W.heap.size ≤ b) w4 (.slice A6 len c6) ls from by
        refine Rep.acc_keep (fun b hb hl => ?_) (fun _ hb _ => hb) HACC.out
        have hge : W.heap.size ≤ b := hb.elim id fun e => (Rep.acc_own HACC.out b e).1
        exact ho4.block b hl.lt (fun hf => by have := HFB.out _ hf; omega))
      have HSZ4 := Lib.hid HO4.out.size
      clear hu hd4 ho4
      by_cases he0 : er = 0
      · subst he0
        have HL1 := Lib.hid (show ls.length + 1 ≤ maxLen ∧ (ls.length + 1) * 24 ≤ 140737488355328 by have := HLEN.out; have := HLL.out; unfold maxLen; omega)
        have iw : IntKind.i64.wrap ((k : Int) + 1) = (k : Int) + 1 := IntWalk.i64_in _ ⟨by omega, by omega⟩
        go_wp2_with (refine wpList_snoc (e := 71) (base := W.heap.size) (Q := fun b => W.heap.size ≤ b) (r := Rep.byte.list) rfl rfl _ _ 28 _ rfl rfl rfl (.slice none 0 0) 1 24 Tryz.underlying28 info_all1 rfl (by decide) rfl _ ls HACC4.out y _ (by exact rfl) HY.out (by exact rfl) (by exact rfl) HL1.out.1 HL1.out.2 HSZ4.out ?_; intro s' w' hacc' hgr hat)
        have hgb : Below W.heap.size w4 w' := (Below.refl _ _).grown hgr HSZ4.out (fun b hb => (Rep.acc_own HACC4.out b hb).1)
        refine ⟨⟨k + 1, s4, ls ++ [y], rfl, by omega, hacc', HI.out _ _ _ HD4.out HO4.out hgb.size (fun b hb => hgb.block b hb), HO4.out.grow hgb, Lib.hid (HNEXT.out (by simp))⟩, ?_⟩
        show m - ((k : Int) + 1).toNat < m - (k : Int).toNat
        omega
      · have g0 : (er == 0) = false := by simpa using he0
        have HST := Lib.hid (HSTOP.out he0)
        clear he0
        go_wp2_with fail
        go_ret2
        refine ⟨_, by rw [HST.out]; rfl, by rw [HST.out]; exact Rep.acc_nil, by rw [HST.out]; exact HD4.out, HO4.out⟩
    · obtain rfl : k = m := by omega
      go_wp2_with fail
      go_ret2
      exact ⟨_, by rw [HUP.out]; rfl, by rw [HUP.out]; exact HACC.out, by rw [HUP.out]; exact HS.out, HO.out⟩
end Go.Proofs.YtghbfbohnoebiaaGreat
