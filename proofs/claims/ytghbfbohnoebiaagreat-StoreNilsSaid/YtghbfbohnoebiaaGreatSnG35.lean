/- Texts on which the proofs stand: DiskSet, DiskSync, DevD. No condition is laid on any input. -/
import Derived.Test.YtghbfbohnoebiaaGreatSnG32
import Derived.Maps.RangeWalk
namespace Go.Proofs.YtghbfbohnoebiaaGreat
open Go.RowKit

theorem Rep.row_put {α : Type} {r : Rep α} {Q : Nat → Prop} {w : World} {u : Value} {y : α} (hr : r.size = 1) (hrd : r.rd Q w [u] y) : ∀ {xs : List α} {cs : List Value} (i : Nat), r.row Q w cs xs → r.row Q w (cs.set i u) (xs.set i y)
  | [], cs, i, h => by have h' : cs = [] := h; subst h'; exact h
  | x :: xs, cs, 0, h => by
    obtain ⟨es, rest, rfl, h1, h2⟩ := h
    have hl := r.len h1
    rw [hr] at hl
    obtain ⟨e, rfl⟩ : ∃ e, es = [e] := List.length_eq_one_iff.1 hl
    exact ⟨[u], rest, rfl, hrd, h2⟩
  | x :: xs, cs, i + 1, h => by
    obtain ⟨es, rest, rfl, h1, h2⟩ := h
    have hl := r.len h1
    rw [hr] at hl
    obtain ⟨e, rfl⟩ : ∃ e, es = [e] := List.length_eq_one_iff.1 hl
    exact ⟨[e], rest.set i u, rfl, h1, Rep.row_put hr hrd i h2⟩
theorem Rep.acc_put {α : Type} {r : Rep α} {e base : Nat} {Q : Nat → Prop} {w : World} {v u : Value} {xs : List α} {y : α} {i : Nat} (hr : r.size = 1) (h : r.acc e base Q w v xs) (hi : i < xs.length) (hu : r.rd (fun b => Q b ∧ v.ownBlock ≠ some b) w [u] y) (_ : u.oneCell' = true) :
    ∃ g cap, v = .slice (some ⟨g, 0, none⟩) xs.length cap ∧ w.heap[g]? ≠ none ∧ r.acc e base Q (w.setCell ⟨g, i, none⟩ u) v (xs.set i y) := by
  obtain ⟨cells, g1, g2⟩ := h
  rcases g1.2 with ⟨rfl, h0⟩ | ⟨g, cap, cur, rfl, hb, hg, h3, h4, h5, h6⟩
  · omega
  · have hown : (Value.slice (some ⟨g, 0, none⟩) xs.length cap).ownBlock = some g := rfl
    refine ⟨g, cap, rfl, by rw [hg]; simp, cells.set i u, ⟨by rw [List.length_set, List.length_set]; exact g1.1, .inr ⟨g, cap, cur.setIfInBounds i u, by rw [List.length_set], hb, heap_setRow hg, by rw [List.length_set]; exact h3, h4, by simp [h5], ?_⟩⟩, ?_⟩
    · rw [List.length_set, hr, Nat.mul_one] at *
      rw [Array.toList_setIfInBounds, List.take_set, h6]
    · refine Rep.row_put hr ?_ i (Rep.row_keep (w := w) (fun b hb' hl => ⟨hb', Below.heap_setCell _ _ _ _ (fun e => hb'.2 (by rw [e]; rfl))⟩) g2)
      exact r.keep (fun b hb' hl => ⟨hb', Below.heap_setCell _ _ _ _ (fun e => hb'.2 (by rw [e]; rfl))⟩) hu

/-- An element of a slice of slices of bytes. -/
theorem Rep.acc_elem {e base : Nat} {Q : Nat → Prop} {w : World} {v : Value} {xs : List (List UInt8)} (h : Rep.byte.list.acc e base Q w v xs) {i : Nat} {x : List UInt8} (hx : xs[i]? = some x) :
    ∃ g B c cap, v = .slice (some ⟨g, 0, none⟩) xs.length cap ∧ w.cell? ⟨g, i, none⟩ = some (.slice B x.length c) ∧ w.frozen? ⟨g, i, none⟩ = false ∧ g < w.heap.size ∧ Rep.byte.list.val (fun b => Q b ∧ g ≠ b) w (.slice B x.length c) x := by
  obtain ⟨cells, g1, g2⟩ := h
  have hi := (List.getElem?_eq_some_iff.1 hx).1
  rcases g1.2 with ⟨rfl, h0⟩ | ⟨g, cap, cur, rfl, hb, hg, h3, h4, h5, h6⟩
  · omega
  · obtain ⟨es, hrd, hcell⟩ := Rep.row_get g2 hx
    have hval : Rep.byte.list.val (fun b => Q b ∧ g ≠ b) w (Rep.byte.list.wrap es) x := ⟨es, rfl, Rep.byte.list.mono (fun b hb' _ => ⟨hb'.1, fun e => hb'.2 (by rw [e]; rfl)⟩) hrd⟩
    obtain ⟨B, c, he, hc1, hc2, hat⟩ := Rep.val_list hval
    rw [he] at hval
    have hes : es = [.slice B x.length c] := by
      have := Rep.byte.list.back hrd
      rw [he] at this
      exact this.symm
    subst hes
    refine ⟨g, B, c, cap, rfl, ?_, frozen_row hg i, (Array.getElem?_eq_some_iff.1 hg).1, hval⟩
    have := g1.cells (g := g) rfl i (.slice B x.length c) (by have := hcell 0 _ rfl; simpa [Rep.list] using this)
    rw [Addr.add_lit, Nat.zero_add] at this
    exact this

namespace DiskW
variable {W W' : World} {P : Nat} {Sf : Option Addr} {cs M : Nat} {D : DataW Value} {F B : Nat → Prop} {n : Nat} {st : DiskSt}
theorem wide (h : DiskW W P Sf cs M D F B n st) {B' : Nat → Prop} (hb : ∀ b, B b → B' b) (ha : ∀ b, F b → ¬ B' b) (hl : ∀ b, B' b → b < W.heap.size) : DiskW W P Sf cs M D F B' n st :=
  ⟨h.blk, Rep.acc_keep (fun _ _ _ => rfl) (fun b hb' _ => hb b hb') h.safe, h.map, fun i => Rep.acc_keep (fun _ _ _ => rfl) (fun b hb' _ => hb b hb') (h.wt i), h.len, h.keys, h.wf, h.fP, h.fM, h.fS, h.fW, h.dSW, h.dWW, ha, fun b hb' => hb'.elim (fun e => h.lt b (.inl e)) (hl b), h.has⟩
/-- A sector is laid anew. -/
theorem setSafe (h : DiskW W P Sf cs M D F B n st) {i : Nat} (hi : i < st.safe.length) {u : Value} {y : List UInt8} (hu : Rep.byte.list.val B W u y) :
    ∃ g, Sf = some ⟨g, 0, none⟩ ∧ F g ∧ DiskW (W.setCell ⟨g, i, none⟩ u) P Sf cs M D F B n { st with safe := st.safe.set i y } := by
  obtain ⟨A', c', rfl, _, _, _⟩ := Rep.val_list hu
  obtain ⟨cs', he, hrd⟩ := hu
  have hcs : cs' = [.slice A' y.length c'] := by
    have := Rep.byte.list.back hrd
    rw [← he] at this
    exact this.symm
  subst hcs
  have hown : ∀ b, B b → (Value.slice Sf st.safe.length cs).ownBlock ≠ some b := fun b hb e => h.apart b (h.fS b e) hb
  obtain ⟨g, cap, hv, _, hacc⟩ := Rep.acc_put rfl h.safe hi (Rep.byte.list.mono (fun b hb _ => ⟨hb, hown b hb⟩) hrd) rfl
  cases hv
  have hg : (Value.slice (some ⟨g, 0, none⟩) st.safe.length cs).ownBlock = some g := rfl
  have hFg := h.fS g hg
  have ek : ∀ b, b ≠ g → (W.setCell ⟨g, i, none⟩ (.slice A' y.length c')).heap[b]? = W.heap[b]? := fun b hb => Below.heap_setCell _ _ _ _ hb
  have hlen : (st.safe.set i y).length = st.safe.length := List.length_set ..
  refine ⟨g, rfl, hFg, ⟨?_, ?_, h.map_keep (ek M (fun e => h.sM hg e.symm)), fun j => ?_, h.len, fun j hj => ?_, h.wf, h.fP, h.fM, ?_, h.fW, ?_, h.dWW, h.apart, fun b hb => ?_, h.has⟩⟩
  · rw [ek P (fun e => h.sP hg e.symm)]
    show W.heap[P]? = some (.cells #[.slice _ (st.safe.set i y).length _, _, _, _, _, _] _ _)
    rw [hlen]; exact h.blk
  · show Rep.byte.list.acc 71 0 B _ (.slice _ (st.safe.set i y).length cs) (st.safe.set i y)
    rw [hlen]; exact hacc
  · exact Rep.acc_keep (fun b hb _ => ek b (hb.elim (fun e e2 => h.apart g hFg (e2 ▸ e)) (fun e e2 => h.dSW j b e (by rw [e2]; exact hg)))) (fun _ hb _ => hb) (h.wt j)
  · show 0 ≤ j ∧ j < ((st.safe.set i y).length : Int)
    rw [hlen]; exact h.keys j hj
  · show ∀ b, (Value.slice _ (st.safe.set i y).length cs).ownBlock = some b → F b
    rw [hlen]; exact h.fS
  · show ∀ j b, (valAt D j).ownBlock = some b → (Value.slice _ (st.safe.set i y).length cs).ownBlock ≠ some b
    rw [hlen]; exact h.dSW
  · have := h.lt b hb; simpa using this
/-- The waiting writes are struck. -/
theorem struck (h : DiskW W P Sf cs M D F B n st) {clock : Nat} (hm : W'.heap[M]? = some (.map #[] clock)) (hs : W'.heap.size = W.heap.size) (hk : ∀ b, b ≠ M → W'.heap[b]? = W.heap[b]?) :
    DiskW W' P Sf cs M (.map []) F B n { st with wait := fun _ => [] } := by
  have hBM : ∀ b, B b → b ≠ M := fun b hb e => h.apart M h.fM (e ▸ hb)
  refine ⟨(hk P (fun e => h.mP e.symm)).trans h.blk, ?_, ⟨#[], clock, hm, ⟨by simp, Go.MapKept.stamped_empty clock, by simp⟩, Nat.zero_le _, rfl⟩, fun i => Rep.acc_nil, fun i => Nat.zero_le _, fun i hi => absurd rfl hi, h.wf, h.fP, h.fM, h.fS, fun i b hb => (by cases hb), fun i b hb => (by cases hb), fun i j b _ hb => (by cases hb), h.apart, fun b hb => by rw [hs]; exact h.lt b hb, fun i hi => by cases hi⟩
  exact Rep.acc_keep (fun b hb _ => hk b (hb.elim (hBM b) h.sM)) (fun _ hb _ => hb) h.safe
/-- A key with waiting writes is one of the map's. -/
theorem of_wait (h : DiskW W P Sf cs M D F B n st) {i : Int} (hw : st.wait i ≠ []) : Go.Maps.has D (.int .i64 i) = true := by
  cases hh : Go.Maps.has D (.int .i64 i) with
  | true => rfl
  | false =>
    exfalso
    have e : valAt D i = nilList := by unfold valAt; rw [Go.Maps.atKey_of_not_has hh]
    have h1 := h.wt i
    rw [e] at h1
    obtain ⟨A, c, he, _⟩ := Rep.acc_form h1
    cases hl : st.wait i with
    | nil => exact hw hl
    | cons y ys => rw [hl] at he; unfold nilList at he; injection he with _ h2 _; simp at h2
end DiskW
/-- clear(m). -/
theorem clear_map {w : World} {M : Nat} {es : Array MapEntry} {clock : Nat} {ty : TypeId} (hb : w.heap[M]? = some (.map es clock)) :
    ∃ w' c', (Builtin.clear_ #[93] ty #[.map (some M)]).run Tryz.prog w = .ok (.tuple #[]) w' ∧ w'.heap[M]? = some (.map #[] c') ∧ w'.heap.size = w.heap.size ∧ (∀ b, b ≠ M → w'.heap[b]? = w.heap[b]?) ∧ w'.os = w.os ∧ w'.tape = w.tape ∧ w'.output = w.output := by
  have hm := Tryz.underlying93
  have hlt : M < w.heap.size := (Array.getElem?_eq_some_iff.1 hb).1
  refine ⟨{ w with heap := w.heap.setIfInBounds M (.map #[] clock) }, clock, ?_, ?_, by simp, fun b hne => ?_, rfl, rfl, rfl⟩
  · simp [Builtin.clear_, run_underlying hm, Go.MapKept.run_getObj_map hb, Go.MapKept.run_setObj_map _ hb, Result.andThen]
  · simp [hlt]
  · show (w.heap.setIfInBounds M _)[b]? = w.heap[b]?
    rw [Array.getElem?_setIfInBounds_ne (fun e => hne e.symm)]
end Go.Proofs.YtghbfbohnoebiaaGreat
namespace Go.Proofs.YtghbfbohnoebiaaGreat
open Go.RowKit

theorem Only.drew {F : Nat → Prop} {X Y : World} (h : Only F X Y) : Only F X Y.drew := ⟨h.os, h.tape, h.output, h.size, h.block⟩
/-- The sectors where those that are not left are written. -/
def syncTo (s : DiskSt) (left : Lit → Bool) : List (List UInt8) := (List.range s.safe.length).map fun i => if left (.int .i64 (i : Nat)) then s.safe.getD i [] else lastSt s (i : Nat)
def syncSt (s : DiskSt) : DiskSt := { s with safe := (List.range s.safe.length).map fun i => lastSt s (i : Nat), wait := fun _ => [] }
def syncRes (st : DiskSt) : DiskSt × Int := if (burnSt st).2 = 0 then (syncSt (burnSt st).1, 0) else burnSt st
theorem syncTo_length (s : DiskSt) (left : Lit → Bool) : (syncTo s left).length = s.safe.length := by unfold syncTo; rw [List.length_map, List.length_range]
theorem syncTo_all (s : DiskSt) {left : Lit → Bool} (h : ∀ i : Nat, left (.int .i64 (i : Int)) = false → s.wait i = []) : syncTo s left = s.safe := by
  unfold syncTo
  apply List.ext_getElem
  · simp
  · intro i h1 h2
    rw [List.getElem_map, List.getElem_range]
    split
    · rw [List.getD_eq_getElem?_getD, List.getElem?_eq_getElem h2]; rfl
    · rename_i hl
      unfold lastSt
      rw [h i (by simpa using hl), List.getD_eq_getElem?_getD, Int.toNat_natCast, List.getElem?_eq_getElem h2]; rfl
theorem syncTo_none (s : DiskSt) {left : Lit → Bool} (h : ∀ z, left z = false) : syncTo s left = (syncSt s).safe := by
  unfold syncTo syncSt
  dsimp only
  apply List.map_congr_left
  intro i _
  rw [h]; rfl
theorem sameKey_int (i j : Int) : (Lit.int .i64 i).sameKey (.int .i64 j) = decide (i = j) := by
  by_cases h : i = j
  · subst h; rw [decide_eq_true rfl]; exact WideAt.sameKey_self (key_lit i)
  · rw [decide_eq_false h]
    cases hs : (Lit.int .i64 i).sameKey (.int .i64 j) with
    | false => rfl
    | true => exact absurd (by have := WideAt.sameKey_eq hs; cases this; rfl) h
theorem syncTo_step (s : DiskSt) (left : Lit → Bool) {k : Nat} : syncTo s (fun z => left z && !z.sameKey (.int .i64 (k : Int))) = (syncTo s left).set k (lastSt s k) := by
  unfold syncTo
  apply List.ext_getElem
  · simp
  · intro i h1 h2
    rw [List.getElem_set]
    simp only [List.getElem_map, List.getElem_range, sameKey_int]
    by_cases hk : k = i
    · subst hk; simp
    · have : ¬ (i : Int) = (k : Int) := by omega
      rw [if_neg hk]; simp [this]

set_option maxRecDepth 100000 in
set_option maxHeartbeats 4000000 in
/-- (*disk.Disk).Sync -/
theorem dsync_calls {W : World} {P : Nat} {F B : Nat → Prop} {n : Nat} {st : DiskSt} (h : DiskAt W P F B n st) :
    Calls Tryz.prog 110 #[.pointer (some ⟨P, 0, none⟩)] W (StepPost F B P n W (syncRes st)) := by
  have HA := Lib.hid h
  by_cases hc : (burnSt st).2 = 0
  case neg =>
    have HF := Lib.hid (show syncRes st = burnSt st by unfold syncRes; rw [if_neg hc])
    have g0 : ((burnSt st).2 == 0) = false := by simpa using hc
    clear h hc
    go_enter Tryz.func110, Tryz.ntmps110
    go_wp2_with fail
    refine (burn_calls HA.out).mono ?_
    rintro e w1 ⟨rfl, hd1, ho⟩
    have HD1 := Lib.hid hd1
    have HO := Lib.hid ho
    clear hd1 ho
    go_wp2_with fail
    go_ret
    exact ⟨by rw [HF.out]; rfl, by rw [HF.out]; exact HD1.out, HO.out⟩
  case pos =>
    have HF := Lib.hid (show syncRes st = (syncSt (burnSt st).1, 0) by unfold syncRes; rw [if_pos hc])
    have HC := Lib.hid hc
    clear h hc
    go_enter Tryz.func110, Tryz.ntmps110
    go_wp2_with fail
    refine (burn_calls HA.out).mono ?_
    rintro e w1 ⟨rfl, hd1, ho⟩
    rw [HC.out]
    generalize (burnSt st).1 = s1 at *
    obtain ⟨Sf, cs, M, D, hd1⟩ := hd1
    have HD1 := Lib.hid hd1
    have HO1 := Lib.hid ho
    have e1 := cell_row hd1.blk 1
    have hr1 := ho.size
    clear ho
    go_wp2_with (at_range; refine wpList_range_own _ rfl _ 93 rfl 3 28 int_law Tryz.underlying93 heldElem M n D (by exact rfl) HD1.out.map ?_; intro w2 hrg2 hg2 hs2)
    go_frame
    generalize hr : w1.heap.size = r at *
    have HR := Lib.hid hr
    have hst2 : syncTo s1 (Go.Maps.has D) = s1.safe := syncTo_all s1 (fun i hi => by
      cases hw : s1.wait i with
      | nil => rfl
      | cons y ys => have := HD1.out.of_wait (i := (i : Int)) (by rw [hw]; simp); rw [hi] at this; cases this)
    have HD2 := Lib.hid (show DiskW w2 P Sf cs M D F B n { s1 with safe := syncTo s1 (Go.Maps.has D) } by rw [hst2]; exact HD1.out.keep hg2.size (fun b hb => hg2.block b (HD1.out.lt b hb) (by simp)))
    have HG2 := Lib.hid (show Only F W w2 from HO1.out.trans ⟨hg2.os, hg2.tape, hg2.output, hg2.size, fun b hb _ => hg2.block b hb (by simp)⟩)
    clear hr hd1 e1 hst2 hg2 hs2
    have HRW := Lib.hid (show W.heap.size ≤ r by have := HR.out; omega)
    have HRB := Lib.hid (show ∀ b, F b ∨ B b → b < r from fun b hb => by have := HD1.out.lt b hb; have := HR.out; omega)
    go_loopw [] (fun wr => ∃ left cnt, wr.ranges Tryz.prog 3 heldElem M r n D left cnt ∧ DiskW wr P Sf cs M D F B n { s1 with safe := syncTo s1 left } ∧ Only F W wr) (fun wr => wr.rangeLeft M r)
    case atStart => exact ⟨_, _, hrg2, HD2.out, HG2.out⟩
    case round =>
      obtain ⟨left, cnt, hrg, hdw, ho⟩ := hrel
      have HRG := Lib.hid hrg
      have HDW := Lib.hid hdw
      have HO := Lib.hid ho
      have hN := syncTo_length s1 left
      clear hrg ho hrg2
      go_wp2_with (at_next; refine wpList_next_ranges _ rfl _ rfl 3 int_law heldElem (Value.int .i64) (fun v : Value => v) (fun key kl hkey => by obtain ⟨x, rfl, _⟩ := Go.Maps.keyOf_int_inv Tryz.underlying3 hkey; exact ⟨x, rfl⟩) (fun v y hv => ⟨v, rfl⟩) M r n D left cnt (by exact rfl) HRG.out ?_ ?_)
      · intro hc0 hl0
        have e1 := cell_row hdw.blk 1
        have HFIN := Lib.hid (syncTo_none s1 hl0)
        obtain ⟨es, clock, hmb, _⟩ := HRG.out.owns
        obtain ⟨w9, c9, hrun, hm9, hs9, hk9, ho9⟩ := clear_map (ty := 0) hmb
        have H9 := Lib.hid (HDW.out.struck hm9 hs9 hk9)
        have O9 := Lib.hid (show Only F W w9 from HO.out.trans ⟨ho9.1, ho9.2.1, ho9.2.2, Nat.le_of_eq hs9.symm, fun b _ hf => hk9 b (fun e => hf (e ▸ HDW.out.fM))⟩)
        clear hl0 hc0 hm9 hs9 hk9 ho9 hdw
        go_wp2_with fail
        go_ret
        refine ⟨by rw [HF.out]; rfl, ?_, O9.out⟩
        rw [HF.out]
        have := H9.out
        rw [HFIN.out] at this
        exact ⟨_, _, _, _, this⟩
      · intro x c kl ya yb w3 cnt3 hkey hlk hv hat hrg3 hlt3 hg3 hs3 hen
        obtain ⟨x', ex, rfl, hwx⟩ := Go.Maps.keyOf_int_inv Tryz.underlying3 hkey
        cases ex
        obtain ⟨rfl, rfl⟩ : ya = .held c ∧ yb = [] := by unfold heldElem at hv; have := Option.some.inj hv; exact ⟨(congrArg Prod.fst this).symm, (congrArg Prod.snd this).symm⟩
        have hc : valAt D x = c := by unfold valAt; rw [hat]
        have hw : s1.wait x ≠ [] := hdw.has x (Go.Maps.has_true_of_atKey hat)
        have hxk := HD1.out.keys x hw
        obtain ⟨k, rfl⟩ : ∃ k : Nat, x = k := ⟨x.toNat, by omega⟩
        have hkN : k < s1.safe.length := by omega
        have hg3' := hg3
        have hdw3 : DiskW w3 P Sf cs M D F B n { s1 with safe := syncTo s1 left } := HDW.out.keep hg3.size (fun b hb => hg3.block b (HDW.out.lt b hb) (fun e => by have := HRB.out b hb; have := Option.some.inj e; omega))
        obtain ⟨z, zs, hz⟩ : ∃ z zs, s1.wait k = z :: zs := by cases hq : s1.wait k with
          | nil => exact absurd hq hw
          | cons a b => exact ⟨a, b, rfl⟩
        obtain ⟨m, hm⟩ : ∃ m, (s1.wait k).length = m + 1 := ⟨zs.length, by rw [hz]; rfl⟩
        obtain ⟨yb, hyb⟩ : ∃ yb, (s1.wait k)[m]? = some yb := ⟨_, List.getElem?_eq_getElem (by omega)⟩
        have hlast : lastSt s1 k = yb := by
          unfold lastSt
          rw [List.getLast?_eq_getElem?, hm, Nat.add_sub_cancel, hyb]; rfl
        obtain ⟨gw, B7, c7, capw, hvw, hcw, _, hgw, hval⟩ := Rep.acc_elem (hdw3.wt k) hyb
        have hvl : Rep.byte.list.val B w3 (.slice B7 yb.length c7) yb := Rep.val_mono (fun b hb _ => hb.1) hval
        obtain ⟨g, rfl, hFg, hset⟩ := hdw3.setSafe (i := k) (by show k < (syncTo s1 left).length; rw [hN]; exact hkN) hvl
        obtain ⟨ys, hys⟩ : ∃ ys, (syncTo s1 left)[k]? = some ys := ⟨_, List.getElem?_eq_getElem (by rw [hN]; exact hkN)⟩
        obtain ⟨g', B8, c8, cap8, hv8, hc8, hz8, hg8, _⟩ := Rep.acc_elem hdw3.safe hys
        cases hv8
        have hne : gw ≠ g := fun e => hdw3.dSW k gw (by rw [hvw]; rfl) (by rw [e]; rfl)
        have hPg : P ≠ g := fun e => hdw3.sP (b := g) rfl e.symm
        have hMg : M ≠ g := fun e => hdw3.sM (b := g) rfl e.symm
        rw [hc, hm] at hvw
        subst hvw
        have hb0 : w3.cell? ⟨P, 0, none⟩ = some (.slice (some ⟨g, 0, none⟩) s1.safe.length cs) := (cell_row hdw3.blk 0).trans (show some (Value.slice (some ⟨g, 0, none⟩) (syncTo s1 left).length cs) = _ by rw [hN])
        have hmx : (m : Int) + 1 ≤ 9223372036854775807 := by
          obtain ⟨A', c', he, h1, h2⟩ := Rep.acc_form (hdw3.wt k)
          have h3 : (s1.wait k).length = m + 1 := hm
          have h1' : (s1.wait k).length ≤ c' := h1
          unfold maxLen at h2; omega
        have KS := Lib.hid (show ∀ W' : World, (∀ b, b ≠ g → W'.heap[b]? = w3.heap[b]?) → W'.cell? ⟨P, 0, none⟩ = some (.slice (some ⟨g, 0, none⟩) s1.safe.length cs) ∧ W'.cell? ⟨gw, m, none⟩ = some (.slice B7 yb.length c7) from fun W' hk => ⟨(show W'.cell? ⟨P, 0, none⟩ = w3.cell? ⟨P, 0, none⟩ by simp only [World.cell?, hk P hPg]).trans hb0, (show W'.cell? ⟨gw, m, none⟩ = w3.cell? ⟨gw, m, none⟩ by simp only [World.cell?, hk gw hne]).trans hcw⟩)
        have HSET := Lib.hid hset
        have HG3 := Lib.hid hg3
        have HRG3 := Lib.hid hrg3
        have HFG := Lib.hid hFg
        have HLK := Lib.hid hlast
        have HMG := Lib.hid hMg
        have HLT3 := Lib.hid hlt3
        have hkI : (k : Int) < (s1.safe.length : Int) := by omega
        have i1 : IntKind.i64.wrap (m : Int) = m := IntWalk.i64_in _ ⟨by omega, by omega⟩
        have i2 : IntKind.i64.wrap ((m : Int) + 1 - 1) = m := by rw [Int.add_sub_cancel]; exact i1
        have i4 : (m : Int) < (m : Int) + 1 := by omega
        generalize s1.safe.length = N at *
        generalize yb.length = yl at *
        clear hb0 hcw hdw hdw3 hset hg3 hrg3 hFg hlast hval hvl hyb hz hw hxk hys hv hat hkey hlk hlt3 hs3 hc hne hPg hMg hm hg3'
        go_wp2_with fail
        go_region_held3 (fun W' => W'.cell? ⟨P, 0, none⟩ = some (.slice (some ⟨g, 0, none⟩) N cs) ∧ W'.cell? ⟨gw, m, none⟩ = some (.slice B7 yl c7))
          (first
            | exact KS.out _ (fun _ _ => rfl)
            | exact KS.out _ (fun b hb => Below.heap_setCell _ _ _ _ hb))
          (first | fail)
        go_wp2_with fail
        have hgr : g < r := HRB.out g (.inl HFG.out)
        have hrs := HO.out.size
        have HR9 := Lib.hid (show (w3.setCell ⟨g, k, none⟩ (.slice B7 yl c7)).drew.ranges Tryz.prog 3 heldElem M r n D (fun z => left z && !z.sameKey (.int .i64 (k : Int))) cnt3 from
          HRG3.out.kept (row := some g) ⟨rfl, rfl, rfl, by simp, fun b _ hb => Below.heap_setCell _ _ _ _ (fun e => hb (by rw [e]))⟩ (fun e => HMG.out (Option.some.inj e)) (fun e => by have := Option.some.inj e; omega))
        have HO9 : Only F W (w3.setCell ⟨g, k, none⟩ (.slice B7 yl c7)).drew := Only.drew <| (show Only F W w3 from ⟨HG3.out.os.trans HO.out.os, HG3.out.tape.trans HO.out.tape, HG3.out.output.trans HO.out.output, Nat.le_trans hrs HG3.out.size, fun b hb hf => (HG3.out.block b (by omega) (fun e => by have := Option.some.inj e; omega)).trans (HO.out.block b hb hf)⟩).trans (Only.set HFG.out)
        refine ⟨⟨_, cnt3, HR9.out, ?_, HO9⟩, ?_⟩
        · have := HSET.out
          rw [syncTo_step, HLK.out]
          exact this.keep (Nat.le_refl _) (fun _ _ => rfl)
        · rw [HR9.out.left_eq, HRG.out.left_eq]
          exact HLT3.out
end Go.Proofs.YtghbfbohnoebiaaGreat
namespace Go.Proofs.YtghbfbohnoebiaaGreat
open Go.RowKit

/-- A device whose blocks are among D. -/
def DevD (D : Nat → Prop) (W : World) (P n : Nat) (st : DiskSt) : Prop := (∀ b, D b → b < W.heap.size) ∧ ∃ F B, DiskAt W P F B n st ∧ ∀ b, F b ∨ B b → D b
namespace DevD
variable {D : Nat → Prop} {W W' : World} {P n : Nat} {st : DiskSt}
theorem below (h : DevD D W P n st) (hb : Below W.heap.size W W') : DevD D W' P n st := by
  obtain ⟨h1, F, B, h2, h3⟩ := h
  exact ⟨fun b hd => Nat.lt_of_lt_of_le (h1 b hd) hb.size, F, B, h2.below hb, h3⟩
theorem only {G : Nat → Prop} (h : DevD D W P n st) (ho : Only G W W') (hg : ∀ b, G b → ¬ D b) : DevD D W' P n st := by
  obtain ⟨h1, F, B, h2, h3⟩ := h
  exact ⟨fun b hd => Nat.lt_of_lt_of_le (h1 b hd) ho.size, F, B, h2.keep ho.size (fun b hb => ho.block b (h1 b (h3 b hb)) (fun e => hg b e (h3 b hb))), h3⟩
theorem later (h : DevD D W P n st) (hs : W.heap.size ≤ W'.heap.size) (hk : ∀ b, D b → W'.heap[b]? = W.heap[b]?) : DevD D W' P n st := by
  obtain ⟨h1, F, B, h2, h3⟩ := h
  exact ⟨fun b hd => Nat.lt_of_lt_of_le (h1 b hd) hs, F, B, h2.keep hs (fun b hb => hk b (h3 b hb)), h3⟩
theorem more (h : DevD D W P n st) {n' : Nat} (hn : n ≤ n') : DevD D W P n' st := by
  obtain ⟨h1, F, B, ⟨Sf, cs, M, DD, hd⟩, h3⟩ := h
  exact ⟨h1, F, B, ⟨Sf, cs, M, DD, hd.more hn⟩, h3⟩
theorem wide (h : DevD D W P n st) {D' : Nat → Prop} (h1 : ∀ b, D b → D' b) (h2 : ∀ b, D' b → b < W.heap.size) : DevD D' W P n st := by
  obtain ⟨_, F, B, h3, h4⟩ := h
  exact ⟨h2, F, B, h3, fun b hb => h1 b (h4 b hb)⟩
end DevD
/-- Behind a step of the device. -/
def DStepD (D : Nat → Prop) (P n : Nat) (W : World) (r : DiskSt × Int) (e : Ending) (W' : World) : Prop :=
  e = .returned (.int .i64 r.2) ∧ (∃ D', DevD D' W' P n r.1 ∧ ∀ b, D' b → D b ∨ W.heap.size ≤ b) ∧ Only D W W'
def DReadD (D : Nat → Prop) (P n : Nat) (W : World) (r : DiskSt × List UInt8 × Int) (e : Ending) (W' : World) : Prop :=
  ∃ u, e = .returned (.tuple #[u, .int .i64 r.2.2]) ∧ Rep.byte.list.val (fun b => W.heap.size ≤ b) W' u r.2.1 ∧ DevD D W' P n r.1 ∧ Only D W W'
section
variable {D : Nat → Prop} {W : World} {P n : Nat} {st : DiskSt}
theorem devd_read {i : Int} (h : DevD D W P n st) (hi : (Lit.int .i64 i).wf = true) (hl : ∀ x ∈ st.safe, x.length ≤ 100000) (hw : ∀ j, ∀ x ∈ st.wait j, x.length ≤ 100000) :
    Calls Tryz.prog 104 #[.pointer (some ⟨P, 0, none⟩), .int .i64 i] W (DReadD D P n W (readSt st i)) := by
  obtain ⟨h1, F, B, h2, h3⟩ := h
  refine (dread_calls h2 hi hl hw).mono ?_
  rintro e w1 ⟨u, rfl, hu, hd, ho⟩
  exact ⟨u, rfl, hu, ⟨fun b hb => Nat.lt_of_lt_of_le (h1 b hb) ho.size, F, B, hd, h3⟩, ho.sub fun b hb => h3 b (.inl hb)⟩
theorem devd_write {Q : Nat → Prop} {i : Int} {v : Value} {b : List UInt8} (h : DevD D W P n st) (hi : (Lit.int .i64 i).wf = true) (hn : n ≤ 1000000000) (hx : Rep.byte.list.val Q W v b) (hQ : ∀ k, Q k → ¬ D k) :
    Calls Tryz.prog 109 #[.pointer (some ⟨P, 0, none⟩), .int .i64 i, v] W (DStepD D P (n + 1) W (writeSt st i b)) := by
  obtain ⟨h1, F, B, h2, h3⟩ := h
  refine (dwrite_calls h2 hi hn hx (fun k hk hF => hQ k hk (h3 k (.inl hF)))).mono ?_
  rintro e w1 ⟨rfl, ho, F', B', hd', g1, g2, _⟩
  refine ⟨rfl, ⟨fun b => F' b ∨ B' b, ⟨?_, F', B', hd', fun b hb => hb⟩, ?_⟩, ho.sub fun b hb => h3 b (.inl hb)⟩
  · obtain ⟨_, _, _, _, hh⟩ := hd'; exact hh.lt
  · rintro b (hb | hb)
    · exact (g1 b hb).elim (fun e => .inl (h3 b (.inl e))) (fun e => .inr (by omega))
    · exact (g2 b hb).elim (fun e => .inl (h3 b (.inr e))) (fun e => .inr (by omega))
theorem devd_sync (h : DevD D W P n st) : Calls Tryz.prog 110 #[.pointer (some ⟨P, 0, none⟩)] W (DStepD D P n W (syncRes st)) := by
  obtain ⟨h1, F, B, h2, h3⟩ := h
  refine (dsync_calls h2).mono ?_
  rintro e w1 ⟨rfl, hd', ho⟩
  exact ⟨rfl, ⟨D, ⟨fun b hb => Nat.lt_of_lt_of_le (h1 b hb) ho.size, F, B, hd', h3⟩, fun b hb => .inl hb⟩, ho.sub fun b hb => h3 b (.inl hb)⟩
theorem devd_size (h : DevD D W P n st) : Calls Tryz.prog 44 #[.pointer (some ⟨P, 0, none⟩)] W fun e W' => e = .returned (.int .i64 st.safe.length) ∧ W' = W := by
  obtain ⟨h1, F, B, h2, h3⟩ := h
  exact dsize_disk h2
end
end Go.Proofs.YtghbfbohnoebiaaGreat
