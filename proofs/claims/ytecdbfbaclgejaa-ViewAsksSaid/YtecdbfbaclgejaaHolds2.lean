/- Walks of whether an entity holds a term: both texts. -/
import Derived.Test.YtecdbfbaclgejaaHolds
namespace Go.Proofs.Ytecdbfbaclgejaa
open Go.RowKit

def hasPart (l : List DPart) (k : Int) : Bool := decide (0 ≤ partAt l k)
def dataPart (l : List DPart) (k : Int) : List UInt8 := if 0 ≤ partAt l k then ((l[(partAt l k).toNat]?).map (·.data)).getD [] else []
theorem partAt_cases (l : List DPart) (k : Int) : partAt l k = -1 ∨ ∃ (i : Nat) (h : i < l.length), partAt l k = i ∧ dataPart l k = l[i].data := by
  cases hf : l.findIdx? (fun p => p.comp == k) with
  | none => left; unfold partAt; rw [hf]
  | some i =>
    right
    have hi : i < l.length := (List.findIdx?_eq_some_iff_getElem.1 hf).1
    have hp : partAt l k = i := by unfold partAt; rw [hf]
    refine ⟨i, hi, hp, ?_⟩
    unfold dataPart
    rw [if_pos (by omega), hp]
    simp [List.getElem?_eq_getElem hi]
def holdsB (t : DTerm) (d : List UInt8) (has : Bool) : Bool :=
  if t.kind = 0 then has else if t.kind = 1 then !has else if t.kind = 2 then has && decide (d = t.data) else if t.kind = 3 then has && belowB d t.data else false
def holdsE (e : DEnt) (t : DTerm) : Bool := holdsB t (dataPart e.parts t.comp) (hasPart e.parts t.comp)

/-- (view.ent).data$1 -/
theorem data1_calls {w : World} {comp k : Int} {A : Option Addr} {n c kb : Nat} (hk : w.cell? ⟨kb, 0, none⟩ = some (.int .i64 k)) (hlt : kb < w.heap.size) :
    Calls Try.prog 165 #[.agg #[.int .i64 comp, .slice A n c], .pointer (some ⟨kb, 0, none⟩)] w fun e w' => e = .returned (.bool (comp == k)) ∧ Below w.heap.size w w' := by
  have hca : ∀ o, (w.alloc o).cell? ⟨kb, 0, none⟩ = some (.int .i64 k) := fun o => (World.cell?_of_block (w := w) (Below.heap_alloc _ _ _ hlt)).trans hk
  go_enter Try.func165, Try.ntmps165
  go_wp2_with fail
  go_ret
  exact ⟨rfl, (Below.refl _ _).alloc (Nat.le_refl _) _⟩

set_option maxRecDepth 100000 in
/-- slices.IndexFunc of parts by their component -/
theorem idxPart_calls {Q : Nat → Prop} {w : World} {v : Value} {l : List DPart} {k : Int} {kb : Nat} (hx : rPart.list.val Q w v l) (hk : w.cell? ⟨kb, 0, none⟩ = some (.int .i64 k)) :
    Calls Try.prog 164 #[v, .func (.func 165) #[] #[.pointer (some ⟨kb, 0, none⟩)]] w fun e w' => e = .returned (.int .i64 (partAt l k)) ∧ Below w.heap.size w w' := by
  obtain ⟨A, c, rfl, hc1, hc2, hA⟩ := Rep.val_list hx
  unfold maxLen at hc2
  have HA := Lib.hid hA
  have hkb : kb < w.heap.size := by
    unfold World.cell? at hk
    cases hh : w.heap[kb]? with
    | none => simp [hh] at hk
    | some o => exact (Array.getElem?_eq_some_iff.1 hh).1
  have HKB := Lib.hid hkb
  have HK := Lib.hid hk
  clear hx hA hk
  go_enter Try.func164, Try.ntmps164
  go_wp2_with fail
  go_loopw [8] (fun i wr => ∃ j : Nat, i = .int .i64 j ∧ j ≤ l.length ∧ Hid (∀ p ∈ l.take j, p.comp ≠ k) ∧ Below w.heap.size w wr) (fun i _ => l.length - (intOf i).toNat)
  case atStart => exact ⟨0, rfl, by omega, Lib.hid (by simp), Below.refl _ _⟩
  case round =>
    obtain ⟨j, rfl, hj, hb, hbel⟩ := hrel
    have HB := Lib.hid hbel
    by_cases hlt : (j : Int) < l.length
    · have hj' : j < l.length := by omega
      obtain ⟨b, off, A2, c2, rfl, _, c0, c1, _, _⟩ := rPart_at (HA.out.below hbel fun _ _ h => h.lt) (List.getElem?_eq_getElem hj')
      have F1 := Lib.hid (fun h => partAt_found hj' h hb.out)
      have F2 := Lib.hid (fun h => forall_take_succ (P := fun p : DPart => p.comp ≠ k) hj' hb.out h)
      generalize l[j] = x at *
      have HKW := Lib.hid ((HB.out.cell (p := ⟨kb, 0, none⟩) HKB.out).trans HK.out)
      have HKL := Lib.hid (Nat.lt_of_lt_of_le HKB.out HB.out.size)
      clear hbel
      go_wp2_with fail
      refine (data1_calls (comp := x.comp) HKW.out HKL.out).mono ?_
      rintro e w1 ⟨rfl, hb1⟩
      have HB1 := Lib.hid (HB.out.trans (hb1.mono HB.out.size))
      clear hb1 c0 c1
      by_cases hc : x.comp = k
      · have F := Lib.hid (F1.out hc)
        rw [show (x.comp == k) = true by simp [hc]]
        clear hc
        go_wp2_with fail
        go_ret
        exact ⟨by rw [F.out]; rfl, HB1.out⟩
      · have F := Lib.hid (F2.out hc)
        rw [show (x.comp == k) = false by simp [hc]]
        clear hc
        go_wp2_with fail
        exact ⟨⟨j + 1, by go_num, by omega, F, HB1.out⟩, by simp [intOf]; omega⟩
    · have F := Lib.hid (partAt_none (l := l) (k := k) (by have := hb.out; rwa [List.take_of_length_le (by omega)] at this))
      go_wp2_with fail
      go_ret
      exact ⟨by rw [F.out]; rfl, HB.out⟩

def DataRes (w : World) (l : List DPart) (k : Int) (e : Ending) (w' : World) : Prop :=
  ∃ u, e = .returned (.tuple #[u, .bool (hasPart l k)]) ∧ Rep.byte.list.val (fun _ => True) w' u (dataPart l k) ∧ Below w.heap.size w w'

set_option maxRecDepth 100000 in
set_option maxHeartbeats 400000 in
/-- (view.ent).data -/
theorem entData_calls {Q : Nat → Prop} {w : World} {v : Value} {x : DEnt} {k : Int} (hx : rEnt.val Q w v x) :
    Calls Try.prog 106 #[v, .int .i64 k] w (DataRes w x.parts k) := by
  obtain ⟨A, c, rfl, f0, f1, hs⟩ := rEnt_val hx
  have hc1 := hs.1
  have hc2 := hs.2.1
  unfold maxLen at hc2
  obtain ⟨W2, hW2⟩ : ∃ W2, (w.alloc (.cells #[.int .i64 x.id.index, .int .i64 x.id.gen, .slice A x.parts.length c] 150)).alloc (.cells #[.int .i64 k] 3) = W2 := ⟨_, rfl⟩
  have hb2 : Below w.heap.size w W2 := by rw [← hW2]; exact ((Below.refl _ _).alloc (Nat.le_refl _) _).alloc (by simp) _
  have e2 : W2.cell? ⟨w.heap.size, 2, none⟩ = some (.slice A x.parts.length c) := by rw [← hW2]; simp
  have ek : W2.cell? ⟨w.heap.size + 1, 0, none⟩ = some (.int .i64 k) := by rw [← hW2]; simp
  have hsz : W2.heap.size = w.heap.size + 2 := by rw [← hW2]; simp
  have HX := Lib.hid (show rPart.list.val (fun b => b < w.heap.size) W2 (.slice A x.parts.length c) x.parts from (hs.keep (w' := W2) (Q' := fun b => b < w.heap.size) fun b _ hl => ⟨hl.lt, hb2.block b hl.lt⟩).val)
  have HS := Lib.hid (hs.keep (w' := W2) (Q' := fun b => b < w.heap.size) fun b _ hl => ⟨hl.lt, hb2.block b hl.lt⟩)
  have HB2 := Lib.hid hb2
  have HEK := Lib.hid ek
  have HSZ := Lib.hid hsz
  have HE2 := Lib.hid e2
  clear hx hs f0 f1 hb2 hsz
  go_enter Try.func106, Try.ntmps106
  go_wp2_with fail
  try rw [hW2]
  clear hW2
  go_wp2_with fail
  refine (idxPart_calls HX.out HEK.out).mono ?_
  rintro e w1 ⟨rfl, hb1⟩
  have e2' := (hb1.cell (p := ⟨w.heap.size, 2, none⟩) (show w.heap.size < W2.heap.size by rw [HSZ.out]; omega)).trans HE2.out
  have HB1 := Lib.hid (HB2.out.trans (hb1.mono HB2.out.size))
  have HS1 := Lib.hid (HS.out.below hb1 fun _ _ h => h.lt)
  clear hb1 e2 ek
  rcases partAt_cases x.parts k with h | ⟨i, hi, h1, h2⟩
  · have hh : hasPart x.parts k = false := by unfold hasPart; rw [h]; rfl
    have hd : dataPart x.parts k = [] := by unfold dataPart; rw [h]; rfl
    have HH := Lib.hid hh
    have HD := Lib.hid hd
    rw [h]
    clear hh hd h
    go_wp2_with fail
    go_ret2
    exact ⟨_, by rw [HH.out]; rfl, by rw [HD.out]; exact Rep.val_nil (by simp [maxLen]), HB1.out⟩
  · have hh : hasPart x.parts k = true := by unfold hasPart; rw [h1]; simp
    have HH := Lib.hid hh
    have HD := Lib.hid h2
    rw [h1]
    obtain ⟨b, off, A3, c3, rfl, _, d0, d1, _, hsd⟩ := rPart_at HS1.out.2.2 (List.getElem?_eq_getElem hi)
    have HSD := Lib.hid hsd
    generalize x.parts[i] = y at *
    have hi2 : (i : Int) < x.parts.length := by omega
    clear hh h1 h2 hsd
    go_wp2_with fail
    go_ret2
    exact ⟨_, by rw [HH.out]; rfl, by rw [HD.out]; exact Rep.val_mono (fun _ _ _ => trivial) HSD.out.val, HB1.out⟩

set_option maxRecDepth 100000 in
set_option maxHeartbeats 400000 in
/-- view.holds -/
theorem holdsB_calls {Q Q' : Nat → Prop} {w : World} {v u : Value} {t : DTerm} {d : List UInt8} (has : Bool) (hx : rTerm.val Q w v t) (hd : Rep.byte.list.val Q' w u d) :
    Calls Try.prog 107 #[v, u, .bool has] w fun e w' => e = .returned (.bool (holdsB t d has)) ∧ Below w.heap.size w w' := by
  obtain ⟨A, c, rfl, f0, f1, hs⟩ := rTerm_val hx
  obtain ⟨W2, hW2⟩ : ∃ W2, w.alloc (.cells #[.int .i64 t.kind, .int .i64 t.comp, .slice A t.data.length c] 41) = W2 := ⟨_, rfl⟩
  have hb2 : Below w.heap.size w W2 := by rw [← hW2]; exact (Below.refl _ _).alloc (Nat.le_refl _) _
  have e0 : W2.cell? ⟨w.heap.size, 0, none⟩ = some (.int .i64 t.kind) := by rw [← hW2]; simp
  have e2 : W2.cell? ⟨w.heap.size, 2, none⟩ = some (.slice A t.data.length c) := by rw [← hW2]; simp
  have HT := Lib.hid (hs.below hb2 fun _ _ h => h.lt).val
  have HD := Lib.hid (Rep.val_below hd hb2 fun _ _ h => h.lt)
  have HB2 := Lib.hid hb2
  obtain ⟨A5, c5, rfl, _, _, _⟩ := Rep.val_list hd
  clear hx hs f0 f1 hb2 hd
  have fin : ∀ r, holdsB t d has = r → Hid (holdsB t d has = r) := fun r h => Lib.hid h
  unfold holdsB at fin
  by_cases k0 : t.kind = 0
  · have g0 : (t.kind == 0) = true := by simp [k0]
    have F := Lib.hid (show holdsB t d has = has by unfold holdsB; rw [if_pos k0])
    clear k0 fin
    go_enter Try.func107, Try.ntmps107
    go_wp2_with fail
    try rw [hW2]
    clear hW2
    go_wp2_with fail
    go_ret
    exact ⟨by rw [F.out]; rfl, HB2.out⟩
  · have g0 : (t.kind == 0) = false := by simp [k0]
    by_cases k1 : t.kind = 1
    · have g1 : (t.kind == 1) = true := by simp [k1]
      have F := Lib.hid (show holdsB t d has = !has by unfold holdsB; rw [if_neg k0, if_pos k1])
      clear k0 k1 fin
      go_enter Try.func107, Try.ntmps107
      go_wp2_with fail
      try rw [hW2]
      clear hW2
      go_wp2_with fail
      go_ret
      exact ⟨by rw [F.out]; rfl, HB2.out⟩
    · have g1 : (t.kind == 1) = false := by simp [k1]
      by_cases k2 : t.kind = 2
      · have g2 : (t.kind == 2) = true := by simp [k2]
        have F := Lib.hid (show holdsB t d has = (has && decide (d = t.data)) by unfold holdsB; rw [if_neg k0, if_neg k1, if_pos k2])
        clear k0 k1 k2 fin
        cases has with
        | true =>
          go_enter Try.func107, Try.ntmps107
          go_wp2_with fail
          try rw [hW2]
          clear hW2
          go_wp2_with (go_at_call 166; refine (bytesEqual HD.out HT.out).mono ?_; rintro e w' ⟨rfl, rfl⟩)
          go_ret
          exact ⟨by rw [F.out]; rfl, HB2.out⟩
        | false =>
          go_enter Try.func107, Try.ntmps107
          go_wp2_with fail
          try rw [hW2]
          clear hW2
          go_wp2_with fail
          go_ret
          exact ⟨by rw [F.out]; rfl, HB2.out⟩
      · have g2 : (t.kind == 2) = false := by simp [k2]
        by_cases k3 : t.kind = 3
        · have g3 : (t.kind == 3) = true := by simp [k3]
          have F := Lib.hid (show holdsB t d has = (has && belowB d t.data) by unfold holdsB; rw [if_neg k0, if_neg k1, if_neg k2, if_pos k3])
          have FB := Lib.hid (show belowB d t.data = decide (Lib.compareBytes d t.data < 0) from rfl)
          clear k0 k1 k2 k3 fin
          cases has with
          | true =>
            go_enter Try.func107, Try.ntmps107
            go_wp2_with fail
            try rw [hW2]
            clear hW2
            go_wp2_with (go_at_call 167; refine (bytesCompare HD.out HT.out).mono ?_; rintro e w' ⟨rfl, rfl⟩; generalize hcmp : Lib.compareBytes d t.data = cm at *)
            go_ret
            exact ⟨by rw [F.out, FB.out]; simp, HB2.out⟩
          | false =>
            go_enter Try.func107, Try.ntmps107
            go_wp2_with fail
            try rw [hW2]
            clear hW2
            go_wp2_with fail
            go_ret
            exact ⟨by rw [F.out]; rfl, HB2.out⟩
        · have g3 : (t.kind == 3) = false := by simp [k3]
          have F := Lib.hid (show holdsB t d has = false by unfold holdsB; rw [if_neg k0, if_neg k1, if_neg k2, if_neg k3])
          clear k0 k1 k2 k3 fin
          go_enter Try.func107, Try.ntmps107
          go_wp2_with fail
          try rw [hW2]
          clear hW2
          go_wp2_with fail
          go_ret
          exact ⟨by rw [F.out]; rfl, HB2.out⟩
end Go.Proofs.Ytecdbfbaclgejaa
