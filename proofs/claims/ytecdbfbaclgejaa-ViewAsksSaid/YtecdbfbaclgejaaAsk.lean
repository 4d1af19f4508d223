/- Walks of those of which all terms hold. -/
import Derived.Test.YtecdbfbaclgejaaHolds3
import Derived.Test.YtecdbfbaclgejaaEntries
import Derived.Deep.RegionHeld3
namespace Go.Proofs.Ytecdbfbaclgejaa
open Go.RowKit

/-- The place of the first one; -1: there is none. -/
def idxOf {α : Type} (p : α → Bool) (l : List α) : Int := match l.findIdx? p with
  | some i => i
  | none => -1
theorem idxOf_found {α : Type} {p : α → Bool} {l : List α} {j : Nat} (hj : j < l.length) (h : p l[j] = true) (hb : ∀ x ∈ l.take j, p x = false) : idxOf p l = j := by
  unfold idxOf
  have : l.findIdx? p = some j := by
    rw [List.findIdx?_eq_some_iff_getElem]
    refine ⟨hj, h, fun i hi => ?_⟩
    have := hb l[i] (List.mem_take_iff_getElem.2 ⟨i, by omega, rfl⟩)
    simp [this]
  rw [this]
theorem idxOf_none {α : Type} {p : α → Bool} {l : List α} (hb : ∀ x ∈ l, p x = false) : idxOf p l = -1 := by
  unfold idxOf
  have : l.findIdx? p = none := by
    rw [List.findIdx?_eq_none_iff]
    intro x hx
    simp [hb x hx]
  rw [this]
theorem idxOf_any {α : Type} (p : α → Bool) (l : List α) : decide (0 ≤ idxOf p l) = l.any p := by
  unfold idxOf
  cases h : l.findIdx? p with
  | none =>
    rw [List.findIdx?_eq_none_iff] at h
    have : l.any p = false := List.any_eq_false.2 (fun x hx => by simpa using h x hx)
    rw [this]; rfl
  | some i =>
    obtain ⟨hi, hp, _⟩ := List.findIdx?_eq_some_iff_getElem.1 h
    have : l.any p = true := List.any_eq_true.2 ⟨l[i], List.getElem_mem hi, hp⟩
    rw [this]; simp

/-- An entity in a block of its own. -/
structure EntBox (w : World) (eb : Nat) (x : DEnt) (A : Option Addr) (c : Nat) : Prop where
  e0 : w.cell? ⟨eb, 0, none⟩ = some (.int .i64 x.id.index)
  e1 : w.cell? ⟨eb, 1, none⟩ = some (.int .i64 x.id.gen)
  e2 : w.cell? ⟨eb, 2, none⟩ = some (.slice A x.parts.length c)
  f0 : (Lit.int .i64 x.id.index).wf = true
  f1 : (Lit.int .i64 x.id.gen).wf = true
  s : rPart.Sl (fun b => b < w.heap.size) w A c x.parts
  lt : eb < w.heap.size
theorem EntBox.later {w w' : World} {eb : Nat} {x : DEnt} {A : Option Addr} {c : Nat} (h : EntBox w eb x A c) (hb : Below w.heap.size w w') : EntBox w' eb x A c :=
  ⟨(hb.cell (p := ⟨eb, 0, none⟩) h.lt).trans h.e0, (hb.cell (p := ⟨eb, 1, none⟩) h.lt).trans h.e1, (hb.cell (p := ⟨eb, 2, none⟩) h.lt).trans h.e2, h.f0, h.f1, h.s.keep fun b hq hl => ⟨Nat.lt_of_lt_of_le hq hb.size, hb.block b hl.lt⟩, Nat.lt_of_lt_of_le h.lt hb.size⟩
theorem EntBox.val {w : World} {eb : Nat} {x : DEnt} {A : Option Addr} {c : Nat} (h : EntBox w eb x A c) : rEnt.val (fun b => b < w.heap.size) w (.agg #[.int .i64 x.id.index, .int .i64 x.id.gen, .slice A x.parts.length c]) x := rEnt_agg h.f0 h.f1 h.s

/-- view.Ask$1 -/
theorem ask1_calls {Q : Nat → Prop} {w : World} {v : Value} {x : DEnt} {t : DTerm} {eb : Nat} {A : Option Addr} {c : Nat} (hb : EntBox w eb x A c) (ht : rTerm.val Q w v t) :
    Calls Try.prog 105 #[v, .pointer (some ⟨eb, 0, none⟩)] w fun e w' => e = .returned (.bool (!holdsE x t)) ∧ Below w.heap.size w w' := by
  obtain ⟨B, d, rfl, k0, k1, hd⟩ := rTerm_val ht
  obtain ⟨W2, hW2⟩ : ∃ W2, w.alloc (.cells #[.int .i64 t.kind, .int .i64 t.comp, .slice B t.data.length d] 41) = W2 := ⟨_, rfl⟩
  have hb2 : Below w.heap.size w W2 := by rw [← hW2]; exact (Below.refl _ _).alloc (Nat.le_refl _) _
  have t0 : W2.cell? ⟨w.heap.size, 0, none⟩ = some (.int .i64 t.kind) := by rw [← hW2]; simp
  have t1 : W2.cell? ⟨w.heap.size, 1, none⟩ = some (.int .i64 t.comp) := by rw [← hW2]; simp
  have t2 : W2.cell? ⟨w.heap.size, 2, none⟩ = some (.slice B t.data.length d) := by rw [← hW2]; simp
  have h2 := hb.later hb2
  have HV := Lib.hid h2.val
  have HT := Lib.hid (Rep.val_below ht hb2 fun _ _ h => h.lt)
  have HB := Lib.hid hb2
  obtain ⟨e0, e1, e2, _, _, _, _⟩ := h2
  clear hb ht hd k0 k1 hb2
  go_enter Try.func105, Try.ntmps105
  go_wp2_with fail
  try rw [hW2]
  clear hW2
  go_wp2_with fail
  refine (vholds_calls HV.out HT.out).mono ?_
  rintro e w1 ⟨rfl, hb1⟩
  go_wp2_with fail
  go_ret
  exact ⟨rfl, HB.out.trans (hb1.mono HB.out.size)⟩

set_option maxRecDepth 100000 in
/-- slices.IndexFunc of terms -/
theorem idxTerm_calls {Q : Nat → Prop} {w : World} {v : Value} {l : List DTerm} {x : DEnt} {eb : Nat} {A0 : Option Addr} {c0 : Nat} (hb : EntBox w eb x A0 c0) (hx : rTerm.list.val Q w v l) :
    Calls Try.prog 163 #[v, .func (.func 105) #[] #[.pointer (some ⟨eb, 0, none⟩)]] w fun e w' => e = .returned (.int .i64 (idxOf (fun t => !holdsE x t) l)) ∧ Below w.heap.size w w' := by
  obtain ⟨A, c, rfl, hc1, hc2, hA⟩ := Rep.val_list hx
  unfold maxLen at hc2
  have HA := Lib.hid hA
  have HEB := Lib.hid hb
  obtain ⟨p, hp⟩ : ∃ p : DTerm → Bool, p = fun t => !holdsE x t := ⟨_, rfl⟩
  have HP := Lib.hid hp
  clear hx hA hb hp
  go_enter Try.func163, Try.ntmps163
  go_wp2_with fail
  go_loopw [8] (fun i wr => ∃ j : Nat, i = .int .i64 j ∧ j ≤ l.length ∧ Hid (∀ t ∈ l.take j, p t = false) ∧ Below w.heap.size w wr) (fun i _ => l.length - (intOf i).toNat)
  case atStart => exact ⟨0, rfl, by omega, Lib.hid (by simp), Below.refl _ _⟩
  case round =>
    obtain ⟨j, rfl, hj, hbb, hbel⟩ := hrel
    have HB := Lib.hid hbel
    by_cases hlt : (j : Int) < l.length
    · have hj' : j < l.length := by omega
      obtain ⟨b, off, A2, c2, rfl, _, d0, d1, d2, k0, k1, sd⟩ := rTerm_at (HA.out.below hbel fun _ _ h => h.lt) (List.getElem?_eq_getElem hj')
      have F1 := Lib.hid (fun h => idxOf_found hj' h hbb.out)
      have F2 := Lib.hid (fun h => forall_take_succ (P := fun t : DTerm => p t = false) hj' hbb.out h)
      have HV := Lib.hid (show rTerm.val Q wr (.agg #[.int .i64 (l[j]).kind, .int .i64 (l[j]).comp, .slice A2 (l[j]).data.length c2]) l[j] from rTerm_agg k0 k1 sd)
      generalize l[j] = t at *
      have HE := Lib.hid (HEB.out.later hbel)
      clear hbel k0 k1 sd
      go_wp2_with fail
      refine (ask1_calls HE.out HV.out).mono ?_
      rintro e w1 ⟨rfl, hb1⟩
      have HB1 := Lib.hid (HB.out.trans (hb1.mono HB.out.size))
      rw [show (!holdsE x t) = p t by rw [HP.out]]
      clear hb1 d0 d1 d2
      cases hpt : p t with
      | true =>
        have F := Lib.hid (F1.out hpt)
        clear hpt
        go_wp2_with fail
        go_ret
        exact ⟨by rw [← HP.out, F.out]; rfl, HB1.out⟩
      | false =>
        have F := Lib.hid (F2.out hpt)
        clear hpt
        go_wp2_with fail
        exact ⟨⟨j + 1, by go_num, by omega, F, HB1.out⟩, by simp [intOf]; omega⟩
    · have F := Lib.hid (idxOf_none (p := p) (l := l) (by have := hbb.out; rwa [List.take_of_length_le (by omega)] at this))
      go_wp2_with fail
      go_ret
      exact ⟨by rw [← HP.out, F.out]; rfl, HB.out⟩

/-- slices.ContainsFunc of terms -/
theorem anyTerm_calls {Q : Nat → Prop} {w : World} {v : Value} {l : List DTerm} {x : DEnt} {eb : Nat} {A0 : Option Addr} {c0 : Nat} (hb : EntBox w eb x A0 c0) (hx : rTerm.list.val Q w v l) :
    Calls Try.prog 104 #[v, .func (.func 105) #[] #[.pointer (some ⟨eb, 0, none⟩)]] w fun e w' => e = .returned (.bool (l.any fun t => !holdsE x t)) ∧ Below w.heap.size w w' := by
  have HX := Lib.hid hx
  have HB := Lib.hid hb
  have HI := Lib.hid (idxOf_any (fun t => !holdsE x t) l)
  obtain ⟨A, c, rfl, _, _, _⟩ := Rep.val_list hx
  clear hx hb
  go_enter Try.func104, Try.ntmps104
  go_wp2_with fail
  refine (idxTerm_calls HB.out HX.out).mono ?_
  rintro e w1 ⟨rfl, hb1⟩
  generalize hi : idxOf (fun t => !holdsE x t) l = i at HI
  clear hi
  go_wp2_with fail
  go_ret
  exact ⟨by rw [← HI.out]; rfl, hb1⟩

def askE (l : List DTerm) (x : DEnt) : Bool := l.all (holdsE x)
theorem not_any_ask (l : List DTerm) (x : DEnt) : (l.any fun t => !holdsE x t) = !askE l x := by
  unfold askE
  rw [Bool.eq_iff_iff]
  simp
def askOf (ents : List DEnt) (l : List DTerm) : List DID := (ents.filter (askE l)).map (·.id)
theorem askOf_yes {ents : List DEnt} {l : List DTerm} {k : Nat} (hk : k < ents.length) (h : askE l ents[k] = true) : askOf (ents.take (k + 1)) l = askOf (ents.take k) l ++ [ents[k].id] := by
  unfold askOf; rw [List.take_succ_eq_append_getElem hk, List.filter_append, List.map_append]; simp [h]
theorem askOf_no {ents : List DEnt} {l : List DTerm} {k : Nat} (hk : k < ents.length) (h : askE l ents[k] = false) : askOf (ents.take (k + 1)) l = askOf (ents.take k) l := by
  unfold askOf; rw [List.take_succ_eq_append_getElem hk, List.filter_append, List.map_append]; simp [h]
theorem askOf_len (ents : List DEnt) (l : List DTerm) : (askOf ents l).length ≤ ents.length := by unfold askOf; rw [List.length_map]; exact List.length_filter_le _ _
theorem infoID : (Try.prog.info? 36).map (fun i => (i.zero, i.size, i.bytes)) = some (some (.agg #[.int .i64 0, .int .i64 0]), 2, 16) := by kernel_rfl

set_option maxRecDepth 100000 in
set_option maxHeartbeats 1000000 in
/-- view.Ask -/
theorem ask_calls {Q Q' : Nat → Prop} {w : World} {v u : Value} {s : DState} {l : List DTerm} (hx : rState.val Q w v s) (ht : rTerm.list.val Q' w u l) (hn : s.ents.length ≤ 1000000) :
    Calls Try.prog 28 #[v, u] w (Res rID.list (fun b => w.heap.size ≤ b) w (askOf s.ents l)) := by
  obtain ⟨A1, c1, A2, c2, A3, c3, rfl, sg, sf, se⟩ := rState_val hx
  obtain ⟨B, d, rfl, _, _, _⟩ := Rep.val_list ht
  obtain ⟨W2, hW2⟩ : ∃ W2, w.alloc (.cells #[.slice A1 s.gens.length c1, .slice A2 s.free.length c2, .slice A3 s.ents.length c3] 33) = W2 := ⟨_, rfl⟩
  have hb2 : Below w.heap.size w W2 := by rw [← hW2]; exact (Below.refl _ _).alloc (Nat.le_refl _) _
  have e2 : W2.cell? ⟨w.heap.size, 2, none⟩ = some (.slice A3 s.ents.length c3) := by rw [← hW2]; simp
  have hc3 := se.1
  have hc4 := se.2.1
  unfold maxLen at hc4
  have HS := Lib.hid (se.below hb2 fun _ _ h => h.lt)
  have HT := Lib.hid (Rep.val_below ht hb2 fun _ _ h => h.lt)
  have HB2 := Lib.hid hb2
  clear hx ht sg sf se hb2
  go_enter Try.func28, Try.ntmps28
  go_wp2_with fail
  try rw [hW2]
  clear hW2
  go_wp2_with fail
  go_loopw [5, 11] (fun a i wr => ∃ k : Nat, i = .int .i64 k ∧ k ≤ s.ents.length ∧ rID.acc 36 W2.heap.size (fun _ => False) wr a (askOf (s.ents.take k) l) ∧ Below W2.heap.size W2 wr) (fun _ i _ => s.ents.length - (intOf i).toNat)
  case atStart => exact ⟨0, rfl, by omega, Rep.acc_nil, Below.refl _ _⟩
  case round =>
    obtain ⟨k, rfl, hk, hv, hbel⟩ := hrel
    have HB := Lib.hid hbel
    have HBW := Lib.hid (HB2.out.trans (hbel.mono HB2.out.size))
    have HV := Lib.hid hv
    obtain ⟨A5, c5, rfl, _, _⟩ := Rep.acc_form hv
    by_cases hlt : (k : Int) < s.ents.length
    · have hk' : k < s.ents.length := by omega
      obtain ⟨b, off, A6, c6, rfl, _, d0, d1, d2, k0, k1, sp⟩ := rEnt_at (HS.out.2.2.below hbel fun _ _ h => h.lt) (List.getElem?_eq_getElem hk')
      have Y := Lib.hid (fun h => askOf_yes hk' h (l := l))
      have N := Lib.hid (fun h => askOf_no hk' h (l := l))
      have L := Lib.hid (show (askOf (s.ents.take k) l).length + 1 ≤ maxLen ∧ ((askOf (s.ents.take k) l).length + 1) * 16 ≤ 140737488355328 by
        have := askOf_len (s.ents.take k) l; rw [List.length_take] at this; unfold maxLen; omega)
      generalize askOf (s.ents.take k) l = q at *
      generalize s.ents[k] = x at *
      obtain ⟨W3, hW3⟩ : ∃ W3, wr.alloc (.cells #[.int .i64 x.id.index, .int .i64 x.id.gen, .slice A6 x.parts.length c6] 39) = W3 := ⟨_, rfl⟩
      have hb3 : Below wr.heap.size wr W3 := by rw [← hW3]; exact (Below.refl _ _).alloc (Nat.le_refl _) _
      have HE := Lib.hid (show EntBox W3 wr.heap.size x A6 c6 from ⟨by rw [← hW3]; simp, by rw [← hW3]; simp, by rw [← hW3]; simp, k0, k1, sp.keep fun b _ hl => ⟨Nat.lt_of_lt_of_le hl.lt hb3.size, hb3.block b hl.lt⟩, by rw [← hW3]; simp⟩)
      have HT3 := Lib.hid (Rep.val_below (Rep.val_below HT.out hbel fun _ _ h => h.lt) hb3 fun _ _ h => h.lt)
      have HB3 := Lib.hid hb3
      clear hv hbel sp k0 k1 hb3
      go_wp2_with fail
      try rw [hW3]
      clear hW3 d0 d1 d2
      refine (anyTerm_calls HE.out HT3.out).mono ?_
      rintro e w1 ⟨rfl, hb1⟩
      rw [not_any_ask]
      have HB4 := Lib.hid (HB3.out.trans (hb1.mono HB3.out.size))
      obtain ⟨e0, e1, _, g0, g1, _, _⟩ := HE.out.later hb1
      have HG := Lib.hid (And.intro g0 g1)
      have HV1 := Lib.hid (Rep.acc_later HV.out HB4.out)
      have HZ := Lib.hid (Nat.le_trans HB.out.size HB4.out.size)
      clear hb1 g0 g1
      cases ha : askE l x with
      | true =>
        have T := Lib.hid (Y.out ha)
        clear ha
        go_wp2_with (refine wpList_snoc (e := 36) (base := W2.heap.size) (Q := fun _ => False) (r := rID) rfl rfl _ _ 48 _ rfl rfl rfl (.agg #[.int .i64 0, .int .i64 0]) 2 16 Try.underlying48 infoID rfl (by decide) rfl _ q HV1.out x.id _ (by exact rfl) (rID_agg HG.out.1 HG.out.2) (by exact rfl) (by exact rfl) L.out.1 L.out.2 HZ.out ?_; intro s8 w8 hacc8 hgr8 hat8)
        exact ⟨⟨k + 1, by go_num, by omega, by rw [T.out]; exact hacc8, Rep.acc_below HV1.out (HB.out.trans (HB4.out.mono HB.out.size)) hgr8 HZ.out⟩, by simp [intOf]; omega⟩
      | false =>
        have T := Lib.hid (N.out ha)
        clear ha
        go_wp2_with fail
        exact ⟨⟨k + 1, by go_num, by omega, by rw [T.out]; exact HV1.out, HB.out.trans (HB4.out.mono HB.out.size)⟩, by simp [intOf]; omega⟩
    · obtain rfl : k = s.ents.length := by omega
      rw [List.take_length] at HV
      have HF := Lib.hid (Rep.acc_fresh HV.out)
      clear hv hbel
      go_wp2_with fail
      go_ret
      exact ⟨_, rfl, Rep.val_mono (fun b hb _ => Nat.le_trans HB2.out.size hb) HF.out, HBW.out⟩

set_option maxRecDepth 100000 in
set_option maxHeartbeats 2000000 in
/-- ref35.Ask -/
theorem rask_calls {Q Q' : Nat → Prop} {w : World} {v u : Value} {s : DState} {l : List DTerm} (hx : rState.val Q w v s) (ht : rTerm.list.val Q' w u l) (hn : s.ents.length ≤ 1000000) :
    Calls Try.prog 29 #[v, u] w (Res rID.list (fun b => w.heap.size ≤ b) w (askOf s.ents l)) := by
  obtain ⟨A1, c1, A2, c2, A3, c3, rfl, sg, sf, se⟩ := rState_val hx
  obtain ⟨B, d, rfl, hd1, hd2, hBt⟩ := Rep.val_list ht
  unfold maxLen at hd2
  obtain ⟨W2, hW2⟩ : ∃ W2, w.alloc (.cells #[.slice A1 s.gens.length c1, .slice A2 s.free.length c2, .slice A3 s.ents.length c3] 33) = W2 := ⟨_, rfl⟩
  have hb2 : Below w.heap.size w W2 := by rw [← hW2]; exact (Below.refl _ _).alloc (Nat.le_refl _) _
  have e2 : W2.cell? ⟨w.heap.size, 2, none⟩ = some (.slice A3 s.ents.length c3) := by rw [← hW2]; simp
  have hsz : W2.heap.size = w.heap.size + 1 := by rw [← hW2]; simp
  have hc3 := se.1
  have hc4 := se.2.1
  unfold maxLen at hc4
  have HS := Lib.hid (se.below hb2 fun _ _ h => h.lt)
  have HT := Lib.hid (hBt.below hb2 fun _ _ h => h.lt)
  have HB2 := Lib.hid hb2
  have HK2 := Lib.hid (show ∀ W, Below W2.heap.size W2 W → W.cell? ⟨w.heap.size, 2, none⟩ = some (.slice A3 s.ents.length c3) from fun W h => (h.cell (p := ⟨w.heap.size, 2, none⟩) (show w.heap.size < W2.heap.size by omega)).trans e2)
  clear hx ht sg sf se hb2 hBt hsz e2
  go_enter Try.func29, Try.ntmps29
  go_wp2_with fail
  try rw [hW2]
  clear hW2
  go_wp2_with fail
  go_loopw [5, 6] (fun a i wr => ∃ k : Nat, i = .int .i64 k ∧ k ≤ s.ents.length ∧ rID.acc 36 W2.heap.size (fun _ => False) wr a (askOf (s.ents.take k) l) ∧ Below W2.heap.size W2 wr) (fun _ i _ => s.ents.length - (intOf i).toNat)
  case atStart => exact ⟨0, rfl, by omega, Rep.acc_nil, Below.refl _ _⟩
  case round =>
    obtain ⟨k, rfl, hk, hv, hbel⟩ := hrel
    have HB := Lib.hid hbel
    have HBW := Lib.hid (HB2.out.trans (hbel.mono HB2.out.size))
    have HV := Lib.hid hv
    obtain ⟨A5, c5, rfl, _, _⟩ := Rep.acc_form hv
    have es := HK2.out wr hbel
    by_cases hlt : (k : Int) < s.ents.length
    · have hk' : k < s.ents.length := by omega
      obtain ⟨b, off, A6, c6, rfl, hbc, d0, d1, d2, k0, k1, sp⟩ := rEnt_at (HS.out.2.2.below hbel fun _ _ h => h.lt) (List.getElem?_eq_getElem hk')
      have hbl := hbc.lt
      have Y := Lib.hid (fun h => askOf_yes hk' h (l := l))
      have N := Lib.hid (fun h => askOf_no hk' h (l := l))
      have L := Lib.hid (show (askOf (s.ents.take k) l).length + 1 ≤ maxLen ∧ ((askOf (s.ents.take k) l).length + 1) * 16 ≤ 140737488355328 by
        have := askOf_len (s.ents.take k) l; rw [List.length_take] at this; unfold maxLen; omega)
      generalize askOf (s.ents.take k) l = q at *
      generalize s.ents[k] = x at *
      have HG := Lib.hid (And.intro k0 k1)
      have HVx := Lib.hid (show ∀ W, Below wr.heap.size wr W → rEnt.val (fun _ => True) W (.agg #[.int .i64 x.id.index, .int .i64 x.id.gen, .slice A6 x.parts.length c6]) x from fun W h => rEnt_agg HG.out.1 HG.out.2 (sp.keep fun b _ hl => ⟨trivial, h.block b hl.lt⟩))
      have KS := Lib.hid (show ∀ W, Below wr.heap.size wr W → W.cell? ⟨b, off + k * 3, none⟩ = some (.int .i64 x.id.index) ∧ W.cell? ⟨b, off + k * 3 + 1, none⟩ = some (.int .i64 x.id.gen) ∧ W.cell? ⟨b, off + k * 3 + 2, none⟩ = some (.slice A6 x.parts.length c6) from
        fun W h => ⟨(h.cell (p := ⟨b, off + k * 3, none⟩) hbl).trans d0, (h.cell (p := ⟨b, off + k * 3 + 1, none⟩) hbl).trans d1, (h.cell (p := ⟨b, off + k * 3 + 2, none⟩) hbl).trans d2⟩)
      clear hv hbel sp k0 k1 hbc d0 d1 d2
      go_wp2_with fail
      rename World => wo
      go_loopw [7, 8] (fun a i wr => ∃ j : Nat, i = .int .i64 j ∧ j ≤ l.length ∧ a = .bool ((l.take j).all (holdsE x)) ∧ Below wo.heap.size wo wr) (fun _ i _ => l.length - (intOf i).toNat)
      case atStart => exact ⟨0, rfl, by omega, rfl, Below.refl _ _⟩
      case round =>
        obtain ⟨j, rfl, hj, rfl, hb6⟩ := hrel
        have HB6 := Lib.hid hb6
        have es := HK2.out wr (HB.out.trans (hb6.mono HB.out.size))
        obtain ⟨d0, d1, d2⟩ := KS.out wr hb6
        by_cases hlt2 : (j : Int) < l.length
        · have hj' : j < l.length := by omega
          obtain ⟨b7, o7, A7, c7, rfl, hbc7, q0, q1, q2, y0, y1, sd⟩ := rTerm_at (HT.out.below (HB.out.trans (hb6.mono HB.out.size)) fun _ _ h => h.lt) (List.getElem?_eq_getElem hj')
          have hbl7 := hbc7.lt
          have AL := Lib.hid (show (l.take (j + 1)).all (holdsE x) = ((l.take j).all (holdsE x) && holdsE x l[j]) by rw [List.take_succ_eq_append_getElem hj', List.all_append]; simp)
          generalize l[j] = t at *
          have i1 : (j : Int) < l.length := hlt2
          cases hall : (l.take j).all (holdsE x) with
          | true =>
            rw [hall] at AL
            have HVt := Lib.hid (show ∀ W, Below wr.heap.size wr W → rTerm.val (fun _ => True) W (.agg #[.int .i64 t.kind, .int .i64 t.comp, .slice A7 t.data.length c7]) t from fun W h => rTerm_agg y0 y1 (sd.keep fun b _ hl => ⟨trivial, h.block b hl.lt⟩))
            have K2 := Lib.hid (show ∀ W, Below wr.heap.size wr W → W.cell? ⟨w.heap.size, 2, none⟩ = some (.slice (some ⟨b, off, none⟩) s.ents.length c3) ∧ W.cell? ⟨b, off + k * 3, none⟩ = some (.int .i64 x.id.index) ∧ W.cell? ⟨b, off + k * 3 + 1, none⟩ = some (.int .i64 x.id.gen) ∧ W.cell? ⟨b, off + k * 3 + 2, none⟩ = some (.slice A6 x.parts.length c6) ∧ W.cell? ⟨b7, o7 + j * 3, none⟩ = some (.int .i64 t.kind) ∧ W.cell? ⟨b7, o7 + j * 3 + 1, none⟩ = some (.int .i64 t.comp) ∧ W.cell? ⟨b7, o7 + j * 3 + 2, none⟩ = some (.slice A7 t.data.length c7) from
              fun W h => by
                have hb8 := HB6.out.trans (h.mono HB6.out.size)
                obtain ⟨g0, g1, g2⟩ := KS.out W hb8
                exact ⟨HK2.out W (HB.out.trans (hb8.mono HB.out.size)), g0, g1, g2, (h.cell (p := ⟨b7, o7 + j * 3, none⟩) hbl7).trans q0, (h.cell (p := ⟨b7, o7 + j * 3 + 1, none⟩) hbl7).trans q1, (h.cell (p := ⟨b7, o7 + j * 3 + 2, none⟩) hbl7).trans q2⟩)
            have HXX := Lib.hid (show ∀ W, Below wr.heap.size wr W → rEnt.val (fun _ => True) W (.agg #[.int .i64 x.id.index, .int .i64 x.id.gen, .slice A6 x.parts.length c6]) x from fun W h => HVx.out W (HB6.out.trans (h.mono HB6.out.size)))
            clear y0 y1 sd hb6 hbc7 hall
            go_wp2_with fail
            go_region_held3 (fun W => W.cell? ⟨w.heap.size, 2, none⟩ = some (.slice (some ⟨b, off, none⟩) s.ents.length c3) ∧ W.cell? ⟨b, off + k * 3, none⟩ = some (.int .i64 x.id.index) ∧ W.cell? ⟨b, off + k * 3 + 1, none⟩ = some (.int .i64 x.id.gen) ∧ W.cell? ⟨b, off + k * 3 + 2, none⟩ = some (.slice A6 x.parts.length c6) ∧ W.cell? ⟨b7, o7 + j * 3, none⟩ = some (.int .i64 t.kind) ∧ W.cell? ⟨b7, o7 + j * 3 + 1, none⟩ = some (.int .i64 t.comp) ∧ W.cell? ⟨b7, o7 + j * 3 + 2, none⟩ = some (.slice A7 t.data.length c7))
              (first
                | exact K2.out _ (Below.refl _ _).drew
                | exact K2.out _ ((Below.refl _ _).drew.trans hb9))
              (first
                | (go_at_call 31; refine (rholds_calls (HXX.out _ (Below.refl _ _).drew) (HVt.out _ (Below.refl _ _).drew)).mono ?_; rintro e w9 ⟨rfl, hb9⟩))
            rename_i hHeld
            have HB9 := Lib.hid (HB6.out.trans (((Below.refl wr.heap.size wr).drew.trans hb9).mono HB6.out.size))
            clear hHeld
            go_wp2_with fail
            exact ⟨⟨j + 1, by go_num, by omega, by rw [AL.out]; simp, HB9.out⟩, by simp [intOf]; omega⟩
          | false =>
            rw [hall] at AL
            clear y0 y1 sd hb6 hbc7 hall
            go_wp2_with fail
            go_quiet (fail)
            go_wp2_with fail
            exact ⟨⟨j + 1, by go_num, by omega, by rw [AL.out]; simp, below_drewN HB6.out nq⟩, by simp [intOf]; omega⟩
        · obtain rfl : j = l.length := by omega
          rw [List.take_length]
          have HV6 := Lib.hid (Rep.acc_later HV.out HB6.out)
          have HB7 := Lib.hid (HB.out.trans (hb6.mono HB.out.size))
          clear hb6
          cases ha : l.all (holdsE x) with
          | true =>
            have T := Lib.hid (Y.out ha)
            clear ha
            go_wp2_with (refine wpList_snoc (e := 36) (base := W2.heap.size) (Q := fun _ => False) (r := rID) rfl rfl _ _ 48 _ rfl rfl rfl (.agg #[.int .i64 0, .int .i64 0]) 2 16 Try.underlying48 infoID rfl (by decide) rfl _ q HV6.out x.id _ (by exact rfl) (rID_agg HG.out.1 HG.out.2) (by exact rfl) (by exact rfl) L.out.1 L.out.2 HB7.out.size ?_; intro s8 w8 hacc8 hgr8 hat8)
            exact ⟨⟨k + 1, by go_num, by omega, by rw [T.out]; exact hacc8, Rep.acc_below HV6.out HB7.out hgr8 HB7.out.size⟩, by simp [intOf]; omega⟩
          | false =>
            have T := Lib.hid (N.out ha)
            clear ha
            go_wp2_with fail
            exact ⟨⟨k + 1, by go_num, by omega, by rw [T.out]; exact HV6.out, HB7.out⟩, by simp [intOf]; omega⟩
    · obtain rfl : k = s.ents.length := by omega
      rw [List.take_length] at HV
      have HF := Lib.hid (Rep.acc_fresh HV.out)
      clear hv hbel
      go_wp2_with fail
      go_ret
      exact ⟨_, rfl, Rep.val_mono (fun b hb _ => Nat.le_trans HB2.out.size hb) HF.out, HBW.out⟩
end Go.Proofs.Ytecdbfbaclgejaa
