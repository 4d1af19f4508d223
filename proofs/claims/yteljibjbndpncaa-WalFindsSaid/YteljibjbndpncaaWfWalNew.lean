/- Walk of wal.New; how a log lies in memory. -/
import Derived.Test.YteljibjbndpncaaWfPartSplit
namespace Go.Proofs.Yteljibjbndpncaa
open Go.RowKit

theorem infoComp : (Try.prog.info? 99).map (fun i => (i.zero, i.size, i.bytes)) = some (some (.agg #[.string ⟨#[]⟩, .int .i64 0]), 2, 24) := by kernel_rfl
theorem rComp_leaf : rComp.Leaf := Rep.leaf_iso _ (Rep.leaf_pair Rep.leaf_text (Rep.leaf_int _))

theorem blk_set5 {w W : World} {b : Nat} {v0 v1 v2 v3 v4 u : Value} {t : TypeId} (h : w.heap[b]? = some (.cells #[v0, v1, v2, v3, v4] t (0, 0))) (he : w.setCell ⟨b, 4, none⟩ u = W) : W.heap[b]? = some (.cells #[v0, v1, v2, v3, u] t (0, 0)) := by
  rw [← he]; exact heap_setRow h
/-- Where a log is. -/
structure LogSt where
  epoch : Int
  head : Int
  tail : Int
  seq : Int
/-- A log lies in block L; its device in block P; G: the blocks of its layout. -/
structure LogW (W : World) (L P : Nat) (A : Option Addr) (cap : Nat) (G : Nat → Prop) (c : DConf) (x : LogSt) : Prop where
  blk : W.heap[L]? = some (.cells #[.pointer (some ⟨P, 0, none⟩), .int .i64 c.log, .int .i64 c.pages, .int .i64 c.entities, .int .i64 c.gens, .slice A c.comps.length cap, .int .i64 x.epoch, .int .i64 x.head, .int .i64 x.tail, .int .i64 x.seq] 112 (0, 0))
  conf : rConf.val G W (.agg #[.int .i64 c.log, .int .i64 c.pages, .int .i64 c.entities, .int .i64 c.gens, .slice A c.comps.length cap]) c
  lt : ∀ b, b = L ∨ G b → b < W.heap.size
  ne : ¬ G L
theorem LogW.keep {W W' : World} {L P : Nat} {A : Option Addr} {cap : Nat} {G : Nat → Prop} {c : DConf} {x : LogSt} (h : LogW W L P A cap G c x) (hs : W.heap.size ≤ W'.heap.size) (hk : ∀ b, b = L ∨ G b → W'.heap[b]? = W.heap[b]?) : LogW W' L P A cap G c x :=
  ⟨(hk L (.inl rfl)).trans h.blk, Rep.val_keep (fun b hb _ => ⟨hb, hk b (.inr hb)⟩) h.conf, fun b hb => Nat.lt_of_lt_of_le (h.lt b hb) hs, h.ne⟩
def rightLog (st : DiskSt) (c : DConf) (x : LogSt) : Bool := fitsB st c && (decide (0 ≤ roomOf c x.head x.tail) && (placeB x.epoch && placeB x.seq))
def WNewPost (F B : Nat → Prop) (P n : Nat) (W : World) (st : DiskSt) (c : DConf) (x : LogSt) (e : Ending) (W' : World) : Prop :=
  Below W.heap.size W W' ∧ ((rightLog st c x = false ∧ e = .returned (.pointer none)) ∨
    (rightLog st c x = true ∧ ∃ L A cap G, e = .returned (.pointer (some ⟨L, 0, none⟩)) ∧ LogW W' L P A cap G c x ∧ (∀ b, b = L ∨ G b → W.heap.size ≤ b)))

set_option maxRecDepth 100000 in
set_option maxHeartbeats 1000000 in
/-- wal.New of no device -/
theorem wnew_nil {Q : Nat → Prop} {w : World} {v : Value} {c : DConf} {ep hd tl sq : Int} (hx : rConf.val Q w v c) :
    Calls Try.prog 24 #[.pointer none, v, .int .i64 ep, .int .i64 hd, .int .i64 tl, .int .i64 sq] w fun e w' => e = .returned (.pointer none) ∧ Below w.heap.size w w' := by
  obtain ⟨A, cap, rfl, _⟩ := rConf_val hx
  have hbel : Below w.heap.size w (w.alloc (.cells #[.int .i64 c.log, .int .i64 c.pages, .int .i64 c.entities, .int .i64 c.gens, .slice A c.comps.length cap] 49)) := (Below.refl _ _).alloc (Nat.le_refl _) _
  generalize hW1 : w.alloc (.cells #[.int .i64 c.log, .int .i64 c.pages, .int .i64 c.entities, .int .i64 c.gens, .slice A c.comps.length cap] 49) = W1 at *
  have HB := Lib.hid hbel
  clear hx hbel
  go_enter Try.func24, Try.ntmps24
  go_wp2_with fail
  go_ret
  exact ⟨rfl, HB.out⟩

set_option maxRecDepth 100000 in
set_option maxHeartbeats 4000000 in
/-- wal.New -/
theorem wnew_calls {Q : Nat → Prop} {W : World} {P : Nat} {F B : Nat → Prop} {n : Nat} {st : DiskSt} {v : Value} {c : DConf} {x : LogSt} (h : DiskAt W P F B n st) (hx : rConf.val Q W v c) (hQ : ∀ k, Q k → ¬ F k) :
    Calls Try.prog 24 #[.pointer (some ⟨P, 0, none⟩), v, .int .i64 x.epoch, .int .i64 x.head, .int .i64 x.tail, .int .i64 x.seq] W (WNewPost F B P n W st c x) := by
  obtain ⟨A, cap, rfl, f0, f1, f2, f3, _⟩ := rConf_val hx
  have HV := Lib.hid (show ∀ W', Only F W W' → rConf.val Q W' (.agg #[.int .i64 c.log, .int .i64 c.pages, .int .i64 c.entities, .int .i64 c.gens, .slice A c.comps.length cap]) c from fun W' ho => Rep.val_keep (fun k hk hl => ⟨hk, ho.block k hl.lt (hQ k hk)⟩) hx)
  have hbel : Below W.heap.size W (W.alloc (.cells #[.int .i64 c.log, .int .i64 c.pages, .int .i64 c.entities, .int .i64 c.gens, .slice A c.comps.length cap] 49)) := (Below.refl _ _).alloc (Nat.le_refl _) _
  have hbx : (W.alloc (.cells #[.int .i64 c.log, .int .i64 c.pages, .int .i64 c.entities, .int .i64 c.gens, .slice A c.comps.length cap] 49)).heap[W.heap.size]? = some (.cells #[.int .i64 c.log, .int .i64 c.pages, .int .i64 c.entities, .int .i64 c.gens, .slice A c.comps.length cap] 49 (0, 0)) := heap_alloc_new W _
  have hsz : (W.alloc (.cells #[.int .i64 c.log, .int .i64 c.pages, .int .i64 c.entities, .int .i64 c.gens, .slice A c.comps.length cap] 49)).heap.size = W.heap.size + 1 := by simp
  generalize hW1 : W.alloc (.cells #[.int .i64 c.log, .int .i64 c.pages, .int .i64 c.entities, .int .i64 c.gens, .slice A c.comps.length cap] 49) = W1 at *
  have HS := Lib.hid hsz
  have HLT := Lib.hid (show ∀ b, F b ∨ B b → b < W.heap.size by obtain ⟨_, _, _, _, hh⟩ := h; exact hh.lt)
  have HO1 := Lib.hid (Only.of_below (F := F) hbel)
  have HD1 := Lib.hid (h.below hbel)
  have HBX := Lib.hid (show ∀ W', Only F W1 W' → W'.heap[W.heap.size]? = some (.cells #[.int .i64 c.log, .int .i64 c.pages, .int .i64 c.entities, .int .i64 c.gens, .slice A c.comps.length cap] 49 (0, 0)) from fun W' ho => (ho.block _ (by omega) (fun hf => by have := HLT.out _ (.inl hf); omega)).trans hbx)
  have a0 := cell_row hbx 0
  have a1 := cell_row hbx 1
  have a2 := cell_row hbx 2
  have a3 := cell_row hbx 3
  have a4 := cell_row hbx 4
  clear h hx hbel hbx hsz
  obtain ⟨ep, hd, tl, sq⟩ := x
  dsimp only
  have HBW := Lib.hid (show Below W.heap.size W W1 from ⟨HO1.out.os, HO1.out.tape, HO1.out.output, HO1.out.size, fun b hb => by rw [← hW1]; exact Below.heap_alloc _ _ _ hb⟩)
  cases hf : fitsB st c with
  | false =>
    have HF := Lib.hid (show rightLog st c ⟨ep, hd, tl, sq⟩ = false by unfold rightLog; rw [hf]; rfl)
    have HFB := Lib.hid hf
    clear hf
    go_enter Try.func24, Try.ntmps24
    go_wp2_with fail
    refine (fits_calls HD1.out (HV.out _ HO1.out)).mono ?_
    rintro e w2 ⟨rfl, hb2⟩
    rw [HFB.out]
    have HB2 := Lib.hid hb2
    have HO2 := Lib.hid (show Only F W1 w2 from Only.of_below hb2)
    obtain ⟨b0, b1, b2, b3, b4⟩ : World.cell? w2 ⟨W.heap.size, 0, none⟩ = some (.int .i64 c.log) ∧ World.cell? w2 ⟨W.heap.size, 1, none⟩ = some (.int .i64 c.pages) ∧ World.cell? w2 ⟨W.heap.size, 2, none⟩ = some (.int .i64 c.entities) ∧ World.cell? w2 ⟨W.heap.size, 3, none⟩ = some (.int .i64 c.gens) ∧ World.cell? w2 ⟨W.heap.size, 4, none⟩ = some (.slice A c.comps.length cap) := ⟨cell_row (HBX.out _ HO2.out) 0, cell_row (HBX.out _ HO2.out) 1, cell_row (HBX.out _ HO2.out) 2, cell_row (HBX.out _ HO2.out) 3, cell_row (HBX.out _ HO2.out) 4⟩
    clear a0 a1 a2 a3 a4 hb2
    go_wp2_with fail
    go_ret
    exact ⟨HBW.out.trans (HB2.out.mono HBW.out.size), .inl ⟨HF.out, rfl⟩⟩
  | true =>
    have HFB := Lib.hid hf
    have HCR := Lib.hid (show confRight c = true by unfold fitsB at hf; cases hc : confRight c <;> simp_all)
    obtain ⟨rm, hrm⟩ : ∃ rm, roomOf c hd tl = rm := ⟨_, rfl⟩
    have HRM := Lib.hid hrm
    by_cases hr0 : rm < 0
    · have HF := Lib.hid (show rightLog st c ⟨ep, hd, tl, sq⟩ = false by unfold rightLog; rw [hf]; dsimp only; rw [hrm, decide_eq_false (by omega)]; rfl)
      clear hf hrm
      go_enter Try.func24, Try.ntmps24
      go_wp2_with fail
      refine (fits_calls HD1.out (HV.out _ HO1.out)).mono ?_
      rintro e w2 ⟨rfl, hb2⟩
      rw [HFB.out]
      have HB2 := Lib.hid hb2
      have HO2 := Lib.hid (show Only F W1 w2 from Only.of_below hb2)
      obtain ⟨b0, b1, b2, b3, b4⟩ : World.cell? w2 ⟨W.heap.size, 0, none⟩ = some (.int .i64 c.log) ∧ World.cell? w2 ⟨W.heap.size, 1, none⟩ = some (.int .i64 c.pages) ∧ World.cell? w2 ⟨W.heap.size, 2, none⟩ = some (.int .i64 c.entities) ∧ World.cell? w2 ⟨W.heap.size, 3, none⟩ = some (.int .i64 c.gens) ∧ World.cell? w2 ⟨W.heap.size, 4, none⟩ = some (.slice A c.comps.length cap) := ⟨cell_row (HBX.out _ HO2.out) 0, cell_row (HBX.out _ HO2.out) 1, cell_row (HBX.out _ HO2.out) 2, cell_row (HBX.out _ HO2.out) 3, cell_row (HBX.out _ HO2.out) 4⟩
      clear a0 a1 a2 a3 a4 hb2
      go_wp2_with fail
      refine (geomRoom_calls (HV.out _ (HO1.out.trans HO2.out))).mono ?_
      rintro e w3 ⟨rfl, hb3⟩
      rw [HRM.out]
      have HB3 := Lib.hid (HB2.out.trans (hb3.mono HB2.out.size))
      have HO3 := Lib.hid (show Only F W1 w3 from Only.of_below HB3.out)
      clear b0 b1 b2 b3 b4
      obtain ⟨b0, b1, b2, b3, b4⟩ : World.cell? w3 ⟨W.heap.size, 0, none⟩ = some (.int .i64 c.log) ∧ World.cell? w3 ⟨W.heap.size, 1, none⟩ = some (.int .i64 c.pages) ∧ World.cell? w3 ⟨W.heap.size, 2, none⟩ = some (.int .i64 c.entities) ∧ World.cell? w3 ⟨W.heap.size, 3, none⟩ = some (.int .i64 c.gens) ∧ World.cell? w3 ⟨W.heap.size, 4, none⟩ = some (.slice A c.comps.length cap) := ⟨cell_row (HBX.out _ HO3.out) 0, cell_row (HBX.out _ HO3.out) 1, cell_row (HBX.out _ HO3.out) 2, cell_row (HBX.out _ HO3.out) 3, cell_row (HBX.out _ HO3.out) 4⟩
      clear hb3
      go_wp2_with fail
      go_ret
      exact ⟨HBW.out.trans (HB3.out.mono HBW.out.size), .inl ⟨HF.out, rfl⟩⟩
    · cases hpe : placeB ep with
      | false =>
        have HPE := Lib.hid hpe
        have HF := Lib.hid (show rightLog st c ⟨ep, hd, tl, sq⟩ = false by unfold rightLog; rw [hf]; dsimp only; rw [hpe]; simp)
        clear hf hrm hpe
        go_enter Try.func24, Try.ntmps24
        go_wp2_with fail
        refine (fits_calls HD1.out (HV.out _ HO1.out)).mono ?_
        rintro e w2 ⟨rfl, hb2⟩
        rw [HFB.out]
        have HB2 := Lib.hid hb2
        have HO2 := Lib.hid (show Only F W1 w2 from Only.of_below hb2)
        obtain ⟨b0, b1, b2, b3, b4⟩ : World.cell? w2 ⟨W.heap.size, 0, none⟩ = some (.int .i64 c.log) ∧ World.cell? w2 ⟨W.heap.size, 1, none⟩ = some (.int .i64 c.pages) ∧ World.cell? w2 ⟨W.heap.size, 2, none⟩ = some (.int .i64 c.entities) ∧ World.cell? w2 ⟨W.heap.size, 3, none⟩ = some (.int .i64 c.gens) ∧ World.cell? w2 ⟨W.heap.size, 4, none⟩ = some (.slice A c.comps.length cap) := ⟨cell_row (HBX.out _ HO2.out) 0, cell_row (HBX.out _ HO2.out) 1, cell_row (HBX.out _ HO2.out) 2, cell_row (HBX.out _ HO2.out) 3, cell_row (HBX.out _ HO2.out) 4⟩
        clear a0 a1 a2 a3 a4 hb2
        go_wp2_with fail
        refine (geomRoom_calls (HV.out _ (HO1.out.trans HO2.out))).mono ?_
        rintro e w3 ⟨rfl, hb3⟩
        rw [HRM.out]
        have HB3 := Lib.hid (HB2.out.trans (hb3.mono HB2.out.size))
        have HO3 := Lib.hid (show Only F W1 w3 from Only.of_below HB3.out)
        clear b0 b1 b2 b3 b4
        obtain ⟨b0, b1, b2, b3, b4⟩ : World.cell? w3 ⟨W.heap.size, 0, none⟩ = some (.int .i64 c.log) ∧ World.cell? w3 ⟨W.heap.size, 1, none⟩ = some (.int .i64 c.pages) ∧ World.cell? w3 ⟨W.heap.size, 2, none⟩ = some (.int .i64 c.entities) ∧ World.cell? w3 ⟨W.heap.size, 3, none⟩ = some (.int .i64 c.gens) ∧ World.cell? w3 ⟨W.heap.size, 4, none⟩ = some (.slice A c.comps.length cap) := ⟨cell_row (HBX.out _ HO3.out) 0, cell_row (HBX.out _ HO3.out) 1, cell_row (HBX.out _ HO3.out) 2, cell_row (HBX.out _ HO3.out) 3, cell_row (HBX.out _ HO3.out) 4⟩
        clear hb3
        go_wp2_with fail
        refine (walPlace_calls ep _).mono ?_
        rintro e w4 ⟨rfl, hw⟩
        have hw4 := hw.symm
        subst hw4
        clear hw
        rw [HPE.out]
        go_wp2_with fail
        go_ret
        exact ⟨HBW.out.trans (HB3.out.mono HBW.out.size), .inl ⟨HF.out, rfl⟩⟩
      | true =>
        have HPE := Lib.hid hpe
        cases hps : placeB sq with
        | false =>
          have HPS := Lib.hid hps
          have HF := Lib.hid (show rightLog st c ⟨ep, hd, tl, sq⟩ = false by unfold rightLog; rw [hf]; dsimp only; rw [hps]; simp)
          clear hf hrm hpe hps
          go_enter Try.func24, Try.ntmps24
          go_wp2_with fail
          refine (fits_calls HD1.out (HV.out _ HO1.out)).mono ?_
          rintro e w2 ⟨rfl, hb2⟩
          rw [HFB.out]
          have HB2 := Lib.hid hb2
          have HO2 := Lib.hid (show Only F W1 w2 from Only.of_below hb2)
          obtain ⟨b0, b1, b2, b3, b4⟩ : World.cell? w2 ⟨W.heap.size, 0, none⟩ = some (.int .i64 c.log) ∧ World.cell? w2 ⟨W.heap.size, 1, none⟩ = some (.int .i64 c.pages) ∧ World.cell? w2 ⟨W.heap.size, 2, none⟩ = some (.int .i64 c.entities) ∧ World.cell? w2 ⟨W.heap.size, 3, none⟩ = some (.int .i64 c.gens) ∧ World.cell? w2 ⟨W.heap.size, 4, none⟩ = some (.slice A c.comps.length cap) := ⟨cell_row (HBX.out _ HO2.out) 0, cell_row (HBX.out _ HO2.out) 1, cell_row (HBX.out _ HO2.out) 2, cell_row (HBX.out _ HO2.out) 3, cell_row (HBX.out _ HO2.out) 4⟩
          clear a0 a1 a2 a3 a4 hb2
          go_wp2_with fail
          refine (geomRoom_calls (HV.out _ (HO1.out.trans HO2.out))).mono ?_
          rintro e w3 ⟨rfl, hb3⟩
          rw [HRM.out]
          have HB3 := Lib.hid (HB2.out.trans (hb3.mono HB2.out.size))
          have HO3 := Lib.hid (show Only F W1 w3 from Only.of_below HB3.out)
          clear b0 b1 b2 b3 b4
          obtain ⟨b0, b1, b2, b3, b4⟩ : World.cell? w3 ⟨W.heap.size, 0, none⟩ = some (.int .i64 c.log) ∧ World.cell? w3 ⟨W.heap.size, 1, none⟩ = some (.int .i64 c.pages) ∧ World.cell? w3 ⟨W.heap.size, 2, none⟩ = some (.int .i64 c.entities) ∧ World.cell? w3 ⟨W.heap.size, 3, none⟩ = some (.int .i64 c.gens) ∧ World.cell? w3 ⟨W.heap.size, 4, none⟩ = some (.slice A c.comps.length cap) := ⟨cell_row (HBX.out _ HO3.out) 0, cell_row (HBX.out _ HO3.out) 1, cell_row (HBX.out _ HO3.out) 2, cell_row (HBX.out _ HO3.out) 3, cell_row (HBX.out _ HO3.out) 4⟩
          clear hb3
          go_wp2_with fail
          refine (walPlace_calls ep _).mono ?_
          rintro e w4 ⟨rfl, hw⟩
          have hw4 := hw.symm
          subst hw4
          clear hw
          rw [HPE.out]
          go_wp2_with fail
          refine (walPlace_calls sq _).mono ?_
          rintro e w5 ⟨rfl, hw⟩
          have hw5 := hw.symm
          subst hw5
          clear hw
          rw [HPS.out]
          go_wp2_with fail
          go_ret
          exact ⟨HBW.out.trans (HB3.out.mono HBW.out.size), .inl ⟨HF.out, rfl⟩⟩
        | true =>
          have HPS := Lib.hid hps
          have HF := Lib.hid (show rightLog st c ⟨ep, hd, tl, sq⟩ = true by unfold rightLog; rw [hf]; dsimp only; rw [hrm, hpe, hps, decide_eq_true (show 0 ≤ rm by omega)]; rfl)
          clear hf hrm hpe hps
          go_enter Try.func24, Try.ntmps24
          go_wp2_with fail
          refine (fits_calls HD1.out (HV.out _ HO1.out)).mono ?_
          rintro e w2 ⟨rfl, hb2⟩
          rw [HFB.out]
          have HB2 := Lib.hid hb2
          have HO2 := Lib.hid (show Only F W1 w2 from Only.of_below hb2)
          obtain ⟨b0, b1, b2, b3, b4⟩ : World.cell? w2 ⟨W.heap.size, 0, none⟩ = some (.int .i64 c.log) ∧ World.cell? w2 ⟨W.heap.size, 1, none⟩ = some (.int .i64 c.pages) ∧ World.cell? w2 ⟨W.heap.size, 2, none⟩ = some (.int .i64 c.entities) ∧ World.cell? w2 ⟨W.heap.size, 3, none⟩ = some (.int .i64 c.gens) ∧ World.cell? w2 ⟨W.heap.size, 4, none⟩ = some (.slice A c.comps.length cap) := ⟨cell_row (HBX.out _ HO2.out) 0, cell_row (HBX.out _ HO2.out) 1, cell_row (HBX.out _ HO2.out) 2, cell_row (HBX.out _ HO2.out) 3, cell_row (HBX.out _ HO2.out) 4⟩
          clear a0 a1 a2 a3 a4 hb2
          go_wp2_with fail
          refine (geomRoom_calls (HV.out _ (HO1.out.trans HO2.out))).mono ?_
          rintro e w3 ⟨rfl, hb3⟩
          rw [HRM.out]
          have HB3 := Lib.hid (HB2.out.trans (hb3.mono HB2.out.size))
          have HO3 := Lib.hid (show Only F W1 w3 from Only.of_below HB3.out)
          clear b0 b1 b2 b3 b4
          obtain ⟨b0, b1, b2, b3, b4⟩ : World.cell? w3 ⟨W.heap.size, 0, none⟩ = some (.int .i64 c.log) ∧ World.cell? w3 ⟨W.heap.size, 1, none⟩ = some (.int .i64 c.pages) ∧ World.cell? w3 ⟨W.heap.size, 2, none⟩ = some (.int .i64 c.entities) ∧ World.cell? w3 ⟨W.heap.size, 3, none⟩ = some (.int .i64 c.gens) ∧ World.cell? w3 ⟨W.heap.size, 4, none⟩ = some (.slice A c.comps.length cap) := ⟨cell_row (HBX.out _ HO3.out) 0, cell_row (HBX.out _ HO3.out) 1, cell_row (HBX.out _ HO3.out) 2, cell_row (HBX.out _ HO3.out) 3, cell_row (HBX.out _ HO3.out) 4⟩
          clear hb3
          go_wp2_with fail
          refine (walPlace_calls ep _).mono ?_
          rintro e w4 ⟨rfl, hw⟩
          have hw4 := hw.symm
          subst hw4
          clear hw
          rw [HPE.out]
          go_wp2_with fail
          refine (walPlace_calls sq _).mono ?_
          rintro e w5 ⟨rfl, hw⟩
          have hw5 := hw.symm
          subst hw5
          clear hw
          rw [HPS.out]
          have HZ := Lib.hid (HBX.out _ HO3.out)
          have hz3 : W1.heap.size ≤ w3.heap.size := HB3.out.size
          have hsz1 := HS.out
          have HZ3 := Lib.hid hz3
          have HA6 := Lib.hid (show rComp.acc 99 w3.heap.size (fun _ => False) (w3.alloc (.cells #[] 99)) (.slice (some ⟨w3.heap.size, 0, none⟩) 0 0) [] from Rep.acc_made w3 #[] 0 (Nat.le_refl _) (by simp [maxLen]) (by simp))
          have HX6 := Lib.hid (show rComp.list.val (fun _ => True) (w3.alloc (.cells #[] 99)) (.slice A c.comps.length cap) c.comps from by
            obtain ⟨A', cap', he, _, _, _, _, hsl⟩ := rConf_val (HV.out _ (HO1.out.trans HO3.out))
            injection he with he
            injection he with he
            simp only [List.cons.injEq, Value.slice.injEq, true_and, and_true] at he
            obtain ⟨rfl, rfl⟩ := he
            exact Rep.val_keep (w := w3) (fun b _ hl => ⟨trivial, Below.heap_alloc _ _ _ hl.lt⟩) hsl.val)
          have L6 := Lib.hid (show ([] : List DComp).length + c.comps.length ≤ maxLen ∧ (([] : List DComp).length + c.comps.length) * 24 ≤ 140737488355328 by have := (right_facts HCR.out).1; simp [maxLen]; omega)
          have SZ6 := Lib.hid (show w3.heap.size ≤ (w3.alloc (.cells #[] 99)).heap.size by simp)
          have hne : ¬ W.heap.size = w3.heap.size := by omega
          have hne2 : W.heap.size < w3.heap.size := by omega
          have BLK7 := Lib.hid (show ∀ (w' : World) row, (w3.alloc (.cells #[] 99)).grownBy w' row → (∀ k, row = some k → w3.heap.size ≤ k) → w'.heap[W.heap.size]? = some (.cells #[.int .i64 c.log, .int .i64 c.pages, .int .i64 c.entities, .int .i64 c.gens, .slice A c.comps.length cap] 49 (0, 0)) from fun w' row hg hr => by rw [hg.block _ (by simp; omega) (fun e => by have := hr _ e.symm; omega), Below.heap_alloc _ _ _ hne2]; exact HZ.out)
          go_wp2_with (refine wpList_spread_leaf (e := 99) (base := w3.heap.size) (Q := fun _ => False) (r := rComp) rComp_leaf rfl _ _ 47 rfl (.agg #[.string ⟨#[]⟩, .int .i64 0]) 2 24 Try.underlying47 infoComp rfl (by decide) rfl _ ([] : List DComp) (by exact rfl) HA6.out _ c.comps (by exact rfl) HX6.out L6.out.1 L6.out.2 SZ6.out ?_; intro v7 w7 hacc7 hgr7 hat7; rw [List.nil_append] at hacc7; obtain ⟨A7, c7, hv7, hc7, hm7⟩ := Rep.acc_form hacc7; subst hv7; have hb7 := BLK7.out w7 _ hgr7 (fun k hk => (Rep.acc_own HA6.out k hk).1); have e0 := cell_row hb7 0; have e1 := cell_row hb7 1; have e2 := cell_row hb7 2; have e3 := cell_row hb7 3; have e4 := cell_row hb7 4; have z4 := frozen_row hb7 4; have H7 := Lib.hid hacc7; have G7 := Lib.hid hgr7; have B7 := Lib.hid hb7; obtain ⟨W8, hW8⟩ : ∃ W8, w7.setCell ⟨W.heap.size, 4, none⟩ (.slice A7 c.comps.length c7) = W8 := ⟨_, rfl⟩; have hb8 := blk_set5 hb7 hW8; have i0 := cell_row hb8 0; have i1 := cell_row hb8 1; have i2 := cell_row hb8 2; have i3 := cell_row hb8 3; have i4 := cell_row hb8 4; have H8 := Lib.hid hW8; clear hacc7 hgr7 hat7 hb7 hb8)
          have hbel7 : Below w3.heap.size w3 w7 := ((Below.refl _ _).alloc (Nat.le_refl _) _).grown G7.out SZ6.out (fun k hk => (Rep.acc_own HA6.out k hk).1)
          have hW1lt : W.heap.size < W1.heap.size := by omega
          have hbel8 : Below W.heap.size W1 W8 := by
            rw [← H8.out]
            exact ((HB3.out.mono (show W.heap.size ≤ W1.heap.size by omega)).trans (hbel7.mono (show W.heap.size ≤ w3.heap.size by omega))).setCell (p := ⟨W.heap.size, 4, none⟩) (Nat.le_refl _) _
          have hs7 : w3.heap.size < w7.heap.size := by
            have := G7.out.size
            simp at this; omega
          have hs8 : W8.heap.size = w7.heap.size := by rw [← H8.out]; simp
          go_ret
          refine ⟨(HBW.out.trans (hbel8.mono (Nat.le_refl _))).alloc (by omega) _, .inr ⟨HF.out, W8.heap.size, A7, c7, fun b => w3.heap.size ≤ b ∧ b < W8.heap.size, rfl, ⟨heap_alloc_new W8 _, ?_, fun b hb => ?_, fun hb => by omega⟩, fun b hb => ?_⟩⟩
          · refine rConf_agg f0 f1 f2 f3 ⟨hc7, hm7, ?_⟩
            obtain ⟨A', c', he, _, _, hat⟩ := Rep.val_list (Rep.acc_val H7.out)
            cases he
            refine Rep.At.keep (w := w7) (fun b hb hl => ?_) hat
            have hb3 : w3.heap.size ≤ b := hb.elim False.elim fun e => (Rep.acc_own H7.out b e).1
            refine ⟨⟨hb3, by rw [hs8]; exact hl.lt⟩, ?_⟩
            rw [Below.heap_alloc _ _ _ (by rw [hs8]; exact hl.lt), ← H8.out]
            exact Below.heap_setCell _ _ _ _ (show b ≠ W.heap.size by omega)
          · rw [World.size_alloc]; omega
          · omega
end Go.Proofs.Yteljibjbndpncaa
