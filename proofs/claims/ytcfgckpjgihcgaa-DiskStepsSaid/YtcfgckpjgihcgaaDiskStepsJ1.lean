/- Texts on which the proof of DiskSteps stands, part 1: DiskSteps, LiftDiskSteps. No condition is laid on any input. -/
import Derived.Test.YtcfgckpjgihcgaaDskJ8
/- The statement on what each step of a device's script tells, walked. -/
namespace Go.Proofs.Ytcfgckpjgihcgaa
open Go.RowKit

theorem burnW_keeps (d : DDisk) : (burnW d).1.wait = d.wait ∧ (burnW d).1.safe = d.safe := ⟨(burnW_same d).2, (burnW_same d).1⟩
theorem goW_wait (d : DDisk) (x : DStep) : (goW d x).1.wait.length ≤ d.wait.length + 1 := by
  have h := (burnW_same d).2
  unfold goW
  split
  · exact Nat.le_succ _
  · split
    · exact Nat.zero_le _
    · split
      · exact Nat.le_succ _
      · split
        · show (burnW d).1.wait.length ≤ _; rw [h]; exact Nat.le_succ _
        · split
          · show ((burnW d).1.wait ++ [_]).length ≤ _; rw [h, List.length_append]; exact Nat.le_refl _
          · split
            · exact Nat.zero_le _
            · show (burnW d).1.wait.length ≤ _; rw [h]; exact Nat.le_succ _
theorem goW_safe (d : DDisk) (x : DStep) : (goW d x).1.safe.length = d.safe.length := by
  have h := (burnW_same d).1
  unfold goW
  split
  · rfl
  · split
    · exact crashTail_length d x.fates _
    · split
      · rfl
      · split
        · show (burnW d).1.safe.length = _; rw [h]
        · split
          · show (burnW d).1.safe.length = _; rw [h]
          · split
            · show (syncTail (burnW d).1.safe _).length = _; rw [syncTail_length, h]
            · show (burnW d).1.safe.length = _; rw [h]
/-- A box made ahead of a call. -/
theorem zero_kept {w4 w5 : World} (h : Below (w4.alloc (.cells #[.slice none 0 0, .slice none 0 0, .int .i64 0, .bool false, .int .i64 0, .int .i64 0] 104)).drew.heap.size (w4.alloc (.cells #[.slice none 0 0, .slice none 0 0, .int .i64 0, .bool false, .int .i64 0, .int .i64 0] 104)).drew w5) :
    w5.cell? ⟨w4.heap.size, 0, none⟩ = some (.slice none 0 0) ∧ w5.cell? ⟨w4.heap.size, 1, none⟩ = some (.slice none 0 0) ∧ w5.cell? ⟨w4.heap.size, 2, none⟩ = some (.int .i64 0) ∧ w5.cell? ⟨w4.heap.size, 3, none⟩ = some (.bool false) ∧ w5.cell? ⟨w4.heap.size, 4, none⟩ = some (.int .i64 0) ∧ w5.cell? ⟨w4.heap.size, 5, none⟩ = some (.int .i64 0) ∧
    w5.frozen? ⟨w4.heap.size, 0, none⟩ = false ∧ w5.frozen? ⟨w4.heap.size, 1, none⟩ = false ∧ w5.frozen? ⟨w4.heap.size, 2, none⟩ = false ∧ w5.frozen? ⟨w4.heap.size, 3, none⟩ = false ∧ w5.frozen? ⟨w4.heap.size, 4, none⟩ = false ∧ w5.frozen? ⟨w4.heap.size, 5, none⟩ = false := by
  have e := (h.block w4.heap.size (show w4.heap.size < (w4.alloc _).heap.size by simp)).trans (heap_alloc_new w4 _)
  exact ⟨cell_row e 0, cell_row e 1, cell_row e 2, cell_row e 3, cell_row e 4, cell_row e 5, frozen_row e 0, frozen_row e 1, frozen_row e 2, frozen_row e 3, frozen_row e 4, frozen_row e 5⟩
/-- What the reference's step has left: its box, what it reads, and its bytes. -/
structure Fresh (K : Nat → Prop) (B : Nat) (w4 W : World) (m : Nat) (d : DDisk) (E0 : Option Addr) (m0 : Nat) (E1 : Option Addr) (m1 : Nat) (u : Value) (l : List UInt8) : Prop where
  bel : Below w4.heap.size w4 W
  box : W.heap[m]? = some (.cells #[.slice E0 d.safe.length m0, .slice E1 d.wait.length m1, .int .i64 d.fuse, .bool d.off, .int .i64 d.reads, .int .i64 d.writes] 104 (0, 0))
  val : rDisk.val (fun b => (K b ∧ b ≠ B) ∨ w4.heap.size ≤ b) W (.agg #[.slice E0 d.safe.length m0, .slice E1 d.wait.length m1, .int .i64 d.fuse, .bool d.off, .int .i64 d.reads, .int .i64 d.writes]) d
  out : Rep.byte.list.val (fun b => (K b ∧ b ≠ B) ∨ w4.heap.size ≤ b) W u l
theorem fresh1 {K : Nat → Prop} {B : Nat} {w4 w5 Wc : World} {d : DDisk} {E0 E1 : Option Addr} {m0 m1 : Nat} {u : Value} {l : List UInt8} (hb : Below w4.heap.size w4 w5) (hs : w4.heap.size ≤ Wc.heap.size)
    (hz : rDisk.val (fun b => (K b ∧ b ≠ B) ∨ Wc.heap.size ≤ b) w5 (.agg #[.slice E0 d.safe.length m0, .slice E1 d.wait.length m1, .int .i64 d.fuse, .bool d.off, .int .i64 d.reads, .int .i64 d.writes]) d) (hu : Rep.byte.list.val (fun b => (K b ∧ b ≠ B) ∨ Wc.heap.size ≤ b) w5 u l) :
    Fresh K B w4 (w5.alloc (.cells #[.slice E0 d.safe.length m0, .slice E1 d.wait.length m1, .int .i64 d.fuse, .bool d.off, .int .i64 d.reads, .int .i64 d.writes] 104)) w5.heap.size d E0 m0 E1 m1 u l := by
  have h : Below w5.heap.size w5 (w5.alloc (.cells #[.slice E0 d.safe.length m0, .slice E1 d.wait.length m1, .int .i64 d.fuse, .bool d.off, .int .i64 d.reads, .int .i64 d.writes] 104)) := (Below.refl _ _).alloc (Nat.le_refl _) _
  exact ⟨hb.trans (h.mono hb.size), heap_alloc_new w5 _, Rep.val_keep (fun b hq hl => ⟨hq.imp id (fun e => Nat.le_trans hs e), h.block b hl.lt⟩) hz, Rep.val_keep (fun b hq hl => ⟨hq.imp id (fun e => Nat.le_trans hs e), h.block b hl.lt⟩) hu⟩
theorem fresh2 {K : Nat → Prop} {B : Nat} {w4 w5 : World} {d : DDisk} {E0 E1 : Option Addr} {m0 m1 : Nat} {u : Value} {l : List UInt8} (hk : ∀ b, K b → b < w4.heap.size)
    (h5 : Below (w4.alloc (.cells #[.slice none 0 0, .slice none 0 0, .int .i64 0, .bool false, .int .i64 0, .int .i64 0] 104)).drew.heap.size (w4.alloc (.cells #[.slice none 0 0, .slice none 0 0, .int .i64 0, .bool false, .int .i64 0, .int .i64 0] 104)).drew w5)
    (hz : rDisk.val (fun b => (K b ∧ b ≠ B) ∨ (w4.alloc (.cells #[.slice none 0 0, .slice none 0 0, .int .i64 0, .bool false, .int .i64 0, .int .i64 0] 104)).drew.heap.size ≤ b) w5 (.agg #[.slice E0 d.safe.length m0, .slice E1 d.wait.length m1, .int .i64 d.fuse, .bool d.off, .int .i64 d.reads, .int .i64 d.writes]) d) (hu : Rep.byte.list.val (fun b => (K b ∧ b ≠ B) ∨ (w4.alloc (.cells #[.slice none 0 0, .slice none 0 0, .int .i64 0, .bool false, .int .i64 0, .int .i64 0] 104)).drew.heap.size ≤ b) w5 u l) :
    Fresh K B w4 ((((((w5.setCell ⟨w4.heap.size, 0, none⟩ (.slice E0 d.safe.length m0)).setCell ⟨w4.heap.size, 1, none⟩ (.slice E1 d.wait.length m1)).setCell ⟨w4.heap.size, 2, none⟩ (.int .i64 d.fuse)).setCell ⟨w4.heap.size, 3, none⟩ (.bool d.off)).setCell ⟨w4.heap.size, 4, none⟩ (.int .i64 d.reads)).setCell ⟨w4.heap.size, 5, none⟩ (.int .i64 d.writes)) w4.heap.size d E0 m0 E1 m1 u l := by
  have hsz : (w4.alloc (.cells #[.slice none 0 0, .slice none 0 0, .int .i64 0, .bool false, .int .i64 0, .int .i64 0] 104)).drew.heap.size = w4.heap.size + 1 := by
    show (w4.alloc _).heap.size = _
    simp
  have ha : Below w4.heap.size w4 (w4.alloc (.cells #[.slice none 0 0, .slice none 0 0, .int .i64 0, .bool false, .int .i64 0, .int .i64 0] 104)).drew := ((Below.refl w4.heap.size w4).alloc (Nat.le_refl _) _).drew
  have hbut : But w4.heap.size w5 ((((((w5.setCell ⟨w4.heap.size, 0, none⟩ (.slice E0 d.safe.length m0)).setCell ⟨w4.heap.size, 1, none⟩ (.slice E1 d.wait.length m1)).setCell ⟨w4.heap.size, 2, none⟩ (.int .i64 d.fuse)).setCell ⟨w4.heap.size, 3, none⟩ (.bool d.off)).setCell ⟨w4.heap.size, 4, none⟩ (.int .i64 d.reads)).setCell ⟨w4.heap.size, 5, none⟩ (.int .i64 d.writes)) := ((((((But.refl _ _).set _ _).set _ _).set _ _).set _ _).set _ _).set _ _
  have hne : ∀ b, ((K b ∧ b ≠ B) ∨ (w4.alloc (.cells #[.slice none 0 0, .slice none 0 0, .int .i64 0, .bool false, .int .i64 0, .int .i64 0] 104)).drew.heap.size ≤ b) → b ≠ w4.heap.size := fun b hb => by
    rcases hb with hb | hb
    · have := hk b hb.1; omega
    · rw [hsz] at hb; omega
  exact ⟨hbut.below (ha.trans (h5.mono ha.size)) (Nat.le_refl _), row6_set ((h5.block w4.heap.size (by rw [hsz]; exact Nat.lt_succ_self _)).trans (heap_alloc_new w4 _)),
    Rep.val_keep (fun b hb _ => ⟨hb.imp id (fun e => by rw [hsz] at e; omega), hbut.block b (hne b hb)⟩) hz, Rep.val_keep (fun b hb _ => ⟨hb.imp id (fun e => by rw [hsz] at e; omega), hbut.block b (hne b hb)⟩) hu⟩
/-- A device and the reference's, side by side: the reference's lies in the box B. -/
def Twin (w W : World) (P B n k : Nat) (st : DiskSt) (d : DDisk) (A0 : Option Addr) (c0 : Nat) (A1 : Option Addr) (c1 : Nat) : Prop :=
  ∃ K : Nat → Prop, (∀ b, b < w.heap.size → K b) ∧ K B ∧ w.heap.size ≤ B ∧ DevAt K W P n st ∧ W.heap[B]? = some (.cells (dcells d A0 c0 A1 c1) 104 (0, 0)) ∧ rDisk.val (fun b => K b ∧ b ≠ B) W (.agg (dcells d A0 c0 A1 c1)) d ∧ Mirror st d ∧ d.wait.length ≤ n ∧ d.safe.length = k ∧ Below w.heap.size w W

set_option maxRecDepth 100000 in
set_option maxHeartbeats 4000000 in
/-- DiskSteps -/
theorem diskSteps_calls {Q : Nat → Prop} {w : World} {v : Value} {n : UInt8} {l : List DStep} (h1 : rStep.list.val Q w v l) :
    Calls Try.prog 8 #[.int .u8 (n.toNat : Int), v] w fun e w' => e = .returned (.bool true) ∧ Below w.heap.size w w' := by
  have H1 := Lib.hid (Rep.val_any h1)
  obtain ⟨A1, c1, rfl, hc1, hm1, _⟩ := Rep.val_list h1
  unfold maxLen at hm1
  clear h1
  have hn : n.toNat < 256 := n.toNat_lt
  generalize n.toNat = n at *
  have i1 : IntKind.i64.wrap (n : Int) = n := IntWalk.i64_in _ ⟨by omega, by omega⟩
  go_enter Try.func8, Try.ntmps8
  go_wp2_with fail
  refine (muchSteps_calls H1.out).mono ?_
  rintro e w1 ⟨r1, rfl, hr1, hw⟩
  have hw2 := hw.symm
  subst hw2
  clear hw
  cases r1 with
  | true =>
    go_wp2_with (go_at_call 67; refine (live04_calls _).mono ?_; rintro e w' ⟨rfl, hb⟩)
    go_ret
    exact ⟨rfl, hb⟩
  | false =>
    have HL1 := Lib.hid (hr1 rfl)
    clear hr1
    obtain ⟨k, hk⟩ : ∃ k : Nat, (n : Int) % 8 = (k : Int) := ⟨n % 8, by omega⟩
    have hk8 : k < 8 := by omega
    go_wp2_with fail
    try simp only [hk]
    clear i1 hn hk
    refine (dev_new (n := (k : Int)) (by omega) (by omega) w).mono ?_
    rintro e w1 ⟨P, rfl, hd, hb1⟩
    have hnew : newN (k : Int) = k := by rcases newN_cases (k : Int) with h | h | h <;> omega
    rw [hnew] at hd
    have HD1 := Lib.hid hd
    have HB1 := Lib.hid hb1
    have HS0 := Lib.hid (new_sound k)
    clear hnew hd hb1
    go_wp2_with fail
    refine (rnew_calls (k : Int) (by omega) w1).mono ?_
    rintro e w2 ⟨z, rfl, hz, hb2⟩
    rw [Int.toNat_natCast] at hz
    have HM0 := Lib.hid (show Mirror (newSt (List.replicate k (zeros 512))) (newD k) from ⟨rfl, fun _ => rfl, fun x hx => (by cases hx), rfl, rfl, rfl, rfl⟩)
    have HLS := Lib.hid (show (newD k).safe.length = k from List.length_replicate)
    have HLW := Lib.hid (show (newD k).wait.length = 0 from rfl)
    generalize newSt (List.replicate k (zeros 512)) = s0 at *
    generalize newD k = d0 at *
    obtain ⟨B0, k0, B1, k1, rfl, q0, q1, f2, f3, f4⟩ := rDisk_val hz
    have HZ := Lib.hid hz
    have HB2 := Lib.hid hb2
    have HD2 := Lib.hid (HD1.out.below hb2)
    clear hz hb2 q0 q1 f2 f3 f4
    have HX1 := Lib.hid (show ∀ W', Below w.heap.size w W' → rStep.At (fun b => b < w.heap.size) W' A1 l from fun W' hb => by
      obtain ⟨A', c', he, _, _, hat⟩ := Rep.val_list (Rep.val_below (B := w.heap.size) H1.out hb fun _ h _ => h)
      cases he; exact hat)
    have h3 : Below w2.heap.size w2 (w2.alloc (.cells #[.slice B0 d0.safe.length k0, .slice B1 d0.wait.length k1, .int .i64 d0.fuse, .bool d0.off, .int .i64 d0.reads, .int .i64 d0.writes] 104)) := (Below.refl _ _).alloc (Nat.le_refl _) _
    have HT := Lib.hid (show Twin w (w2.alloc (.cells #[.slice B0 d0.safe.length k0, .slice B1 d0.wait.length k1, .int .i64 d0.fuse, .bool d0.off, .int .i64 d0.reads, .int .i64 d0.writes] 104)) P w2.heap.size 0 k s0 d0 B0 k0 B1 k1 from by
      have hsz : (w2.alloc (.cells #[.slice B0 d0.safe.length k0, .slice B1 d0.wait.length k1, .int .i64 d0.fuse, .bool d0.off, .int .i64 d0.reads, .int .i64 d0.writes] 104)).heap.size = w2.heap.size + 1 := by simp
      have hz1 := HB1.out.size
      have hz2 := HB2.out.size
      refine ⟨fun b => b < w.heap.size ∨ (w1.heap.size ≤ b ∧ b < w2.heap.size + 1), fun b hb => .inl hb, .inr ⟨hz2, Nat.lt_succ_self _⟩, Nat.le_trans hz1 hz2, HD1.out.grow (HB2.out.trans (h3.mono hz2)) (fun b hb => hb.imp id fun e => ⟨e.1, by rw [hsz]; exact e.2⟩), heap_alloc_new w2 _, ?_, HM0.out, Nat.le_of_eq HLW.out, HLS.out, HB1.out.trans ((HB2.out.trans (h3.mono hz2)).mono hz1)⟩
      exact Rep.val_keep (fun b hb hl => ⟨⟨.inr ⟨hb, Nat.lt_succ_of_lt hl.lt⟩, Nat.ne_of_lt hl.lt⟩, h3.block b hl.lt⟩) HZ.out)
    clear h3
    go_wp2_with fail
    generalize w2.alloc (.cells #[.slice B0 d0.safe.length k0, .slice B1 d0.wait.length k1, .int .i64 d0.fuse, .bool d0.off, .int .i64 d0.reads, .int .i64 d0.writes] 104) = w3 at *
    generalize w2.heap.size = B at *
    clear HZ HB2 HD2 HD1 HB1 HM0 HLS HLW H1
    go_loopw [8] (fun kk wr => ∃ (j : Nat) (d : DDisk) (A0 : Option Addr) (c0 : Nat) (A2 : Option Addr) (c2 : Nat), kk = .int .i64 j ∧ j ≤ l.length ∧ Twin w wr P B j k (runSt s0 (l.take j)) d A0 c0 A2 c2) (fun kk _ => l.length - (intOf kk).toNat)
    case atStart => exact ⟨0, d0, B0, k0, B1, k1, rfl, Nat.zero_le _, HT.out⟩
    case round =>
      clear HT
      obtain ⟨j, d, A0, c0, A2, c2, rfl, hj, K, hKw, hKB, hwB, hd, hblk, hv, hmir, hwl, hsl, hb⟩ := hrel
      have HD := Lib.hid hd
      have HB := Lib.hid hb
      have HBL := Lib.hid hblk
      have HV := Lib.hid hv
      have HM := Lib.hid hmir
      have HSJ := Lib.hid (run_sound HS0.out (l.take j))
      have HKW := Lib.hid hKw
      have HKB := Lib.hid hKB
      have HWL := Lib.hid hwl
      have HSL := Lib.hid hsl
      have HWB := Lib.hid hwB
      clear hd hblk hv hmir hwl hsl hKw hKB hwB
      by_cases hlt : (j : Int) < l.length
      · obtain ⟨x, hx⟩ : ∃ x, l[j]? = some x := ⟨_, List.getElem?_eq_getElem (by omega)⟩
        obtain ⟨b, off, A6, c6, A7, c7, rfl, _, e0, e1, e2, e3, f0, f1, sp, sq⟩ := rStep_at (HX1.out _ hb) hx
        have HXV := Lib.hid (rStep_agg (x := x) f0 f1 sp sq)
        have HRUN := Lib.hid (run_succ s0 hx)
        have HXX := Lib.hid hx
        clear hb f0 f1 sp sq hx
        go_wp2_with fail
        refine (do_calls HD.out (by have := HL1.out; omega) (fun y hy => by have := HSJ.out.sec y hy; omega) (fun i y hy => by have := HSJ.out.wt i y hy; omega) HXV.out (fun b hb => HKW.out b hb)).mono ?_
        rintro e w4 ⟨u4, rfl, hu4, hd4, hk4⟩
        rw [← HRUN.out] at hd4
        obtain ⟨hm5, ho5⟩ := mirror_step HM.out x
        rw [← HRUN.out] at hm5
        rw [ho5] at hu4 ⊢
        have HD4 := Lib.hid hd4
        have HU4 := Lib.hid hu4
        have HM5 := Lib.hid hm5
        have HB4 := Lib.hid (HB.out.trans (hk4.below (base := w.heap.size) fun b hb => HKW.out b hb))
        have HBL4 := Lib.hid ((hk4.block B HKB.out).trans HBL.out)
        have HV4 := Lib.hid (hk4.val (fun b hb => hb.1) HV.out)
        have HWL5 := Lib.hid (show (goW d x).1.wait.length ≤ j + 1 from Nat.le_trans (goW_wait d x) (Nat.succ_le_succ HWL.out))
        have HSL5 := Lib.hid (show (goW d x).1.safe.length = k from (goW_safe d x).trans HSL.out)
        have HKK := Lib.hid (show ∀ y ∈ d.wait, 0 ≤ y.pos ∧ y.pos < d.safe.length from HM.out.keys)
        have HBLT := Lib.hid (hd4.lt B HKB.out)
        obtain ⟨b', off', A6', c6', A7', c7', he', hbx, e0', e1', e2', e3', f0, f1, sp, sq⟩ := rStep_at (HX1.out _ HB4.out) HXX.out
        cases he'
        have HXV4 := Lib.hid (rStep_agg (x := x) f0 f1 sp sq)
        have C4 : ∀ W', Below w4.heap.size w4 W' → W'.cell? ⟨b, off + j * 4, none⟩ = some (.int .i64 x.act) ∧ W'.cell? ⟨b, off + j * 4 + 1, none⟩ = some (.int .i64 x.pos) ∧ W'.cell? ⟨b, off + j * 4 + 2, none⟩ = some (.slice A6' x.b.length c6') ∧ W'.cell? ⟨b, off + j * 4 + 3, none⟩ = some (.slice A7' x.fates.length c7') := fun W' hb =>
          ⟨(hb.cell (p := ⟨b, off + j * 4, none⟩) hbx.lt).trans e0', (hb.cell (p := ⟨b, off + j * 4 + 1, none⟩) hbx.lt).trans e1', (hb.cell (p := ⟨b, off + j * 4 + 2, none⟩) hbx.lt).trans e2', (hb.cell (p := ⟨b, off + j * 4 + 3, none⟩) hbx.lt).trans e3'⟩
        have C5 : ∀ W', Below w4.heap.size w4 W' → W'.cell? ⟨B, 0, none⟩ = some (.slice A0 d.safe.length c0) ∧ W'.cell? ⟨B, 1, none⟩ = some (.slice A2 d.wait.length c2) ∧ W'.cell? ⟨B, 2, none⟩ = some (.int .i64 d.fuse) ∧ W'.cell? ⟨B, 3, none⟩ = some (.bool d.off) ∧ W'.cell? ⟨B, 4, none⟩ = some (.int .i64 d.reads) ∧ W'.cell? ⟨B, 5, none⟩ = some (.int .i64 d.writes) := fun W' hb => by
          have h := (hb.block B HBLT.out).trans HBL4.out
          exact ⟨cell_row h 0, cell_row h 1, cell_row h 2, cell_row h 3, cell_row h 4, cell_row h 5⟩
        obtain ⟨A4, c4, rfl, hc4, hm4, _⟩ := Rep.val_list hu4
        clear hu4 hd4 hk4 hm5 e0 e1 e2 e3 e0' e1' e2' e3' f0 f1 sp sq hbx ho5
        go_wp2_with fail
        have hbd := (Below.refl w4.heap.size w4).drew
        have hbda : Below w4.heap.size w4 (w4.alloc (.cells #[.slice none 0 0, .slice none 0 0, .int .i64 0, .bool false, .int .i64 0, .int .i64 0] 104)).drew := ((Below.refl w4.heap.size w4).alloc (Nat.le_refl _) _).drew
        go_region_held3 (fun W' => Below w4.heap.size w4 W')
          ((with_reducible (repeat (refine below_set ?_ (by first | exact Nat.le_refl _ | exact D5.out.size))); first | with_reducible exact hbd | with_reducible exact hbda | with_reducible exact D5.out | with_reducible exact D5.out.alloc D5.out.size _))
          (first
            | (go_at_call 70; refine (rgo_calls (Q := fun b => K b ∧ b ≠ B) (Q' := fun b => b < w.heap.size) (Rep.val_below (B := w4.heap.size) HV4.out ‹Below w4.heap.size w4 _› (fun b hb _ => HD4.out.lt b hb.1)) (Rep.val_below (B := w4.heap.size) HXV4.out ‹Below w4.heap.size w4 _› (fun b hb _ => HD4.out.lt b (HKW.out b hb))) (fun b hb => Nat.lt_of_lt_of_le (HD4.out.lt b hb.1) (Below.size ‹Below w4.heap.size w4 _›)) (fun b hb => Nat.lt_of_lt_of_le (HD4.out.lt b (HKW.out b hb)) (Below.size ‹Below w4.heap.size w4 _›)) (by have := HWL.out; have := HL1.out; omega) (by have := HSL.out; omega) HKK.out).mono ?_; rintro e w5 ⟨z, u5, rfl, hz, hu5, hb5⟩; have D5 := Lib.hid (Below.trans ‹Below w4.heap.size w4 _› (hb5.mono (Below.size ‹Below w4.heap.size w4 _›))); have d5 := D5.out; obtain ⟨E0, m0, E1, m1, rfl, q0, q1, f2, f3, f4⟩ := rDisk_val hz; have HZ5 := Lib.hid hz; have HU5 := Lib.hid hu5; obtain ⟨A5, c5, rfl, hc5, hm5, _⟩ := Rep.val_list hu5; have HB5 := Lib.hid hb5; (try have z5 := zero_kept hb5); clear hz hu5 hb5 q0 q1 f2 f3 f4))
        all_goals
          generalize (goW d x).1 = d' at *
          generalize (goW d x).2.1 = want at *
          generalize (goW d x).2.2 = er at *
          clear C4
          first
            | (have HF := Lib.hid (fresh1 (Wc := w4.drew) D5.out (Nat.le_refl _) HZ5.out HU5.out)
               obtain ⟨Wy, hWy⟩ : ∃ Wy, w5.alloc (.cells #[.slice E0 d'.safe.length m0, .slice E1 d'.wait.length m1, .int .i64 d'.fuse, .bool d'.off, .int .i64 d'.reads, .int .i64 d'.writes] 104) = Wy := ⟨_, rfl⟩
               obtain ⟨m, hm⟩ : ∃ m, w5.heap.size = m := ⟨_, rfl⟩
               rw [hWy, hm] at HF
               rw [hWy]
               rw [hm]
               clear hWy hm)
            | (have HF := Lib.hid (fresh2 (fun b hb => HD4.out.lt b hb) HB5.out HZ5.out HU5.out)
               obtain ⟨Wy, hWy⟩ : ∃ Wy, ((((((w5.setCell ⟨w4.heap.size, 0, none⟩ (.slice E0 d'.safe.length m0)).setCell ⟨w4.heap.size, 1, none⟩ (.slice E1 d'.wait.length m1)).setCell ⟨w4.heap.size, 2, none⟩ (.int .i64 d'.fuse)).setCell ⟨w4.heap.size, 3, none⟩ (.bool d'.off)).setCell ⟨w4.heap.size, 4, none⟩ (.int .i64 d'.reads)).setCell ⟨w4.heap.size, 5, none⟩ (.int .i64 d'.writes)) = Wy := ⟨_, rfl⟩
               rw [hWy] at HF
               rw [hWy]
               clear hWy
               obtain ⟨m, hm⟩ : ∃ m, w4.heap.size = m := ⟨_, rfl⟩
               have HF := (show Hid (Fresh K B w4 Wy m d' E0 m0 E1 m1 (.slice A5 want.length c5) want) by rw [← hm]; exact HF)
               rw [hm]
               clear hm)
          clear D5 d5 HZ5 HU5 HB5 hbd hbda
          try clear z5
          have hbx := HF.out.box
          have m0' := cell_row hbx 0
          have m1' := cell_row hbx 1
          have m2' := cell_row hbx 2
          have m3' := cell_row hbx 3
          have m4' := cell_row hbx 4
          have m5' := cell_row hbx 5
          have hBB := (HF.out.bel.block B HBLT.out).trans HBL4.out
          obtain ⟨g0, g1, g2, g3, g4, g5⟩ := C5 _ HF.out.bel
          have y0 := frozen_row hBB 0
          have y1 := frozen_row hBB 1
          have y2 := frozen_row hBB 2
          have y3 := frozen_row hBB 3
          have y4 := frozen_row hBB 4
          have y5 := frozen_row hBB 5
          have HBB := Lib.hid hBB
          clear hbx hBB C5
          go_wp2_with fail
          obtain ⟨Wz, hWz⟩ : ∃ Wz, ((((((Wy.setCell ⟨B, 0, none⟩ (.slice E0 d'.safe.length m0)).setCell ⟨B, 1, none⟩ (.slice E1 d'.wait.length m1)).setCell ⟨B, 2, none⟩ (.int .i64 d'.fuse)).setCell ⟨B, 3, none⟩ (.bool d'.off)).setCell ⟨B, 4, none⟩ (.int .i64 d'.reads)).setCell ⟨B, 5, none⟩ (.int .i64 d'.writes)) = Wz := ⟨_, rfl⟩
          have hbut : But B Wy Wz := by rw [← hWz]; exact ((((((But.refl _ _).set _ _).set _ _).set _ _).set _ _).set _ _).set _ _
          have hrow : Wz.heap[B]? = some (.cells #[.slice E0 d'.safe.length m0, .slice E1 d'.wait.length m1, .int .i64 d'.fuse, .bool d'.off, .int .i64 d'.reads, .int .i64 d'.writes] 104 (0, 0)) := by rw [← hWz]; exact row6_set HBB.out
          rw [hWz]
          clear hWz m0' m1' m2' m3' m4' m5' g0 g1 g2 g3 g4 g5 y0 y1 y2 y3 y4 y5
          have HKY := Lib.hid (show ∃ K' : Nat → Prop, (∀ b, K b → K' b) ∧ DevAt K' Wz P (j + 1) (runSt s0 (l.take (j + 1))) ∧ rDisk.val (fun b => K' b ∧ b ≠ B) Wz (.agg #[.slice E0 d'.safe.length m0, .slice E1 d'.wait.length m1, .int .i64 d'.fuse, .bool d'.off, .int .i64 d'.reads, .int .i64 d'.writes]) d' from by
            refine ⟨fun b => K b ∨ (w4.heap.size ≤ b ∧ b < Wy.heap.size), fun b hb => .inl hb, ?_, ?_⟩
            · obtain ⟨hl, F, BB, hd, hf⟩ := HD4.out.grow (K' := fun b => K b ∨ (w4.heap.size ≤ b ∧ b < Wy.heap.size)) HF.out.bel (fun b hb => hb)
              refine ⟨fun b hb => by rw [hbut.size]; exact hl b hb, F, BB, hd.keep (Nat.le_of_eq hbut.size.symm) (fun b hb => hbut.block b (fun e => hf b hb (e ▸ .inl HKB.out))), hf⟩
            · refine Rep.val_keep (fun b hb hl => ⟨⟨hb.elim (fun e => .inl e.1) (fun e => .inr ⟨e, hl.lt⟩), ?_⟩, hbut.block b ?_⟩) HF.out.val <;> (rcases hb with hb | hb; (· exact hb.2); (· have := HBLT.out; omega)))
          have HOUT := Lib.hid (show Rep.byte.list.val (fun _ => True) Wz (.slice A5 want.length c5) want from Rep.val_keep (fun b hb _ => ⟨trivial, hbut.block b (by rcases hb with hb | hb; (· exact hb.2); (· have := HBLT.out; omega))⟩) HF.out.out)
          have HUZ := Lib.hid (show Rep.byte.list.val (fun _ => True) Wz (.slice A4 want.length c4) want from Rep.val_keep (fun b hb hl => ⟨trivial, (hbut.block b (by have := HD.out.lt B HKB.out; omega)).trans (HF.out.bel.block b hl.lt)⟩) HU4.out)
          have HROW := Lib.hid hrow
          have HBZ := Lib.hid (hbut.below (HB4.out.trans (HF.out.bel.mono HB4.out.size)) HWB.out)
          have HBLZ := Lib.hid (show B < Wz.heap.size by rw [hbut.size]; exact Nat.lt_of_lt_of_le HBLT.out HF.out.bel.size)
          obtain ⟨K', hKK', hdz, hvz⟩ := HKY.out
          have HKK' := Lib.hid hKK'
          have HDZ := Lib.hid hdz
          have HVZ := Lib.hid hvz
          clear hbut hrow HKY hKK' hdz hvz HF HBB HD4 HU4 HB4 HBL4 HV4 HD HB HBL HV HM HBLT HXV HXV4
          have C7 : ∀ W', Below Wz.heap.size Wz W' → W'.cell? ⟨B, 0, none⟩ = some (.slice E0 d'.safe.length m0) ∧ W'.cell? ⟨B, 1, none⟩ = some (.slice E1 d'.wait.length m1) ∧ W'.cell? ⟨B, 2, none⟩ = some (.int .i64 d'.fuse) ∧ W'.cell? ⟨B, 3, none⟩ = some (.bool d'.off) ∧ W'.cell? ⟨B, 4, none⟩ = some (.int .i64 d'.reads) ∧ W'.cell? ⟨B, 5, none⟩ = some (.int .i64 d'.writes) := fun W' hb => by
            have h := (hb.block B HBLZ.out).trans HROW.out
            exact ⟨cell_row h 0, cell_row h 1, cell_row h 2, cell_row h 3, cell_row h 4, cell_row h 5⟩
          have HMD := Lib.hid (mirror_dirty HM5.out)
          have hbd := (Below.refl Wz.heap.size Wz).drew
          go_region_held3 (fun W' => Below Wz.heap.size Wz W')
            ((first | with_reducible assumption | with_reducible exact D6.out | with_reducible exact D7.out | with_reducible exact D8.out))
            (first
              | (go_at_call 21; refine (sameBytes (Rep.val_below (B := Wz.heap.size) HUZ.out ‹Below Wz.heap.size Wz _› (fun b _ hl => hl.lt)) (Rep.val_below (B := Wz.heap.size) HOUT.out ‹Below Wz.heap.size Wz _› (fun b _ hl => hl.lt))).mono ?_; rintro e w6 ⟨rfl, hw⟩; subst hw; rw [show decide (want = want) = true from decide_eq_true rfl])
              | (go_at_call 71; refine (dev_off (HDZ.out.below ‹Below Wz.heap.size Wz _›)).mono ?_; rintro e w6 ⟨rfl, hw⟩; subst hw; rw [HM5.out.off])
              | (go_at_call 72; refine (dev_reads (HDZ.out.below ‹Below Wz.heap.size Wz _›)).mono ?_; rintro e w6 ⟨rfl, hw⟩; subst hw; rw [HM5.out.reads])
              | (go_at_call 73; refine (dev_writes (HDZ.out.below ‹Below Wz.heap.size Wz _›)).mono ?_; rintro e w6 ⟨rfl, hw⟩; subst hw; rw [HM5.out.writes])
              | (go_at_call 74; refine (dev_dirty (HDZ.out.below ‹Below Wz.heap.size Wz _›) (by have := HL1.out; omega)).mono ?_; rintro e w6 ⟨u6, rfl, hu6, hb6⟩; rw [HMD.out] at hu6; have HU6 := Lib.hid hu6; have D6 := Lib.hid (Below.trans ‹Below Wz.heap.size Wz _› (hb6.mono (Below.size ‹Below Wz.heap.size Wz _›))); have d6 := D6.out; obtain ⟨A8, c8, rfl, _, _⟩ := Rep.acc_form hu6; clear hu6 hb6)
              | (go_at_call 75; refine (rdirty_calls (Rep.val_below (B := Wz.heap.size) HVZ.out D6.out (fun b hb _ => HDZ.out.lt b hb.1)) (fun b hb => Nat.lt_of_lt_of_le (HDZ.out.lt b hb.1) D6.out.size) (by have := HWL5.out; have := HL1.out; omega) (by have := HSL5.out; omega)).mono ?_; rintro e w7 ⟨u7, rfl, hu7, hb7⟩; have HU7 := Lib.hid hu7; have HB7 := Lib.hid hb7; have D7 := Lib.hid (D6.out.trans (hb7.mono D6.out.size)); have d7 := D7.out; obtain ⟨A9, c9, rfl, _, _⟩ := Rep.acc_form hu7; clear hu7 hb7)
              | (go_at_call 43; refine (sameList (Rep.acc_val (Rep.acc_later HU6.out HB7.out)) (Rep.acc_val HU7.out)).mono ?_; rintro e w8 ⟨rfl, nq, rfl⟩; rw [show decide (dirtyW d' = dirtyW d') = true from decide_eq_true rfl]; have D8 := Lib.hid (below_drewN D7.out nq)))
          go_wp2_with fail
          exact ⟨⟨j + 1, d', E0, m0, E1, m1, by go_num, by omega, K', fun b hb => HKK'.out b (HKW.out b hb), HKK'.out B HKB.out, HWB.out, HDZ.out.below D8.out, (D8.out.block B HBLZ.out).trans HROW.out, Rep.val_below (B := Wz.heap.size) HVZ.out D8.out (fun b hb _ => HDZ.out.lt b hb.1), HM5.out, HWL5.out, HSL5.out, HBZ.out.trans (D8.out.mono HBZ.out.size)⟩, by simp [intOf]; omega⟩
      · obtain rfl : j = l.length := by omega
        have HSK := Lib.hid (show (runSt s0 (l.take l.length)).safe.flatten.length = 512 * k by rw [sec_len HSJ.out])
        have HME := Lib.hid (show (runSt s0 (l.take l.length)).safe = d.safe from HM.out.safe)
        obtain ⟨fl, hfl⟩ : ∃ fl, d.safe.flatten = fl := ⟨_, rfl⟩
        have HFL := Lib.hid hfl
        clear hfl
        have hbd := (Below.refl wr.heap.size wr).drew
        have HBLZ := Lib.hid (HD.out.lt B HKB.out)
        have C7 : ∀ W', Below wr.heap.size wr W' → W'.cell? ⟨B, 0, none⟩ = some (.slice A0 d.safe.length c0) ∧ W'.cell? ⟨B, 1, none⟩ = some (.slice A2 d.wait.length c2) ∧ W'.cell? ⟨B, 2, none⟩ = some (.int .i64 d.fuse) ∧ W'.cell? ⟨B, 3, none⟩ = some (.bool d.off) ∧ W'.cell? ⟨B, 4, none⟩ = some (.int .i64 d.reads) ∧ W'.cell? ⟨B, 5, none⟩ = some (.int .i64 d.writes) := fun W' hb => by
          have h := (hb.block B HBLZ.out).trans HBL.out
          exact ⟨cell_row h 0, cell_row h 1, cell_row h 2, cell_row h 3, cell_row h 4, cell_row h 5⟩
        clear hb
        go_wp2_with fail
        go_region_held3 (fun W' => Below wr.heap.size wr W')
          ((first | with_reducible assumption | with_reducible exact D6.out | with_reducible exact D7.out | with_reducible exact D8.out))
          (first
            | (go_at_call 76; refine (dev_bytes (HD.out.below ‹Below wr.heap.size wr _›) (by rw [HSK.out]; omega)).mono ?_; rintro e w6 ⟨u6, rfl, hu6, hb6⟩; rw [HME.out, HFL.out] at hu6; have HU6 := Lib.hid hu6; have D6 := Lib.hid (Below.trans ‹Below wr.heap.size wr _› (hb6.mono (Below.size ‹Below wr.heap.size wr _›))); have d6 := D6.out; obtain ⟨A8, c8, rfl, _, _⟩ := Rep.acc_form hu6; clear hu6 hb6)
            | (go_at_call 77; refine (rbytes_calls (Rep.val_below (B := wr.heap.size) HV.out D6.out (fun b hb _ => HD.out.lt b hb.1)) (fun b hb => Nat.lt_of_lt_of_le (HD.out.lt b hb.1) D6.out.size) (by rw [← HME.out, HSK.out]; omega)).mono ?_; rintro e w7 ⟨u7, rfl, hu7, hb7⟩; rw [HFL.out] at hu7; have HU7 := Lib.hid hu7; have HB7 := Lib.hid hb7; have D7 := Lib.hid (D6.out.trans (hb7.mono D6.out.size)); have d7 := D7.out; obtain ⟨A9, c9, rfl, _, _⟩ := Rep.acc_form hu7; clear hu7 hb7)
            | (go_at_call 21; refine (sameBytes (Rep.acc_val (Rep.acc_later HU6.out HB7.out)) (Rep.acc_val HU7.out)).mono ?_; rintro e w8 ⟨rfl, hw⟩; subst hw; rw [show decide (fl = fl) = true from decide_eq_true rfl])
            | (go_at_call 78; refine (dev_size (HD.out.below ‹Below wr.heap.size wr _›)).mono ?_; rintro e w8 ⟨rfl, hw⟩; subst hw; rw [HME.out, HSL.out])
            | (go_at_call 67; refine (live04_calls _).mono ?_; rintro e w8 ⟨rfl, hb8⟩; have D8 := Lib.hid (Below.trans ‹Below wr.heap.size wr _› (hb8.mono (Below.size ‹Below wr.heap.size wr _›))); clear hb8))
        go_wp2_with fail
        go_ret
        exact ⟨rfl, HB.out.trans (D8.out.mono HB.out.size)⟩
end Go.Proofs.Ytcfgckpjgihcgaa
/- The walk of 'vivariumlaw04.DiskSteps', lifted to the machine. -/
namespace Go.Proofs.Ytcfgckpjgihcgaa.DiskStepsLaw
open Go.ChangeShapes Go.WideShapes Go.ChangeAt Go.RowKit

set_option maxRecDepth 100000 in
theorem lifted (os : Os) (started : os.Started) (H : Type) (enc : TypeId × Value → H) :
    ReturnsInHanded {} Try.checked os 8 .any (Rows.diskStepsSpec.pre6 enc Try.prog Try.f8 Rows.diskStepsRow.domain false) (Rows.diskStepsSpec.post enc Try.prog Try.f8 false true false false) := by
  refine returnsInHanded_of_change (C := Try.checked) own started (by kernel_rfl) Try.func8
    (ChangeSpec.witness6 (enc := enc) (C := Try.checked) false ⟨#[], #[.int .u8 0, .slice none 0 0], []⟩ 8 (by kernel_rfl) (by kernel_rfl) (by kernel_rfl) (by kernel_rfl)) ?_
  intro W base args ds gs before hval0 hW _ _
  have hval : ∀ (j : Nat) t v, Try.f8.params[j]? = some t → args[j]? = some v → Value.okWide Try.prog W .any base t v := hval0
  have hW' := hW
  obtain ⟨p, q, hA0, hV, rfl, _, _⟩ := hW
  have hA : DataW.TrodAll enc Try.prog W 0 (fun _ => true) true Try.f8.params.toList args.toList ds p := hA0
  rw [Try.params8] at hA hval
  have hA2 := hA
  obtain ⟨v0, vs0, d0, ds0, p0, q0, hargs, rfl, rfl, h0, r0⟩ := trodAll_cons hA
  obtain ⟨v1, vs1, d1, ds1, p1, q1, rfl, rfl, rfl, h1, r1⟩ := trodAll_cons r0
  obtain ⟨rfl, rfl, rfl⟩ := trodAll_nil r1
  obtain rfl : args = #[v0, v1] := by cases args; simp_all
  obtain ⟨rfl, rfl⟩ := trodVars_none hV
  obtain ⟨y0, k0⟩ := Rep.opens (Rep.of_byte Try.underlying5 (by kernel_rfl)) (Rep.wrap_int Try.underlying5) (hval 0 5 v0 rfl rfl) h0
  obtain rfl := Rep.val_byte k0
  obtain ⟨y1, k1⟩ := Rep.opens (Rep.of_list Try.underlying100 (by kernel_rfl) (by decide) of_DiskStep) (Rep.wrap_list Try.underlying100) (hval 1 100 v1 rfl rfl) h1
  refine (diskSteps_calls (n := y0) k1).mono fun e W' ⟨he, bel⟩ => ?_
  subst he
  exact ⟨_, rfl, _, _, _, [], _, [], hW', trodAll_mk1 (shut_bool Try.underlying4 _), trodAll_below laidOut bel (of_decide_eq_true (by kernel_rfl)) hA2, rfl, bel.frame _, fun h => by cases h⟩

end DiskStepsLaw
end Go.Proofs.Ytcfgckpjgihcgaa
