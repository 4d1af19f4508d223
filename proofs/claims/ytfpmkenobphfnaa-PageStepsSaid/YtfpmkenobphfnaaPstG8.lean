/- Texts on which the proofs stand: RGet, Reader. No condition is laid on any input. -/
import Derived.Test.YtfpmkenobphfnaaPstG2
import Derived.Test.YtfpmkenobphfnaaPstG7
import Derived.Test.YtfpmkenobphfnaaPstTypes
import Derived.StillTailTactics
import Derived.Deep.RegionWith
/- Walk of the reference's function that reads a number out of bytes. -/
namespace Go.Proofs.Ytfpmkenobphfnaa
open Go.RowKit

theorem fin_some {g : Option Int} {z : Int} (h : g = some z) : Ending.returned (.tuple #[.int .i64 z, .bool true]) = Ending.returned (.tuple #[.int .i64 (g.getD 0), .bool g.isSome]) := by subst h; rfl

set_option maxRecDepth 10000 in
set_option maxHeartbeats 1000000 in
/-- ref01.Get -/
theorem rget_calls {Q : Nat → Prop} {w : World} {v : Value} {b : List UInt8} {at_ width : Int} (hx : Rep.byte.list.val Q w v b) (ha : (Lit.int .i64 at_).wf = true) :
    Calls Try.prog 206 #[v, .int .i64 at_, .int .i64 width] w fun e w' => e = .returned (.tuple #[.int .i64 ((getNum b at_ width).getD 0), .bool (getNum b at_ width).isSome]) ∧ w' = w := by
  have ha1 : -9223372036854775808 ≤ at_ ∧ at_ ≤ 9223372036854775807 := by simpa [Lit.wf, IntKind.min, IntKind.max, IntKind.signed, IntKind.bits] using ha
  obtain ⟨A, c, rfl, hc1, hc2, hA⟩ := Rep.val_list hx
  unfold maxLen at hc2
  obtain ⟨W, hW⟩ : ∃ W, W = wide width := ⟨_, rfl⟩
  have g1 := wide_ge width
  have g2 := wide_le width
  rw [← hW] at g1 g2
  by_cases hok : 0 ≤ at_ ∧ at_ + W ≤ b.length
  · have HW := Lib.hid hW
    clear hW hx
    obtain ⟨h0, h1⟩ := hok
    obtain ⟨p, rfl⟩ : ∃ p : Nat, at_ = p := ⟨at_.toNat, by omega⟩
    obtain ⟨k0, hk0⟩ : ∃ k0 : Nat, W = k0 := ⟨W.toNat, by omega⟩
    subst hk0
    have HR := Lib.hid (getNum_some HW.out (show p + k0 ≤ b.length by omega))
    clear ha
    have n1 : ¬ (b.length : Int) - k0 < p := by omega
    have HC := Lib.hid (show ∀ k : Nat, k < k0 → ∃ (b0 o0 : Nat) (h : k < ((b.drop p).take k0).length), A = some ⟨b0, o0, none⟩ ∧ w.cell? ⟨b0, o0 + (p + k), none⟩ = some (.int .u8 ((((b.drop p).take k0)[k]).toNat : Int)) from fun k hk => by
      obtain ⟨b0, o0, h3, h4⟩ := hA.byte (i := p + k) (x := b[p + k]'(by omega)) (List.getElem?_eq_getElem (by omega))
      exact ⟨b0, o0, by simp; omega, h3, by rw [h4]; simp⟩)
    have HL := Lib.hid (show ((b.drop p).take k0).length = k0 by simp; omega)
    generalize (b.drop p).take k0 = S at *
    go_enter Try.func206, Try.ntmps206
    go_wp2_with (go_at_call 158; refine (rwide_calls _ _).mono ?_; rintro e w' ⟨rfl, rfl⟩; rw [← HW.out])
    go_loop [9, 10] (fun s i => ∃ (k : Nat) (m : Nat), k ≤ k0 ∧ i = .int .i64 ((k : Int) - 1) ∧ s = .int .u64 (m : Int) ∧ Hid (m = leNat (S.drop k)) ∧ (m : Int) ≤ 18446744073709551615 ∧ (0 < k → (m : Int) ≤ 72057594037927935)) (fun _ i => (intOf i + 1).toNat)
    case atStart => exact ⟨k0, 0, Nat.le_refl _, rfl, rfl, by rw [List.drop_of_length_le (by rw [HL.out]; exact Nat.le_refl _)]; rfl, by omega, by omega⟩
    case round =>
      obtain ⟨k, m, hk, rfl, rfl, hm, hm1, hm2⟩ := hrel
      by_cases hlt : (1 : Int) ≤ k
      · obtain ⟨j, rfl⟩ : ∃ j, k = j + 1 := ⟨k - 1, by omega⟩
        obtain ⟨b0, o0, hks, rfl, hcell⟩ := HC.out j (by omega)
        have hm3 := hm2 (by omega)
        have hx := (S[j]).toNat_lt
        have TT := Lib.hid (show m * 256 + (S[j]).toNat = leNat (S.drop j) by rw [leNat_drop hks, ← hm.out, Nat.add_comm, Nat.mul_comm])
        have B := Lib.hid (show 0 < j → m * 256 + (S[j]).toNat ≤ 72057594037927935 by
          intro hj
          rw [TT.out]
          have h1 := leNat_lt (S.drop j)
          rw [List.length_drop, HL.out] at h1
          have h2 : 256 ^ (k0 - j) ≤ 256 ^ 7 := Nat.pow_le_pow_right (by decide) (by omega)
          have h3 : 256 ^ 7 = 72057594037927936 := by decide
          omega)
        generalize (S[j]).toNat = x at *
        have e1 : ((j + 1 : Nat) : Int) - 1 = j := by omega
        have x0 : (0 : Int) ≤ (x : Int) := by omega
        have x1 : (x : Int) ≤ 255 := by omega
        rw [e1]
        clear hm2 hlt
        go_wp2_with fail
        go_round
        case rel => exact ⟨j, m * 256 + x, by omega, rfl, by go_num, TT.out, by omega, fun h => by have := B.out h; omega⟩
        case measure => simp [intOf]
      · obtain rfl : k = 0 := by omega
        have hm' : m = leNat S := by have := hm.out; simpa using this
        have R := Lib.hid (show i64of (leNat S) = wrap64 m by rw [← hm']; exact (wrap64_i64of m).symm)
        clear hm' hm hm1 hm2
        go_wp2_with fail
        generalize wrap64 (m : Int) = z at *
        go_ret2
        exact ⟨fin_some (HR.out.trans (congrArg some R.out)), rfl⟩
  · have HR := Lib.hid (getNum_none (b := b) (at_ := at_) (width := width) (by rw [← hW]; exact hok))
    have HW := Lib.hid hW
    clear hW hx ha hA
    by_cases c1 : at_ < 0
    · clear hok
      go_enter Try.func206, Try.ntmps206
      go_wp2_with (go_at_call 158; refine (rwide_calls _ _).mono ?_; rintro e w' ⟨rfl, rfl⟩; rw [← HW.out])
      go_ret2
      exact ⟨by rw [HR.out]; rfl, rfl⟩
    · have c3 : (b.length : Int) - W < at_ := by omega
      clear hok
      go_enter Try.func206, Try.ntmps206
      go_wp2_with (go_at_call 158; refine (rwide_calls _ _).mono ?_; rintro e w' ⟨rfl, rfl⟩; rw [← HW.out])
      go_ret2
      exact ⟨by rw [HR.out]; rfl, rfl⟩
end Go.Proofs.Ytfpmkenobphfnaa
/- Walks of the reader over bytes. -/

namespace Go.Proofs.Ytfpmkenobphfnaa
open Go.RowKit

/-- A reader lies in block p: over the bytes b, at a place; whether something was not there. -/
structure RdrAt (w : World) (p : Nat) (A : Option Addr) (c : Nat) (b : List UInt8) (at_ : Nat) (bad : Bool) : Prop where
  blk : w.heap[p]? = some (.cells #[.slice A b.length c, .int .i64 at_, .bool bad] 237 (0, 0))
  sl : Rep.byte.Sl (fun x => x < p) w A c b
  le : at_ ≤ b.length
theorem RdrAt.c0 {w : World} {p : Nat} {A : Option Addr} {c : Nat} {b : List UInt8} {at_ : Nat} {bad : Bool} (h : RdrAt w p A c b at_ bad) : w.cell? ⟨p, 0, none⟩ = some (.slice A b.length c) := by simp [World.cell?, h.blk]
theorem RdrAt.c1 {w : World} {p : Nat} {A : Option Addr} {c : Nat} {b : List UInt8} {at_ : Nat} {bad : Bool} (h : RdrAt w p A c b at_ bad) : w.cell? ⟨p, 1, none⟩ = some (.int .i64 at_) := by simp [World.cell?, h.blk]
theorem RdrAt.c2 {w : World} {p : Nat} {A : Option Addr} {c : Nat} {b : List UInt8} {at_ : Nat} {bad : Bool} (h : RdrAt w p A c b at_ bad) : w.cell? ⟨p, 2, none⟩ = some (.bool bad) := by simp [World.cell?, h.blk]
theorem RdrAt.z {w : World} {p : Nat} {A : Option Addr} {c : Nat} {b : List UInt8} {at_ : Nat} {bad : Bool} (h : RdrAt w p A c b at_ bad) (i : Nat) : w.frozen? ⟨p, i, none⟩ = false := by simp [World.frozen?, h.blk]
theorem RdrAt.keep {w w' : World} {p : Nat} {A : Option Addr} {c : Nat} {b : List UInt8} {at_ : Nat} {bad : Bool} (h : RdrAt w p A c b at_ bad) (hk : ∀ x, IsC w x → w'.heap[x]? = w.heap[x]?) : RdrAt w' p A c b at_ bad :=
  ⟨(hk p ⟨_, _, _, h.blk⟩).trans h.blk, h.sl.keep fun x hx hl => ⟨hx, hk x hl⟩, h.le⟩
theorem RdrAt.drewN {w : World} {p : Nat} {A : Option Addr} {c : Nat} {b : List UInt8} {at_ : Nat} {bad : Bool} (h : RdrAt w p A c b at_ bad) (n : Nat) : RdrAt (w.drewN n) p A c b at_ bad := h.keep (w' := w.drewN n) fun _ _ => rfl
theorem RdrAt.lt {w : World} {p : Nat} {A : Option Addr} {c : Nat} {b : List UInt8} {at_ : Nat} {bad : Bool} (h : RdrAt w p A c b at_ bad) : p < w.heap.size := IsC.lt ⟨_, _, _, h.blk⟩

/-- (*le.Reader).OK -/
theorem ok_calls {w : World} {p : Nat} {A : Option Addr} {c : Nat} {b : List UInt8} {at_ : Nat} {bad : Bool} (h : RdrAt w p A c b at_ bad) :
    Calls Try.prog 109 #[.pointer (some ⟨p, 0, none⟩)] w fun e w' => e = .returned (.bool (!bad)) ∧ w' = w := by
  have c2 := h.c2
  clear h
  go_enter Try.func109, Try.ntmps109
  go_wp2_with fail
  go_ret
  exact ⟨rfl, rfl⟩

/-- (*le.Reader).Left -/
theorem left_calls {w : World} {p : Nat} {A : Option Addr} {c : Nat} {b : List UInt8} {at_ : Nat} {bad : Bool} (h : RdrAt w p A c b at_ bad) (hb : b.length ≤ 1000000000) :
    Calls Try.prog 110 #[.pointer (some ⟨p, 0, none⟩)] w fun e w' => e = .returned (.int .i64 ((b.length : Int) - at_)) ∧ ∃ n, w' = w.drewN n := by
  have c0 := h.c0
  have c1 := h.c1
  have hle := h.le
  clear h
  go_enter Try.func110, Try.ntmps110
  go_wp2_with fail
  go_quiet (fail)
  go_wp2_with fail
  go_ret
  exact ⟨rfl, _, rfl⟩

/-- A reader of its own over the bytes. -/
def ReadRes (w : World) (b : List UInt8) (e : Ending) (w' : World) : Prop :=
  ∃ p A c, e = .returned (.pointer (some ⟨p, 0, none⟩)) ∧ RdrAt w' p A c b 0 false ∧ w.heap.size ≤ p ∧ Below w.heap.size w w' ∧ Rep.byte.Sl (fun x => w.heap.size ≤ x ∧ x ≠ p) w' A c b

/-- le.Read -/
theorem read_calls {Q : Nat → Prop} {w : World} {v : Value} {b : List UInt8} (hx : Rep.byte.list.val Q w v b) (hl : b.length ≤ 1000000000) :
    Calls Try.prog 107 #[v] w (ReadRes w b) := by
  obtain ⟨A, c, rfl, _, _, _⟩ := Rep.val_list hx
  have HX := Lib.hid hx
  clear hx
  go_enter Try.func107, Try.ntmps107
  go_wp2_with (go_at_call 152; refine (sliceClone HX.out (by omega)).mono ?_; rintro e w1 ⟨u, rfl, hu, hb⟩; have HU := Lib.hid hu; obtain ⟨A2, c2, rfl, _, _⟩ := Rep.acc_form hu; clear hu)
  go_ret
  have hs := Rep.val_sl (Rep.acc_fresh HU.out)
  obtain ⟨A3, c3, he, hs⟩ := hs
  cases he
  have hb' : Below w1.heap.size w1 (w1.alloc (.cells #[.slice A2 b.length c2, .int .i64 0, .bool false] 237)) := (Below.refl _ _).alloc (Nat.le_refl _) _
  refine ⟨w1.heap.size, A2, c2, rfl, ⟨heap_alloc_new w1 _, hs.keep fun x hx hl => ⟨?_, hb'.block x hl.lt⟩, Nat.zero_le _⟩, hb.size, hb.trans (hb'.mono hb.size), hs.keep fun x hx hl => ⟨⟨hx, ?_⟩, hb'.block x hl.lt⟩⟩
  · have := hl.lt; omega
  · have := hl.lt; omega

/-- What the next number is, where the reader is then, and whether something was not there. -/
def rdNum (b : List UInt8) (at_ : Nat) (bad : Bool) (width : Int) : Int × Nat × Bool :=
  if bad then (0, at_, true) else match getNum b at_ width with
    | none => (0, at_, true)
    | some n => (n, at_ + (wide width).toNat, false)
theorem getNum_le {b : List UInt8} {at_ : Nat} {width n : Int} (h : getNum b at_ width = some n) : (at_ : Int) + wide width ≤ b.length := by
  unfold getNum at h
  split at h
  · rename_i hh; exact hh.2
  · cases h
def NumRes (w : World) (p : Nat) (A : Option Addr) (c : Nat) (b : List UInt8) (r : Int × Nat × Bool) (e : Ending) (w' : World) : Prop :=
  e = .returned (.int .i64 r.1) ∧ RdrAt w' p A c b r.2.1 r.2.2 ∧ w.grownBy w' (some p)

theorem heap_setRow {w : World} {b i e : Nat} {cs : Array Value} {v : Value} {f : Nat × Nat} (h : w.heap[b]? = some (.cells cs e f)) : (w.setCell ⟨b, i, none⟩ v).heap[b]? = some (.cells (cs.setIfInBounds i v) e f) := by
  simp [World.setCell, Array.getElem?_modify, h]
theorem grownBy_drewN (w : World) (n : Nat) (row : Option Nat) : w.grownBy (w.drewN n) row := ⟨rfl, rfl, rfl, Nat.le_refl _, fun _ _ _ => rfl⟩

theorem grownBy_setCell (w : World) (a : Addr) (v : Value) : w.grownBy (w.setCell a v) (some a.block) :=
  ⟨rfl, rfl, rfl, by simp, fun b _ hne => Below.heap_setCell _ _ _ _ (fun e => hne (by rw [e]))⟩
theorem setBad {w : World} {p : Nat} {A : Option Addr} {c : Nat} {b : List UInt8} {at_ : Nat} {bad : Bool} (h : RdrAt w p A c b at_ bad) : RdrAt (w.setCell ⟨p, 2, none⟩ (.bool true)) p A c b at_ true :=
  ⟨by rw [heap_setRow h.blk]; rfl, h.sl.keep fun x hx _ => ⟨hx, Below.heap_setCell _ _ _ _ (Nat.ne_of_lt hx)⟩, h.le⟩
theorem setAt {w : World} {p : Nat} {A : Option Addr} {c : Nat} {b : List UInt8} {at_ at2 : Nat} {bad : Bool} (h : RdrAt w p A c b at_ bad) (hl : at2 ≤ b.length) : RdrAt (w.setCell ⟨p, 1, none⟩ (.int .i64 at2)) p A c b at2 bad :=
  ⟨by rw [heap_setRow h.blk]; rfl, h.sl.keep fun x hx _ => ⟨hx, Below.heap_setCell _ _ _ _ (Nat.ne_of_lt hx)⟩, hl⟩

set_option maxRecDepth 100000 in
set_option maxHeartbeats 1000000 in
/-- (*le.Reader).Num -/
theorem rdnum_calls {w : World} {p : Nat} {A : Option Addr} {c : Nat} {b : List UInt8} {at_ : Nat} {bad : Bool} {width : Int} (h : RdrAt w p A c b at_ bad) (hb : b.length ≤ 1000000000) :
    Calls Try.prog 108 #[.pointer (some ⟨p, 0, none⟩), .int .i64 width] w (NumRes w p A c b (rdNum b at_ bad width)) := by
  have c0 := h.c0
  have c1 := h.c1
  have c2 := h.c2
  have z1 := h.z 1
  have z2 := h.z 2
  have hle := h.le
  have HWF := Lib.hid (show (Lit.int .i64 (at_ : Int)).wf = true from wf_i64 (by omega) (by omega))
  have H := Lib.hid h
  clear h
  cases bad with
  | true =>
    have R := Lib.hid (show rdNum b at_ true width = (0, at_, true) from rfl)
    go_enter Try.func108, Try.ntmps108
    go_wp2_with (go_at_call 109; refine (ok_calls H.out).mono ?_; rintro e w' ⟨rfl, rfl⟩)
    go_ret
    rw [R.out]
    exact ⟨rfl, H.out, World.grownBy.refl _ _⟩
  | false =>
    cases hg : getNum b at_ width with
    | none =>
      have R := Lib.hid (show rdNum b at_ false width = (0, at_, true) by simp [rdNum, hg])
      have G := Lib.hid hg
      clear hg
      go_enter Try.func108, Try.ntmps108
      go_wp2_with (go_at_call 109; refine (ok_calls H.out).mono ?_; rintro e w' ⟨rfl, rfl⟩)
      go_quiet ((go_at_call 167; exact Calls.quiet_of_same (get_calls (H.out.drewN _).sl.val HWF.out)))
      rw [G.out]
      go_wp2_with fail
      go_ret
      rw [R.out]
      have hg := grownBy_drewN w' nq (some p)
      generalize hW : w'.drewN nq = W at *
      have h1 : RdrAt W p A c b at_ false := by rw [← hW]; exact H.out.drewN nq
      exact ⟨rfl, setBad h1, hg.trans (grownBy_setCell _ _ _)⟩
    | some n =>
      have R := Lib.hid (show rdNum b at_ false width = (n, at_ + (wide width).toNat, false) by simp [rdNum, hg])
      have G := Lib.hid hg
      clear hg
      go_enter Try.func108, Try.ntmps108
      go_wp2_with (go_at_call 109; refine (ok_calls H.out).mono ?_; rintro e w' ⟨rfl, rfl⟩)
      go_quiet ((go_at_call 167; exact Calls.quiet_of_same (get_calls (H.out.drewN _).sl.val HWF.out)))
      rw [G.out]
      simp only [Option.getD_some, Option.isSome_some]
      go_wp2_with fail
      have h1 : RdrAt (w'.drewN nq) p A c b at_ false := H.out.drewN nq
      have hg := grownBy_drewN w' nq (some p)
      generalize w'.drewN nq = W1 at *
      have d1 := h1.c1
      have y1 := h1.z 1
      have HG := Lib.hid hg
      have H1 := Lib.hid h1
      have g1 := wide_ge width
      have g2 := wide_le width
      obtain ⟨k, hk⟩ : ∃ k : Nat, wide width = k := ⟨(wide width).toNat, by omega⟩
      rw [hk] at g1 g2
      have hle2 := getNum_le G.out
      have hs : IntKind.i64.wrap ((at_ : Int) + (k : Int)) = ((at_ + k : Nat) : Int) := by rw [IntWalk.i64_in _ ⟨by omega, by omega⟩]; rfl
      have HL := Lib.hid (show at_ + k ≤ b.length by omega)
      have HK := Lib.hid hk
      clear hk hle2 c0 c1 c2 z1 z2 hg h1
      go_region_with ((go_at_call 157; refine (wide_calls _ _).mono ?_; rintro e w' ⟨rfl, rfl⟩; rw [HK.out]))
      all_goals
        go_wp2_with fail
        go_ret
        rw [R.out, HK.out]
        exact ⟨rfl, (setAt H1.out HL.out).drewN 1, (HG.out.trans (grownBy_setCell _ _ _)).trans (grownBy_drewN _ 1 _)⟩
end Go.Proofs.Ytfpmkenobphfnaa
