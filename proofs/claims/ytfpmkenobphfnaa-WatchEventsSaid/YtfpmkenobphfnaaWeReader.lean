/- Walks of the reader over bytes. -/
import Derived.Test.YtfpmkenobphfnaaWeG2
import Derived.Test.YtfpmkenobphfnaaWeG5
import Derived.Test.YtfpmkenobphfnaaWeTypes
import Derived.StillTailTactics
import Derived.Deep.RegionWith
namespace Go.Proofs.Ytfpmkenobphfnaa
open Go.RowKit

/-- A reader lies in block p: over the bytes b, at a place; whether something was not there. -/
structure RdrAt (w : World) (p : Nat) (A : Option Addr) (c : Nat) (b : List UInt8) (at_ : Nat) (bad : Bool) : Prop where
  blk : w.heap[p]? = some (.cells #[.slice A b.length c, .int .i64 at_, .bool bad] 237 (0, 0))
  sl : Rep.byte.Sl (fun x => x < p) w A c b
  le : at_ ≤ b.length
theorem RdrAt.c0 {w : World} {p : Nat} {A : Option Addr} {c : Nat} {b : List UInt8} {at_ : Nat} {bad : Bool} (h : RdrAt w p A c b at_ bad) : w.cell? ⟨p, 0, none⟩ = some (.slice A b.length c) := by simp [World.cell?, h.blk]
theorem RdrAt.c1 {w : World} {p : Nat} {A : Option Addr} {c : Nat} {b : List UInt8} {at_ : Nat} {bad : Bool} (h : RdrAt w p A c b at_ bad) : w.cell? ⟨p, 1, none⟩ = some (.int .i64 at_) := by simp [World.cell?, h.blk]
theorem RdrAt.c2 {w : World} {p : Nat} {A : Option Addr} {c : Nat} {b : List UInt8} {at_ : Nat} {bad : Bool} (h : RdrAt w p A c b at_ bad) : w.cell? ⟨p, 2, none⟩ = some (.bool bad) := by simp [World.cell?, h.blk]
theorem RdrAt.z {w : World} {p : Nat} {A : Option Addr} {c : Nat} {b : List UInt8} {at_ : Nat} {bad : Bool} (h : RdrAt w p A c b at_ bad) (i : Nat) : w.frozen? ⟨p, i, none⟩ = false := by simp [World.frozen?, h.blk]
theorem RdrAt.keep {w w' : World} {p : Nat} {A : Option Addr} {c : Nat} {b : List UInt8} {at_ : Nat} {bad : Bool} (h : RdrAt w p A c b at_ bad) (hk : ∀ x, IsC w x → w'.heap[x]? = w.heap[x]?) : RdrAt w' p A c b at_ bad :=
  ⟨(hk p ⟨_, _, _, h.blk⟩).trans h.blk, h.sl.keep fun x hx hl => ⟨hx, hk x hl⟩, h.le⟩
theorem RdrAt.drewN {w : World} {p : Nat} {A : Option Addr} {c : Nat} {b : List UInt8} {at_ : Nat} {bad : Bool} (h : RdrAt w p A c b at_ bad) (n : Nat) : RdrAt (w.drewN n) p A c b at_ bad := h.keep (w' := w.drewN n) fun _ _ => rfl
theorem RdrAt.lt {w : World} {p : Nat} {A : Option Addr} {c : Nat} {b : List UInt8} {at_ : Nat} {bad : Bool} (h : RdrAt w p A c b at_ bad) : p < w.heap.size := IsC.lt ⟨_, _, _, h.blk⟩

/-- (*le.Reader).OK -/
theorem ok_calls {w : World} {p : Nat} {A : Option Addr} {c : Nat} {b : List UInt8} {at_ : Nat} {bad : Bool} (h : RdrAt w p A c b at_ bad) :
    Calls Try.prog 109 #[.pointer (some ⟨p, 0, none⟩)] w fun e w' => e = .returned (.bool (!bad)) ∧ w' = w := by
  have c2 := h.c2
  clear h
  go_enter Try.func109, Try.ntmps109
  go_wp2_with fail
  go_ret
  exact ⟨rfl, rfl⟩

/-- (*le.Reader).Left -/
theorem left_calls {w : World} {p : Nat} {A : Option Addr} {c : Nat} {b : List UInt8} {at_ : Nat} {bad : Bool} (h : RdrAt w p A c b at_ bad) (hb : b.length ≤ 1000000000) :
    Calls Try.prog 110 #[.pointer (some ⟨p, 0, none⟩)] w fun e w' => e = .returned (.int .i64 ((b.length : Int) - at_)) ∧ ∃ n, w' = w.drewN n := by
  have c0 := h.c0
  have c1 := h.c1
  have hle := h.le
  clear h
  go_enter Try.func110, Try.ntmps110
  go_wp2_with fail
  go_quiet (fail)
  go_wp2_with fail
  go_ret
  exact ⟨rfl, _, rfl⟩

/-- A reader of its own over the bytes. -/
def ReadRes (w : World) (b : List UInt8) (e : Ending) (w' : World) : Prop :=
  ∃ p A c, e = .returned (.pointer (some ⟨p, 0, none⟩)) ∧ RdrAt w' p A c b 0 false ∧ w.heap.size ≤ p ∧ Below w.heap.size w w' ∧ Rep.byte.Sl (fun x => w.heap.size ≤ x ∧ x ≠ p) w' A c b

/-- le.Read -/
theorem read_calls {Q : Nat → Prop} {w : World} {v : Value} {b : List UInt8} (hx : Rep.byte.list.val Q w v b) (hl : b.length ≤ 1000000000) :
    Calls Try.prog 107 #[v] w (ReadRes w b) := by
  obtain ⟨A, c, rfl, _, _, _⟩ := Rep.val_list hx
  have HX := Lib.hid hx
  clear hx
  go_enter Try.func107, Try.ntmps107
  go_wp2_with (go_at_call 152; refine (sliceClone HX.out (by omega)).mono ?_; rintro e w1 ⟨u, rfl, hu, hb⟩; have HU := Lib.hid hu; obtain ⟨A2, c2, rfl, _, _⟩ := Rep.acc_form hu; clear hu)
  go_ret
  have hs := Rep.val_sl (Rep.acc_fresh HU.out)
  obtain ⟨A3, c3, he, hs⟩ := hs
  cases he
  have hb' : Below w1.heap.size w1 (w1.alloc (.cells #[.slice A2 b.length c2, .int .i64 0, .bool false] 237)) := (Below.refl _ _).alloc (Nat.le_refl _) _
  refine ⟨w1.heap.size, A2, c2, rfl, ⟨heap_alloc_new w1 _, hs.keep fun x hx hl => ⟨?_, hb'.block x hl.lt⟩, Nat.zero_le _⟩, hb.size, hb.trans (hb'.mono hb.size), hs.keep fun x hx hl => ⟨⟨hx, ?_⟩, hb'.block x hl.lt⟩⟩
  · have := hl.lt; omega
  · have := hl.lt; omega

/-- What the next number is, where the reader is then, and whether something was not there. -/
def rdNum (b : List UInt8) (at_ : Nat) (bad : Bool) (width : Int) : Int × Nat × Bool :=
  if bad then (0, at_, true) else match getNum b at_ width with
    | none => (0, at_, true)
    | some n => (n, at_ + (wide width).toNat, false)
theorem getNum_le {b : List UInt8} {at_ : Nat} {width n : Int} (h : getNum b at_ width = some n) : (at_ : Int) + wide width ≤ b.length := by
  unfold getNum at h
  split at h
  · rename_i hh; exact hh.2
  · cases h
def NumRes (w : World) (p : Nat) (A : Option Addr) (c : Nat) (b : List UInt8) (r : Int × Nat × Bool) (e : Ending) (w' : World) : Prop :=
  e = .returned (.int .i64 r.1) ∧ RdrAt w' p A c b r.2.1 r.2.2 ∧ w.grownBy w' (some p)

theorem heap_setRow {w : World} {b i e : Nat} {cs : Array Value} {v : Value} {f : Nat × Nat} (h : w.heap[b]? = some (.cells cs e f)) : (w.setCell ⟨b, i, none⟩ v).heap[b]? = some (.cells (cs.setIfInBounds i v) e f) := by
  simp [World.setCell, Array.getElem?_modify, h]
theorem grownBy_drewN (w : World) (n : Nat) (row : Option Nat) : w.grownBy (w.drewN n) row := ⟨rfl, rfl, rfl, Nat.le_refl _, fun _ _ _ => rfl⟩

theorem grownBy_setCell (w : World) (a : Addr) (v : Value) : w.grownBy (w.setCell a v) (some a.block) :=
  ⟨rfl, rfl, rfl, by simp, fun b _ hne => Below.heap_setCell _ _ _ _ (fun e => hne (by rw [e]))⟩
theorem setBad {w : World} {p : Nat} {A : Option Addr} {c : Nat} {b : List UInt8} {at_ : Nat} {bad : Bool} (h : RdrAt w p A c b at_ bad) : RdrAt (w.setCell ⟨p, 2, none⟩ (.bool true)) p A c b at_ true :=
  ⟨by rw [heap_setRow h.blk]; rfl, h.sl.keep fun x hx _ => ⟨hx, Below.heap_setCell _ _ _ _ (Nat.ne_of_lt hx)⟩, h.le⟩
theorem setAt {w : World} {p : Nat} {A : Option Addr} {c : Nat} {b : List UInt8} {at_ at2 : Nat} {bad : Bool} (h : RdrAt w p A c b at_ bad) (hl : at2 ≤ b.length) : RdrAt (w.setCell ⟨p, 1, none⟩ (.int .i64 at2)) p A c b at2 bad :=
  ⟨by rw [heap_setRow h.blk]; rfl, h.sl.keep fun x hx _ => ⟨hx, Below.heap_setCell _ _ _ _ (Nat.ne_of_lt hx)⟩, hl⟩

set_option maxRecDepth 100000 in
set_option maxHeartbeats 1000000 in
/-- (*le.Reader).Num -/
theorem rdnum_calls {w : World} {p : Nat} {A : Option Addr} {c : Nat} {b : List UInt8} {at_ : Nat} {bad : Bool} {width : Int} (h : RdrAt w p A c b at_ bad) (hb : b.length ≤ 1000000000) :
    Calls Try.prog 108 #[.pointer (some ⟨p, 0, none⟩), .int .i64 width] w (NumRes w p A c b (rdNum b at_ bad width)) := by
  have c0 := h.c0
  have c1 := h.c1
  have c2 := h.c2
  have z1 := h.z 1
  have z2 := h.z 2
  have hle := h.le
  have HWF := Lib.hid (show (Lit.int .i64 (at_ : Int)).wf = true from wf_i64 (by omega) (by omega))
  have H := Lib.hid h
  clear h
  cases bad with
  | true =>
    have R := Lib.hid (show rdNum b at_ true width = (0, at_, true) from rfl)
    go_enter Try.func108, Try.ntmps108
    go_wp2_with (go_at_call 109; refine (ok_calls H.out).mono ?_; rintro e w' ⟨rfl, rfl⟩)
    go_ret
    rw [R.out]
    exact ⟨rfl, H.out, World.grownBy.refl _ _⟩
  | false =>
    cases hg : getNum b at_ width with
    | none =>
      have R := Lib.hid (show rdNum b at_ false width = (0, at_, true) by simp [rdNum, hg])
      have G := Lib.hid hg
      clear hg
      go_enter Try.func108, Try.ntmps108
      go_wp2_with (go_at_call 109; refine (ok_calls H.out).mono ?_; rintro e w' ⟨rfl, rfl⟩)
      go_quiet ((go_at_call 167; exact Calls.quiet_of_same (get_calls (H.out.drewN _).sl.val HWF.out)))
      rw [G.out]
      go_wp2_with fail
      go_ret
      rw [R.out]
      have hg := grownBy_drewN w' nq (some p)
      generalize hW : w'.drewN nq = W at *
      have h1 : RdrAt W p A c b at_ false := by rw [← hW]; exact H.out.drewN nq
      exact ⟨rfl, setBad h1, hg.trans (grownBy_setCell _ _ _)⟩
    | some n =>
      have R := Lib.hid (show rdNum b at_ false width = (n, at_ + (wide width).toNat, false) by simp [rdNum, hg])
      have G := Lib.hid hg
      clear hg
      go_enter Try.func108, Try.ntmps108
      go_wp2_with (go_at_call 109; refine (ok_calls H.out).mono ?_; rintro e w' ⟨rfl, rfl⟩)
      go_quiet ((go_at_call 167; exact Calls.quiet_of_same (get_calls (H.out.drewN _).sl.val HWF.out)))
      rw [G.out]
      simp only [Option.getD_some, Option.isSome_some]
      go_wp2_with fail
      have h1 : RdrAt (w'.drewN nq) p A c b at_ false := H.out.drewN nq
      have hg := grownBy_drewN w' nq (some p)
      generalize w'.drewN nq = W1 at *
      have d1 := h1.c1
      have y1 := h1.z 1
      have HG := Lib.hid hg
      have H1 := Lib.hid h1
      have g1 := wide_ge width
      have g2 := wide_le width
      obtain ⟨k, hk⟩ : ∃ k : Nat, wide width = k := ⟨(wide width).toNat, by omega⟩
      rw [hk] at g1 g2
      have hle2 := getNum_le G.out
      have hs : IntKind.i64.wrap ((at_ : Int) + (k : Int)) = ((at_ + k : Nat) : Int) := by rw [IntWalk.i64_in _ ⟨by omega, by omega⟩]; rfl
      have HL := Lib.hid (show at_ + k ≤ b.length by omega)
      have HK := Lib.hid hk
      clear hk hle2 c0 c1 c2 z1 z2 hg h1
      go_region_with ((go_at_call 157; refine (wide_calls _ _).mono ?_; rintro e w' ⟨rfl, rfl⟩; rw [HK.out]))
      all_goals
        go_wp2_with fail
        go_ret
        rw [R.out, HK.out]
        exact ⟨rfl, (setAt H1.out HL.out).drewN 1, (HG.out.trans (grownBy_setCell _ _ _)).trans (grownBy_drewN _ 1 _)⟩
end Go.Proofs.Ytfpmkenobphfnaa
