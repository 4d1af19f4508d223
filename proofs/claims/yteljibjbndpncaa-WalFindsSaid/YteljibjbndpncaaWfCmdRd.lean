/- Walks of a reader of commands: a number, and what must be. -/
import Derived.Test.YteljibjbndpncaaWfG11
import Derived.Test.YteljibjbndpncaaWfG12
import Derived.Test.YteljibjbndpncaaWfG8
namespace Go.Proofs.Yteljibjbndpncaa
open Go.RowKit

/-- Where a reader of commands is: the place, whether something was not there, the first error. -/
structure RS where
  pos : Nat
  bad : Bool
  err : Int
/-- A reader of commands lies in block q, its reader in block p. -/
structure CRd (w : World) (q p : Nat) (A : Option Addr) (c : Nat) (b : List UInt8) (s : RS) : Prop where
  rd : RdrAt w p A c b s.pos s.bad
  blk : w.heap[q]? = some (.cells #[.pointer (some ⟨p, 0, none⟩), .int .i64 s.err] 238 (0, 0))
  lt : p < q
theorem CRd.c0 {w : World} {q p : Nat} {A : Option Addr} {c : Nat} {b : List UInt8} {s : RS} (h : CRd w q p A c b s) : w.cell? ⟨q, 0, none⟩ = some (.pointer (some ⟨p, 0, none⟩)) := by simp [World.cell?, h.blk]
theorem CRd.c1 {w : World} {q p : Nat} {A : Option Addr} {c : Nat} {b : List UInt8} {s : RS} (h : CRd w q p A c b s) : w.cell? ⟨q, 1, none⟩ = some (.int .i64 s.err) := by simp [World.cell?, h.blk]
theorem CRd.z {w : World} {q p : Nat} {A : Option Addr} {c : Nat} {b : List UInt8} {s : RS} (h : CRd w q p A c b s) (i : Nat) : w.frozen? ⟨q, i, none⟩ = false := by simp [World.frozen?, h.blk]
theorem CRd.qlt {w : World} {q p : Nat} {A : Option Addr} {c : Nat} {b : List UInt8} {s : RS} (h : CRd w q p A c b s) : q < w.heap.size := IsC.lt ⟨_, _, _, h.blk⟩
theorem CRd.keep {w w' : World} {q p : Nat} {A : Option Addr} {c : Nat} {b : List UInt8} {s : RS} (h : CRd w q p A c b s) (hk : ∀ x, IsC w x → x ≤ q → w'.heap[x]? = w.heap[x]?) : CRd w' q p A c b s :=
  ⟨⟨(hk p ⟨_, _, _, h.rd.blk⟩ (Nat.le_of_lt h.lt)).trans h.rd.blk, h.rd.sl.keep fun x hx hl => ⟨hx, hk x hl (Nat.le_of_lt (Nat.lt_trans hx h.lt))⟩, h.rd.le⟩, (hk q ⟨_, _, _, h.blk⟩ (Nat.le_refl _)).trans h.blk, h.lt⟩
theorem CRd.grown {w w' : World} {q p : Nat} {A : Option Addr} {c : Nat} {b : List UInt8} {s : RS} {pos : Nat} {bad : Bool} (h : CRd w q p A c b s) (hr : RdrAt w' p A c b pos bad) (hg : w.grownBy w' (some p)) : CRd w' q p A c b ⟨pos, bad, s.err⟩ :=
  ⟨hr, (hg.block q h.qlt (fun e => by have := Option.some.inj e; have := h.lt; omega)).trans h.blk, h.lt⟩
theorem CRd.setErr {w : World} {q p : Nat} {A : Option Addr} {c : Nat} {b : List UInt8} {s : RS} (h : CRd w q p A c b s) (e : Int) : CRd (w.setCell ⟨q, 1, none⟩ (.int .i64 e)) q p A c b { s with err := e } :=
  ⟨⟨(Below.heap_setCell _ _ _ _ (Nat.ne_of_lt h.lt)).trans h.rd.blk, h.rd.sl.keep fun x hx _ => ⟨hx, Below.heap_setCell _ _ _ _ (show x ≠ q by have : x < p := hx; have := h.lt; omega)⟩, h.rd.le⟩, by rw [heap_setRow h.blk]; rfl, h.lt⟩
theorem only_grown {w w' : World} {q p : Nat} (h : w.grownBy w' (some p)) : Only (fun k => k = p ∨ k = q) w w' := ⟨h.os, h.tape, h.output, h.size, fun b hb hn => h.block b hb (fun e => hn (.inl (Option.some.inj e)))⟩

def cNum (b : List UInt8) (s : RS) (width : Int) : Int × RS :=
  ((rdNum b s.pos s.bad width).1, ⟨(rdNum b s.pos s.bad width).2.1, (rdNum b s.pos s.bad width).2.2, if (rdNum b s.pos s.bad width).2.2 = true ∧ s.err = 0 then 12 else s.err⟩)
def cMust (ok : Bool) (e : Int) (s : RS) : RS := if ok = false ∧ s.err = 0 then { s with err := e } else s
def CRes (q p : Nat) (A : Option Addr) (c : Nat) (b : List UInt8) (w : World) (s : RS) (w' : World) : Prop := CRd w' q p A c b s ∧ Only (fun k => k = p ∨ k = q) w w'

set_option maxRecDepth 100000 in
set_option maxHeartbeats 1000000 in
/-- (*cmd.reader).num -/
theorem cnum_calls {w : World} {q p : Nat} {A : Option Addr} {c : Nat} {b : List UInt8} {s : RS} {width : Int} (h : CRd w q p A c b s) (hb : b.length ≤ 1000000000) :
    Calls Try.prog 155 #[.pointer (some ⟨q, 0, none⟩), .int .i64 width] w fun e w' => e = .returned (.int .i64 (cNum b s width).1) ∧ CRes q p A c b w (cNum b s width).2 w' := by
  have H := Lib.hid h
  have HB := Lib.hid hb
  have c0 := h.c0
  obtain ⟨pos, bad, err⟩ := s
  have E := Lib.hid (show cNum b ⟨pos, bad, err⟩ width = ((rdNum b pos bad width).1, ⟨(rdNum b pos bad width).2.1, (rdNum b pos bad width).2.2, if (rdNum b pos bad width).2.2 = true ∧ err = 0 then 12 else err⟩) from rfl)
  clear h hb
  go_enter Try.func155, Try.ntmps155
  go_wp2_with fail
  refine (rdnum_calls H.out.rd HB.out).mono ?_
  rintro e w1 ⟨rfl, hr, hg⟩
  dsimp only at hr
  generalize rdNum b pos bad width = r at *
  obtain ⟨n, pos1, bad1⟩ := r
  dsimp only at hr E ⊢
  have H1 := Lib.hid (H.out.grown hr hg)
  have G1 := Lib.hid (only_grown (q := q) hg)
  have c0 := H1.out.c0
  have c1 := H1.out.c1
  have z1 := H1.out.z 1
  dsimp only at c1
  clear hr hg
  go_wp2_with fail
  refine (ok_calls H1.out.rd).mono ?_
  rintro e w2 ⟨rfl, hw⟩
  obtain rfl := hw.symm
  clear hw
  cases bad1 with
  | false =>
    have E2 := Lib.hid (show cNum b ⟨pos, bad, err⟩ width = (n, ⟨pos1, false, err⟩) from E.out)
    go_wp2_with fail
    go_ret
    rw [E2.out]
    exact ⟨rfl, H1.out, G1.out⟩
  | true =>
    by_cases he : err = 0
    · subst he
      have E2 := Lib.hid (show cNum b ⟨pos, bad, 0⟩ width = (n, ⟨pos1, true, 12⟩) from E.out)
      go_wp2_with fail
      go_ret
      rw [E2.out]
      exact ⟨rfl, H1.out.setErr 12, G1.out.trans (Only.set (.inr rfl))⟩
    · have E2 := Lib.hid (show cNum b ⟨pos, bad, err⟩ width = (n, ⟨pos1, true, err⟩) by rw [E.out, if_neg (fun h => he h.2)])
      have he' : (err == 0) = false := beq_eq_false_iff_ne.2 he
      clear he
      go_wp2_with fail
      go_ret
      rw [E2.out]
      exact ⟨rfl, H1.out, G1.out⟩

set_option maxRecDepth 100000 in
set_option maxHeartbeats 1000000 in
/-- (*cmd.reader).must -/
theorem cmust_calls {w : World} {q p : Nat} {A : Option Addr} {c : Nat} {b : List UInt8} {s : RS} {ok : Bool} {e : Int} (h : CRd w q p A c b s) :
    Calls Try.prog 156 #[.pointer (some ⟨q, 0, none⟩), .bool ok, .int .i64 e] w fun en w' => (∃ v, en = .returned v) ∧ CRes q p A c b w (cMust ok e s) w' := by
  have H := Lib.hid h
  obtain ⟨pos, bad, err⟩ := s
  have c1 := h.c1
  have z1 := h.z 1
  dsimp only at c1
  clear h
  cases ok with
  | true =>
    have E := Lib.hid (show cMust true e ⟨pos, bad, err⟩ = ⟨pos, bad, err⟩ from rfl)
    go_enter Try.func156, Try.ntmps156
    go_wp2_with fail
    go_end0
    rw [E.out]
    exact ⟨⟨_, rfl⟩, H.out, Only.refl _ _⟩
  | false =>
    by_cases he : err = 0
    · subst he
      have E := Lib.hid (show cMust false e ⟨pos, bad, 0⟩ = ⟨pos, bad, e⟩ from rfl)
      go_enter Try.func156, Try.ntmps156
      go_wp2_with fail
      go_end0
      rw [E.out]
      exact ⟨⟨_, rfl⟩, H.out.setErr e, Only.set (.inr rfl)⟩
    · have E := Lib.hid (show cMust false e ⟨pos, bad, err⟩ = ⟨pos, bad, err⟩ by unfold cMust; rw [if_neg (fun h => he h.2)])
      have he' : (err == 0) = false := beq_eq_false_iff_ne.2 he
      clear he
      go_enter Try.func156, Try.ntmps156
      go_wp2_with fail
      go_end0
      rw [E.out]
      exact ⟨⟨_, rfl⟩, H.out, Only.refl _ _⟩
end Go.Proofs.Yteljibjbndpncaa
