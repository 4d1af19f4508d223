/- Walk of a command got out of bytes. Printed by gen_cmdrun.py. -/
import Derived.Test.YteljibjbndpncaaWfCmdRd
namespace Go.Proofs.Yteljibjbndpncaa
open Go.RowKit

def cmdEarly (b : List UInt8) (s : RS) : Int × RS := ((cNum b s 1).1, cMust (knownB (cNum b s 1).1) 11 (cNum b s 1).2)
/-- What a command is that has more than its kind. -/
def cmdMore (b : List UInt8) (d : Int) (s2 : RS) : DCmd × RS :=
  let r3 := cNum b s2 1
  let r5 := cNum b (cMust (decide (r3.1 ≤ 1)) 11 r3.2) 8
  let r6 := if r3.1 = 1 then (0, r5.2) else cNum b r5.2 8
  let r7 := if d = 1 then (0, r6.2) else cNum b r6.2 8
  if d = 2 then
    let r8 := cNum b r7.2 2
    let s9 := cMust (decide (r8.1 ≤ 64)) 13 r8.2
    let x := rdBytes b s9.pos s9.bad r8.1
    (⟨d, decide (r3.1 = 1), ⟨r5.1, r6.1⟩, r7.1, x.1⟩, cMust (!x.2.2) 12 ⟨x.2.1, x.2.2, s9.err⟩)
  else (⟨d, decide (r3.1 = 1), ⟨r5.1, r6.1⟩, r7.1, []⟩, r7.2)
def cmdRun (b : List UInt8) (s : RS) : DCmd × RS :=
  if (cmdEarly b s).2.err = 0 ∧ (cmdEarly b s).1 ≠ 0 then cmdMore b (cmdEarly b s).1 (cmdEarly b s).2 else (⟨(cmdEarly b s).1, false, ⟨0, 0⟩, 0, []⟩, (cmdEarly b s).2)
theorem cNum_wf {b : List UInt8} {s s' : RS} {n : Int} {w : Nat} (h : cNum b s (w : Int) = (n, s')) : (Lit.int .i64 n).wf = true := by
  have : n = (rdNum b s.pos s.bad (w : Int)).1 := by have := congrArg Prod.fst h; exact this.symm
  rw [this]; exact rdNum_wf b _ _ _
theorem must_ok {ok : Bool} {e : Int} {s : RS} (he : e ≠ 0) (h : (cMust ok e s).err = 0) : ok = true ∧ s.err = 0 ∧ cMust ok e s = s := by
  unfold cMust at h ⊢
  split at h
  · exact absurd h he
  · rename_i hn
    cases ok with
    | true => exact ⟨rfl, h, by simp⟩
    | false => exact absurd ⟨rfl, h⟩ hn

theorem Rep.val_slice' {α : Type} {r : Rep α} {Q : Nat → Prop} {w : World} {A : Option Addr} {n c : Nat} {xs : List α} (h : r.list.val Q w (.slice A n c) xs) : r.Sl Q w A c xs := by
  obtain ⟨A', c', e, h1, h2, h3⟩ := Rep.val_list h
  cases e
  exact ⟨h1, h2, h3⟩
def zeroCmd6 : Array Value := #[.int .i64 0, .bool false, .int .i64 0, .int .i64 0, .int .i64 0, .slice none 0 0]
/-- What stands while a command is got: the result's box R, the command's X, the reader q. -/
structure CIn (w W : World) (R X q p : Nat) (A : Option Addr) (c : Nat) (b : List UInt8) (s : RS) (cs : Array Value) : Prop where
  only : Only (fun k => k = p ∨ k = q) w W
  rd : CRd W q p A c b s
  xb : W.heap[X]? = some (.cells cs 116 (0, 0))
  rb : W.heap[R]? = some (.cells zeroCmd6 116 (0, 0))
  ok : w.heap.size ≤ R ∧ R < X ∧ q < w.heap.size
section
variable {w W W' : World} {R X q p : Nat} {A : Option Addr} {c : Nat} {b : List UInt8} {s s' : RS} {cs : Array Value}
theorem CIn.res (h : CIn w W R X q p A c b s cs) (r : CRes q p A c b W s' W') : CIn w W' R X q p A c b s' cs := by
  have hp := h.rd.lt
  have ok := h.ok
  exact ⟨h.only.trans r.2, r.1, (r.2.block X (IsC.lt ⟨_, _, _, h.xb⟩) (fun e => by omega)).trans h.xb, (r.2.block R (IsC.lt ⟨_, _, _, h.rb⟩) (fun e => by omega)).trans h.rb, ok⟩
theorem CIn.put (h : CIn w W R X q p A c b s cs) (i : Nat) (v : Value) : CIn w (W.setCell ⟨X, i, none⟩ v) R X q p A c b s (cs.setIfInBounds i v) := by
  have ok := h.ok
  exact ⟨⟨h.only.os, h.only.tape, h.only.output, by simpa using h.only.size, fun k hk hn => (Below.heap_setCell _ _ _ _ (show k ≠ X by omega)).trans (h.only.block k hk hn)⟩,
    h.rd.keep fun x _ hx => Below.heap_setCell _ _ _ _ (show x ≠ X by omega), heap_setRow h.xb, (Below.heap_setCell _ _ _ _ (show R ≠ X by omega)).trans h.rb, ok⟩
theorem only_set1 {F : Nat → Prop} (h : Only F w W) (hR : w.heap.size ≤ R) {i : Nat} {a : Value} : Only F w (W.setCell ⟨R, i, none⟩ a) :=
  ⟨h.os, h.tape, h.output, by simpa using h.size, fun k hk hn => (Below.heap_setCell _ _ _ _ (show k ≠ R by omega)).trans (h.block k hk hn)⟩
theorem only_set6 {F : Nat → Prop} (h : Only F w W) (hR : w.heap.size ≤ R) {a0 a1 a2 a3 a4 a5 : Value} : Only F w ((((((W.setCell ⟨R, 0, none⟩ a0).setCell ⟨R, 1, none⟩ a1).setCell ⟨R, 2, none⟩ a2).setCell ⟨R, 3, none⟩ a3).setCell ⟨R, 4, none⟩ a4).setCell ⟨R, 5, none⟩ a5) :=
  only_set1 (only_set1 (only_set1 (only_set1 (only_set1 (only_set1 h hR) hR) hR) hR) hR) hR
theorem keep_set6 {k : Nat} (hne : k ≠ R) {a0 a1 a2 a3 a4 a5 : Value} : ((((((W.setCell ⟨R, 0, none⟩ a0).setCell ⟨R, 1, none⟩ a1).setCell ⟨R, 2, none⟩ a2).setCell ⟨R, 3, none⟩ a3).setCell ⟨R, 4, none⟩ a4).setCell ⟨R, 5, none⟩ a5).heap[k]? = W.heap[k]? := by
  rw [Below.heap_setCell _ _ _ _ hne, Below.heap_setCell _ _ _ _ hne, Below.heap_setCell _ _ _ _ hne, Below.heap_setCell _ _ _ _ hne, Below.heap_setCell _ _ _ _ hne, Below.heap_setCell _ _ _ _ hne]
end
/-- A command that was got, and where the reader is. -/
def CmdRes (w : World) (q p : Nat) (A : Option Addr) (c : Nat) (b : List UInt8) (r : DCmd × RS) (e : Ending) (w' : World) : Prop :=
  ∃ v, e = .returned v ∧ rCmd.val (fun k => w.heap.size ≤ k) w' v r.1 ∧ CRd w' q p A c b r.2 ∧ Only (fun k => k = p ∨ k = q) w w'

set_option maxRecDepth 100000 in
set_option maxHeartbeats 4000000 in
/-- (*cmd.reader).cmd -/
theorem ccmd_calls {w : World} {q p : Nat} {A : Option Addr} {c : Nat} {b : List UInt8} {s : RS} (h : CRd w q p A c b s) (hb : b.length ≤ 1000000000) :
    Calls Try.prog 148 #[.pointer (some ⟨q, 0, none⟩)] w (CmdRes w q p A c b (cmdRun b s)) := by
  have HB := Lib.hid hb
  have HQ := Lib.hid h.qlt
  obtain ⟨W1, hW1⟩ : ∃ W1, w.alloc (.cells #[.int .i64 0, .bool false, .int .i64 0, .int .i64 0, .int .i64 0, .slice none 0 0] 116) = W1 := ⟨_, rfl⟩
  have HB1 := Lib.hid (show Below w.heap.size w W1 by rw [← hW1]; exact (Below.refl _ _).alloc (Nat.le_refl _) _)
  have HR1 := Lib.hid (show W1.heap[w.heap.size]? = some (.cells zeroCmd6 116 (0, 0)) by rw [← hW1]; exact heap_alloc_new _ _)
  have HZ1 := Lib.hid (show W1.heap.size = w.heap.size + 1 by rw [← hW1]; simp)
  have HC1 := Lib.hid (show CRd W1 q p A c b s from h.keep fun x _ hx => HB1.out.block x (by have := HQ.out; omega))
  clear h hb
  go_enter Try.func148, Try.ntmps148
  go_wp2_with fail
  try rw [hW1]
  clear hW1
  try go_wp2_with fail
  refine (cnum_calls HC1.out HB.out).mono ?_
  rintro e w2 ⟨rfl, hr2⟩
  obtain ⟨r, hr⟩ : ∃ r, cNum b s 1 = r := ⟨_, rfl⟩
  rw [hr] at hr2 ⊢
  obtain ⟨d, s1⟩ := r
  have HE1 := Lib.hid hr
  have HD := Lib.hid (cNum_wf (w := 1) hr)
  dsimp only at hr2 ⊢
  obtain ⟨W3, hW3⟩ : ∃ W3, w2.alloc (.cells #[.int .i64 d, .bool false, .int .i64 0, .int .i64 0, .int .i64 0, .slice none 0 0] 116) = W3 := ⟨_, rfl⟩
  have hi3 : CIn w W3 w.heap.size w2.heap.size q p A c b s1 #[.int .i64 d, .bool false, .int .i64 0, .int .i64 0, .int .i64 0, .slice none 0 0] := by
    have q1 := HZ1.out
    have q2 := hr2.2.size
    have q3 := HQ.out
    have hn : ∀ k, k < w2.heap.size → W3.heap[k]? = w2.heap[k]? := fun k hk => by rw [← hW3]; exact Below.heap_alloc _ _ _ hk
    have ho : Only (fun k => k = p ∨ k = q) w w2 := (Only.of_below HB1.out).trans hr2.2
    refine ⟨⟨by rw [← hW3]; exact ho.os, by rw [← hW3]; exact ho.tape, by rw [← hW3]; exact ho.output, by rw [← hW3]; simp; have := ho.size; omega, fun k hk hk2 => (hn k (Nat.lt_of_lt_of_le hk ho.size)).trans (ho.block k hk hk2)⟩,
      hr2.1.keep fun x hx _ => hn x hx.lt, by rw [← hW3]; exact heap_alloc_new _ _, ?_, ⟨Nat.le_refl _, by omega, q3⟩⟩
    have := hr2.1.lt
    exact (hn _ (by omega)).trans ((hr2.2.block _ (by omega) (fun e => by omega)).trans HR1.out)
  have x0 := cell_row hi3.xb 0
  have HI3 := Lib.hid hi3
  have HW3 := Lib.hid hW3
  have hx0 := x0
  clear hr hr2 hi3 HC1 HR1 HZ1 HB1 x0 hW3
  go_wp2_with fail
  rw [HW3.out]
  refine (known_calls d _).mono ?_
  rintro e w3 ⟨rfl, hw⟩
  obtain rfl := hw
  go_wp2_with fail
  refine (cmust_calls (ok := knownB d) (e := 11) HI3.out.rd).mono ?_
  rintro e w4 ⟨⟨v, rfl⟩, hr4⟩
  obtain ⟨s2, hs2⟩ : ∃ s2, cMust (knownB d) 11 s1 = s2 := ⟨_, rfl⟩
  rw [hs2] at hr4
  have HE2 := Lib.hid (show cmdEarly b s = (d, s2) by unfold cmdEarly; rw [HE1.out]; exact congrArg _ hs2)
  have HS2 := Lib.hid hs2
  have hi4 := HI3.out.res hr4
  have HI4 := Lib.hid hi4
  have x0 := cell_row hi4.xb 0
  have x1 := cell_row hi4.xb 1
  have x2 := cell_row hi4.xb 2
  have x3 := cell_row hi4.xb 3
  have x4 := cell_row hi4.xb 4
  have x5 := cell_row hi4.xb 5
  have y0 := cell_row hi4.rb 0
  have y1 := cell_row hi4.rb 1
  have y2 := cell_row hi4.rb 2
  have y3 := cell_row hi4.rb 3
  have y4 := cell_row hi4.rb 4
  have y5 := cell_row hi4.rb 5
  have z0 := frozen_row hi4.rb 0
  have z1 := frozen_row hi4.rb 1
  have z2 := frozen_row hi4.rb 2
  have z3 := frozen_row hi4.rb 3
  have z4 := frozen_row hi4.rb 4
  have z5 := frozen_row hi4.rb 5
  have ce := hi4.rd.c1
  have hne : w2.heap.size ≠ w.heap.size := by have := hi4.ok; omega
  simp only [zeroCmd6] at y0 y1 y2 y3 y4 y5
  clear hs2 hr4 hi4 HI3
  by_cases hgo : s2.err = 0 ∧ d ≠ 0
  case neg =>
    have HF := Lib.hid (show cmdRun b s = (⟨d, false, ⟨0, 0⟩, 0, []⟩, s2) by unfold cmdRun; rw [HE2.out]; exact if_neg hgo)
    have HW := Lib.hid HD.out
    by_cases he : s2.err = 0
    · have hd : d = 0 := by by_cases h : d = 0; exact h; exact absurd ⟨he, h⟩ hgo
      subst hd
      go_wp2_with fail
      have hfr : Try.f148.results = #[.cell 2 116] := rfl
      refine ⟨rfl, .agg #[.int .i64 0, .bool false, .int .i64 0, .int .i64 0, .int .i64 0, .slice none 0 0], ?_, ?_⟩
      · simp only [results, hfr]
        go_simp
      · rw [HF.out]
        have hlo := HI4.out.ok
        exact ⟨_, rfl, rCmd_agg (x := ⟨0, false, ⟨0, 0⟩, 0, []⟩) HW.out rfl rfl rfl ⟨Nat.le_refl _, by simp [maxLen], ⟨[], rfl, fun h => absurd h (by simp)⟩⟩, HI4.out.rd.keep fun x _ hx => keep_set6 (by omega), only_set6 HI4.out.only (Nat.le_refl _)⟩
    · have he' : (s2.err == 0) = false := beq_eq_false_iff_ne.2 he
      go_wp2_with fail
      have hfr : Try.f148.results = #[.cell 2 116] := rfl
      refine ⟨rfl, .agg #[.int .i64 d, .bool false, .int .i64 0, .int .i64 0, .int .i64 0, .slice none 0 0], ?_, ?_⟩
      · simp only [results, hfr]
        go_simp
      · rw [HF.out]
        have hlo := HI4.out.ok
        exact ⟨_, rfl, rCmd_agg (x := ⟨d, false, ⟨0, 0⟩, 0, []⟩) HW.out rfl rfl rfl ⟨Nat.le_refl _, by simp [maxLen], ⟨[], rfl, fun h => absurd h (by simp)⟩⟩, HI4.out.rd.keep fun x _ hx => keep_set6 (by omega), only_set6 HI4.out.only (Nat.le_refl _)⟩
  case pos =>
    have hk := must_ok (e := 11) (by decide) (by rw [HS2.out]; exact hgo.1)
    have HF := Lib.hid (show cmdRun b s = cmdMore b d s2 by unfold cmdRun; rw [HE2.out]; exact if_pos hgo)
    have hd : d = 1 ∨ d = 2 ∨ d = 3 := by
      have h1 := hk.1
      unfold knownB at h1
      simp at h1
      have := hgo.2
      omega
    have he0 : (s2.err == 0) = true := by simp [hgo.1]
    have he1 := hgo.1
    clear hgo hk HE1 HE2 HS2 HD y0 y1 y2 y3 y4 y5 z0 z1 z2 z3 z4 z5
    rcases hd with rfl | rfl | rfl
    · skip
      have cz := HI4.out.rd.c0
      go_wp2_with fail
      refine (cnum_calls HI4.out.rd HB.out).mono ?_
      rintro e w5 ⟨rfl, hr⟩
      obtain ⟨r, hr1⟩ : ∃ r, cNum b s2 1 = r := ⟨_, rfl⟩
      rw [hr1] at hr ⊢
      obtain ⟨lo, s3⟩ := r
      have Ew5 := Lib.hid hr1
      have Nw5 := Lib.hid (cNum_wf (w := 1) hr1)
      have Iw5 := Lib.hid (HI4.out.res hr)
      dsimp only
      clear hr hr1
      clear x0 x1 x2 x3 x4 x5 ce
      have x0 := cell_row Iw5.out.xb 0
      have x1 := cell_row Iw5.out.xb 1
      have x2 := cell_row Iw5.out.xb 2
      have x3 := cell_row Iw5.out.xb 3
      have x4 := cell_row Iw5.out.xb 4
      have x5 := cell_row Iw5.out.xb 5
      have ce := Iw5.out.rd.c1
      have cz := Iw5.out.rd.c0
      try simp only [Array.setIfInBounds, List.size_toArray, List.length_cons, List.length_nil] at x0 x1 x2 x3 x4 x5
      go_wp2_with fail
      refine (cmust_calls (ok := decide (lo ≤ 1)) (e := 11) Iw5.out.rd).mono ?_
      rintro e w6 ⟨⟨v, rfl⟩, hr⟩
      obtain ⟨s4, hs⟩ : ∃ s', cMust (decide (lo ≤ 1)) 11 s3 = s' := ⟨_, rfl⟩
      rw [hs] at hr
      have Ew6 := Lib.hid hs
      have Ow6 := Lib.hid hr.2
      have Iw6 := Lib.hid (Iw5.out.res hr)
      clear hr hs
      by_cases hl : lo = 1
      · skip
        subst hl
        clear x0 x1 x2 x3 x4 x5 ce
        have x0 := cell_row Iw6.out.xb 0
        have x1 := cell_row Iw6.out.xb 1
        have x2 := cell_row Iw6.out.xb 2
        have x3 := cell_row Iw6.out.xb 3
        have x4 := cell_row Iw6.out.xb 4
        have x5 := cell_row Iw6.out.xb 5
        have zx := frozen_row Iw6.out.xb 1
        have ce := Iw6.out.rd.c1
        have cz := Iw6.out.rd.c0
        try simp only [Array.setIfInBounds, List.size_toArray, List.length_cons, List.length_nil] at x0 x1 x2 x3 x4 x5
        have hJ := Lib.hid (Iw6.out.put 1 (.bool true))
        go_wp2_with fail
        refine (cnum_calls hJ.out.rd HB.out).mono ?_
        rintro e w7 ⟨rfl, hr⟩
        obtain ⟨r, hr1⟩ : ∃ r, cNum b s4 8 = r := ⟨_, rfl⟩
        rw [hr1] at hr ⊢
        obtain ⟨ix, s5⟩ := r
        have Ew7 := Lib.hid hr1
        have Nw7 := Lib.hid (cNum_wf (w := 8) hr1)
        have Iw7 := Lib.hid (hJ.out.res hr)
        dsimp only
        clear hr hr1
        clear x0 x1 x2 x3 x4 x5 ce
        have x0 := cell_row Iw7.out.xb 0
        have x1 := cell_row Iw7.out.xb 1
        have x2 := cell_row Iw7.out.xb 2
        have x3 := cell_row Iw7.out.xb 3
        have x4 := cell_row Iw7.out.xb 4
        have x5 := cell_row Iw7.out.xb 5
        have zx := frozen_row Iw7.out.xb 2
        have ce := Iw7.out.rd.c1
        have cz := Iw7.out.rd.c0
        try simp only [Array.setIfInBounds, List.size_toArray, List.length_cons, List.length_nil] at x0 x1 x2 x3 x4 x5
        have hJ2 := Lib.hid (Iw7.out.put 2 (.int .i64 ix))
        have Ew6t := Lib.hid (show cMust true 11 s3 = s4 from Ew6.out)
        have y0 := cell_row Iw7.out.rb 0
        have y1 := cell_row Iw7.out.rb 1
        have y2 := cell_row Iw7.out.rb 2
        have y3 := cell_row Iw7.out.rb 3
        have y4 := cell_row Iw7.out.rb 4
        have y5 := cell_row Iw7.out.rb 5
        have z0 := frozen_row Iw7.out.rb 0
        have z1 := frozen_row Iw7.out.rb 1
        have z2 := frozen_row Iw7.out.rb 2
        have z3 := frozen_row Iw7.out.rb 3
        have z4 := frozen_row Iw7.out.rb 4
        have z5 := frozen_row Iw7.out.rb 5
        simp only [zeroCmd6] at y0 y1 y2 y3 y4 y5
        have HM := Lib.hid (show cmdMore b 1 s2 = (⟨1, true, ⟨ix, 0⟩, 0, []⟩, s5) by simp [cmdMore, Ew5.out, Ew6t.out, Ew7.out])
        go_wp2_with fail
        have hfr : Try.f148.results = #[.cell 2 116] := rfl
        have hlo := hJ2.out.ok
        refine ⟨rfl, .agg #[.int .i64 1, .bool true, .int .i64 ix, .int .i64 0, .int .i64 0, .slice none 0 0], ?_, ?_⟩
        · simp only [results, hfr]
          go_simp
        · rw [HF.out, HM.out]
          exact ⟨_, rfl, rCmd_agg (x := ⟨1, true, ⟨ix, 0⟩, 0, []⟩) rfl Nw7.out rfl rfl ⟨Nat.le_refl _, by simp [maxLen], ⟨[], rfl, fun h => absurd h (by simp)⟩⟩, hJ2.out.rd.keep fun x _ hx => keep_set6 (by omega), only_set6 hJ2.out.only (Nat.le_refl _)⟩
      · skip
        have hl' : (lo == 1) = false := beq_eq_false_iff_ne.2 hl
        have HL := Lib.hid hl
        clear hl
        clear x0 x1 x2 x3 x4 x5 ce
        have x0 := cell_row Iw6.out.xb 0
        have x1 := cell_row Iw6.out.xb 1
        have x2 := cell_row Iw6.out.xb 2
        have x3 := cell_row Iw6.out.xb 3
        have x4 := cell_row Iw6.out.xb 4
        have x5 := cell_row Iw6.out.xb 5
        have zx := frozen_row Iw6.out.xb 1
        have ce := Iw6.out.rd.c1
        have cz := Iw6.out.rd.c0
        try simp only [Array.setIfInBounds, List.size_toArray, List.length_cons, List.length_nil] at x0 x1 x2 x3 x4 x5
        have hJ := Lib.hid (Iw6.out.put 1 (.bool false))
        go_wp2_with fail
        refine (cnum_calls hJ.out.rd HB.out).mono ?_
        rintro e w7 ⟨rfl, hr⟩
        obtain ⟨r, hr1⟩ : ∃ r, cNum b s4 8 = r := ⟨_, rfl⟩
        rw [hr1] at hr ⊢
        obtain ⟨ix, s5⟩ := r
        have Ew7 := Lib.hid hr1
        have Nw7 := Lib.hid (cNum_wf (w := 8) hr1)
        have Iw7 := Lib.hid (hJ.out.res hr)
        dsimp only
        clear hr hr1
        clear x0 x1 x2 x3 x4 x5 ce
        have x0 := cell_row Iw7.out.xb 0
        have x1 := cell_row Iw7.out.xb 1
        have x2 := cell_row Iw7.out.xb 2
        have x3 := cell_row Iw7.out.xb 3
        have x4 := cell_row Iw7.out.xb 4
        have x5 := cell_row Iw7.out.xb 5
        have zx := frozen_row Iw7.out.xb 2
        have ce := Iw7.out.rd.c1
        have cz := Iw7.out.rd.c0
        try simp only [Array.setIfInBounds, List.size_toArray, List.length_cons, List.length_nil] at x0 x1 x2 x3 x4 x5
        have hJ2 := Lib.hid (Iw7.out.put 2 (.int .i64 ix))
        go_wp2_with fail
        refine (cnum_calls hJ2.out.rd HB.out).mono ?_
        rintro e w8 ⟨rfl, hr⟩
        obtain ⟨r, hr1⟩ : ∃ r, cNum b s5 8 = r := ⟨_, rfl⟩
        rw [hr1] at hr ⊢
        obtain ⟨gn, s6⟩ := r
        have Ew8 := Lib.hid hr1
        have Nw8 := Lib.hid (cNum_wf (w := 8) hr1)
        have Iw8 := Lib.hid (hJ2.out.res hr)
        dsimp only
        clear hr hr1
        clear x0 x1 x2 x3 x4 x5 ce
        have x0 := cell_row Iw8.out.xb 0
        have x1 := cell_row Iw8.out.xb 1
        have x2 := cell_row Iw8.out.xb 2
        have x3 := cell_row Iw8.out.xb 3
        have x4 := cell_row Iw8.out.xb 4
        have x5 := cell_row Iw8.out.xb 5
        have zx := frozen_row Iw8.out.xb 3
        have ce := Iw8.out.rd.c1
        have cz := Iw8.out.rd.c0
        try simp only [Array.setIfInBounds, List.size_toArray, List.length_cons, List.length_nil] at x0 x1 x2 x3 x4 x5
        have hJ3 := Lib.hid (Iw8.out.put 3 (.int .i64 gn))
        have y0 := cell_row Iw8.out.rb 0
        have y1 := cell_row Iw8.out.rb 1
        have y2 := cell_row Iw8.out.rb 2
        have y3 := cell_row Iw8.out.rb 3
        have y4 := cell_row Iw8.out.rb 4
        have y5 := cell_row Iw8.out.rb 5
        have z0 := frozen_row Iw8.out.rb 0
        have z1 := frozen_row Iw8.out.rb 1
        have z2 := frozen_row Iw8.out.rb 2
        have z3 := frozen_row Iw8.out.rb 3
        have z4 := frozen_row Iw8.out.rb 4
        have z5 := frozen_row Iw8.out.rb 5
        simp only [zeroCmd6] at y0 y1 y2 y3 y4 y5
        have HM := Lib.hid (show cmdMore b 1 s2 = (⟨1, false, ⟨ix, gn⟩, 0, []⟩, s6) by simp [cmdMore, Ew5.out, Ew6.out, Ew7.out, Ew8.out, HL.out])
        go_wp2_with fail
        have hfr : Try.f148.results = #[.cell 2 116] := rfl
        have hlo := hJ3.out.ok
        refine ⟨rfl, .agg #[.int .i64 1, .bool false, .int .i64 ix, .int .i64 gn, .int .i64 0, .slice none 0 0], ?_, ?_⟩
        · simp only [results, hfr]
          go_simp
        · rw [HF.out, HM.out]
          exact ⟨_, rfl, rCmd_agg (x := ⟨1, false, ⟨ix, gn⟩, 0, []⟩) rfl Nw7.out Nw8.out rfl ⟨Nat.le_refl _, by simp [maxLen], ⟨[], rfl, fun h => absurd h (by simp)⟩⟩, hJ3.out.rd.keep fun x _ hx => keep_set6 (by omega), only_set6 hJ3.out.only (Nat.le_refl _)⟩
    · skip
      have cz := HI4.out.rd.c0
      go_wp2_with fail
      refine (cnum_calls HI4.out.rd HB.out).mono ?_
      rintro e w5 ⟨rfl, hr⟩
      obtain ⟨r, hr1⟩ : ∃ r, cNum b s2 1 = r := ⟨_, rfl⟩
      rw [hr1] at hr ⊢
      obtain ⟨lo, s3⟩ := r
      have Ew5 := Lib.hid hr1
      have Nw5 := Lib.hid (cNum_wf (w := 1) hr1)
      have Iw5 := Lib.hid (HI4.out.res hr)
      dsimp only
      clear hr hr1
      clear x0 x1 x2 x3 x4 x5 ce
      have x0 := cell_row Iw5.out.xb 0
      have x1 := cell_row Iw5.out.xb 1
      have x2 := cell_row Iw5.out.xb 2
      have x3 := cell_row Iw5.out.xb 3
      have x4 := cell_row Iw5.out.xb 4
      have x5 := cell_row Iw5.out.xb 5
      have ce := Iw5.out.rd.c1
      have cz := Iw5.out.rd.c0
      try simp only [Array.setIfInBounds, List.size_toArray, List.length_cons, List.length_nil] at x0 x1 x2 x3 x4 x5
      go_wp2_with fail
      refine (cmust_calls (ok := decide (lo ≤ 1)) (e := 11) Iw5.out.rd).mono ?_
      rintro e w6 ⟨⟨v, rfl⟩, hr⟩
      obtain ⟨s4, hs⟩ : ∃ s', cMust (decide (lo ≤ 1)) 11 s3 = s' := ⟨_, rfl⟩
      rw [hs] at hr
      have Ew6 := Lib.hid hs
      have Ow6 := Lib.hid hr.2
      have Iw6 := Lib.hid (Iw5.out.res hr)
      clear hr hs
      by_cases hl : lo = 1
      · skip
        subst hl
        clear x0 x1 x2 x3 x4 x5 ce
        have x0 := cell_row Iw6.out.xb 0
        have x1 := cell_row Iw6.out.xb 1
        have x2 := cell_row Iw6.out.xb 2
        have x3 := cell_row Iw6.out.xb 3
        have x4 := cell_row Iw6.out.xb 4
        have x5 := cell_row Iw6.out.xb 5
        have zx := frozen_row Iw6.out.xb 1
        have ce := Iw6.out.rd.c1
        have cz := Iw6.out.rd.c0
        try simp only [Array.setIfInBounds, List.size_toArray, List.length_cons, List.length_nil] at x0 x1 x2 x3 x4 x5
        have hJ := Lib.hid (Iw6.out.put 1 (.bool true))
        go_wp2_with fail
        refine (cnum_calls hJ.out.rd HB.out).mono ?_
        rintro e w7 ⟨rfl, hr⟩
        obtain ⟨r, hr1⟩ : ∃ r, cNum b s4 8 = r := ⟨_, rfl⟩
        rw [hr1] at hr ⊢
        obtain ⟨ix, s5⟩ := r
        have Ew7 := Lib.hid hr1
        have Nw7 := Lib.hid (cNum_wf (w := 8) hr1)
        have Iw7 := Lib.hid (hJ.out.res hr)
        dsimp only
        clear hr hr1
        clear x0 x1 x2 x3 x4 x5 ce
        have x0 := cell_row Iw7.out.xb 0
        have x1 := cell_row Iw7.out.xb 1
        have x2 := cell_row Iw7.out.xb 2
        have x3 := cell_row Iw7.out.xb 3
        have x4 := cell_row Iw7.out.xb 4
        have x5 := cell_row Iw7.out.xb 5
        have zx := frozen_row Iw7.out.xb 2
        have ce := Iw7.out.rd.c1
        have cz := Iw7.out.rd.c0
        try simp only [Array.setIfInBounds, List.size_toArray, List.length_cons, List.length_nil] at x0 x1 x2 x3 x4 x5
        have hJ2 := Lib.hid (Iw7.out.put 2 (.int .i64 ix))
        go_wp2_with fail
        refine (cnum_calls hJ2.out.rd HB.out).mono ?_
        rintro e w9 ⟨rfl, hr⟩
        obtain ⟨r, hr1⟩ : ∃ r, cNum b s5 8 = r := ⟨_, rfl⟩
        rw [hr1] at hr ⊢
        obtain ⟨co, s7⟩ := r
        have Ew9 := Lib.hid hr1
        have Nw9 := Lib.hid (cNum_wf (w := 8) hr1)
        have Iw9 := Lib.hid (hJ2.out.res hr)
        dsimp only
        clear hr hr1
        clear x0 x1 x2 x3 x4 x5 ce
        have x0 := cell_row Iw9.out.xb 0
        have x1 := cell_row Iw9.out.xb 1
        have x2 := cell_row Iw9.out.xb 2
        have x3 := cell_row Iw9.out.xb 3
        have x4 := cell_row Iw9.out.xb 4
        have x5 := cell_row Iw9.out.xb 5
        have zx := frozen_row Iw9.out.xb 4
        have ce := Iw9.out.rd.c1
        have cz := Iw9.out.rd.c0
        try simp only [Array.setIfInBounds, List.size_toArray, List.length_cons, List.length_nil] at x0 x1 x2 x3 x4 x5
        have hJ4 := Lib.hid (Iw9.out.put 4 (.int .i64 co))
        go_wp2_with fail
        refine (cnum_calls hJ4.out.rd HB.out).mono ?_
        rintro e w10 ⟨rfl, hr⟩
        obtain ⟨r, hr1⟩ : ∃ r, cNum b s7 2 = r := ⟨_, rfl⟩
        rw [hr1] at hr ⊢
        obtain ⟨nn, s8⟩ := r
        have Ew10 := Lib.hid hr1
        have Nw10 := Lib.hid (cNum_wf (w := 2) hr1)
        have Iw10 := Lib.hid (hJ4.out.res hr)
        dsimp only
        clear hr hr1
        clear x0 x1 x2 x3 x4 x5 ce
        have x0 := cell_row Iw10.out.xb 0
        have x1 := cell_row Iw10.out.xb 1
        have x2 := cell_row Iw10.out.xb 2
        have x3 := cell_row Iw10.out.xb 3
        have x4 := cell_row Iw10.out.xb 4
        have x5 := cell_row Iw10.out.xb 5
        have ce := Iw10.out.rd.c1
        have cz := Iw10.out.rd.c0
        try simp only [Array.setIfInBounds, List.size_toArray, List.length_cons, List.length_nil] at x0 x1 x2 x3 x4 x5
        go_wp2_with fail
        refine (cmust_calls (ok := decide (nn ≤ 64)) (e := 13) Iw10.out.rd).mono ?_
        rintro e w11 ⟨⟨v, rfl⟩, hr⟩
        obtain ⟨s9, hs⟩ : ∃ s', cMust (decide (nn ≤ 64)) 13 s8 = s' := ⟨_, rfl⟩
        rw [hs] at hr
        have Ew11 := Lib.hid hs
        have Ow11 := Lib.hid hr.2
        have Iw11 := Lib.hid (Iw10.out.res hr)
        clear hr hs
        clear x0 x1 x2 x3 x4 x5 ce
        have x0 := cell_row Iw11.out.xb 0
        have x1 := cell_row Iw11.out.xb 1
        have x2 := cell_row Iw11.out.xb 2
        have x3 := cell_row Iw11.out.xb 3
        have x4 := cell_row Iw11.out.xb 4
        have x5 := cell_row Iw11.out.xb 5
        have ce := Iw11.out.rd.c1
        have cz := Iw11.out.rd.c0
        try simp only [Array.setIfInBounds, List.size_toArray, List.length_cons, List.length_nil] at x0 x1 x2 x3 x4 x5
        go_wp2_with fail
        refine (rdbytes_calls Iw11.out.rd.rd HB.out).mono ?_
        rintro e w12 ⟨u, rfl, hu, hr, hg⟩
        obtain ⟨r, hr1⟩ : ∃ r, rdBytes b s9.pos s9.bad nn = r := ⟨_, rfl⟩
        rw [hr1] at hu hr
        obtain ⟨dt, ps, bd⟩ := r
        dsimp only at hu hr
        have Ew12 := Lib.hid hr1
        have Iw12 := Lib.hid (Iw11.out.res (s' := ⟨ps, bd, s9.err⟩) ⟨Iw11.out.rd.grown hr hg, only_grown hg⟩)
        have HSZ := Lib.hid (Iw11.out.only.size)
        have HU := Lib.hid hu
        obtain ⟨A5, c5, rfl, _, _, _⟩ := Rep.val_list hu
        clear hr hr1 hg hu
        clear x0 x1 x2 x3 x4 x5 ce
        have x0 := cell_row Iw12.out.xb 0
        have x1 := cell_row Iw12.out.xb 1
        have x2 := cell_row Iw12.out.xb 2
        have x3 := cell_row Iw12.out.xb 3
        have x4 := cell_row Iw12.out.xb 4
        have x5 := cell_row Iw12.out.xb 5
        have zx := frozen_row Iw12.out.xb 5
        have ce := Iw12.out.rd.c1
        have cz := Iw12.out.rd.c0
        try simp only [Array.setIfInBounds, List.size_toArray, List.length_cons, List.length_nil] at x0 x1 x2 x3 x4 x5
        have hJ5 := Lib.hid (Iw12.out.put 5 (.slice A5 dt.length c5))
        have cz' := hJ5.out.rd.c0
        have oks := hJ5.out.rd.rd
        go_wp2_with fail
        refine (ok_calls hJ5.out.rd.rd).mono ?_
        rintro e w13 ⟨rfl, hw⟩
        obtain rfl := hw
        clear oks
        go_wp2_with fail
        refine (cmust_calls (ok := !bd) (e := 12) hJ5.out.rd).mono ?_
        rintro e w14 ⟨⟨v, rfl⟩, hr⟩
        obtain ⟨s11, hs⟩ : ∃ s', cMust (!bd) 12 ⟨ps, bd, s9.err⟩ = s' := ⟨_, rfl⟩
        rw [hs] at hr
        have Ew14 := Lib.hid hs
        have Ow14 := Lib.hid hr.2
        have Iw14 := Lib.hid (hJ5.out.res hr)
        clear hr hs
        clear x0 x1 x2 x3 x4 x5 ce
        have x0 := cell_row Iw14.out.xb 0
        have x1 := cell_row Iw14.out.xb 1
        have x2 := cell_row Iw14.out.xb 2
        have x3 := cell_row Iw14.out.xb 3
        have x4 := cell_row Iw14.out.xb 4
        have x5 := cell_row Iw14.out.xb 5
        have ce := Iw14.out.rd.c1
        have cz := Iw14.out.rd.c0
        try simp only [Array.setIfInBounds, List.size_toArray, List.length_cons, List.length_nil] at x0 x1 x2 x3 x4 x5
        have Ew6t := Lib.hid (show cMust true 11 s3 = s4 from Ew6.out)
        have y0 := cell_row Iw14.out.rb 0
        have y1 := cell_row Iw14.out.rb 1
        have y2 := cell_row Iw14.out.rb 2
        have y3 := cell_row Iw14.out.rb 3
        have y4 := cell_row Iw14.out.rb 4
        have y5 := cell_row Iw14.out.rb 5
        have z0 := frozen_row Iw14.out.rb 0
        have z1 := frozen_row Iw14.out.rb 1
        have z2 := frozen_row Iw14.out.rb 2
        have z3 := frozen_row Iw14.out.rb 3
        have z4 := frozen_row Iw14.out.rb 4
        have z5 := frozen_row Iw14.out.rb 5
        simp only [zeroCmd6] at y0 y1 y2 y3 y4 y5
        have HM := Lib.hid (show cmdMore b 2 s2 = (⟨2, true, ⟨ix, 0⟩, co, dt⟩, s11) by simp [cmdMore, Ew5.out, Ew6t.out, Ew7.out, Ew9.out, Ew10.out, Ew11.out, Ew12.out, Ew14.out])
        have HUF : Rep.byte.list.val (fun k => w.heap.size ≤ k) ((((((w14.setCell ⟨w.heap.size, 0, none⟩ (.int .i64 2)).setCell ⟨w.heap.size, 1, none⟩ (.bool true)).setCell ⟨w.heap.size, 2, none⟩ (.int .i64 ix)).setCell ⟨w.heap.size, 3, none⟩ (.int .i64 0)).setCell ⟨w.heap.size, 4, none⟩ (.int .i64 co)).setCell ⟨w.heap.size, 5, none⟩ (.slice A5 dt.length c5)) (.slice A5 dt.length c5) dt := by
          refine Rep.val_keep (fun x hx hl => ?_) HU.out
          have hx' : w11.heap.size ≤ x := hx
          have q1 := Iw11.out.ok
          have q2 := Iw11.out.only.size
          have q3 : w2.heap.size < w11.heap.size := IsC.lt ⟨_, _, _, Iw11.out.xb⟩
          have q4 := Iw11.out.rd.lt
          refine ⟨by omega, (keep_set6 (by omega)).trans ((Ow14.out.block x (by simpa using hl.lt) (fun e => by omega)).trans (Below.heap_setCell _ _ _ _ (show x ≠ w2.heap.size by omega)))⟩
        go_wp2_with fail
        have hfr : Try.f148.results = #[.cell 2 116] := rfl
        have hlo := Iw14.out.ok
        refine ⟨rfl, .agg #[.int .i64 2, .bool true, .int .i64 ix, .int .i64 0, .int .i64 co, .slice A5 dt.length c5], ?_, ?_⟩
        · simp only [results, hfr]
          go_simp
        · rw [HF.out, HM.out]
          exact ⟨_, rfl, rCmd_agg (x := ⟨2, true, ⟨ix, 0⟩, co, dt⟩) rfl Nw7.out rfl Nw9.out (Rep.val_slice' HUF), Iw14.out.rd.keep fun x _ hx => keep_set6 (by omega), only_set6 Iw14.out.only (Nat.le_refl _)⟩
      · skip
        have hl' : (lo == 1) = false := beq_eq_false_iff_ne.2 hl
        have HL := Lib.hid hl
        clear hl
        clear x0 x1 x2 x3 x4 x5 ce
        have x0 := cell_row Iw6.out.xb 0
        have x1 := cell_row Iw6.out.xb 1
        have x2 := cell_row Iw6.out.xb 2
        have x3 := cell_row Iw6.out.xb 3
        have x4 := cell_row Iw6.out.xb 4
        have x5 := cell_row Iw6.out.xb 5
        have zx := frozen_row Iw6.out.xb 1
        have ce := Iw6.out.rd.c1
        have cz := Iw6.out.rd.c0
        try simp only [Array.setIfInBounds, List.size_toArray, List.length_cons, List.length_nil] at x0 x1 x2 x3 x4 x5
        have hJ := Lib.hid (Iw6.out.put 1 (.bool false))
        go_wp2_with fail
        refine (cnum_calls hJ.out.rd HB.out).mono ?_
        rintro e w7 ⟨rfl, hr⟩
        obtain ⟨r, hr1⟩ : ∃ r, cNum b s4 8 = r := ⟨_, rfl⟩
        rw [hr1] at hr ⊢
        obtain ⟨ix, s5⟩ := r
        have Ew7 := Lib.hid hr1
        have Nw7 := Lib.hid (cNum_wf (w := 8) hr1)
        have Iw7 := Lib.hid (hJ.out.res hr)
        dsimp only
        clear hr hr1
        clear x0 x1 x2 x3 x4 x5 ce
        have x0 := cell_row Iw7.out.xb 0
        have x1 := cell_row Iw7.out.xb 1
        have x2 := cell_row Iw7.out.xb 2
        have x3 := cell_row Iw7.out.xb 3
        have x4 := cell_row Iw7.out.xb 4
        have x5 := cell_row Iw7.out.xb 5
        have zx := frozen_row Iw7.out.xb 2
        have ce := Iw7.out.rd.c1
        have cz := Iw7.out.rd.c0
        try simp only [Array.setIfInBounds, List.size_toArray, List.length_cons, List.length_nil] at x0 x1 x2 x3 x4 x5
        have hJ2 := Lib.hid (Iw7.out.put 2 (.int .i64 ix))
        go_wp2_with fail
        refine (cnum_calls hJ2.out.rd HB.out).mono ?_
        rintro e w8 ⟨rfl, hr⟩
        obtain ⟨r, hr1⟩ : ∃ r, cNum b s5 8 = r := ⟨_, rfl⟩
        rw [hr1] at hr ⊢
        obtain ⟨gn, s6⟩ := r
        have Ew8 := Lib.hid hr1
        have Nw8 := Lib.hid (cNum_wf (w := 8) hr1)
        have Iw8 := Lib.hid (hJ2.out.res hr)
        dsimp only
        clear hr hr1
        clear x0 x1 x2 x3 x4 x5 ce
        have x0 := cell_row Iw8.out.xb 0
        have x1 := cell_row Iw8.out.xb 1
        have x2 := cell_row Iw8.out.xb 2
        have x3 := cell_row Iw8.out.xb 3
        have x4 := cell_row Iw8.out.xb 4
        have x5 := cell_row Iw8.out.xb 5
        have zx := frozen_row Iw8.out.xb 3
        have ce := Iw8.out.rd.c1
        have cz := Iw8.out.rd.c0
        try simp only [Array.setIfInBounds, List.size_toArray, List.length_cons, List.length_nil] at x0 x1 x2 x3 x4 x5
        have hJ3 := Lib.hid (Iw8.out.put 3 (.int .i64 gn))
        go_wp2_with fail
        refine (cnum_calls hJ3.out.rd HB.out).mono ?_
        rintro e w9 ⟨rfl, hr⟩
        obtain ⟨r, hr1⟩ : ∃ r, cNum b s6 8 = r := ⟨_, rfl⟩
        rw [hr1] at hr ⊢
        obtain ⟨co, s7⟩ := r
        have Ew9 := Lib.hid hr1
        have Nw9 := Lib.hid (cNum_wf (w := 8) hr1)
        have Iw9 := Lib.hid (hJ3.out.res hr)
        dsimp only
        clear hr hr1
        clear x0 x1 x2 x3 x4 x5 ce
        have x0 := cell_row Iw9.out.xb 0
        have x1 := cell_row Iw9.out.xb 1
        have x2 := cell_row Iw9.out.xb 2
        have x3 := cell_row Iw9.out.xb 3
        have x4 := cell_row Iw9.out.xb 4
        have x5 := cell_row Iw9.out.xb 5
        have zx := frozen_row Iw9.out.xb 4
        have ce := Iw9.out.rd.c1
        have cz := Iw9.out.rd.c0
        try simp only [Array.setIfInBounds, List.size_toArray, List.length_cons, List.length_nil] at x0 x1 x2 x3 x4 x5
        have hJ4 := Lib.hid (Iw9.out.put 4 (.int .i64 co))
        go_wp2_with fail
        refine (cnum_calls hJ4.out.rd HB.out).mono ?_
        rintro e w10 ⟨rfl, hr⟩
        obtain ⟨r, hr1⟩ : ∃ r, cNum b s7 2 = r := ⟨_, rfl⟩
        rw [hr1] at hr ⊢
        obtain ⟨nn, s8⟩ := r
        have Ew10 := Lib.hid hr1
        have Nw10 := Lib.hid (cNum_wf (w := 2) hr1)
        have Iw10 := Lib.hid (hJ4.out.res hr)
        dsimp only
        clear hr hr1
        clear x0 x1 x2 x3 x4 x5 ce
        have x0 := cell_row Iw10.out.xb 0
        have x1 := cell_row Iw10.out.xb 1
        have x2 := cell_row Iw10.out.xb 2
        have x3 := cell_row Iw10.out.xb 3
        have x4 := cell_row Iw10.out.xb 4
        have x5 := cell_row Iw10.out.xb 5
        have ce := Iw10.out.rd.c1
        have cz := Iw10.out.rd.c0
        try simp only [Array.setIfInBounds, List.size_toArray, List.length_cons, List.length_nil] at x0 x1 x2 x3 x4 x5
        go_wp2_with fail
        refine (cmust_calls (ok := decide (nn ≤ 64)) (e := 13) Iw10.out.rd).mono ?_
        rintro e w11 ⟨⟨v, rfl⟩, hr⟩
        obtain ⟨s9, hs⟩ : ∃ s', cMust (decide (nn ≤ 64)) 13 s8 = s' := ⟨_, rfl⟩
        rw [hs] at hr
        have Ew11 := Lib.hid hs
        have Ow11 := Lib.hid hr.2
        have Iw11 := Lib.hid (Iw10.out.res hr)
        clear hr hs
        clear x0 x1 x2 x3 x4 x5 ce
        have x0 := cell_row Iw11.out.xb 0
        have x1 := cell_row Iw11.out.xb 1
        have x2 := cell_row Iw11.out.xb 2
        have x3 := cell_row Iw11.out.xb 3
        have x4 := cell_row Iw11.out.xb 4
        have x5 := cell_row Iw11.out.xb 5
        have ce := Iw11.out.rd.c1
        have cz := Iw11.out.rd.c0
        try simp only [Array.setIfInBounds, List.size_toArray, List.length_cons, List.length_nil] at x0 x1 x2 x3 x4 x5
        go_wp2_with fail
        refine (rdbytes_calls Iw11.out.rd.rd HB.out).mono ?_
        rintro e w12 ⟨u, rfl, hu, hr, hg⟩
        obtain ⟨r, hr1⟩ : ∃ r, rdBytes b s9.pos s9.bad nn = r := ⟨_, rfl⟩
        rw [hr1] at hu hr
        obtain ⟨dt, ps, bd⟩ := r
        dsimp only at hu hr
        have Ew12 := Lib.hid hr1
        have Iw12 := Lib.hid (Iw11.out.res (s' := ⟨ps, bd, s9.err⟩) ⟨Iw11.out.rd.grown hr hg, only_grown hg⟩)
        have HSZ := Lib.hid (Iw11.out.only.size)
        have HU := Lib.hid hu
        obtain ⟨A5, c5, rfl, _, _, _⟩ := Rep.val_list hu
        clear hr hr1 hg hu
        clear x0 x1 x2 x3 x4 x5 ce
        have x0 := cell_row Iw12.out.xb 0
        have x1 := cell_row Iw12.out.xb 1
        have x2 := cell_row Iw12.out.xb 2
        have x3 := cell_row Iw12.out.xb 3
        have x4 := cell_row Iw12.out.xb 4
        have x5 := cell_row Iw12.out.xb 5
        have zx := frozen_row Iw12.out.xb 5
        have ce := Iw12.out.rd.c1
        have cz := Iw12.out.rd.c0
        try simp only [Array.setIfInBounds, List.size_toArray, List.length_cons, List.length_nil] at x0 x1 x2 x3 x4 x5
        have hJ5 := Lib.hid (Iw12.out.put 5 (.slice A5 dt.length c5))
        have cz' := hJ5.out.rd.c0
        have oks := hJ5.out.rd.rd
        go_wp2_with fail
        refine (ok_calls hJ5.out.rd.rd).mono ?_
        rintro e w13 ⟨rfl, hw⟩
        obtain rfl := hw
        clear oks
        go_wp2_with fail
        refine (cmust_calls (ok := !bd) (e := 12) hJ5.out.rd).mono ?_
        rintro e w14 ⟨⟨v, rfl⟩, hr⟩
        obtain ⟨s11, hs⟩ : ∃ s', cMust (!bd) 12 ⟨ps, bd, s9.err⟩ = s' := ⟨_, rfl⟩
        rw [hs] at hr
        have Ew14 := Lib.hid hs
        have Ow14 := Lib.hid hr.2
        have Iw14 := Lib.hid (hJ5.out.res hr)
        clear hr hs
        clear x0 x1 x2 x3 x4 x5 ce
        have x0 := cell_row Iw14.out.xb 0
        have x1 := cell_row Iw14.out.xb 1
        have x2 := cell_row Iw14.out.xb 2
        have x3 := cell_row Iw14.out.xb 3
        have x4 := cell_row Iw14.out.xb 4
        have x5 := cell_row Iw14.out.xb 5
        have ce := Iw14.out.rd.c1
        have cz := Iw14.out.rd.c0
        try simp only [Array.setIfInBounds, List.size_toArray, List.length_cons, List.length_nil] at x0 x1 x2 x3 x4 x5
        have y0 := cell_row Iw14.out.rb 0
        have y1 := cell_row Iw14.out.rb 1
        have y2 := cell_row Iw14.out.rb 2
        have y3 := cell_row Iw14.out.rb 3
        have y4 := cell_row Iw14.out.rb 4
        have y5 := cell_row Iw14.out.rb 5
        have z0 := frozen_row Iw14.out.rb 0
        have z1 := frozen_row Iw14.out.rb 1
        have z2 := frozen_row Iw14.out.rb 2
        have z3 := frozen_row Iw14.out.rb 3
        have z4 := frozen_row Iw14.out.rb 4
        have z5 := frozen_row Iw14.out.rb 5
        simp only [zeroCmd6] at y0 y1 y2 y3 y4 y5
        have HM := Lib.hid (show cmdMore b 2 s2 = (⟨2, false, ⟨ix, gn⟩, co, dt⟩, s11) by simp [cmdMore, Ew5.out, Ew6.out, Ew7.out, Ew8.out, Ew9.out, Ew10.out, Ew11.out, Ew12.out, Ew14.out, HL.out])
        have HUF : Rep.byte.list.val (fun k => w.heap.size ≤ k) ((((((w14.setCell ⟨w.heap.size, 0, none⟩ (.int .i64 2)).setCell ⟨w.heap.size, 1, none⟩ (.bool false)).setCell ⟨w.heap.size, 2, none⟩ (.int .i64 ix)).setCell ⟨w.heap.size, 3, none⟩ (.int .i64 gn)).setCell ⟨w.heap.size, 4, none⟩ (.int .i64 co)).setCell ⟨w.heap.size, 5, none⟩ (.slice A5 dt.length c5)) (.slice A5 dt.length c5) dt := by
          refine Rep.val_keep (fun x hx hl => ?_) HU.out
          have hx' : w11.heap.size ≤ x := hx
          have q1 := Iw11.out.ok
          have q2 := Iw11.out.only.size
          have q3 : w2.heap.size < w11.heap.size := IsC.lt ⟨_, _, _, Iw11.out.xb⟩
          have q4 := Iw11.out.rd.lt
          refine ⟨by omega, (keep_set6 (by omega)).trans ((Ow14.out.block x (by simpa using hl.lt) (fun e => by omega)).trans (Below.heap_setCell _ _ _ _ (show x ≠ w2.heap.size by omega)))⟩
        go_wp2_with fail
        have hfr : Try.f148.results = #[.cell 2 116] := rfl
        have hlo := Iw14.out.ok
        refine ⟨rfl, .agg #[.int .i64 2, .bool false, .int .i64 ix, .int .i64 gn, .int .i64 co, .slice A5 dt.length c5], ?_, ?_⟩
        · simp only [results, hfr]
          go_simp
        · rw [HF.out, HM.out]
          exact ⟨_, rfl, rCmd_agg (x := ⟨2, false, ⟨ix, gn⟩, co, dt⟩) rfl Nw7.out Nw8.out Nw9.out (Rep.val_slice' HUF), Iw14.out.rd.keep fun x _ hx => keep_set6 (by omega), only_set6 Iw14.out.only (Nat.le_refl _)⟩
    · skip
      have cz := HI4.out.rd.c0
      go_wp2_with fail
      refine (cnum_calls HI4.out.rd HB.out).mono ?_
      rintro e w5 ⟨rfl, hr⟩
      obtain ⟨r, hr1⟩ : ∃ r, cNum b s2 1 = r := ⟨_, rfl⟩
      rw [hr1] at hr ⊢
      obtain ⟨lo, s3⟩ := r
      have Ew5 := Lib.hid hr1
      have Nw5 := Lib.hid (cNum_wf (w := 1) hr1)
      have Iw5 := Lib.hid (HI4.out.res hr)
      dsimp only
      clear hr hr1
      clear x0 x1 x2 x3 x4 x5 ce
      have x0 := cell_row Iw5.out.xb 0
      have x1 := cell_row Iw5.out.xb 1
      have x2 := cell_row Iw5.out.xb 2
      have x3 := cell_row Iw5.out.xb 3
      have x4 := cell_row Iw5.out.xb 4
      have x5 := cell_row Iw5.out.xb 5
      have ce := Iw5.out.rd.c1
      have cz := Iw5.out.rd.c0
      try simp only [Array.setIfInBounds, List.size_toArray, List.length_cons, List.length_nil] at x0 x1 x2 x3 x4 x5
      go_wp2_with fail
      refine (cmust_calls (ok := decide (lo ≤ 1)) (e := 11) Iw5.out.rd).mono ?_
      rintro e w6 ⟨⟨v, rfl⟩, hr⟩
      obtain ⟨s4, hs⟩ : ∃ s', cMust (decide (lo ≤ 1)) 11 s3 = s' := ⟨_, rfl⟩
      rw [hs] at hr
      have Ew6 := Lib.hid hs
      have Ow6 := Lib.hid hr.2
      have Iw6 := Lib.hid (Iw5.out.res hr)
      clear hr hs
      by_cases hl : lo = 1
      · skip
        subst hl
        clear x0 x1 x2 x3 x4 x5 ce
        have x0 := cell_row Iw6.out.xb 0
        have x1 := cell_row Iw6.out.xb 1
        have x2 := cell_row Iw6.out.xb 2
        have x3 := cell_row Iw6.out.xb 3
        have x4 := cell_row Iw6.out.xb 4
        have x5 := cell_row Iw6.out.xb 5
        have zx := frozen_row Iw6.out.xb 1
        have ce := Iw6.out.rd.c1
        have cz := Iw6.out.rd.c0
        try simp only [Array.setIfInBounds, List.size_toArray, List.length_cons, List.length_nil] at x0 x1 x2 x3 x4 x5
        have hJ := Lib.hid (Iw6.out.put 1 (.bool true))
        go_wp2_with fail
        refine (cnum_calls hJ.out.rd HB.out).mono ?_
        rintro e w7 ⟨rfl, hr⟩
        obtain ⟨r, hr1⟩ : ∃ r, cNum b s4 8 = r := ⟨_, rfl⟩
        rw [hr1] at hr ⊢
        obtain ⟨ix, s5⟩ := r
        have Ew7 := Lib.hid hr1
        have Nw7 := Lib.hid (cNum_wf (w := 8) hr1)
        have Iw7 := Lib.hid (hJ.out.res hr)
        dsimp only
        clear hr hr1
        clear x0 x1 x2 x3 x4 x5 ce
        have x0 := cell_row Iw7.out.xb 0
        have x1 := cell_row Iw7.out.xb 1
        have x2 := cell_row Iw7.out.xb 2
        have x3 := cell_row Iw7.out.xb 3
        have x4 := cell_row Iw7.out.xb 4
        have x5 := cell_row Iw7.out.xb 5
        have zx := frozen_row Iw7.out.xb 2
        have ce := Iw7.out.rd.c1
        have cz := Iw7.out.rd.c0
        try simp only [Array.setIfInBounds, List.size_toArray, List.length_cons, List.length_nil] at x0 x1 x2 x3 x4 x5
        have hJ2 := Lib.hid (Iw7.out.put 2 (.int .i64 ix))
        go_wp2_with fail
        refine (cnum_calls hJ2.out.rd HB.out).mono ?_
        rintro e w9 ⟨rfl, hr⟩
        obtain ⟨r, hr1⟩ : ∃ r, cNum b s5 8 = r := ⟨_, rfl⟩
        rw [hr1] at hr ⊢
        obtain ⟨co, s7⟩ := r
        have Ew9 := Lib.hid hr1
        have Nw9 := Lib.hid (cNum_wf (w := 8) hr1)
        have Iw9 := Lib.hid (hJ2.out.res hr)
        dsimp only
        clear hr hr1
        clear x0 x1 x2 x3 x4 x5 ce
        have x0 := cell_row Iw9.out.xb 0
        have x1 := cell_row Iw9.out.xb 1
        have x2 := cell_row Iw9.out.xb 2
        have x3 := cell_row Iw9.out.xb 3
        have x4 := cell_row Iw9.out.xb 4
        have x5 := cell_row Iw9.out.xb 5
        have zx := frozen_row Iw9.out.xb 4
        have ce := Iw9.out.rd.c1
        have cz := Iw9.out.rd.c0
        try simp only [Array.setIfInBounds, List.size_toArray, List.length_cons, List.length_nil] at x0 x1 x2 x3 x4 x5
        have hJ4 := Lib.hid (Iw9.out.put 4 (.int .i64 co))
        have Ew6t := Lib.hid (show cMust true 11 s3 = s4 from Ew6.out)
        have y0 := cell_row Iw9.out.rb 0
        have y1 := cell_row Iw9.out.rb 1
        have y2 := cell_row Iw9.out.rb 2
        have y3 := cell_row Iw9.out.rb 3
        have y4 := cell_row Iw9.out.rb 4
        have y5 := cell_row Iw9.out.rb 5
        have z0 := frozen_row Iw9.out.rb 0
        have z1 := frozen_row Iw9.out.rb 1
        have z2 := frozen_row Iw9.out.rb 2
        have z3 := frozen_row Iw9.out.rb 3
        have z4 := frozen_row Iw9.out.rb 4
        have z5 := frozen_row Iw9.out.rb 5
        simp only [zeroCmd6] at y0 y1 y2 y3 y4 y5
        have HM := Lib.hid (show cmdMore b 3 s2 = (⟨3, true, ⟨ix, 0⟩, co, []⟩, s7) by simp [cmdMore, Ew5.out, Ew6t.out, Ew7.out, Ew9.out])
        go_wp2_with fail
        have hfr : Try.f148.results = #[.cell 2 116] := rfl
        have hlo := hJ4.out.ok
        refine ⟨rfl, .agg #[.int .i64 3, .bool true, .int .i64 ix, .int .i64 0, .int .i64 co, .slice none 0 0], ?_, ?_⟩
        · simp only [results, hfr]
          go_simp
        · rw [HF.out, HM.out]
          exact ⟨_, rfl, rCmd_agg (x := ⟨3, true, ⟨ix, 0⟩, co, []⟩) rfl Nw7.out rfl Nw9.out ⟨Nat.le_refl _, by simp [maxLen], ⟨[], rfl, fun h => absurd h (by simp)⟩⟩, hJ4.out.rd.keep fun x _ hx => keep_set6 (by omega), only_set6 hJ4.out.only (Nat.le_refl _)⟩
      · skip
        have hl' : (lo == 1) = false := beq_eq_false_iff_ne.2 hl
        have HL := Lib.hid hl
        clear hl
        clear x0 x1 x2 x3 x4 x5 ce
        have x0 := cell_row Iw6.out.xb 0
        have x1 := cell_row Iw6.out.xb 1
        have x2 := cell_row Iw6.out.xb 2
        have x3 := cell_row Iw6.out.xb 3
        have x4 := cell_row Iw6.out.xb 4
        have x5 := cell_row Iw6.out.xb 5
        have zx := frozen_row Iw6.out.xb 1
        have ce := Iw6.out.rd.c1
        have cz := Iw6.out.rd.c0
        try simp only [Array.setIfInBounds, List.size_toArray, List.length_cons, List.length_nil] at x0 x1 x2 x3 x4 x5
        have hJ := Lib.hid (Iw6.out.put 1 (.bool false))
        go_wp2_with fail
        refine (cnum_calls hJ.out.rd HB.out).mono ?_
        rintro e w7 ⟨rfl, hr⟩
        obtain ⟨r, hr1⟩ : ∃ r, cNum b s4 8 = r := ⟨_, rfl⟩
        rw [hr1] at hr ⊢
        obtain ⟨ix, s5⟩ := r
        have Ew7 := Lib.hid hr1
        have Nw7 := Lib.hid (cNum_wf (w := 8) hr1)
        have Iw7 := Lib.hid (hJ.out.res hr)
        dsimp only
        clear hr hr1
        clear x0 x1 x2 x3 x4 x5 ce
        have x0 := cell_row Iw7.out.xb 0
        have x1 := cell_row Iw7.out.xb 1
        have x2 := cell_row Iw7.out.xb 2
        have x3 := cell_row Iw7.out.xb 3
        have x4 := cell_row Iw7.out.xb 4
        have x5 := cell_row Iw7.out.xb 5
        have zx := frozen_row Iw7.out.xb 2
        have ce := Iw7.out.rd.c1
        have cz := Iw7.out.rd.c0
        try simp only [Array.setIfInBounds, List.size_toArray, List.length_cons, List.length_nil] at x0 x1 x2 x3 x4 x5
        have hJ2 := Lib.hid (Iw7.out.put 2 (.int .i64 ix))
        go_wp2_with fail
        refine (cnum_calls hJ2.out.rd HB.out).mono ?_
        rintro e w8 ⟨rfl, hr⟩
        obtain ⟨r, hr1⟩ : ∃ r, cNum b s5 8 = r := ⟨_, rfl⟩
        rw [hr1] at hr ⊢
        obtain ⟨gn, s6⟩ := r
        have Ew8 := Lib.hid hr1
        have Nw8 := Lib.hid (cNum_wf (w := 8) hr1)
        have Iw8 := Lib.hid (hJ2.out.res hr)
        dsimp only
        clear hr hr1
        clear x0 x1 x2 x3 x4 x5 ce
        have x0 := cell_row Iw8.out.xb 0
        have x1 := cell_row Iw8.out.xb 1
        have x2 := cell_row Iw8.out.xb 2
        have x3 := cell_row Iw8.out.xb 3
        have x4 := cell_row Iw8.out.xb 4
        have x5 := cell_row Iw8.out.xb 5
        have zx := frozen_row Iw8.out.xb 3
        have ce := Iw8.out.rd.c1
        have cz := Iw8.out.rd.c0
        try simp only [Array.setIfInBounds, List.size_toArray, List.length_cons, List.length_nil] at x0 x1 x2 x3 x4 x5
        have hJ3 := Lib.hid (Iw8.out.put 3 (.int .i64 gn))
        go_wp2_with fail
        refine (cnum_calls hJ3.out.rd HB.out).mono ?_
        rintro e w9 ⟨rfl, hr⟩
        obtain ⟨r, hr1⟩ : ∃ r, cNum b s6 8 = r := ⟨_, rfl⟩
        rw [hr1] at hr ⊢
        obtain ⟨co, s7⟩ := r
        have Ew9 := Lib.hid hr1
        have Nw9 := Lib.hid (cNum_wf (w := 8) hr1)
        have Iw9 := Lib.hid (hJ3.out.res hr)
        dsimp only
        clear hr hr1
        clear x0 x1 x2 x3 x4 x5 ce
        have x0 := cell_row Iw9.out.xb 0
        have x1 := cell_row Iw9.out.xb 1
        have x2 := cell_row Iw9.out.xb 2
        have x3 := cell_row Iw9.out.xb 3
        have x4 := cell_row Iw9.out.xb 4
        have x5 := cell_row Iw9.out.xb 5
        have zx := frozen_row Iw9.out.xb 4
        have ce := Iw9.out.rd.c1
        have cz := Iw9.out.rd.c0
        try simp only [Array.setIfInBounds, List.size_toArray, List.length_cons, List.length_nil] at x0 x1 x2 x3 x4 x5
        have hJ4 := Lib.hid (Iw9.out.put 4 (.int .i64 co))
        have y0 := cell_row Iw9.out.rb 0
        have y1 := cell_row Iw9.out.rb 1
        have y2 := cell_row Iw9.out.rb 2
        have y3 := cell_row Iw9.out.rb 3
        have y4 := cell_row Iw9.out.rb 4
        have y5 := cell_row Iw9.out.rb 5
        have z0 := frozen_row Iw9.out.rb 0
        have z1 := frozen_row Iw9.out.rb 1
        have z2 := frozen_row Iw9.out.rb 2
        have z3 := frozen_row Iw9.out.rb 3
        have z4 := frozen_row Iw9.out.rb 4
        have z5 := frozen_row Iw9.out.rb 5
        simp only [zeroCmd6] at y0 y1 y2 y3 y4 y5
        have HM := Lib.hid (show cmdMore b 3 s2 = (⟨3, false, ⟨ix, gn⟩, co, []⟩, s7) by simp [cmdMore, Ew5.out, Ew6.out, Ew7.out, Ew8.out, Ew9.out, HL.out])
        go_wp2_with fail
        have hfr : Try.f148.results = #[.cell 2 116] := rfl
        have hlo := hJ4.out.ok
        refine ⟨rfl, .agg #[.int .i64 3, .bool false, .int .i64 ix, .int .i64 gn, .int .i64 co, .slice none 0 0], ?_, ?_⟩
        · simp only [results, hfr]
          go_simp
        · rw [HF.out, HM.out]
          exact ⟨_, rfl, rCmd_agg (x := ⟨3, false, ⟨ix, gn⟩, co, []⟩) rfl Nw7.out Nw8.out Nw9.out ⟨Nat.le_refl _, by simp [maxLen], ⟨[], rfl, fun h => absurd h (by simp)⟩⟩, hJ4.out.rd.keep fun x _ hx => keep_set6 (by omega), only_set6 hJ4.out.only (Nat.le_refl _)⟩
end Go.Proofs.Yteljibjbndpncaa
