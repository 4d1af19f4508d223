/- Walks of a command as bytes: cmd. -/
import Derived.Test.YtecdbfbaclgejaaFrameCheck
namespace Go.Proofs.Ytecdbfbaclgejaa
open Go.RowKit

def targetBytes (x : DCmd) : List UInt8 := if x.loc then num 1 1 ++ num 8 x.id.index else num 1 0 ++ num 8 x.id.index ++ num 8 x.id.gen
def dataBytes (x : DCmd) : List UInt8 := num 2 x.data.length ++ x.data
def cmdBytes (x : DCmd) : List UInt8 :=
  if knownB x.kind then num 1 x.kind ++ (if x.kind = 0 then [] else targetBytes x) ++ (if x.kind = 2 ∨ x.kind = 3 then num 8 x.comp else []) ++ (if x.kind = 2 then dataBytes x else [])
  else num 1 255
theorem targetBytes_length (x : DCmd) : (targetBytes x).length ≤ 24 := by
  have h1 := num_length 1 1
  have h2 := num_length 1 0
  have h3 := num_length 8 x.id.index
  have h4 := num_length 8 x.id.gen
  unfold targetBytes
  split <;> simp only [List.length_append] <;> omega

set_option maxRecDepth 100000 in
set_option maxHeartbeats 1000000 in
/-- cmd.target -/
theorem target_calls {Q Q' : Nat → Prop} {w : World} {v u : Value} {l : List UInt8} {x : DCmd} (hv : Rep.byte.list.val Q w v l) (hl : l.length ≤ 100000000) (hx : rCmd.val Q' w u x) :
    Calls Try.prog 240 #[v, u] w (ResA Rep.byte 5 w (l ++ targetBytes x)) := by
  obtain ⟨A, c, rfl, f0, f1, f2, f3, hs⟩ := rCmd_val hx
  have hm := CmdBox.made hx 179
  have hbel : Below w.heap.size w (w.alloc (.cells #[.int .i64 x.kind, .bool x.loc, .int .i64 x.id.index, .int .i64 x.id.gen, .int .i64 x.comp, .slice A x.data.length c] 179)) := (Below.refl _ _).alloc (Nat.le_refl _) _
  have hsz : (w.alloc (.cells #[.int .i64 x.kind, .bool x.loc, .int .i64 x.id.index, .int .i64 x.id.gen, .int .i64 x.comp, .slice A x.data.length c] 179)).heap.size = w.heap.size + 1 := by simp
  obtain ⟨W1, hW1⟩ : ∃ W1, w.alloc (.cells #[.int .i64 x.kind, .bool x.loc, .int .i64 x.id.index, .int .i64 x.id.gen, .int .i64 x.comp, .slice A x.data.length c] 179) = W1 := ⟨_, rfl⟩
  rw [hW1] at hm hbel hsz
  obtain ⟨A0, ca, rfl, hc1, hc2, hA⟩ := Rep.val_list hv
  have HM := Lib.hid hm
  have HB := Lib.hid hbel
  have HS := Lib.hid hsz
  have HV := Lib.hid (show ∀ W, Below W1.heap.size W1 W → Rep.byte.list.val (fun b => b < w.heap.size) W (.slice A0 l.length ca) l from
    fun W h => Rep.val_keep (w := w) (fun b _ hb => ⟨hb.lt, (h.block b (by have := hb.lt; omega)).trans (hbel.block b hb.lt)⟩) hv)
  have KS := Lib.hid (show ∀ w', Below W1.heap.size W1 w' → w'.cell? ⟨w.heap.size, 1, none⟩ = some (.bool x.loc) ∧ w'.cell? ⟨w.heap.size, 2, none⟩ = some (.int .i64 x.id.index) ∧ w'.cell? ⟨w.heap.size, 3, none⟩ = some (.int .i64 x.id.gen) from
    fun w' h => have m := hm.later (h.mono (Nat.le_of_eq hsz.symm)); ⟨m.c1, m.c2, m.c3⟩)
  have LL := Lib.hid (show l.length ≤ 1000000000 by omega)
  obtain ⟨c0, c1, c2, c3, c4, c5, _⟩ := hm
  have F1 := Lib.hid f1
  have F2 := Lib.hid f2
  clear hx hs hv hA hbel hsz f0 f1 f2 f3 c0 c4 c5
  by_cases hloc : x.loc = true
  case pos =>
    rw [hloc] at c1
    obtain ⟨q1, hq1⟩ : ∃ z, z = l ++ num 1 1 := ⟨_, rfl⟩
    obtain ⟨q2, hq2⟩ : ∃ z, z = q1 ++ num 8 x.id.index := ⟨_, rfl⟩
    have L1 := Lib.hid (show q1.length ≤ 1000000000 by have := num_length 1 1; rw [hq1, List.length_append]; omega)
    have T := Lib.hid (show l ++ targetBytes x = q2 by rw [hq2, hq1, targetBytes, hloc]; simp)
    have E1 := Lib.hid hq1
    have E2 := Lib.hid hq2
    clear hq1 hq2 hloc
    go_enter Try.func240, Try.ntmps240
    go_wp2_with fail
    try rw [hW1]
    clear hW1
    go_wp2_with fail
    go_region_held3 (fun W => W.cell? ⟨w.heap.size, 1, none⟩ = some (.bool x.loc) ∧ W.cell? ⟨w.heap.size, 2, none⟩ = some (.int .i64 x.id.index) ∧ W.cell? ⟨w.heap.size, 3, none⟩ = some (.int .i64 x.id.gen))
      (first
        | exact KS.out _ (Below.refl _ _).drew
        | exact KS.out _ D1.out
        | exact KS.out _ D2.out)
      (first
        | (go_at_call_of 116 (Value.int IntKind.i64 1); refine (put_calls (width := 1) (n := 1) (HV.out _ (Below.refl _ _).drew) LL.out rfl rfl).mono ?_; rintro e w1 ⟨u1, rfl, hu1, hb1⟩; rw [← E1.out] at hu1; have D1 := Lib.hid ((Below.refl W1.heap.size W1).drew.trans hb1); have HU1 := Lib.hid (Rep.acc_val hu1); obtain ⟨A5, c5, rfl, _, _⟩ := Rep.acc_form hu1; clear hu1 hb1)
        | (go_at_call_of 116 (Value.int IntKind.i64 x.id.index); refine (put_calls (width := 8) (n := x.id.index) HU1.out L1.out rfl F1.out).mono ?_; rintro e w2 ⟨u2, rfl, hu2, hb2⟩; rw [← E2.out] at hu2; have D2 := Lib.hid (D1.out.trans (hb2.mono D1.out.size)); have HU2 := Lib.hid (Rep.acc_base (Nat.le_trans HB.out.size D1.out.size) hu2); clear hu2 hb2))
    go_wp2_with fail
    go_ret
    exact ⟨_, rfl, by rw [T.out]; exact HU2.out, HB.out.trans (D2.out.mono HB.out.size)⟩
  case neg =>
    replace hloc : x.loc = false := by simpa using hloc
    rw [hloc] at c1
    obtain ⟨q1, hq1⟩ : ∃ z, z = l ++ num 1 0 := ⟨_, rfl⟩
    obtain ⟨q2, hq2⟩ : ∃ z, z = q1 ++ num 8 x.id.index := ⟨_, rfl⟩
    obtain ⟨q3, hq3⟩ : ∃ z, z = q2 ++ num 8 x.id.gen := ⟨_, rfl⟩
    have L2 := Lib.hid (show q2.length ≤ 1000000000 by have := num_length 1 0; have := num_length 8 x.id.index; rw [hq2, hq1, List.length_append, List.length_append]; omega)
    have L1 := Lib.hid (show q1.length ≤ 1000000000 by have := num_length 1 0; rw [hq1, List.length_append]; omega)
    have T := Lib.hid (show l ++ targetBytes x = q3 by rw [hq3, hq2, hq1, targetBytes, hloc]; simp)
    have E1 := Lib.hid hq1
    have E2 := Lib.hid hq2
    have E3 := Lib.hid hq3
    clear hq1 hq2 hq3 hloc
    go_enter Try.func240, Try.ntmps240
    go_wp2_with fail
    try rw [hW1]
    clear hW1
    go_wp2_with fail
    go_region_held3 (fun W => W.cell? ⟨w.heap.size, 1, none⟩ = some (.bool x.loc) ∧ W.cell? ⟨w.heap.size, 2, none⟩ = some (.int .i64 x.id.index) ∧ W.cell? ⟨w.heap.size, 3, none⟩ = some (.int .i64 x.id.gen))
      (first
        | exact KS.out _ (Below.refl _ _).drew
        | exact KS.out _ D1.out
        | exact KS.out _ D2.out
        | exact KS.out _ D3.out)
      (first
        | (go_at_call_of 116 (Value.int IntKind.i64 0); refine (put_calls (width := 1) (n := 0) (HV.out _ (Below.refl _ _).drew) LL.out rfl rfl).mono ?_; rintro e w1 ⟨u1, rfl, hu1, hb1⟩; rw [← E1.out] at hu1; have D1 := Lib.hid ((Below.refl W1.heap.size W1).drew.trans hb1); have HU1 := Lib.hid (Rep.acc_val hu1); obtain ⟨A5, c5, rfl, _, _⟩ := Rep.acc_form hu1; clear hu1 hb1)
        | (go_at_call_of 116 (Value.int IntKind.i64 x.id.index); refine (put_calls (width := 8) (n := x.id.index) HU1.out L1.out rfl F1.out).mono ?_; rintro e w2 ⟨u2, rfl, hu2, hb2⟩; rw [← E2.out] at hu2; have D2 := Lib.hid (D1.out.trans (hb2.mono D1.out.size)); have HU2 := Lib.hid (Rep.acc_val hu2); obtain ⟨A6, c6, rfl, _, _⟩ := Rep.acc_form hu2; clear hu2 hb2)
        | (go_at_call_of 116 (Value.int IntKind.i64 x.id.gen); refine (put_calls (width := 8) (n := x.id.gen) HU2.out L2.out rfl F2.out).mono ?_; rintro e w3 ⟨u3, rfl, hu3, hb3⟩; rw [← E3.out] at hu3; have D3 := Lib.hid (D2.out.trans (hb3.mono D2.out.size)); have HU3 := Lib.hid (Rep.acc_base (Nat.le_trans HB.out.size D2.out.size) hu3); clear hu3 hb3))
    go_wp2_with fail
    go_ret
    exact ⟨_, rfl, by rw [T.out]; exact HU3.out, HB.out.trans (D3.out.mono HB.out.size)⟩

set_option maxRecDepth 100000 in
set_option maxHeartbeats 1000000 in
/-- cmd.Put -/
theorem cmdPut_calls {Q Q' : Nat → Prop} {w : World} {v u : Value} {l : List UInt8} {x : DCmd} (hv : Rep.byte.list.val Q w v l) (hl : l.length ≤ 10000000) (hx : rCmd.val Q' w u x) (hd : x.data.length ≤ 1000000) :
    Calls Try.prog 221 #[v, u] w (ResA Rep.byte 5 w (l ++ cmdBytes x)) := by
  obtain ⟨A, c, rfl, f0, f1, f2, f3, hs⟩ := rCmd_val hx
  have hm := CmdBox.made hx 179
  have hbel : Below w.heap.size w (w.alloc (.cells #[.int .i64 x.kind, .bool x.loc, .int .i64 x.id.index, .int .i64 x.id.gen, .int .i64 x.comp, .slice A x.data.length c] 179)) := (Below.refl _ _).alloc (Nat.le_refl _) _
  have hsz : (w.alloc (.cells #[.int .i64 x.kind, .bool x.loc, .int .i64 x.id.index, .int .i64 x.id.gen, .int .i64 x.comp, .slice A x.data.length c] 179)).heap.size = w.heap.size + 1 := by simp
  obtain ⟨W1, hW1⟩ : ∃ W1, w.alloc (.cells #[.int .i64 x.kind, .bool x.loc, .int .i64 x.id.index, .int .i64 x.id.gen, .int .i64 x.comp, .slice A x.data.length c] 179) = W1 := ⟨_, rfl⟩
  rw [hW1] at hm hbel hsz
  obtain ⟨A0, ca, rfl, hc1, hc2, hA⟩ := Rep.val_list hv
  have HB := Lib.hid hbel
  have HV := Lib.hid (show ∀ W, Below W1.heap.size W1 W → Rep.byte.list.val (fun b => b < w.heap.size) W (.slice A0 l.length ca) l from
    fun W h => Rep.val_keep (w := w) (fun b _ hb => ⟨hb.lt, (h.block b (by have := hb.lt; omega)).trans (hbel.block b hb.lt)⟩) hv)
  have KM := Lib.hid (show ∀ w', Below W1.heap.size W1 w' → CmdBox w' w.heap.size x A c from fun w' h => hm.later (h.mono (Nat.le_of_eq hsz.symm)))
  have LL := Lib.hid hl
  have LD := Lib.hid hd
  have F3 := Lib.hid f3
  have hsm := hs.2.1
  have hsl := hs.1
  unfold maxLen at hsm
  have FD := Lib.hid (wf_i64 (n := (x.data.length : Int)) (by omega) (by omega))
  clear hx hs hv hA hbel hsz f0 f1 f2 f3 hm
  cases hkn : knownB x.kind
  case false =>
    have HKN := Lib.hid hkn
    have KS := Lib.hid (show ∀ w', Below W1.heap.size W1 w' → w'.cell? ⟨w.heap.size, 0, none⟩ = some (.int .i64 x.kind) ∧ w'.cell? ⟨w.heap.size, 1, none⟩ = some (.bool x.loc) ∧ w'.cell? ⟨w.heap.size, 2, none⟩ = some (.int .i64 x.id.index) ∧ w'.cell? ⟨w.heap.size, 3, none⟩ = some (.int .i64 x.id.gen) ∧ w'.cell? ⟨w.heap.size, 4, none⟩ = some (.int .i64 x.comp) ∧ w'.cell? ⟨w.heap.size, 5, none⟩ = some (.slice A x.data.length c) from
      fun w' h => have m := KM.out w' h; ⟨m.c0, m.c1, m.c2, m.c3, m.c4, m.c5⟩)
    obtain ⟨q1, hq1⟩ : ∃ z, z = l ++ num 1 255 := ⟨_, rfl⟩
    have hn1 : q1.length ≤ l.length + 8 := by have := num_length 1 255; rw [hq1, List.length_append]; omega
    have L1 := Lib.hid (show q1.length ≤ 100000000 by omega)
    have T := Lib.hid (show l ++ cmdBytes x = q1 by rw [hq1, cmdBytes, hkn, if_neg Bool.false_ne_true]; try simp)
    have E1 := Lib.hid hq1
    clear hq1 hn1 hkn
    obtain ⟨c0, c1, c2, c3, c4, c5⟩ := KS.out _ (Below.refl _ _)
    go_enter Try.func221, Try.ntmps221
    go_wp2_with fail
    try rw [hW1]
    clear hW1
    go_wp2_with fail
    refine (known_calls _ _).mono ?_
    rintro e w' ⟨rfl, hw⟩
    have hw2 := hw.symm
    subst hw2
    clear hw
    rw [HKN.out]
    go_wp2_with fail
    refine (put_calls (width := 1) (n := 255) (HV.out _ (Below.refl _ _)) (show l.length ≤ 1000000000 by have := LL.out; omega) rfl rfl).mono ?_
    rintro e w1 ⟨u1, rfl, hu1, hb1⟩
    rw [← E1.out] at hu1
    have D1 := Lib.hid (hb1)
    clear c0 c1 c2 c3 c4 c5 hb1
    obtain ⟨c0, c1, c2, c3, c4, c5⟩ := KS.out _ D1.out
    have HU1 := Lib.hid (Rep.acc_base HB.out.size hu1)
    obtain ⟨A_1, c_1, rfl, _, _⟩ := Rep.acc_form hu1
    clear hu1
    go_wp2_with fail
    go_ret
    exact ⟨_, rfl, by rw [T.out]; exact HU1.out, HB.out.trans (D1.out.mono HB.out.size)⟩
  case true =>
    have hk4 : x.kind = 0 ∨ x.kind = 1 ∨ x.kind = 2 ∨ x.kind = 3 := by simp [knownB] at hkn; omega
    clear hkn
    rcases hk4 with hk | hk | hk | hk
    · have KS := Lib.hid (show ∀ w', Below W1.heap.size W1 w' → w'.cell? ⟨w.heap.size, 0, none⟩ = some (.int .i64 0) ∧ w'.cell? ⟨w.heap.size, 1, none⟩ = some (.bool x.loc) ∧ w'.cell? ⟨w.heap.size, 2, none⟩ = some (.int .i64 x.id.index) ∧ w'.cell? ⟨w.heap.size, 3, none⟩ = some (.int .i64 x.id.gen) ∧ w'.cell? ⟨w.heap.size, 4, none⟩ = some (.int .i64 x.comp) ∧ w'.cell? ⟨w.heap.size, 5, none⟩ = some (.slice A x.data.length c) from
        fun w' h => have m := KM.out w' h; ⟨hk ▸ m.c0, m.c1, m.c2, m.c3, m.c4, m.c5⟩)
      have HX := Lib.hid (show ∀ w', Below W1.heap.size W1 w' → rCmd.val (fun b => b < w.heap.size) w' (.agg #[.int .i64 0, .bool x.loc, .int .i64 x.id.index, .int .i64 x.id.gen, .int .i64 x.comp, .slice A x.data.length c]) x from fun w' h => hk ▸ (KM.out w' h).val)
      obtain ⟨q1, hq1⟩ : ∃ z, z = l ++ num 1 0 := ⟨_, rfl⟩
      have hn1 : q1.length ≤ l.length + 8 := by have := num_length 1 0; rw [hq1, List.length_append]; omega
      have L1 := Lib.hid (show q1.length ≤ 100000000 by omega)
      have T := Lib.hid (show l ++ cmdBytes x = q1 by rw [hq1, cmdBytes, hk, show knownB 0 = true from rfl]; try simp)
      have E1 := Lib.hid hq1
      clear hq1 hn1 hk
      obtain ⟨c0, c1, c2, c3, c4, c5⟩ := KS.out _ (Below.refl _ _)
      go_enter Try.func221, Try.ntmps221
      go_wp2_with fail
      try rw [hW1]
      clear hW1
      go_wp2_with fail
      refine (known_calls _ _).mono ?_
      rintro e w' ⟨rfl, hw⟩
      have hw2 := hw.symm
      subst hw2
      clear hw
      rw [show knownB 0 = true from rfl]
      go_wp2_with fail
      refine (put_calls (width := 1) (n := 0) (HV.out _ (Below.refl _ _)) (show l.length ≤ 1000000000 by have := LL.out; omega) rfl rfl).mono ?_
      rintro e w1 ⟨u1, rfl, hu1, hb1⟩
      rw [← E1.out] at hu1
      have D1 := Lib.hid (hb1)
      clear c0 c1 c2 c3 c4 c5 hb1
      obtain ⟨c0, c1, c2, c3, c4, c5⟩ := KS.out _ D1.out
      have HU1 := Lib.hid (Rep.acc_base HB.out.size hu1)
      obtain ⟨A_1, c_1, rfl, _, _⟩ := Rep.acc_form hu1
      clear hu1
      go_wp2_with fail
      go_ret
      exact ⟨_, rfl, by rw [T.out]; exact HU1.out, HB.out.trans (D1.out.mono HB.out.size)⟩
    · have KS := Lib.hid (show ∀ w', Below W1.heap.size W1 w' → w'.cell? ⟨w.heap.size, 0, none⟩ = some (.int .i64 1) ∧ w'.cell? ⟨w.heap.size, 1, none⟩ = some (.bool x.loc) ∧ w'.cell? ⟨w.heap.size, 2, none⟩ = some (.int .i64 x.id.index) ∧ w'.cell? ⟨w.heap.size, 3, none⟩ = some (.int .i64 x.id.gen) ∧ w'.cell? ⟨w.heap.size, 4, none⟩ = some (.int .i64 x.comp) ∧ w'.cell? ⟨w.heap.size, 5, none⟩ = some (.slice A x.data.length c) from
        fun w' h => have m := KM.out w' h; ⟨hk ▸ m.c0, m.c1, m.c2, m.c3, m.c4, m.c5⟩)
      have HX := Lib.hid (show ∀ w', Below W1.heap.size W1 w' → rCmd.val (fun b => b < w.heap.size) w' (.agg #[.int .i64 1, .bool x.loc, .int .i64 x.id.index, .int .i64 x.id.gen, .int .i64 x.comp, .slice A x.data.length c]) x from fun w' h => hk ▸ (KM.out w' h).val)
      obtain ⟨q1, hq1⟩ : ∃ z, z = l ++ num 1 1 := ⟨_, rfl⟩
      have hn1 : q1.length ≤ l.length + 8 := by have := num_length 1 1; rw [hq1, List.length_append]; omega
      obtain ⟨q2, hq2⟩ : ∃ z, z = q1 ++ targetBytes x := ⟨_, rfl⟩
      have hn2 : q2.length ≤ l.length + 32 := by have := targetBytes_length x; rw [hq2, List.length_append]; omega
      have L1 := Lib.hid (show q1.length ≤ 100000000 by omega)
      have L2 := Lib.hid (show q2.length ≤ 100000000 by omega)
      have T := Lib.hid (show l ++ cmdBytes x = q2 by rw [hq2, hq1, cmdBytes, hk, show knownB 1 = true from rfl]; try simp)
      have E1 := Lib.hid hq1
      have E2 := Lib.hid hq2
      clear hq1 hq2 hn1 hn2 hk
      obtain ⟨c0, c1, c2, c3, c4, c5⟩ := KS.out _ (Below.refl _ _)
      go_enter Try.func221, Try.ntmps221
      go_wp2_with fail
      try rw [hW1]
      clear hW1
      go_wp2_with fail
      refine (known_calls _ _).mono ?_
      rintro e w' ⟨rfl, hw⟩
      have hw2 := hw.symm
      subst hw2
      clear hw
      rw [show knownB 1 = true from rfl]
      go_wp2_with fail
      refine (put_calls (width := 1) (n := 1) (HV.out _ (Below.refl _ _)) (show l.length ≤ 1000000000 by have := LL.out; omega) rfl rfl).mono ?_
      rintro e w1 ⟨u1, rfl, hu1, hb1⟩
      rw [← E1.out] at hu1
      have D1 := Lib.hid (hb1)
      clear c0 c1 c2 c3 c4 c5 hb1
      obtain ⟨c0, c1, c2, c3, c4, c5⟩ := KS.out _ D1.out
      have HU1 := Lib.hid (Rep.acc_base HB.out.size hu1)
      obtain ⟨A_1, c_1, rfl, _, _⟩ := Rep.acc_form hu1
      clear hu1
      go_wp2_with fail
      refine (target_calls (Rep.acc_val HU1.out) L1.out (HX.out _ D1.out)).mono ?_
      rintro e w2 ⟨u2, rfl, hu2, hb2⟩
      rw [← E2.out] at hu2
      have HS2 := Lib.hid (Nat.le_trans HB.out.size D1.out.size)
      have D2 := Lib.hid (D1.out.trans (hb2.mono D1.out.size))
      clear c0 c1 c2 c3 c4 c5 hb2
      obtain ⟨c0, c1, c2, c3, c4, c5⟩ := KS.out _ D2.out
      have HU2 := Lib.hid (Rep.acc_base HS2.out hu2)
      obtain ⟨A_2, c_2, rfl, _, _⟩ := Rep.acc_form hu2
      clear hu2
      go_wp2_with fail
      go_ret
      exact ⟨_, rfl, by rw [T.out]; exact HU2.out, HB.out.trans (D2.out.mono HB.out.size)⟩
    · have KS := Lib.hid (show ∀ w', Below W1.heap.size W1 w' → w'.cell? ⟨w.heap.size, 0, none⟩ = some (.int .i64 2) ∧ w'.cell? ⟨w.heap.size, 1, none⟩ = some (.bool x.loc) ∧ w'.cell? ⟨w.heap.size, 2, none⟩ = some (.int .i64 x.id.index) ∧ w'.cell? ⟨w.heap.size, 3, none⟩ = some (.int .i64 x.id.gen) ∧ w'.cell? ⟨w.heap.size, 4, none⟩ = some (.int .i64 x.comp) ∧ w'.cell? ⟨w.heap.size, 5, none⟩ = some (.slice A x.data.length c) from
        fun w' h => have m := KM.out w' h; ⟨hk ▸ m.c0, m.c1, m.c2, m.c3, m.c4, m.c5⟩)
      have HX := Lib.hid (show ∀ w', Below W1.heap.size W1 w' → rCmd.val (fun b => b < w.heap.size) w' (.agg #[.int .i64 2, .bool x.loc, .int .i64 x.id.index, .int .i64 x.id.gen, .int .i64 x.comp, .slice A x.data.length c]) x from fun w' h => hk ▸ (KM.out w' h).val)
      obtain ⟨q1, hq1⟩ : ∃ z, z = l ++ num 1 2 := ⟨_, rfl⟩
      have hn1 : q1.length ≤ l.length + 8 := by have := num_length 1 2; rw [hq1, List.length_append]; omega
      obtain ⟨q2, hq2⟩ : ∃ z, z = q1 ++ targetBytes x := ⟨_, rfl⟩
      have hn2 : q2.length ≤ l.length + 32 := by have := targetBytes_length x; rw [hq2, List.length_append]; omega
      obtain ⟨q3, hq3⟩ : ∃ z, z = q2 ++ num 8 x.comp := ⟨_, rfl⟩
      have hn3 : q3.length ≤ l.length + 40 := by have := num_length 8 x.comp; rw [hq3, List.length_append]; omega
      obtain ⟨q4, hq4⟩ : ∃ z, z = q3 ++ num 2 x.data.length := ⟨_, rfl⟩
      have hn4 : q4.length ≤ l.length + 48 := by have := num_length 2 x.data.length; rw [hq4, List.length_append]; omega
      obtain ⟨q5, hq5⟩ : ∃ z, z = q4 ++ x.data := ⟨_, rfl⟩
      have L1 := Lib.hid (show q1.length ≤ 100000000 by omega)
      have L2 := Lib.hid (show q2.length ≤ 100000000 by omega)
      have L3 := Lib.hid (show q3.length ≤ 100000000 by omega)
      have L4 := Lib.hid (show q4.length ≤ 100000000 by omega)
      have S4 := Lib.hid (show q4.length + x.data.length ≤ maxLen ∧ (q4.length + x.data.length) * 1 ≤ 140737488355328 by unfold maxLen; omega)
      have T := Lib.hid (show l ++ cmdBytes x = q5 by rw [hq5, hq4, hq3, hq2, hq1, cmdBytes, hk, show knownB 2 = true from rfl]; try simp [dataBytes])
      have E1 := Lib.hid hq1
      have E2 := Lib.hid hq2
      have E3 := Lib.hid hq3
      have E4 := Lib.hid hq4
      have E5 := Lib.hid hq5
      clear hq1 hq2 hq3 hq4 hq5 hn1 hn2 hn3 hn4 hk
      obtain ⟨c0, c1, c2, c3, c4, c5⟩ := KS.out _ (Below.refl _ _)
      go_enter Try.func221, Try.ntmps221
      go_wp2_with fail
      try rw [hW1]
      clear hW1
      go_wp2_with fail
      refine (known_calls _ _).mono ?_
      rintro e w' ⟨rfl, hw⟩
      have hw2 := hw.symm
      subst hw2
      clear hw
      rw [show knownB 2 = true from rfl]
      go_wp2_with fail
      refine (put_calls (width := 1) (n := 2) (HV.out _ (Below.refl _ _)) (show l.length ≤ 1000000000 by have := LL.out; omega) rfl rfl).mono ?_
      rintro e w1 ⟨u1, rfl, hu1, hb1⟩
      rw [← E1.out] at hu1
      have D1 := Lib.hid (hb1)
      clear c0 c1 c2 c3 c4 c5 hb1
      obtain ⟨c0, c1, c2, c3, c4, c5⟩ := KS.out _ D1.out
      have HU1 := Lib.hid (Rep.acc_base HB.out.size hu1)
      obtain ⟨A_1, c_1, rfl, _, _⟩ := Rep.acc_form hu1
      clear hu1
      go_wp2_with fail
      refine (target_calls (Rep.acc_val HU1.out) L1.out (HX.out _ D1.out)).mono ?_
      rintro e w2 ⟨u2, rfl, hu2, hb2⟩
      rw [← E2.out] at hu2
      have HS2 := Lib.hid (Nat.le_trans HB.out.size D1.out.size)
      have D2 := Lib.hid (D1.out.trans (hb2.mono D1.out.size))
      clear c0 c1 c2 c3 c4 c5 hb2
      obtain ⟨c0, c1, c2, c3, c4, c5⟩ := KS.out _ D2.out
      have HU2 := Lib.hid (Rep.acc_base HS2.out hu2)
      obtain ⟨A_2, c_2, rfl, _, _⟩ := Rep.acc_form hu2
      clear hu2
      go_wp2_with fail
      refine (put_calls (width := 8) (n := x.comp) (Rep.acc_val HU2.out) (show q2.length ≤ 1000000000 by have := L2.out; omega) rfl F3.out).mono ?_
      rintro e w3 ⟨u3, rfl, hu3, hb3⟩
      rw [← E3.out] at hu3
      have HS3 := Lib.hid (Nat.le_trans HB.out.size D2.out.size)
      have D3 := Lib.hid (D2.out.trans (hb3.mono D2.out.size))
      clear c0 c1 c2 c3 c4 c5 hb3
      obtain ⟨c0, c1, c2, c3, c4, c5⟩ := KS.out _ D3.out
      have HU3 := Lib.hid (Rep.acc_base HS3.out hu3)
      obtain ⟨A_3, c_3, rfl, _, _⟩ := Rep.acc_form hu3
      clear hu3
      go_wp2_with fail
      have HVD := Lib.hid (show ∀ w', Below W1.heap.size W1 w' → Rep.byte.list.val (fun b => b < w.heap.size) w' (.slice A x.data.length c) x.data from fun w' h => by
        obtain ⟨A9, c9, he, _, _, _, _, hs9⟩ := rCmd_val (KM.out w' h).val
        cases he
        exact hs9.val)
      have L3b := Lib.hid (show q3.length ≤ 1000000000 by have := L3.out; omega)
      have HS4 := Lib.hid (D3.out.size)
      have D3d := Lib.hid (show Below W1.heap.size W1 _ from D3.out.drew)
      go_region_held3 (fun W => W.cell? ⟨w.heap.size, 0, none⟩ = some (.int .i64 2) ∧ W.cell? ⟨w.heap.size, 1, none⟩ = some (.bool x.loc) ∧ W.cell? ⟨w.heap.size, 2, none⟩ = some (.int .i64 x.id.index) ∧ W.cell? ⟨w.heap.size, 3, none⟩ = some (.int .i64 x.id.gen) ∧ W.cell? ⟨w.heap.size, 4, none⟩ = some (.int .i64 x.comp) ∧ W.cell? ⟨w.heap.size, 5, none⟩ = some (.slice A x.data.length c))
        (first
          | exact KS.out _ D3d.out
          | exact KS.out _ D4.out
          | exact KS.out _ D5.out)
        (first
          | (go_at_call_of 116 (Value.int IntKind.i64 (x.data.length : Int)); refine (put_calls (width := 2) (n := x.data.length) (Rep.acc_val (Rep.acc_later HU3.out (Below.refl _ _).drew)) L3b.out rfl FD.out).mono ?_; rintro e w4 ⟨u4, rfl, hu4, hb4⟩; rw [← E4.out] at hu4; have D4 := Lib.hid (D3d.out.trans (hb4.mono D3d.out.size)); have HU4 := Lib.hid (Rep.acc_base HS4.out hu4); obtain ⟨A_4, c_4, rfl, _, _⟩ := Rep.acc_form hu4; clear hu4 hb4)
          | (refine step_spread_leaf (e := 5) (base := W1.heap.size) (Q := fun _ => False) Rep.leaf_byte rfl _ _ 22 rfl (.int .u8 0) 1 1 Try.underlying22 info5 rfl (by decide) rfl _ q4 (by exact rfl) HU4.out _ x.data (by exact rfl) (HVD.out _ D4.out) S4.out.1 S4.out.2 D4.out.size ?_; intro v5 w5 hacc5 hgr5 hat5; rw [← E5.out] at hacc5; have HU5 := Lib.hid (Rep.acc_base HB.out.size hacc5); have D5 := Lib.hid (Rep.acc_below HU4.out D4.out hgr5 D4.out.size); clear hacc5 hgr5 hat5))
      go_wp2_with fail
      go_ret
      exact ⟨_, rfl, by rw [T.out]; exact HU5.out, HB.out.trans (D5.out.mono HB.out.size)⟩
    · have KS := Lib.hid (show ∀ w', Below W1.heap.size W1 w' → w'.cell? ⟨w.heap.size, 0, none⟩ = some (.int .i64 3) ∧ w'.cell? ⟨w.heap.size, 1, none⟩ = some (.bool x.loc) ∧ w'.cell? ⟨w.heap.size, 2, none⟩ = some (.int .i64 x.id.index) ∧ w'.cell? ⟨w.heap.size, 3, none⟩ = some (.int .i64 x.id.gen) ∧ w'.cell? ⟨w.heap.size, 4, none⟩ = some (.int .i64 x.comp) ∧ w'.cell? ⟨w.heap.size, 5, none⟩ = some (.slice A x.data.length c) from
        fun w' h => have m := KM.out w' h; ⟨hk ▸ m.c0, m.c1, m.c2, m.c3, m.c4, m.c5⟩)
      have HX := Lib.hid (show ∀ w', Below W1.heap.size W1 w' → rCmd.val (fun b => b < w.heap.size) w' (.agg #[.int .i64 3, .bool x.loc, .int .i64 x.id.index, .int .i64 x.id.gen, .int .i64 x.comp, .slice A x.data.length c]) x from fun w' h => hk ▸ (KM.out w' h).val)
      obtain ⟨q1, hq1⟩ : ∃ z, z = l ++ num 1 3 := ⟨_, rfl⟩
      have hn1 : q1.length ≤ l.length + 8 := by have := num_length 1 3; rw [hq1, List.length_append]; omega
      obtain ⟨q2, hq2⟩ : ∃ z, z = q1 ++ targetBytes x := ⟨_, rfl⟩
      have hn2 : q2.length ≤ l.length + 32 := by have := targetBytes_length x; rw [hq2, List.length_append]; omega
      obtain ⟨q3, hq3⟩ : ∃ z, z = q2 ++ num 8 x.comp := ⟨_, rfl⟩
      have hn3 : q3.length ≤ l.length + 40 := by have := num_length 8 x.comp; rw [hq3, List.length_append]; omega
      have L1 := Lib.hid (show q1.length ≤ 100000000 by omega)
      have L2 := Lib.hid (show q2.length ≤ 100000000 by omega)
      have L3 := Lib.hid (show q3.length ≤ 100000000 by omega)
      have T := Lib.hid (show l ++ cmdBytes x = q3 by rw [hq3, hq2, hq1, cmdBytes, hk, show knownB 3 = true from rfl]; try simp)
      have E1 := Lib.hid hq1
      have E2 := Lib.hid hq2
      have E3 := Lib.hid hq3
      clear hq1 hq2 hq3 hn1 hn2 hn3 hk
      obtain ⟨c0, c1, c2, c3, c4, c5⟩ := KS.out _ (Below.refl _ _)
      go_enter Try.func221, Try.ntmps221
      go_wp2_with fail
      try rw [hW1]
      clear hW1
      go_wp2_with fail
      refine (known_calls _ _).mono ?_
      rintro e w' ⟨rfl, hw⟩
      have hw2 := hw.symm
      subst hw2
      clear hw
      rw [show knownB 3 = true from rfl]
      go_wp2_with fail
      refine (put_calls (width := 1) (n := 3) (HV.out _ (Below.refl _ _)) (show l.length ≤ 1000000000 by have := LL.out; omega) rfl rfl).mono ?_
      rintro e w1 ⟨u1, rfl, hu1, hb1⟩
      rw [← E1.out] at hu1
      have D1 := Lib.hid (hb1)
      clear c0 c1 c2 c3 c4 c5 hb1
      obtain ⟨c0, c1, c2, c3, c4, c5⟩ := KS.out _ D1.out
      have HU1 := Lib.hid (Rep.acc_base HB.out.size hu1)
      obtain ⟨A_1, c_1, rfl, _, _⟩ := Rep.acc_form hu1
      clear hu1
      go_wp2_with fail
      refine (target_calls (Rep.acc_val HU1.out) L1.out (HX.out _ D1.out)).mono ?_
      rintro e w2 ⟨u2, rfl, hu2, hb2⟩
      rw [← E2.out] at hu2
      have HS2 := Lib.hid (Nat.le_trans HB.out.size D1.out.size)
      have D2 := Lib.hid (D1.out.trans (hb2.mono D1.out.size))
      clear c0 c1 c2 c3 c4 c5 hb2
      obtain ⟨c0, c1, c2, c3, c4, c5⟩ := KS.out _ D2.out
      have HU2 := Lib.hid (Rep.acc_base HS2.out hu2)
      obtain ⟨A_2, c_2, rfl, _, _⟩ := Rep.acc_form hu2
      clear hu2
      go_wp2_with fail
      refine (put_calls (width := 8) (n := x.comp) (Rep.acc_val HU2.out) (show q2.length ≤ 1000000000 by have := L2.out; omega) rfl F3.out).mono ?_
      rintro e w3 ⟨u3, rfl, hu3, hb3⟩
      rw [← E3.out] at hu3
      have HS3 := Lib.hid (Nat.le_trans HB.out.size D2.out.size)
      have D3 := Lib.hid (D2.out.trans (hb3.mono D2.out.size))
      clear c0 c1 c2 c3 c4 c5 hb3
      obtain ⟨c0, c1, c2, c3, c4, c5⟩ := KS.out _ D3.out
      have HU3 := Lib.hid (Rep.acc_base HS3.out hu3)
      obtain ⟨A_3, c_3, rfl, _, _⟩ := Rep.acc_form hu3
      clear hu3
      go_wp2_with fail
      go_ret
      exact ⟨_, rfl, by rw [T.out]; exact HU3.out, HB.out.trans (D3.out.mono HB.out.size)⟩
end Go.Proofs.Ytecdbfbaclgejaa
