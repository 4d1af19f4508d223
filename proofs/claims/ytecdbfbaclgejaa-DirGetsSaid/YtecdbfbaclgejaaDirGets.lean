/- The statement on directories out of bytes, walked: it answers true at whatever bytes, and what there was stands. -/
import Derived.Test.YtecdbfbaclgejaaLive25
namespace Go.Proofs.Ytecdbfbaclgejaa
open Go.RowKit

theorem dirGet_len (b : List UInt8) : (dirGet b).1.length < 65536 := by
  unfold dirGet
  split
  · simp
  · split
    · simp
    · rename_i l e hp
      have h1 := parseDir_length hp
      have h2 := natAt_lt b 0 2
      split
      · simp only []; omega
      · simp

set_option maxRecDepth 100000 in
set_option maxHeartbeats 1000000 in
/-- DirGets -/
theorem dirGets_calls {Q : Nat → Prop} {w : World} {v : Value} {b : List UInt8} (hx : Rep.byte.list.val Q w v b) :
    Calls Try.prog 5 #[v] w fun e w' => e = .returned (.bool true) ∧ Below w.heap.size w w' := by
  have HX := Lib.hid hx
  obtain ⟨A, c, rfl, hc1, hc2, hA⟩ := Rep.val_list hx
  unfold maxLen at hc2
  clear hx hA
  by_cases hlen : (1500 : Int) < b.length
  · go_enter Try.func5, Try.ntmps5
    go_wp2_with (go_at_call 32; refine (live25 _).mono ?_; rintro e w' ⟨rfl, hb⟩)
    go_ret
    exact ⟨rfl, hb⟩
  · have hbl : b.length ≤ 1000000000 := by omega
    have HBL := Lib.hid hbl
    have HL := Lib.hid (show b.length ≤ 1500 by omega)
    obtain ⟨l, hl⟩ : ∃ l, l = (dirGet b).1 := ⟨_, rfl⟩
    obtain ⟨n, hn⟩ : ∃ n, n = (dirGet b).2 := ⟨_, rfl⟩
    have HN := Lib.hid hn
    have HLL := Lib.hid hl
    have HP := Lib.hid (show n = 0 → dirBytes l = b by rw [hn, hl]; exact dirGet_put)
    have HLN := Lib.hid (show l.length < 65536 by rw [hl]; exact dirGet_len b)
    clear hbl hl hn
    go_enter Try.func5, Try.ntmps5
    go_wp2_with fail
    refine (dget_calls HX.out HBL.out).mono ?_
    rintro e w1 ⟨u1, rfl, hu1, hb1⟩
    rw [← HLL.out] at hu1
    rw [← HN.out]
    have HU1 := Lib.hid hu1
    have HB1 := Lib.hid hb1
    have HX1 := Lib.hid (Rep.val_below HX.out hb1 fun _ _ h => h.lt)
    clear hu1 hb1
    go_wp2_with fail
    refine (rdget_calls HX1.out HBL.out).mono ?_
    rintro e w2 ⟨u2, rfl, hu2, hb2⟩
    rw [← HLL.out] at hu2
    rw [← HN.out]
    have HU2 := Lib.hid hu2
    have HB2 := Lib.hid (HB1.out.trans (hb2.mono HB1.out.size))
    have HX2 := Lib.hid (Rep.val_below HX1.out hb2 fun _ _ h => h.lt)
    have HU12 := Lib.hid (Rep.val_below HU1.out hb2 fun _ _ h => h.lt)
    clear hu2 hb2
    go_wp2_with fail
    refine (entSame_calls HU12.out HU2.out).mono ?_
    rintro e w3 ⟨rfl, nq, rfl⟩
    simp only [decide_true]
    by_cases h0 : n = 0
    · have HBy := Lib.hid (HP.out h0)
      subst h0
      have HU3 := Lib.hid (Rep.val_drewN HU12.out nq)
      have HX3 := Lib.hid (Rep.val_drewN HX2.out nq)
      have HB3 := Lib.hid (below_drewN HB2.out nq)
      generalize w2.drewN nq = W3 at *
      go_wp2_with (go_at_call 36; refine (code25_calls _ _).mono ?_; rintro e w' ⟨rfl, rfl⟩)
      refine (dput_calls HU3.out (by rw [HBy.out]; have := HL.out; omega) (by have := HLN.out; omega)).mono ?_
      rintro e w4 ⟨u4, rfl, hu4, hb4⟩
      rw [HBy.out] at hu4
      have HU4 := Lib.hid hu4
      have HB4 := Lib.hid (HB3.out.trans (hb4.mono HB3.out.size))
      have HX4 := Lib.hid (Rep.val_below HX3.out hb4 fun _ _ h => h.lt)
      clear hu4 hb4
      go_wp2_with fail
      refine (sameBytes HU4.out HX4.out).mono ?_
      rintro e w5 ⟨rfl, rfl⟩
      simp only [decide_true]
      go_wp2_with (go_at_call 32; refine (live25 _).mono ?_; rintro e w' ⟨rfl, hb⟩)
      go_ret
      exact ⟨rfl, HB4.out.trans (hb.mono HB4.out.size)⟩
    · have hne : (n != 0) = true := by simpa using h0
      have HB3 := Lib.hid (below_drewN HB2.out nq)
      clear h0
      generalize w2.drewN nq = W3 at *
      go_wp2_with (first | (go_at_call 36; refine (code25_calls _ _).mono ?_; rintro e w' ⟨rfl, rfl⟩) | (go_at_call 32; refine (live25 _).mono ?_; rintro e w' ⟨rfl, hb⟩))
      go_ret
      exact ⟨rfl, HB3.out.trans (hb.mono HB3.out.size)⟩
end Go.Proofs.Ytecdbfbaclgejaa
