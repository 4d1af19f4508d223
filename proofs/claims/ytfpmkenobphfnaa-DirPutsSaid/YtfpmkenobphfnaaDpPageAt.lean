/- Walk of a page's sector. Printed by gen_pageat.py. -/
import Derived.Test.YtfpmkenobphfnaaDpG13
namespace Go.Proofs.Ytfpmkenobphfnaa
open Go.RowKit

/-- A page's sector. -/
def pageOf (c : DConf) (p : Int) : Int := if confRight c = true ∧ 0 ≤ p ∧ p < c.pages then 2 + c.log + p else -1
theorem right_log_pages {c : DConf} (h : confRight c = true) : 2 ≤ c.log ∧ c.log ≤ 1024 ∧ 4 ≤ c.pages ∧ c.pages ≤ 1024 ∧ True := by
  have := (right_facts h).1
  obtain ⟨a, b, c, d, _⟩ := this
  exact ⟨by omega, by omega, by omega, by omega, trivial⟩

set_option maxRecDepth 100000 in
set_option maxHeartbeats 2000000 in
/-- geom.Page -/
theorem geomPage_calls {Q : Nat → Prop} {w : World} {v : Value} {c : DConf} {p : Int} (hx : rConf.val Q w v c) :
    Calls Try.prog 147 #[v, .int .i64 p] w fun e w' => e = .returned (.int .i64 (pageOf c p)) ∧ Below w.heap.size w w' := by
  obtain ⟨A, cap, rfl, _⟩ := rConf_val hx
  have hm := InBox.made hx 24
  have hbel : Below w.heap.size w (w.alloc (.cells #[.int .i64 c.log, .int .i64 c.pages, .int .i64 c.entities, .int .i64 c.gens, .slice A c.comps.length cap] 24)) := (Below.refl _ _).alloc (Nat.le_refl _) _
  have hsz : (w.alloc (.cells #[.int .i64 c.log, .int .i64 c.pages, .int .i64 c.entities, .int .i64 c.gens, .slice A c.comps.length cap] 24)).heap.size = w.heap.size + 1 := by simp
  generalize hW1 : w.alloc (.cells #[.int .i64 c.log, .int .i64 c.pages, .int .i64 c.entities, .int .i64 c.gens, .slice A c.comps.length cap] 24) = W1 at *
  have HM := Lib.hid hm
  have HB := Lib.hid hbel
  have HS := Lib.hid hsz
  obtain ⟨a0, a1, a2, a3, a4, _⟩ := hm
  clear hx hbel hsz
  cases hr : confRight c with
  | false =>
    have HR := Lib.hid hr
    have HF := Lib.hid (show pageOf c p = -1 from if_neg (fun h => by rw [hr] at h; cases h.1))
    clear hr
    go_enter Try.func147, Try.ntmps147
    go_wp2_with fail
    try rw [hW1]
    clear hW1
    try go_wp2_with fail
    refine (geomRight_calls HM.out.val).mono ?_
    rintro e w2 ⟨rfl, hb2⟩
    rw [HR.out]
    obtain ⟨b0, b1, b2, b3, b4, hv2⟩ := HM.out.later (hb2.mono (Nat.le_of_eq HS.out.symm))
    clear hv2
    go_wp2_with fail
    go_ret
    exact ⟨by rw [HF.out]; first | done | rfl | simp, HB.out.trans (hb2.mono HB.out.size)⟩
  | true =>
    have HR := Lib.hid hr
    obtain ⟨g1, g2, g3, g4, _⟩ := right_log_pages hr
    by_cases h0 : p < 0
    · have HF := Lib.hid (show pageOf c p = -1 from if_neg (fun h => by have := h.2.1; omega))
      have h0b : decide (0 ≤ p) = false := decide_eq_false (by omega)
      clear hr
      go_enter Try.func147, Try.ntmps147
      go_wp2_with fail
      try rw [hW1]
      clear hW1
      try go_wp2_with fail
      refine (geomRight_calls HM.out.val).mono ?_
      rintro e w2 ⟨rfl, hb2⟩
      rw [HR.out]
      obtain ⟨b0, b1, b2, b3, b4, hv2⟩ := HM.out.later (hb2.mono (Nat.le_of_eq HS.out.symm))
      clear hv2
      go_wp2_with fail
      go_ret
      exact ⟨by rw [HF.out]; first | done | rfl | simp, HB.out.trans (hb2.mono HB.out.size)⟩
    by_cases h1 : c.pages ≤ p
    · have HF := Lib.hid (show pageOf c p = -1 from if_neg (fun h => by have := h.2.2; omega))
      have h0b : decide (0 ≤ p) = true := decide_eq_true (by omega)
      have h1b : decide (p < c.pages) = false := decide_eq_false (by omega)
      clear hr
      go_enter Try.func147, Try.ntmps147
      go_wp2_with fail
      try rw [hW1]
      clear hW1
      try go_wp2_with fail
      refine (geomRight_calls HM.out.val).mono ?_
      rintro e w2 ⟨rfl, hb2⟩
      rw [HR.out]
      obtain ⟨b0, b1, b2, b3, b4, hv2⟩ := HM.out.later (hb2.mono (Nat.le_of_eq HS.out.symm))
      clear hv2
      go_wp2_with fail
      go_ret
      exact ⟨by rw [HF.out]; first | done | rfl | simp, HB.out.trans (hb2.mono HB.out.size)⟩
    have HF := Lib.hid (show pageOf c p = 2 + c.log + p from if_pos ⟨hr, by omega, by omega⟩)
    have h0b : decide (0 ≤ p) = true := decide_eq_true (by omega)
    have h1b : decide (p < c.pages) = true := decide_eq_true (by omega)
    have q1 : IntKind.i64.wrap (2 + c.log) = 2 + c.log := IntWalk.i64_in _ ⟨by omega, by omega⟩
    have q2 : IntKind.i64.wrap (2 + c.log + p) = 2 + c.log + p := IntWalk.i64_in _ ⟨by omega, by omega⟩
    clear hr
    go_enter Try.func147, Try.ntmps147
    go_wp2_with fail
    try rw [hW1]
    clear hW1
    try go_wp2_with fail
    refine (geomRight_calls HM.out.val).mono ?_
    rintro e w2 ⟨rfl, hb2⟩
    rw [HR.out]
    obtain ⟨b0, b1, b2, b3, b4, hv2⟩ := HM.out.later (hb2.mono (Nat.le_of_eq HS.out.symm))
    clear hv2
    go_wp2_with fail
    go_ret
    exact ⟨by rw [HF.out]; first | done | rfl | simp, HB.out.trans (hb2.mono HB.out.size)⟩

set_option maxRecDepth 100000 in
set_option maxHeartbeats 2000000 in
/-- r16.Page -/
theorem rpage_calls {Q : Nat → Prop} {w : World} {v : Value} {c : DConf} {p : Int} (hx : rConf.val Q w v c) :
    Calls Try.prog 91 #[v, .int .i64 p] w fun e w' => e = .returned (.int .i64 (pageOf c p)) ∧ Below w.heap.size w w' := by
  obtain ⟨A, cap, rfl, _⟩ := rConf_val hx
  have hm := InBox.made hx 24
  have hbel : Below w.heap.size w (w.alloc (.cells #[.int .i64 c.log, .int .i64 c.pages, .int .i64 c.entities, .int .i64 c.gens, .slice A c.comps.length cap] 24)) := (Below.refl _ _).alloc (Nat.le_refl _) _
  have hsz : (w.alloc (.cells #[.int .i64 c.log, .int .i64 c.pages, .int .i64 c.entities, .int .i64 c.gens, .slice A c.comps.length cap] 24)).heap.size = w.heap.size + 1 := by simp
  generalize hW1 : w.alloc (.cells #[.int .i64 c.log, .int .i64 c.pages, .int .i64 c.entities, .int .i64 c.gens, .slice A c.comps.length cap] 24) = W1 at *
  have HM := Lib.hid hm
  have HB := Lib.hid hbel
  have HS := Lib.hid hsz
  obtain ⟨a0, a1, a2, a3, a4, _⟩ := hm
  clear hx hbel hsz
  cases hr : confRight c with
  | false =>
    have HR := Lib.hid hr
    have HF := Lib.hid (show pageOf c p = -1 from if_neg (fun h => by rw [hr] at h; cases h.1))
    clear hr
    go_enter Try.func91, Try.ntmps91
    go_wp2_with fail
    try rw [hW1]
    clear hW1
    try go_wp2_with fail
    refine (right_calls HM.out.val).mono ?_
    rintro e w2 ⟨rfl, hb2⟩
    rw [HR.out]
    obtain ⟨b0, b1, b2, b3, b4, hv2⟩ := HM.out.later (hb2.mono (Nat.le_of_eq HS.out.symm))
    clear hv2
    go_wp2_with fail
    go_ret
    exact ⟨by rw [HF.out]; first | done | rfl | simp, HB.out.trans (hb2.mono HB.out.size)⟩
  | true =>
    have HR := Lib.hid hr
    obtain ⟨g1, g2, g3, g4, _⟩ := right_log_pages hr
    by_cases h0 : p < 0
    · have HF := Lib.hid (show pageOf c p = -1 from if_neg (fun h => by have := h.2.1; omega))
      have h0b : decide (0 ≤ p) = false := decide_eq_false (by omega)
      clear hr
      go_enter Try.func91, Try.ntmps91
      go_wp2_with fail
      try rw [hW1]
      clear hW1
      try go_wp2_with fail
      refine (right_calls HM.out.val).mono ?_
      rintro e w2 ⟨rfl, hb2⟩
      rw [HR.out]
      obtain ⟨b0, b1, b2, b3, b4, hv2⟩ := HM.out.later (hb2.mono (Nat.le_of_eq HS.out.symm))
      clear hv2
      go_wp2_with fail
      go_ret
      exact ⟨by rw [HF.out]; first | done | rfl | simp, HB.out.trans (hb2.mono HB.out.size)⟩
    by_cases h1 : c.pages ≤ p
    · have HF := Lib.hid (show pageOf c p = -1 from if_neg (fun h => by have := h.2.2; omega))
      have h0b : decide (0 ≤ p) = true := decide_eq_true (by omega)
      have h1b : decide (p < c.pages) = false := decide_eq_false (by omega)
      clear hr
      go_enter Try.func91, Try.ntmps91
      go_wp2_with fail
      try rw [hW1]
      clear hW1
      try go_wp2_with fail
      refine (right_calls HM.out.val).mono ?_
      rintro e w2 ⟨rfl, hb2⟩
      rw [HR.out]
      obtain ⟨b0, b1, b2, b3, b4, hv2⟩ := HM.out.later (hb2.mono (Nat.le_of_eq HS.out.symm))
      clear hv2
      go_wp2_with fail
      go_ret
      exact ⟨by rw [HF.out]; first | done | rfl | simp, HB.out.trans (hb2.mono HB.out.size)⟩
    have HF := Lib.hid (show pageOf c p = 2 + c.log + p from if_pos ⟨hr, by omega, by omega⟩)
    have h0b : decide (0 ≤ p) = true := decide_eq_true (by omega)
    have h1b : decide (p < c.pages) = true := decide_eq_true (by omega)
    have q1 : IntKind.i64.wrap (2 + c.log) = 2 + c.log := IntWalk.i64_in _ ⟨by omega, by omega⟩
    have q2 : IntKind.i64.wrap (2 + c.log + p) = 2 + c.log + p := IntWalk.i64_in _ ⟨by omega, by omega⟩
    clear hr
    go_enter Try.func91, Try.ntmps91
    go_wp2_with fail
    try rw [hW1]
    clear hW1
    try go_wp2_with fail
    refine (right_calls HM.out.val).mono ?_
    rintro e w2 ⟨rfl, hb2⟩
    rw [HR.out]
    obtain ⟨b0, b1, b2, b3, b4, hv2⟩ := HM.out.later (hb2.mono (Nat.le_of_eq HS.out.symm))
    clear hv2
    go_wp2_with fail
    go_ret
    exact ⟨by rw [HF.out]; first | done | rfl | simp, HB.out.trans (hb2.mono HB.out.size)⟩

set_option maxRecDepth 100000 in
set_option maxHeartbeats 2000000 in
/-- page.at -/
theorem at_calls {Q : Nat → Prop} {w : World} {v : Value} {c : DConf} {p : Int} {P : Nat} (hx : rConf.val Q w v c) :
    Calls Try.prog 88 #[.pointer (some ⟨P, 0, none⟩), v, .int .i64 p] w fun e w' => e = .returned (.tuple #[.int .i64 (if pageOf c p < 0 then 0 else pageOf c p), .int .i64 (if pageOf c p < 0 then 2 else 0)]) ∧ Below w.heap.size w w' := by
  obtain ⟨A, cap, rfl, _⟩ := rConf_val hx
  have hm := InBox.made hx 24
  have hbel : Below w.heap.size w (w.alloc (.cells #[.int .i64 c.log, .int .i64 c.pages, .int .i64 c.entities, .int .i64 c.gens, .slice A c.comps.length cap] 24)) := (Below.refl _ _).alloc (Nat.le_refl _) _
  have hsz : (w.alloc (.cells #[.int .i64 c.log, .int .i64 c.pages, .int .i64 c.entities, .int .i64 c.gens, .slice A c.comps.length cap] 24)).heap.size = w.heap.size + 1 := by simp
  generalize hW1 : w.alloc (.cells #[.int .i64 c.log, .int .i64 c.pages, .int .i64 c.entities, .int .i64 c.gens, .slice A c.comps.length cap] 24) = W1 at *
  have HM := Lib.hid hm
  have HB := Lib.hid hbel
  have HS := Lib.hid hsz
  obtain ⟨a0, a1, a2, a3, a4, _⟩ := hm
  clear hx hbel hsz
  obtain ⟨n, hn⟩ : ∃ n, n = pageOf c p := ⟨_, rfl⟩
  rw [← hn]
  have HN := Lib.hid hn
  clear hn
  by_cases h : n < 0
  · rw [if_pos h, if_pos h]
    go_enter Try.func88, Try.ntmps88
    go_wp2_with fail
    try rw [hW1]
    clear hW1
    try go_wp2_with fail
    refine (geomPage_calls (p := p) HM.out.val).mono ?_
    rintro e w2 ⟨rfl, hb2⟩
    rw [← HN.out]
    go_wp2_with fail
    go_ret2
    exact ⟨rfl, HB.out.trans (hb2.mono HB.out.size)⟩
  · rw [if_neg h, if_neg h]
    go_enter Try.func88, Try.ntmps88
    go_wp2_with fail
    try rw [hW1]
    clear hW1
    try go_wp2_with fail
    refine (geomPage_calls (p := p) HM.out.val).mono ?_
    rintro e w2 ⟨rfl, hb2⟩
    rw [← HN.out]
    go_wp2_with fail
    go_ret2
    exact ⟨rfl, HB.out.trans (hb2.mono HB.out.size)⟩

set_option maxRecDepth 100000 in
set_option maxHeartbeats 2000000 in
/-- page.at -/
theorem atNil_calls {Q : Nat → Prop} {w : World} {v : Value} {c : DConf} {p : Int} (hx : rConf.val Q w v c) :
    Calls Try.prog 88 #[.pointer none, v, .int .i64 p] w fun e w' => e = .returned (.tuple #[.int .i64 0, .int .i64 4]) ∧ Below w.heap.size w w' := by
  obtain ⟨A, cap, rfl, _⟩ := rConf_val hx
  have hm := InBox.made hx 24
  have hbel : Below w.heap.size w (w.alloc (.cells #[.int .i64 c.log, .int .i64 c.pages, .int .i64 c.entities, .int .i64 c.gens, .slice A c.comps.length cap] 24)) := (Below.refl _ _).alloc (Nat.le_refl _) _
  have hsz : (w.alloc (.cells #[.int .i64 c.log, .int .i64 c.pages, .int .i64 c.entities, .int .i64 c.gens, .slice A c.comps.length cap] 24)).heap.size = w.heap.size + 1 := by simp
  generalize hW1 : w.alloc (.cells #[.int .i64 c.log, .int .i64 c.pages, .int .i64 c.entities, .int .i64 c.gens, .slice A c.comps.length cap] 24) = W1 at *
  have HM := Lib.hid hm
  have HB := Lib.hid hbel
  have HS := Lib.hid hsz
  obtain ⟨a0, a1, a2, a3, a4, _⟩ := hm
  clear hx hbel hsz
  obtain ⟨n, hn⟩ : ∃ n, n = pageOf c p := ⟨_, rfl⟩
  have HN := Lib.hid hn
  clear hn
  go_enter Try.func88, Try.ntmps88
  go_wp2_with fail
  try rw [hW1]
  clear hW1
  try go_wp2_with fail
  refine (geomPage_calls (p := p) HM.out.val).mono ?_
  rintro e w2 ⟨rfl, hb2⟩
  rw [← HN.out]
  go_wp2_with fail
  go_ret2
  exact ⟨rfl, HB.out.trans (hb2.mono HB.out.size)⟩
end Go.Proofs.Ytfpmkenobphfnaa
