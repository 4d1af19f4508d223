/- The statement on which pages stay, walked. Printed by gen_pstays.py. -/
import Derived.Test.YteljibjbndpncaaPsG13
import Derived.Test.YteljibjbndpncaaPsG15
import Derived.Test.YteljibjbndpncaaPsHas06
import Derived.Test.YteljibjbndpncaaPsPNews
import Derived.Test.YteljibjbndpncaaPsPlanNews
namespace Go.Proofs.Yteljibjbndpncaa
open Go.RowKit

theorem flows_few {l : List DFlow} (h : muchFlows l = false) : l.length ≤ 20 ∧ ∀ f ∈ l, f.data.length ≤ 3000 ∧ f.pages.length ≤ 50 := by
  unfold muchFlows at h
  rw [Bool.or_eq_false_iff] at h
  have h1 : l.length ≤ 20 := by have := h.1; simp at this; exact this
  refine ⟨h1, fun f hf => ?_⟩
  have h2 := h.2
  rw [List.take_of_length_le (by omega)] at h2
  have h3 := List.any_eq_false.1 h2 f hf
  simp only [Bool.or_eq_true, decide_eq_true_eq] at h3
  omega
theorem key_facts {x y : DKey} : (x = y ∧ (x.kind == y.kind) = true ∧ (x.sig == y.sig) = true ∧ (x.comp == y.comp) = true) ∨ (x ≠ y ∧ (x.kind = y.kind → x.sig = y.sig → ¬ x.comp = y.comp)) := by
  by_cases h : x = y
  · subst h; exact .inl ⟨rfl, by simp, by simp, by simp⟩
  · exact .inr ⟨h, fun h1 h2 h3 => h (DKey.ext h1 h2 h3)⟩
theorem pair_succ {α : Type} {R : α → α → Prop} {l : List α} {k : Nat} {y : α} (hy : l[k]? = some y) (h : (l.take k).Pairwise R) (hn : ∀ (j : Nat) (x : α), j < k → l[j]? = some x → R x y) : (l.take (k + 1)).Pairwise R := by
  obtain ⟨hk, rfl⟩ := List.getElem?_eq_some_iff.1 hy
  rw [List.take_succ_eq_append_getElem hk, List.pairwise_append]
  refine ⟨h, List.pairwise_singleton _ _, fun a ha b hb => ?_⟩
  obtain rfl := List.mem_singleton.1 hb
  obtain ⟨j, hj, rfl⟩ := List.mem_take_iff_getElem.1 ha
  exact hn j _ (by omega) (List.getElem?_eq_getElem (by omega))
theorem streams_succ {l : List DFlow} {k : Nat} {f : DFlow} (h : l[k]? = some f) : streamsOf (l.take (k + 1)) = streamsOf (l.take k) ++ [⟨f.key, f.data⟩] := by
  obtain ⟨hk, rfl⟩ := List.getElem?_eq_some_iff.1 h
  unfold streamsOf
  rw [List.take_succ_eq_append_getElem hk, List.map_append]; rfl
theorem info37 : (Try.prog.info? 37).map (fun i => (i.zero, i.size, i.bytes)) = some (some (.agg #[.int .i64 0, .int .u64 0, .int .i64 0, .slice none 0 0]), 4, 48) := by kernel_rfl
theorem info37' : (Try.prog.info? 37).map (fun i => (i.zero, i.size)) = some (some (.agg #[.int .i64 0, .int .u64 0, .int .i64 0, .slice none 0 0]), 4) := by kernel_rfl

set_option maxRecDepth 100000 in
set_option maxHeartbeats 2000000 in
/-- PlanStays -/
theorem planStays_calls {Q Q' : Nat → Prop} {w : World} {vo vn : Value} {old : List DFlow} {next : List DStream} (ho0 : rFlow.list.val Q w vo old) (hn0 : rStream.list.val Q' w vn next) :
    Calls Try.prog 3 #[vo, vn] w fun e w' => e = .returned (.bool true) ∧ Below w.heap.size w w' := by
  have ho := Rep.val_any ho0
  have hn := Rep.val_any hn0
  have HO := Lib.hid ho
  have HN := Lib.hid hn
  obtain ⟨Ao, co, rfl, ho1, ho2, hO⟩ := Rep.val_list ho
  obtain ⟨A, c, rfl, hc1, hc2, hA⟩ := Rep.val_list hn
  unfold maxLen at ho2 hc2
  have HAO := Lib.hid hO
  have HAN := Lib.hid hA
  clear ho0 hn0 ho hn hO hA
  cases hm : muchFlows old with
  | true =>
    have HM := Lib.hid hm
    clear hm
    go_enter Try.func3, Try.ntmps3
    go_wp2_with (first | (go_at_call 7; refine (muchFlows_calls HO.out).mono ?_; rintro e w' ⟨rfl, rfl⟩; rw [HM.out]) | (go_at_call 9; refine (live24_calls _).mono ?_; rintro e w' ⟨rfl, hb⟩))
    go_ret
    exact ⟨rfl, hb⟩
  | false =>
  have HM := Lib.hid hm
  have HF := Lib.hid (flows_few hm)
  have hl20 : (old.length : Int) ≤ 20 := by have := HF.out.1; omega
  have HDO := Lib.hid (show ∀ f ∈ old, f.data.length ≤ 1000000 from fun f hf => by have := (HF.out.2 f hf).1; omega)
  clear hm
  go_enter Try.func3, Try.ntmps3
  go_wp2_with fail
  refine (muchFlows_calls HO.out).mono ?_
  rintro e w' ⟨rfl, hw⟩
  obtain rfl := hw.symm
  rw [HM.out]
  go_wp2_with fail
  refine (muchStreams_calls HN.out).mono ?_
  rintro e w1 ⟨r, rfl, hr, hw⟩
  obtain rfl := hw.symm
  cases r with
  | true =>
    go_wp2_with fail
    refine (live24_calls _).mono ?_
    rintro e w' ⟨rfl, hb⟩
    go_wp2_with fail
    go_ret
    exact ⟨rfl, hb⟩
  | false =>
  have HR := Lib.hid (hr rfl)
  have hl40 : (next.length : Int) ≤ 40 := by have := HR.out.1; omega
  have HDN := Lib.hid (show ∀ s ∈ next, s.data.length ≤ 1000000 from fun s hs => by have := HR.out.2 s hs; omega)
  clear hr
  go_wp2_with fail
  refine (rpages_calls HO.out HDO.out (by omega)).mono ?_
  rintro e w2 ⟨u2, rfl, hu2, hb2⟩
  have HB2 := Lib.hid hb2
  have HP2 := Lib.hid (Rep.val_any hu2)
  obtain ⟨A2, c2, rfl, _, _, _⟩ := Rep.val_list hu2
  clear hu2 hb2
  go_wp2_with fail
  refine (rtwice_calls HP2.out).mono ?_
  rintro e w3 ⟨rfl, hb3⟩
  by_cases hnd : (pagesOf old).Nodup
  case neg =>
    have HB3 := Lib.hid (HB2.out.trans (hb3.mono HB2.out.size))
    rw [decide_eq_false hnd]
    clear hnd hb3
    go_wp2_with fail
    refine (live24_calls _).mono ?_
    rintro e w' ⟨rfl, hb⟩
    have HB4 := Lib.hid (HB3.out.trans (hb.mono HB3.out.size))
    clear hb
    go_wp2_with fail
    go_ret
    exact ⟨rfl, HB4.out⟩
  case pos =>
  have HND := Lib.hid hnd
  have HB3 := Lib.hid (HB2.out.trans (hb3.mono HB2.out.size))
  have HP3 := Lib.hid (Rep.val_any (Rep.val_below HP2.out hb3 (fun _ h _ => h)))
  rw [decide_eq_true hnd]
  clear hnd hb3 HP2
  generalize hPG : pagesOf old = pg at *
  have HPG := Lib.hid hPG
  clear hPG
  go_wp2_with fail
  go_loopw [6, 7] (fun s i wr => ∃ k : Nat, i = .int .i64 k ∧ k ≤ old.length ∧ rStream.acc 37 w3.heap.size (fun b => b < w3.heap.size) wr s (streamsOf (old.take k)) ∧ Hid (Below w3.heap.size w3 wr) ∧ Hid ((old.take k).Pairwise fun a b => a.key ≠ b.key)) (fun _ i _ => old.length - (intOf i).toNat)
  case atStart => exact ⟨0, rfl, Nat.zero_le _, by rw [List.take_zero]; exact Rep.acc_nil, Lib.hid (Below.refl _ _), Lib.hid (by rw [List.take_zero]; exact List.Pairwise.nil)⟩
  case round =>
    obtain ⟨k, rfl, hk, hv, HBW, HPW⟩ := hrel
    by_cases hlt : (k : Int) < old.length
    · obtain ⟨f, hf⟩ : ∃ f, old[k]? = some f := ⟨_, List.getElem?_eq_getElem (by omega)⟩
      have HX := Lib.hid hf
      have HT := Lib.hid (streams_succ hf)
      have HPS := Lib.hid (show (∀ (j : Nat) (x : DFlow), j < k → old[j]? = some x → x.key ≠ f.key) → (old.take (k + 1)).Pairwise fun a b => a.key ≠ b.key from fun h => pair_succ hf HPW.out h)
      have HLEN := Lib.hid (show (streamsOf (old.take k)).length + 1 ≤ maxLen ∧ ((streamsOf (old.take k)).length + 1) * 48 ≤ 140737488355328 by
        have := HF.out.1
        unfold streamsOf maxLen
        rw [List.length_map, List.length_take]
        omega)
      obtain ⟨q, hq⟩ : ∃ q, streamsOf (old.take k) = q := ⟨_, rfl⟩
      rw [hq] at hv HT HLEN
      clear hq
      obtain ⟨A0, c0, rfl, _, _⟩ := Rep.acc_form hv
      have HV := Lib.hid hv
      have HW0 := Lib.hid (HB3.out.trans (HBW.out.mono HB3.out.size))
      obtain ⟨b, off, A1, c1, Ap, cp, hA, hbc, d0, d1, d2, d3, _, f0, f1, f2, s3, _⟩ := rFlow_at (HAO.out.below HW0.out (fun _ h _ => h)) hf
      subst hA
      have hbl := hbc.lt
      have KB := Lib.hid (show ∀ W', Below wr.heap.size wr W' → (W'.cell? ⟨b, off + k * 5, none⟩ = some (.int .i64 f.key.kind) ∧ W'.cell? ⟨b, off + k * 5 + 1, none⟩ = some (.int .u64 f.key.sig) ∧ W'.cell? ⟨b, off + k * 5 + 2, none⟩ = some (.int .i64 f.key.comp) ∧ W'.cell? ⟨b, off + k * 5 + 3, none⟩ = some (.slice A1 f.data.length c1)) from fun W' h =>
        ⟨(h.cell (p := ⟨b, off + k * 5, none⟩) hbl).trans d0, (h.cell (p := ⟨b, off + k * 5 + 1, none⟩) hbl).trans d1, (h.cell (p := ⟨b, off + k * 5 + 2, none⟩) hbl).trans d2, (h.cell (p := ⟨b, off + k * 5 + 3, none⟩) hbl).trans d3⟩)
      have HS := Lib.hid (show ∀ W', Below wr.heap.size wr W' → rStream.val (fun b => b < w3.heap.size ∧ (Value.slice A0 q.length c0).ownBlock ≠ some b) W' (.agg #[.int .i64 f.key.kind, .int .u64 f.key.sig, .int .i64 f.key.comp, .slice A1 f.data.length c1]) ⟨f.key, f.data⟩ from fun W' h =>
        rStream_agg (x := ⟨f.key, f.data⟩) f0 f1 f2 (Rep.Sl.keep (fun b hb hl => ⟨⟨by have h0 : b < w.heap.size := hb; have := HB3.out.size; omega, fun e => by have := (Rep.acc_own HV.out b e).1; have h0 : b < w.heap.size := hb; have := HB3.out.size; omega⟩, h.block b hl.lt⟩) s3))
      have HACC := Lib.hid (show ∀ W', Below wr.heap.size wr W' → rStream.acc 37 w3.heap.size (fun b => b < w3.heap.size) W' (.slice A0 q.length c0) q from fun W' h => Rep.acc_later HV.out h)
      have HZ := Lib.hid (show ∀ W', Below wr.heap.size wr W' → w3.heap.size ≤ W'.heap.size from fun W' h => Nat.le_trans HBW.out.size h.size)
      have hkl : (k : Int) < old.length := hlt
      clear hv hf hbc hbl d0 d1 d2 d3 f0 f1 f2 s3
      go_wp2_with fail
      refine wp_region_noPanic ?_
      refine wp_region_tail (S := fun W' => Below wr.heap.size wr W') (T := [13, 14]) (by kernel_rfl) (Below.refl _ _).drew (fun s0 => ?_)
      refine wpAnyT_take (i := 0) (v := .slice A0 q.length c0) rfl (by kernel_rfl) (by kernel_rfl) (by kernel_rfl) (by kernel_rfl) (fun _ _ _ h => h) (Or.inl ⟨by rfl, fun w' _ => by go_simp <;> omega⟩) s0 ?_
      go_simp
      refine wpAnyT_take (i := 1) (v := .slice (some ⟨b, off, none⟩) old.length co) rfl (by kernel_rfl) (by kernel_rfl) (by kernel_rfl) (by kernel_rfl) (fun _ _ _ h => h) (Or.inl ⟨by rfl, fun w' _ => by go_simp <;> omega⟩) s0 ?_
      go_simp
      refine wpAnyT_take (i := 2) (v := .int .i64 k) rfl (by kernel_rfl) (by kernel_rfl) (by kernel_rfl) (by kernel_rfl) (fun _ _ _ h => h) (Or.inl ⟨by rfl, fun w' _ => by go_simp <;> omega⟩) s0 ?_
      go_simp
      refine wpAnyT_take (i := 3) (v := .pointer (some ⟨b, off + k * 5, none⟩)) rfl (by kernel_rfl) (by kernel_rfl) (by kernel_rfl) (by kernel_rfl) (fun _ _ _ h => h) (Or.inl ⟨by rfl, fun w' _ => by go_simp <;> omega⟩) s0 ?_
      go_simp
      refine wpAnyT_take (i := 4) (v := .pointer (some ⟨b, off + k * 5, none⟩)) rfl (by kernel_rfl) (by kernel_rfl) (by kernel_rfl) (by kernel_rfl) (fun _ _ _ h => h) (Or.inl ⟨by rfl, fun w' _ => by go_simp <;> omega⟩) s0 ?_
      go_simp
      refine wpAnyT_take (i := 5) (v := .agg #[.int .i64 f.key.kind, .int .u64 f.key.sig, .int .i64 f.key.comp]) rfl (by kernel_rfl) (by kernel_rfl) (by kernel_rfl) (by kernel_rfl) (fun _ _ _ h => h) (Or.inl ⟨by rfl, fun w' h => by obtain ⟨x0, x1, x2, x3⟩ := KB.out w' h; go_simp⟩) s0 ?_
      go_simp
      refine wpAnyT_take (i := 6) (v := .slice (some ⟨b, off, none⟩) old.length co) rfl (by kernel_rfl) (by kernel_rfl) (by kernel_rfl) (by kernel_rfl) (fun _ _ _ h => h) (Or.inl ⟨by rfl, fun w' _ => by go_simp <;> omega⟩) s0 ?_
      go_simp
      refine wpAnyT_take (i := 7) (v := .int .i64 k) rfl (by kernel_rfl) (by kernel_rfl) (by kernel_rfl) (by kernel_rfl) (fun _ _ _ h => h) (Or.inl ⟨by rfl, fun w' _ => by go_simp <;> omega⟩) s0 ?_
      go_simp
      refine wpAnyT_take (i := 8) (v := .pointer (some ⟨b, off + k * 5, none⟩)) rfl (by kernel_rfl) (by kernel_rfl) (by kernel_rfl) (by kernel_rfl) (fun _ _ _ h => h) (Or.inl ⟨by rfl, fun w' _ => by go_simp <;> omega⟩) s0 ?_
      go_simp
      refine wpAnyT_take (i := 9) (v := .pointer (some ⟨b, off + k * 5 + 3, none⟩)) rfl (by kernel_rfl) (by kernel_rfl) (by kernel_rfl) (by kernel_rfl) (fun _ _ _ h => h) (Or.inl ⟨by rfl, fun w' _ => by go_simp <;> omega⟩) s0 ?_
      go_simp
      refine wpAnyT_take (i := 10) (v := .slice A1 f.data.length c1) rfl (by kernel_rfl) (by kernel_rfl) (by kernel_rfl) (by kernel_rfl) (fun _ _ _ h => h) (Or.inl ⟨by rfl, fun w' h => by obtain ⟨x0, x1, x2, x3⟩ := KB.out w' h; go_simp⟩) s0 ?_
      go_simp
      refine wpAnyT_take (i := 11) (v := .agg #[.int .i64 f.key.kind, .int .u64 f.key.sig, .int .i64 f.key.comp, .slice A1 f.data.length c1]) rfl (by kernel_rfl) (by kernel_rfl) (by kernel_rfl) (by kernel_rfl) (fun _ _ _ h => h) (Or.inl ⟨by rfl, fun w' _ => by go_simp <;> omega⟩) s0 ?_
      go_simp
      refine wpAnyT_one (i := 12) rfl (by kernel_rfl) rfl (fun K hK => ?_)
      have s1 := s0
      refine step_run rfl (exec_buildSlice (vy := .agg #[.int .i64 f.key.kind, .int .u64 f.key.sig, .int .i64 f.key.comp, .slice A1 f.data.length c1]) rfl (.agg #[.int .i64 0, .int .u64 0, .int .i64 0, .slice none 0 0]) 4 Try.underlying23 info37' rfl rfl (by decide)) ?_
      have s2 := s0.alloc (B := wr.heap.size) s0.size (.cells (Value.cells (.agg #[.int .i64 f.key.kind, .int .u64 f.key.sig, .int .i64 f.key.comp, .slice A1 f.data.length c1])) 37)
      refine hK _ _ ⟨s2, ?_⟩
      clear hK K
      refine wpAnyT_last (i := 13) rfl (by kernel_rfl) rfl (fun K hK => ?_)
      refine step_snoc2 rfl _ _ 23 rfl (.agg #[.int .i64 0, .int .u64 0, .int .i64 0, .slice none 0 0]) 4 48 Try.underlying23 info37 rfl (by decide) rfl _ q (by exact rfl) (HACC.out _ s1) ⟨f.key, f.data⟩ (.agg #[.int .i64 f.key.kind, .int .u64 f.key.sig, .int .i64 f.key.comp, .slice A1 f.data.length c1]) (HS.out _ s1) (by exact rfl) HLEN.out.1 HLEN.out.2 (HZ.out _ s1) (fun v7 w7 hacc7 hgr7 hat7 => ?_)
      obtain ⟨A7, c7, rfl, _, _⟩ := Rep.acc_form hacc7
      simp only [List.length_append, List.length_singleton] at hacc7 hat7
      refine hK _ _ ?_
      clear hK K
      refine wpAnyT_last (i := 14) rfl (by kernel_rfl) rfl (fun K hK => ?_)
      go_simp
      refine hK _ _ ?_
      clear hK K
      refine wpAnyT_done (by kernel_rfl) ?_ _
      refine NoPanic.normal ?_
      have HB7 := Lib.hid (Rep.acc_below (HACC.out _ s1) (HBW.out.trans (s1.mono HBW.out.size)) hgr7 (HZ.out _ s1))
      have HA7 := Lib.hid hacc7
      clear hacc7 hgr7 hat7 s1 s0 KB HS HACC HZ HV HBW HW0
      go_wp2_with fail
      go_loopw [8] (fun i wx => ∃ j : Nat, i = .int .i64 j ∧ j ≤ k ∧ Hid (∀ (m : Nat) (x : DFlow), m < j → old[m]? = some x → x.key ≠ f.key) ∧ Hid (Below w7.heap.size w7 wx)) (fun i _ => k - (intOf i).toNat)
      case atStart => exact ⟨0, rfl, Nat.zero_le _, Lib.hid (fun m x hm => absurd hm (Nat.not_lt_zero _)), Lib.hid (Below.refl _ _)⟩
      case round =>
        obtain ⟨j, rfl, hj, HJ, HBX⟩ := hrel
        have HW := Lib.hid (HB3.out.trans ((HB7.out.trans (HBX.out.mono HB7.out.size)).mono HB3.out.size))
        by_cases hjk : (j : Int) < k
        · obtain ⟨x, hx⟩ : ∃ x, old[j]? = some x := ⟨_, List.getElem?_eq_getElem (by omega)⟩
          have HY := Lib.hid hx
          obtain ⟨b1, o1, _, _, _, _, hA, _, e0, e1, e2, _⟩ := rFlow_at (HAO.out.below HW.out (fun _ h _ => h)) hx
          cases hA
          obtain ⟨b2, o2, _, _, _, _, hA, _, d0, d1, d2, _⟩ := rFlow_at (HAO.out.below HW.out (fun _ h _ => h)) HX.out
          cases hA
          have hjl : (j : Int) < old.length := by omega
          rcases key_facts (x := x.key) (y := f.key) with ⟨hxy, g1, g2, g3⟩ | ⟨hxy, g⟩
          · clear hxy hx
            go_wp2_with fail
            refine wp_region_held_drew (S := fun W => W = World.drew _) (by kernel_rfl) rfl (fun s0 => ?_)
            refine wpAnyH_take (i := 0) (v := .slice (some ⟨b, off, none⟩) old.length co) rfl (by kernel_rfl) (by kernel_rfl) (by kernel_rfl) (fun _ _ _ h => h) (Or.inl ⟨by rfl, fun w' _ => by go_simp <;> omega⟩) s0 ?_
            go_simp
            refine wpAnyH_take (i := 1) (v := .int .i64 j) rfl (by kernel_rfl) (by kernel_rfl) (by kernel_rfl) (fun _ _ _ h => h) (Or.inl ⟨by rfl, fun w' _ => by go_simp <;> omega⟩) s0 ?_
            go_simp
            refine wpAnyH_take (i := 2) (v := .pointer (some ⟨b, off + j * 5, none⟩)) rfl (by kernel_rfl) (by kernel_rfl) (by kernel_rfl) (fun _ _ _ h => h) (Or.inl ⟨by rfl, fun w' _ => by go_simp <;> omega⟩) s0 ?_
            go_simp
            refine wpAnyH_take (i := 3) (v := .pointer (some ⟨b, off + j * 5, none⟩)) rfl (by kernel_rfl) (by kernel_rfl) (by kernel_rfl) (fun _ _ _ h => h) (Or.inl ⟨by rfl, fun w' _ => by go_simp <;> omega⟩) s0 ?_
            go_simp
            refine wpAnyH_take (i := 4) (v := .agg #[.int .i64 x.key.kind, .int .u64 x.key.sig, .int .i64 x.key.comp]) rfl (by kernel_rfl) (by kernel_rfl) (by kernel_rfl) (fun _ _ _ h => h) (Or.inl ⟨by rfl, fun w' h => by have h' : w' = World.drew _ := h; subst h'; go_simp⟩) s0 ?_
            go_simp
            refine wpAnyH_take (i := 5) (v := .slice (some ⟨b, off, none⟩) old.length co) rfl (by kernel_rfl) (by kernel_rfl) (by kernel_rfl) (fun _ _ _ h => h) (Or.inl ⟨by rfl, fun w' _ => by go_simp <;> omega⟩) s0 ?_
            go_simp
            refine wpAnyH_take (i := 6) (v := .int .i64 k) rfl (by kernel_rfl) (by kernel_rfl) (by kernel_rfl) (fun _ _ _ h => h) (Or.inl ⟨by rfl, fun w' _ => by go_simp <;> omega⟩) s0 ?_
            go_simp
            refine wpAnyH_take (i := 7) (v := .pointer (some ⟨b, off + k * 5, none⟩)) rfl (by kernel_rfl) (by kernel_rfl) (by kernel_rfl) (fun _ _ _ h => h) (Or.inl ⟨by rfl, fun w' _ => by go_simp <;> omega⟩) s0 ?_
            go_simp
            refine wpAnyH_take (i := 8) (v := .pointer (some ⟨b, off + k * 5, none⟩)) rfl (by kernel_rfl) (by kernel_rfl) (by kernel_rfl) (fun _ _ _ h => h) (Or.inl ⟨by rfl, fun w' _ => by go_simp <;> omega⟩) s0 ?_
            go_simp
            refine wpAnyH_take (i := 9) (v := .agg #[.int .i64 f.key.kind, .int .u64 f.key.sig, .int .i64 f.key.comp]) rfl (by kernel_rfl) (by kernel_rfl) (by kernel_rfl) (fun _ _ _ h => h) (Or.inl ⟨by rfl, fun w' h => by have h' : w' = World.drew _ := h; subst h'; go_simp⟩) s0 ?_
            go_simp
            refine wpAnyH_take (i := 10) (v := .bool true) rfl (by kernel_rfl) (by kernel_rfl) (by kernel_rfl) (fun _ _ _ h => h) (Or.inl ⟨by rfl, fun w' _ => by go_simp <;> omega⟩) s0 ?_
            go_simp
            refine wpAnyH_done (by kernel_rfl) ?_ _
            go_wp2_with fail
            refine (live24_calls _).mono ?_
            rintro e w' ⟨rfl, hb⟩
            have HB9 := Lib.hid (HW.out.drew.trans (hb.mono (show _ ≤ (World.drew _).heap.size from HW.out.size)))
            clear hb
            go_wp2_with fail
            go_ret
            exact ⟨rfl, HB9.out⟩
          · have HJ2 := Lib.hid (show ∀ (m : Nat) (y : DFlow), m < j + 1 → old[m]? = some y → y.key ≠ f.key from fun m y hm hy => by
              rcases Nat.lt_or_ge m j with h | h
              · exact HJ.out m y h hy
              · obtain rfl : m = j := by omega
                rw [HY.out] at hy
                cases hy
                exact hxy)
            have HG := Lib.hid g
            clear hxy hx g
            go_wp2_with fail
            refine wp_region_held_drew (S := fun W => W = World.drew _) (by kernel_rfl) rfl (fun s0 => ?_)
            refine wpAnyH_take (i := 0) (v := .slice (some ⟨b, off, none⟩) old.length co) rfl (by kernel_rfl) (by kernel_rfl) (by kernel_rfl) (fun _ _ _ h => h) (Or.inl ⟨by rfl, fun w' _ => by go_simp <;> omega⟩) s0 ?_
            go_simp
            refine wpAnyH_take (i := 1) (v := .int .i64 j) rfl (by kernel_rfl) (by kernel_rfl) (by kernel_rfl) (fun _ _ _ h => h) (Or.inl ⟨by rfl, fun w' _ => by go_simp <;> omega⟩) s0 ?_
            go_simp
            refine wpAnyH_take (i := 2) (v := .pointer (some ⟨b, off + j * 5, none⟩)) rfl (by kernel_rfl) (by kernel_rfl) (by kernel_rfl) (fun _ _ _ h => h) (Or.inl ⟨by rfl, fun w' _ => by go_simp <;> omega⟩) s0 ?_
            go_simp
            refine wpAnyH_take (i := 3) (v := .pointer (some ⟨b, off + j * 5, none⟩)) rfl (by kernel_rfl) (by kernel_rfl) (by kernel_rfl) (fun _ _ _ h => h) (Or.inl ⟨by rfl, fun w' _ => by go_simp <;> omega⟩) s0 ?_
            go_simp
            refine wpAnyH_take (i := 4) (v := .agg #[.int .i64 x.key.kind, .int .u64 x.key.sig, .int .i64 x.key.comp]) rfl (by kernel_rfl) (by kernel_rfl) (by kernel_rfl) (fun _ _ _ h => h) (Or.inl ⟨by rfl, fun w' h => by have h' : w' = World.drew _ := h; subst h'; go_simp⟩) s0 ?_
            go_simp
            refine wpAnyH_take (i := 5) (v := .slice (some ⟨b, off, none⟩) old.length co) rfl (by kernel_rfl) (by kernel_rfl) (by kernel_rfl) (fun _ _ _ h => h) (Or.inl ⟨by rfl, fun w' _ => by go_simp <;> omega⟩) s0 ?_
            go_simp
            refine wpAnyH_take (i := 6) (v := .int .i64 k) rfl (by kernel_rfl) (by kernel_rfl) (by kernel_rfl) (fun _ _ _ h => h) (Or.inl ⟨by rfl, fun w' _ => by go_simp <;> omega⟩) s0 ?_
            go_simp
            refine wpAnyH_take (i := 7) (v := .pointer (some ⟨b, off + k * 5, none⟩)) rfl (by kernel_rfl) (by kernel_rfl) (by kernel_rfl) (fun _ _ _ h => h) (Or.inl ⟨by rfl, fun w' _ => by go_simp <;> omega⟩) s0 ?_
            go_simp
            refine wpAnyH_take (i := 8) (v := .pointer (some ⟨b, off + k * 5, none⟩)) rfl (by kernel_rfl) (by kernel_rfl) (by kernel_rfl) (fun _ _ _ h => h) (Or.inl ⟨by rfl, fun w' _ => by go_simp <;> omega⟩) s0 ?_
            go_simp
            refine wpAnyH_take (i := 9) (v := .agg #[.int .i64 f.key.kind, .int .u64 f.key.sig, .int .i64 f.key.comp]) rfl (by kernel_rfl) (by kernel_rfl) (by kernel_rfl) (fun _ _ _ h => h) (Or.inl ⟨by rfl, fun w' h => by have h' : w' = World.drew _ := h; subst h'; go_simp⟩) s0 ?_
            go_simp
            refine wpAnyH_take (i := 10) (v := .bool false) rfl (by kernel_rfl) (by kernel_rfl) (by kernel_rfl) (fun _ _ _ h => h) (Or.inl ⟨by rfl, fun w' _ => by go_simp <;> exact HG.out⟩) s0 ?_
            go_simp
            refine wpAnyH_done (by kernel_rfl) ?_ _
            go_wp2_with fail
            exact ⟨⟨j + 1, by go_num, by omega, HJ2, Lib.hid HBX.out.drew⟩, by simp [intOf]; omega⟩
        · obtain rfl : j = k := by omega
          have HPS2 := Lib.hid (HPS.out HJ.out)
          go_wp2_with fail
          exact ⟨⟨j + 1, by go_num, by omega, by rw [HT.out]; exact Rep.acc_later HA7.out HBX.out, Lib.hid (HB7.out.trans (HBX.out.mono HB7.out.size)), HPS2⟩, by simp [intOf]; omega⟩
    · obtain rfl : k = old.length := by omega
      rw [List.take_length] at hv HPW
      obtain ⟨As, cs, rfl, _, _⟩ := Rep.acc_form hv
      have HV := Lib.hid (Rep.val_any (Rep.acc_val hv))
      clear hv
      have hsl : (streamsOf old).length = old.length := by simp [streamsOf]
      generalize wr = w4 at *
      go_wp2_with fail
      go_loopw [9] (fun i wr => ∃ k : Nat, i = .int .i64 k ∧ k ≤ next.length ∧ Hid (Below w4.heap.size w4 wr) ∧ Hid ((next.take k).Pairwise fun a b => a.key ≠ b.key)) (fun i _ => next.length - (intOf i).toNat)
      case atStart => exact ⟨0, rfl, Nat.zero_le _, Lib.hid (Below.refl _ _), Lib.hid (by rw [List.take_zero]; exact List.Pairwise.nil)⟩
      case round =>
        obtain ⟨k, rfl, hk, HBK, HPN⟩ := hrel
        by_cases hlt : (k : Int) < next.length
        · obtain ⟨f, hf⟩ : ∃ f, next[k]? = some f := ⟨_, List.getElem?_eq_getElem (by omega)⟩
          have HX := Lib.hid hf
          have HPS := Lib.hid (show (∀ (j : Nat) (x : DStream), j < k → next[j]? = some x → x.key ≠ f.key) → (next.take (k + 1)).Pairwise fun a b => a.key ≠ b.key from fun h => pair_succ hf HPN.out h)
          have HW0 := Lib.hid (HB3.out.trans ((HBW.out.trans (HBK.out.mono HBW.out.size)).mono HB3.out.size))
          obtain ⟨b, off, _, _, hA, _, _, _, _, _, _, _, _, _⟩ := rStream_at (HAN.out.below HW0.out (fun _ h _ => h)) hf
          subst hA
          clear hf HW0
          generalize hw5 : wr = w5 at *
          clear hw5
          go_wp2_with fail
          go_loopw [10] (fun i wx => ∃ j : Nat, i = .int .i64 j ∧ j ≤ k ∧ Hid (∀ (m : Nat) (x : DStream), m < j → next[m]? = some x → x.key ≠ f.key) ∧ Hid (Below w5.heap.size w5 wx)) (fun i _ => k - (intOf i).toNat)
          case atStart => exact ⟨0, rfl, Nat.zero_le _, Lib.hid (fun m x hm => absurd hm (Nat.not_lt_zero _)), Lib.hid (Below.refl _ _)⟩
          case round =>
            obtain ⟨j, rfl, hj, HJ, HBX⟩ := hrel
            have HBY := Lib.hid (HBW.out.trans ((HBK.out.trans (HBX.out.mono HBK.out.size)).mono HBW.out.size))
            have HW := Lib.hid (HB3.out.trans (HBY.out.mono HB3.out.size))
            by_cases hjk : (j : Int) < k
            · obtain ⟨x, hx⟩ : ∃ x, next[j]? = some x := ⟨_, List.getElem?_eq_getElem (by omega)⟩
              have HY := Lib.hid hx
              obtain ⟨b1, o1, _, _, hA, _, e0, e1, e2, _⟩ := rStream_at (HAN.out.below HW.out (fun _ h _ => h)) hx
              cases hA
              obtain ⟨b2, o2, _, _, hA, _, d0, d1, d2, _⟩ := rStream_at (HAN.out.below HW.out (fun _ h _ => h)) HX.out
              cases hA
              have hjl : (j : Int) < next.length := by omega
              rcases key_facts (x := x.key) (y := f.key) with ⟨hxy, g1, g2, g3⟩ | ⟨hxy, g⟩
              · clear hxy hx
                go_wp2_with fail
                refine wp_region_held_drew (S := fun W => W = World.drew _) (by kernel_rfl) rfl (fun s0 => ?_)
                refine wpAnyH_take (i := 0) (v := .slice (some ⟨b, off, none⟩) next.length c) rfl (by kernel_rfl) (by kernel_rfl) (by kernel_rfl) (fun _ _ _ h => h) (Or.inl ⟨by rfl, fun w' _ => by go_simp <;> omega⟩) s0 ?_
                go_simp
                refine wpAnyH_take (i := 1) (v := .int .i64 j) rfl (by kernel_rfl) (by kernel_rfl) (by kernel_rfl) (fun _ _ _ h => h) (Or.inl ⟨by rfl, fun w' _ => by go_simp <;> omega⟩) s0 ?_
                go_simp
                refine wpAnyH_take (i := 2) (v := .pointer (some ⟨b, off + j * 4, none⟩)) rfl (by kernel_rfl) (by kernel_rfl) (by kernel_rfl) (fun _ _ _ h => h) (Or.inl ⟨by rfl, fun w' _ => by go_simp <;> omega⟩) s0 ?_
                go_simp
                refine wpAnyH_take (i := 3) (v := .pointer (some ⟨b, off + j * 4, none⟩)) rfl (by kernel_rfl) (by kernel_rfl) (by kernel_rfl) (fun _ _ _ h => h) (Or.inl ⟨by rfl, fun w' _ => by go_simp <;> omega⟩) s0 ?_
                go_simp
                refine wpAnyH_take (i := 4) (v := .agg #[.int .i64 x.key.kind, .int .u64 x.key.sig, .int .i64 x.key.comp]) rfl (by kernel_rfl) (by kernel_rfl) (by kernel_rfl) (fun _ _ _ h => h) (Or.inl ⟨by rfl, fun w' h => by have h' : w' = World.drew _ := h; subst h'; go_simp⟩) s0 ?_
                go_simp
                refine wpAnyH_take (i := 5) (v := .slice (some ⟨b, off, none⟩) next.length c) rfl (by kernel_rfl) (by kernel_rfl) (by kernel_rfl) (fun _ _ _ h => h) (Or.inl ⟨by rfl, fun w' _ => by go_simp <;> omega⟩) s0 ?_
                go_simp
                refine wpAnyH_take (i := 6) (v := .int .i64 k) rfl (by kernel_rfl) (by kernel_rfl) (by kernel_rfl) (fun _ _ _ h => h) (Or.inl ⟨by rfl, fun w' _ => by go_simp <;> omega⟩) s0 ?_
                go_simp
                refine wpAnyH_take (i := 7) (v := .pointer (some ⟨b, off + k * 4, none⟩)) rfl (by kernel_rfl) (by kernel_rfl) (by kernel_rfl) (fun _ _ _ h => h) (Or.inl ⟨by rfl, fun w' _ => by go_simp <;> omega⟩) s0 ?_
                go_simp
                refine wpAnyH_take (i := 8) (v := .pointer (some ⟨b, off + k * 4, none⟩)) rfl (by kernel_rfl) (by kernel_rfl) (by kernel_rfl) (fun _ _ _ h => h) (Or.inl ⟨by rfl, fun w' _ => by go_simp <;> omega⟩) s0 ?_
                go_simp
                refine wpAnyH_take (i := 9) (v := .agg #[.int .i64 f.key.kind, .int .u64 f.key.sig, .int .i64 f.key.comp]) rfl (by kernel_rfl) (by kernel_rfl) (by kernel_rfl) (fun _ _ _ h => h) (Or.inl ⟨by rfl, fun w' h => by have h' : w' = World.drew _ := h; subst h'; go_simp⟩) s0 ?_
                go_simp
                refine wpAnyH_take (i := 10) (v := .bool true) rfl (by kernel_rfl) (by kernel_rfl) (by kernel_rfl) (fun _ _ _ h => h) (Or.inl ⟨by rfl, fun w' _ => by go_simp <;> omega⟩) s0 ?_
                go_simp
                refine wpAnyH_done (by kernel_rfl) ?_ _
                go_wp2_with fail
                refine (live24_calls _).mono ?_
                rintro e w' ⟨rfl, hb⟩
                have HB9 := Lib.hid (HW.out.drew.trans (hb.mono (show _ ≤ (World.drew _).heap.size from HW.out.size)))
                clear hb
                go_wp2_with fail
                go_ret
                exact ⟨rfl, HB9.out⟩
              · have HJ2 := Lib.hid (show ∀ (m : Nat) (y : DStream), m < j + 1 → next[m]? = some y → y.key ≠ f.key from fun m y hm hy => by
                  rcases Nat.lt_or_ge m j with h | h
                  · exact HJ.out m y h hy
                  · obtain rfl : m = j := by omega
                    rw [HY.out] at hy
                    cases hy
                    exact hxy)
                have HG := Lib.hid g
                clear hxy hx g
                go_wp2_with fail
                refine wp_region_held_drew (S := fun W => W = World.drew _) (by kernel_rfl) rfl (fun s0 => ?_)
                refine wpAnyH_take (i := 0) (v := .slice (some ⟨b, off, none⟩) next.length c) rfl (by kernel_rfl) (by kernel_rfl) (by kernel_rfl) (fun _ _ _ h => h) (Or.inl ⟨by rfl, fun w' _ => by go_simp <;> omega⟩) s0 ?_
                go_simp
                refine wpAnyH_take (i := 1) (v := .int .i64 j) rfl (by kernel_rfl) (by kernel_rfl) (by kernel_rfl) (fun _ _ _ h => h) (Or.inl ⟨by rfl, fun w' _ => by go_simp <;> omega⟩) s0 ?_
                go_simp
                refine wpAnyH_take (i := 2) (v := .pointer (some ⟨b, off + j * 4, none⟩)) rfl (by kernel_rfl) (by kernel_rfl) (by kernel_rfl) (fun _ _ _ h => h) (Or.inl ⟨by rfl, fun w' _ => by go_simp <;> omega⟩) s0 ?_
                go_simp
                refine wpAnyH_take (i := 3) (v := .pointer (some ⟨b, off + j * 4, none⟩)) rfl (by kernel_rfl) (by kernel_rfl) (by kernel_rfl) (fun _ _ _ h => h) (Or.inl ⟨by rfl, fun w' _ => by go_simp <;> omega⟩) s0 ?_
                go_simp
                refine wpAnyH_take (i := 4) (v := .agg #[.int .i64 x.key.kind, .int .u64 x.key.sig, .int .i64 x.key.comp]) rfl (by kernel_rfl) (by kernel_rfl) (by kernel_rfl) (fun _ _ _ h => h) (Or.inl ⟨by rfl, fun w' h => by have h' : w' = World.drew _ := h; subst h'; go_simp⟩) s0 ?_
                go_simp
                refine wpAnyH_take (i := 5) (v := .slice (some ⟨b, off, none⟩) next.length c) rfl (by kernel_rfl) (by kernel_rfl) (by kernel_rfl) (fun _ _ _ h => h) (Or.inl ⟨by rfl, fun w' _ => by go_simp <;> omega⟩) s0 ?_
                go_simp
                refine wpAnyH_take (i := 6) (v := .int .i64 k) rfl (by kernel_rfl) (by kernel_rfl) (by kernel_rfl) (fun _ _ _ h => h) (Or.inl ⟨by rfl, fun w' _ => by go_simp <;> omega⟩) s0 ?_
                go_simp
                refine wpAnyH_take (i := 7) (v := .pointer (some ⟨b, off + k * 4, none⟩)) rfl (by kernel_rfl) (by kernel_rfl) (by kernel_rfl) (fun _ _ _ h => h) (Or.inl ⟨by rfl, fun w' _ => by go_simp <;> omega⟩) s0 ?_
                go_simp
                refine wpAnyH_take (i := 8) (v := .pointer (some ⟨b, off + k * 4, none⟩)) rfl (by kernel_rfl) (by kernel_rfl) (by kernel_rfl) (fun _ _ _ h => h) (Or.inl ⟨by rfl, fun w' _ => by go_simp <;> omega⟩) s0 ?_
                go_simp
                refine wpAnyH_take (i := 9) (v := .agg #[.int .i64 f.key.kind, .int .u64 f.key.sig, .int .i64 f.key.comp]) rfl (by kernel_rfl) (by kernel_rfl) (by kernel_rfl) (fun _ _ _ h => h) (Or.inl ⟨by rfl, fun w' h => by have h' : w' = World.drew _ := h; subst h'; go_simp⟩) s0 ?_
                go_simp
                refine wpAnyH_take (i := 10) (v := .bool false) rfl (by kernel_rfl) (by kernel_rfl) (by kernel_rfl) (fun _ _ _ h => h) (Or.inl ⟨by rfl, fun w' _ => by go_simp <;> exact HG.out⟩) s0 ?_
                go_simp
                refine wpAnyH_done (by kernel_rfl) ?_ _
                go_wp2_with fail
                exact ⟨⟨j + 1, by go_num, by omega, HJ2, Lib.hid HBX.out.drew⟩, by simp [intOf]; omega⟩
            · obtain rfl : j = k := by omega
              have HPS2 := Lib.hid (HPS.out HJ.out)
              go_wp2_with fail
              exact ⟨⟨j + 1, by go_num, by omega, Lib.hid (HBK.out.trans (HBX.out.mono HBK.out.size)), HPS2⟩, by simp [intOf]; omega⟩
        · obtain rfl : k = next.length := by omega
          rw [List.take_length] at HPN
          have HB4 := Lib.hid (HB3.out.trans (HBW.out.mono HB3.out.size))
          have HB5 := Lib.hid (HB4.out.trans (HBK.out.mono HB4.out.size))
          have HV5 := Lib.hid (Rep.val_below HV.out HBK.out (fun _ h _ => h))
          have HP5 := Lib.hid (Rep.val_any (Rep.val_below (Rep.val_below HP3.out HBW.out (fun _ h _ => h)) HBK.out (fun _ h _ => Nat.lt_of_lt_of_le h HBW.out.size)))
          generalize hw5 : wr = w5 at *
          clear hw5 HV HP3 HBW HBK
          go_wp2_with fail
          have HO5 := Lib.hid (Rep.val_any (Rep.val_below HO.out HB5.out (fun _ h _ => h)))
          have HN5 := Lib.hid (Rep.val_any (Rep.val_below HN.out HB5.out (fun _ h _ => h)))
          refine (planOf_calls HO5.out HN5.out HDO.out HDN.out (by omega)).mono ?_
          rintro e w6 ⟨u6, rfl, hu6, hb6⟩
          have HB6 := Lib.hid (HB5.out.trans (hb6.mono HB5.out.size))
          have HL6 := Lib.hid (Rep.val_any hu6)
          have HV6 := Lib.hid (Rep.val_any (Rep.val_below HV5.out hb6 (fun _ h hl => hl.lt)))
          have HP6 := Lib.hid (Rep.val_below HP5.out hb6 (fun _ h _ => h))
          have HDL := Lib.hid (show ∀ f ∈ flowsOf old next, f.data.length ≤ 1000000 from fun f hf => by
            obtain ⟨s, hs, rfl⟩ := List.mem_map.1 hf
            exact HDN.out s hs)
          have hfl : (flowsOf old next).length = next.length := by simp [flowsOf]
          have HFN := Lib.hid (flows_nodup (by rw [HPG.out]; exact HND.out) HPN.out)
          have HST := Lib.hid (fun (f : DFlow) (hf : f ∈ flowsOf old next) (k : Nat) (hk : k < pieceCount f) (h0 : 0 ≤ pageAt f k) => stays_hold (old := old) (next := next) (by rw [HPG.out]; exact HND.out) hf hk h0)
          rw [HPG.out] at HST
          generalize flowsOf old next = L at *
          obtain ⟨A6, c6, rfl, hc6, hm6, hat6⟩ := Rep.val_list HL6.out
          have HAL := Lib.hid hat6
          unfold maxLen at hm6
          rw [hfl] at hc6 ⊢
          clear hu6 hb6 hat6 HV5 HP5 HO5 HN5
          go_wp2_with fail
          refine (rpages_calls (v := .slice A6 next.length c6) (by rw [← hfl]; exact HL6.out) HDL.out (by rw [hfl]; omega)).mono ?_
          rintro e w7 ⟨u7, rfl, hu7, hb7⟩
          have HB7 := Lib.hid hb7
          have HP7 := Lib.hid hu7
          obtain ⟨A7, c7, rfl, _, _, _⟩ := Rep.val_list hu7
          clear hu7 hb7
          go_wp2_with fail
          refine (rtwice_calls HP7.out).mono ?_
          rintro e w8 ⟨rfl, hb8⟩
          have HB8 := Lib.hid (HB7.out.trans (hb8.mono HB7.out.size))
          rw [decide_eq_true HFN.out]
          clear hb8 HP7 HB7
          go_wp2_with fail
          have HW8 := Lib.hid (HB6.out.trans (HB8.out.mono HB6.out.size))
          have HA8 := Lib.hid (show ∀ W, Below w8.heap.size w8 W → rFlow.At (fun b => b < w6.heap.size) W A6 L from fun W h => HAL.out.below (HB8.out.trans (h.mono HB8.out.size)) (fun _ h _ => h))
          have HP8 := Lib.hid (show ∀ W, Below w8.heap.size w8 W → (Rep.int .i64).list.val (fun b => b < w5.heap.size) W (.slice A2 pg.length c2) pg from fun W h => Rep.val_below HP6.out (HB8.out.trans (h.mono HB8.out.size)) (fun _ _ hl => hl.lt))
          have HO8 := Lib.hid (show ∀ W, Below w8.heap.size w8 W → rFlow.list.val (fun b => b < w.heap.size) W (.slice Ao old.length co) old from fun W h => Rep.val_below HO.out (HW8.out.trans (h.mono HW8.out.size)) (fun _ h _ => h))
          go_loopw [12] (fun i wr => ∃ k : Nat, i = .int .i64 k ∧ k ≤ next.length ∧ Hid (Below w8.heap.size w8 wr)) (fun i _ => next.length - (intOf i).toNat)
          case atStart => exact ⟨0, rfl, Nat.zero_le _, Lib.hid (Below.refl _ _)⟩
          case round =>
            obtain ⟨k, rfl, hk, HBK⟩ := hrel
            by_cases hlt : (k : Int) < next.length
            · obtain ⟨f, hf⟩ : ∃ f, L[k]? = some f := ⟨_, List.getElem?_eq_getElem (by omega)⟩
              have HX := Lib.hid hf
              have HSF := Lib.hid (HST.out f (List.mem_of_getElem? hf))
              have HDF := Lib.hid (HDL.out f (List.mem_of_getElem? hf))
              obtain ⟨b, off, A1, c1, _, _, hA, hbc, _, _, _, d3, _, _, _, _, s3, _⟩ := rFlow_at (HA8.out wr HBK.out) hf
              subst hA
              have HDV := Lib.hid s3.val
              clear hf hbc s3
              go_wp2_with fail
              refine (rcut_calls HDV.out HDF.out).mono ?_
              rintro e w9 ⟨u9, rfl, hu9, hb9⟩
              obtain ⟨A9, c9, rfl, h91, h92, hat9⟩ := Rep.val_list hu9
              have HB9 := Lib.hid (HBK.out.trans (hb9.mono HBK.out.size))
              have HGET := Lib.hid (fun (i : Nat) (h : i < (f.data.length + 471) / 472) => cut_get h)
              have hlen : (cut f.data).length = pieceCount f := cut_length _
              have HPC := Lib.hid (show pieceCount f = (f.data.length + 471) / 472 from rfl)
              have KAT := Lib.hid (show ∀ W, Below w9.heap.size w9 W → Rep.byte.list.At (fun b => b < w9.heap.size) W A9 (cut f.data) from fun W hb => Rep.At.keep (w := w9) (fun b _ hl => ⟨hl.lt, hb.block b hl.lt⟩) hat9)
              have hp3 := pieceCount_le HDF.out
              generalize cut f.data = P at *
              obtain ⟨n, hn⟩ : ∃ n, P.length = n := ⟨_, rfl⟩
              have HNP := Lib.hid (show n = pieceCount f by rw [← hn, hlen])
              have hn3 : n ≤ 3000 := by have := HNP.out; omega
              rw [hn] at h91 ⊢
              unfold maxLen at h92
              clear hu9 hb9 hlen hn hat9 d3 hp3 HDV
              go_wp2_with fail
              go_loopw [14] (fun i wr => ∃ j : Nat, i = .int .i64 j ∧ j ≤ n ∧ Hid (Below w9.heap.size w9 wr)) (fun i _ => n - (intOf i).toNat)
              case atStart => exact ⟨0, rfl, Nat.zero_le _, Lib.hid (Below.refl _ _)⟩
              case round =>
                obtain ⟨j, rfl, hj, HBX⟩ := hrel
                by_cases hjn : (j : Int) < n
                · have HBO := Lib.hid (HB9.out.trans (HBX.out.mono HB9.out.size))
                  have hgt := HGET.out j (by rw [← HPC.out, ← HNP.out]; omega)
                  obtain ⟨b', off', A3, c3, A4, c4, hA, _, d0, d1, d2, d3, d4, f0, f1, f2, s3, s4⟩ := rFlow_at (HA8.out wr HBO.out) HX.out
                  cases hA
                  have HFV := Lib.hid (rFlow_agg (x := f) f0 f1 f2 s3 s4)
                  clear f0 f1 f2 s3 s4
                  go_wp2_with fail
                  refine (rpageAt_calls HFV.out).mono ?_
                  rintro e w10 ⟨rfl, hb10⟩
                  have HB10 := Lib.hid (HBX.out.trans (hb10.mono HBX.out.size))
                  have HBP := Lib.hid (HB9.out.trans (HB10.out.mono HB9.out.size))
                  have HS := Lib.hid (HSF.out j (by rw [← HNP.out]; omega))
                  obtain ⟨p, hp⟩ : ∃ p, pageAt f j = p := ⟨_, rfl⟩
                  rw [hp] at HS ⊢
                  obtain ⟨bb, o5, B6, c6', rfl, hcell, hc6', hm6', hat6⟩ := Rep.At.list (KAT.out w10 HB10.out) hgt
                  have HPV := Lib.hid (Rep.list_val (r := Rep.byte) rfl hc6' hm6' hat6)
                  clear hp hb10 hgt hat6 d0 d1 d2 d3 d4 HFV
                  by_cases h0 : 0 ≤ p
                  · have HS2 := Lib.hid (HS.out h0)
                    have HMEM := Lib.hid (show decide (p ∈ pg) = true from decide_eq_true HS2.out.1)
                    generalize piece f.data j = y at *
                    go_wp2_with fail
                    refine (has06_calls (HP8.out _ HBP.out)).mono ?_
                    rintro e w11 ⟨rfl, hw⟩
                    obtain rfl := hw
                    rw [HMEM.out]
                    go_wp2_with fail
                    refine (holds24_calls (HO8.out _ HBP.out) HPV.out HDO.out).mono ?_
                    rintro e w12 ⟨rfl, hb12⟩
                    rw [HS2.out.2]
                    have HB12 := Lib.hid (HB10.out.trans (hb12.mono HB10.out.size))
                    clear hb12 hcell
                    go_wp2_with fail
                    exact ⟨⟨j + 1, by go_num, by omega, HB12⟩, by simp [intOf]; omega⟩
                  · clear hcell
                    go_wp2_with fail
                    exact ⟨⟨j + 1, by go_num, by omega, HB10⟩, by simp [intOf]; omega⟩
                · obtain rfl : j = n := by omega
                  go_wp2_with fail
                  exact ⟨⟨k + 1, by go_num, by omega, Lib.hid (HB9.out.trans (HBX.out.mono HB9.out.size))⟩, by simp [intOf]; omega⟩
            · obtain rfl : k = next.length := by omega
              generalize hw9 : wr = w9 at *
              clear hw9
              go_wp2_with fail
              have HW9 := Lib.hid (HW8.out.trans (HBK.out.mono HW8.out.size))
              have HV9 := Lib.hid (Rep.val_any (Rep.val_below (Rep.val_below HV6.out HB8.out (fun _ h _ => h)) HBK.out (fun _ _ hl => hl.lt)))
              have HO9 := Lib.hid (Rep.val_any (HO8.out _ HBK.out))
              have HP9 := Lib.hid (Rep.val_any (HP8.out _ HBK.out))
              have HDS := Lib.hid (show ∀ s ∈ streamsOf old, s.data.length ≤ 1000000 from fun s hs => by
                obtain ⟨f, hf, rfl⟩ := List.mem_map.1 hs
                exact HDO.out f hf)
              have HAG := Lib.hid (again_same HPW.out)
              rw [HPG.out] at HAG
              refine (planOf_calls (vn := .slice As old.length cs) HO9.out (by have h := HV9.out; rw [hsl] at h; exact h) HDO.out HDS.out (by rw [hsl]; omega)).mono ?_
              rintro e w10 ⟨u10', rfl, hu10, hb10⟩
              have HB10 := Lib.hid (HW9.out.trans (hb10.mono HW9.out.size))
              have HG10 := Lib.hid (Rep.val_any hu10)
              have HP10 := Lib.hid (Rep.val_any (Rep.val_below HP9.out hb10 (fun _ h _ => h)))
              have HO10 := Lib.hid (Rep.val_any (Rep.val_below HO9.out hb10 (fun _ h _ => h)))
              have HDG := Lib.hid (show ∀ f ∈ flowsOf old (streamsOf old), f.data.length ≤ 1000000 from fun f hf => by
                obtain ⟨s, hs, rfl⟩ := List.mem_map.1 hf
                exact HDS.out s hs)
              have hgl : (flowsOf old (streamsOf old)).length = old.length := by simp [flowsOf, streamsOf]
              generalize flowsOf old (streamsOf old) = G at *
              have hgl2 : G.length ≤ 20 := by omega
              have HGL := Lib.hid hgl2
              clear hu10 hb10 hgl hgl2 HV9 HO9 HP9 HAL HA8 HP8 HO8 HST HV6 HP6
              go_wp2_with fail
              refine (rpages_calls HG10.out HDG.out (by have := HGL.out; omega)).mono ?_
              rintro e w11 ⟨u11, rfl, hu11, hb11⟩
              rw [HAG.out.1] at hu11
              have HB11 := Lib.hid (HB10.out.trans (hb11.mono HB10.out.size))
              have HU11 := Lib.hid (Rep.val_any hu11)
              have HP11 := Lib.hid (Rep.val_below HP10.out hb11 (fun _ h _ => h))
              have HG11 := Lib.hid (Rep.val_any (Rep.val_below HG10.out hb11 (fun _ h _ => h)))
              have HO11 := Lib.hid (Rep.val_any (Rep.val_below HO10.out hb11 (fun _ h _ => h)))
              clear hu11 hb11
              go_wp2_with fail
              refine (sameList HU11.out HP11.out).mono ?_
              rintro e w12 ⟨rfl, nq, rfl⟩
              rw [show decide (pg = pg) = true from decide_eq_true rfl]
              have HB12 := Lib.hid (below_drewN HB11.out nq)
              have HG12 := Lib.hid (Rep.val_any (Rep.val_drewN HG11.out nq))
              have HO12 := Lib.hid (Rep.val_any (Rep.val_drewN HO11.out nq))
              generalize w11.drewN nq = w12 at *
              clear HU11 HP11 HG11 HO11
              go_wp2_with fail
              refine (news_calls HG12.out HDG.out (by have := HGL.out; omega)).mono ?_
              rintro e w13 ⟨u13', rfl, hu13, hb13⟩
              rw [HAG.out.2] at hu13
              have HB13 := Lib.hid (HB12.out.trans (hb13.mono HB12.out.size))
              have HO13 := Lib.hid (Rep.val_any (Rep.val_below HO12.out hb13 (fun _ h _ => h)))
              obtain ⟨A13, c13, rfl, h131, h132, _⟩ := Rep.val_list hu13
              generalize hnw : newsOf old = nw at *
              have HNW := Lib.hid hnw
              unfold maxLen at h132
              clear hu13 hb13 hnw
              go_wp2_with fail
              refine (rnews_calls HO13.out HDO.out (by omega)).mono ?_
              rintro e w14 ⟨u14', rfl, hu14, hb14⟩
              rw [HNW.out] at hu14
              have HB14 := Lib.hid (HB13.out.trans (hb14.mono HB13.out.size))
              obtain ⟨A14, c14, rfl, h141, h142, _⟩ := Rep.val_list hu14
              unfold maxLen at h142
              clear hu14 hb14
              go_wp2_with fail
              refine (live24_calls _).mono ?_
              rintro e w' ⟨rfl, hb⟩
              have HB15 := Lib.hid (HB14.out.trans (hb.mono HB14.out.size))
              clear hb
              go_wp2_with fail
              go_ret
              exact ⟨rfl, HB15.out⟩
end Go.Proofs.Yteljibjbndpncaa
