/- Walk of whether entries may be: ref25. Printed by gen_rdirright.py. -/
import Derived.Test.YtfpmkenobphfnaaDpDirRight
import Derived.Test.YtfpmkenobphfnaaDpG4
import Derived.Test.YtfpmkenobphfnaaDpPageAt
namespace Go.Proofs.Ytfpmkenobphfnaa
open Go.RowKit

/-- Which numbers were seen, as0 a slice of bools. -/
structure SeenAt (W : World) (M n : Nat) (L : List Int) : Prop where
  out : ∃ cs : Array Value, W.heap[M]? = some (.cells cs 4 (0, 0)) ∧ cs.size = n ∧ ∀ i, i < n → cs[i]? = some (.bool (decide ((i : Int) ∈ L)))
theorem SeenAt.lt {W : World} {M n : Nat} {L : List Int} (h : SeenAt W M n L) : M < W.heap.size := by
  obtain ⟨cs, h, _⟩ := h.out
  exact (Array.getElem?_eq_some_iff.1 h).1
theorem SeenAt.keep {W W' : World} {M n : Nat} {L : List Int} (h : SeenAt W M n L) (he : W'.heap[M]? = W.heap[M]?) : SeenAt W' M n L := by
  obtain ⟨cs, h1, h2⟩ := h.out
  exact ⟨cs, he.trans h1, h2⟩
theorem SeenAt.cell {W : World} {M n : Nat} {L : List Int} (h : SeenAt W M n L) {i : Nat} (hi : i < n) : W.cell? ⟨M, i, none⟩ = some (.bool (decide ((i : Int) ∈ L))) := by
  obtain ⟨cs, h1, _, h3⟩ := h.out
  rw [cell_of_row _ _ _ _ _ _ h1]; exact h3 i hi
theorem SeenAt.free {W : World} {M n : Nat} {L : List Int} (h : SeenAt W M n L) (i : Nat) : W.frozen? ⟨M, i, none⟩ = false := by
  obtain ⟨cs, h1, _⟩ := h.out
  exact frozen_row h1 i
theorem SeenAt.set {W : World} {M n : Nat} {L : List Int} (h : SeenAt W M n L) (i : Nat) : SeenAt (W.setCell ⟨M, i, none⟩ (.bool true)) M n (L ++ [(i : Int)]) := by
  obtain ⟨cs, h1, h2, h3⟩ := h.out
  refine ⟨_, heap_setRow h1, by simpa using h2, fun k hk => ?_⟩
  rw [Array.getElem?_setIfInBounds]
  by_cases e : i = k
  · subst e
    rw [if_pos rfl, if_pos (by omega), decide_eq_true (by simp)]
  · rw [if_neg e, h3 k hk]
    congr 2
    rw [decide_eq_decide, List.mem_append, List.mem_singleton]
    constructor
    · exact .inl
    · rintro (h | h)
      · exact h
      · omega
theorem SeenAt.made (w : World) (n : Nat) : SeenAt (w.alloc (.cells (madeCells #[.bool false] n) 4)) w.heap.size n [] := by
  refine ⟨_, heap_alloc_new w _, ?_, fun i hi => ?_⟩
  · have := congrArg List.length (toList_madeCells_one (.bool false) n)
    simpa using this
  · rw [← Array.getElem?_toList, toList_madeCells_one, List.getElem?_replicate, if_pos hi]
    simp
theorem dirRight_bad {c : DConf} {l : List DEntry} (h : pagesOk c.pages (allPages l) = false) : dirRight c l = false := by
  unfold dirRight; rw [h]; simp
theorem allPages_split {l : List DEntry} {k : Nat} {x : DEntry} (hx : l[k]? = some x) {j : Nat} {p : Int} (hp : x.pages[j]? = some p) :
    ∃ r, allPages l = (allPages (l.take k) ++ x.pages.take j) ++ (p :: r) := by
  obtain ⟨hk, rfl⟩ := List.getElem?_eq_some_iff.1 hx
  obtain ⟨hj, rfl⟩ := List.getElem?_eq_some_iff.1 hp
  have h1 : l = l.take k ++ (l[k] :: l.drop (k + 1)) := by rw [List.getElem_cons_drop, List.take_append_drop]
  have h2 : (l[k]).pages = (l[k]).pages.take j ++ ((l[k]).pages[j] :: (l[k]).pages.drop (j + 1)) := by rw [List.getElem_cons_drop, List.take_append_drop]
  have h3 : allPages l = allPages (l.take k) ++ ((l[k]).pages ++ allPages (l.drop (k + 1))) := by
    have : ∀ (a b : List DEntry) (y : DEntry), allPages (a ++ y :: b) = allPages a ++ (y.pages ++ allPages b) := fun a b y => by unfold allPages; simp
    rw [← this, ← h1]
  refine ⟨(l[k]).pages.drop (j + 1) ++ allPages (l.drop (k + 1)), ?_⟩
  have h4 : (l[k]).pages ++ allPages (l.drop (k + 1)) = (l[k]).pages.take j ++ ((l[k]).pages[j] :: ((l[k]).pages.drop (j + 1) ++ allPages (l.drop (k + 1)))) := by
    conv => lhs; rw [h2]
    rw [List.append_assoc]; rfl
  rw [h3, h4, List.append_assoc]
theorem dirRight_page {c : DConf} {l : List DEntry} {k : Nat} {x : DEntry} (hx : l[k]? = some x) {j : Nat} {p : Int} (hp : x.pages[j]? = some p) (h : ¬ (0 ≤ p ∧ p < c.pages)) : dirRight c l = false := by
  obtain ⟨r, hr⟩ := allPages_split hx hp
  apply dirRight_bad
  unfold pagesOk
  rw [Bool.and_eq_false_iff]
  left
  rw [List.all_eq_false]
  exact ⟨p, by rw [hr]; simp, by simpa using h⟩
theorem dirRight_dup {c : DConf} {l : List DEntry} {k : Nat} {x : DEntry} (hx : l[k]? = some x) {j : Nat} {p : Int} (hp : x.pages[j]? = some p) (h : p ∈ allPages (l.take k) ++ x.pages.take j) : dirRight c l = false := by
  obtain ⟨r, hr⟩ := allPages_split hx hp
  apply dirRight_bad
  unfold pagesOk
  rw [Bool.and_eq_false_iff]
  right
  rw [decide_eq_false_iff_not, hr, List.nodup_append]
  rintro ⟨_, _, h3⟩
  exact h3 p h p (by simp) rfl
theorem pagesOk_yes {n : Int} {q : List Int} (h1 : ∀ p ∈ q, 0 ≤ p ∧ p < n) (h2 : q.Nodup) : pagesOk n q = true := by
  unfold pagesOk
  rw [Bool.and_eq_true, List.all_eq_true]
  exact ⟨fun p hp => by simpa using h1 p hp, decide_eq_true h2⟩

set_option maxRecDepth 100000 in
set_option maxHeartbeats 4000000 in
/-- ref25.Right -/
theorem rdright_calls {Qc Q : Nat → Prop} {w : World} {vc v : Value} {c : DConf} {l : List DEntry} (hc : rConf.val Qc w vc c) (hl : rEntry.list.val Q w v l) :
    Calls Try.prog 33 #[vc, v] w fun e w' => e = .returned (.bool (dirRight c l)) ∧ Below w.heap.size w w' := by
  have HLV := Lib.hid (Rep.val_any hl)
  obtain ⟨AL, cl, rfl, hcl, hml, _⟩ := Rep.val_list hl
  unfold maxLen at hml
  obtain ⟨A, cap, rfl, _⟩ := rConf_val hc
  have hm := InBox.made hc 24
  have hbel : Below w.heap.size w (w.alloc (.cells #[.int .i64 c.log, .int .i64 c.pages, .int .i64 c.entities, .int .i64 c.gens, .slice A c.comps.length cap] 24)) := (Below.refl _ _).alloc (Nat.le_refl _) _
  have hsz : (w.alloc (.cells #[.int .i64 c.log, .int .i64 c.pages, .int .i64 c.entities, .int .i64 c.gens, .slice A c.comps.length cap] 24)).heap.size = w.heap.size + 1 := by simp
  generalize hW1 : w.alloc (.cells #[.int .i64 c.log, .int .i64 c.pages, .int .i64 c.entities, .int .i64 c.gens, .slice A c.comps.length cap] 24) = W1 at *
  have HB := Lib.hid hbel
  have HM := Lib.hid (show ∀ W, Below W1.heap.size W1 W → InBox W w.heap.size c A cap from fun W h => hm.later (h.mono (Nat.le_of_eq hsz.symm)))
  obtain ⟨a0, a1, a2, a3, a4, _⟩ := hm
  clear hc hl hbel hsz
  go_enter Try.func33, Try.ntmps33
  go_wp2_with fail
  try rw [hW1]
  clear hW1
  try go_wp2_with fail
  refine (right_calls (HM.out _ (Below.refl _ _)).val).mono ?_
  rintro e w1 ⟨rfl, hb1⟩
  have D1 := Lib.hid hb1
  clear hb1 a0 a1 a2 a3 a4
  cases hcr : confRight c with
  | false =>
    have HE := Lib.hid (dirRight_conf (l := l) hcr)
    go_wp2_with fail
    go_ret
    exact ⟨by rw [HE.out]; rfl, HB.out.trans (D1.out.mono HB.out.size)⟩
  | true =>
  have HCR := Lib.hid hcr
  have hpg := right_log_pages hcr
  obtain ⟨n, hn⟩ : ∃ n : Nat, c.pages = n := ⟨c.pages.toNat, by omega⟩
  have HCP := Lib.hid hn
  have hmk : ∀ w, (Instr.makeSlice 92 (.int .i64 c.pages) (.int .i64 c.pages)).run Try.prog w = .ok (.slice (some ⟨w.heap.size, 0, none⟩) n n) (w.alloc (.cells (madeCells #[.bool false] n) 4)) := fun w => by
    rw [hn]
    exact run_make_row' 92 4 (.bool false) 1 Try.underlying92 (by kernel_rfl) rfl .i64 .i64 n (by omega) (by omega) w
  obtain ⟨a0, a1, a2, a3, a4, _⟩ := HM.out _ D1.out
  obtain ⟨M, hM⟩ : ∃ M, w1.heap.size = M := ⟨_, rfl⟩
  have HMZ := Lib.hid hM
  have KM := Lib.hid (show ∀ W, Below M w1 W → InBox W w.heap.size c A cap from fun W h => HM.out W (D1.out.trans ((h.mono (by have := D1.out.size; omega)))))
  have FIN := Lib.hid (show ∀ W, Below M w1 W → Below w.heap.size w W from fun W h => HB.out.trans ((D1.out.trans (h.mono (by have := D1.out.size; omega))).mono HB.out.size))
  have KL := Lib.hid (show ∀ W, Below M w1 W → rEntry.At (fun b => b < w.heap.size) W AL l from fun W h => by
    obtain ⟨A', c', he, _, _, hat⟩ := Rep.val_list (Rep.val_below (B := w.heap.size) HLV.out (FIN.out W h) fun _ h _ => h)
    cases he; exact hat)
  have HS0 := Lib.hid (show SeenAt (w1.alloc (.cells (madeCells #[.bool false] n) 4)) M n [] by rw [← hM]; exact SeenAt.made w1 n)
  have HB0 := Lib.hid (show Below M w1 (w1.alloc (.cells (madeCells #[.bool false] n) 4)) by rw [← hM]; exact (Below.refl _ _).alloc (Nat.le_refl _) _)
  clear hcr hpg hn
  go_wp2_with fail
  try rw [hM]
  clear hM hmk a0 a1 a2 a3 a4
  go_loopw [6] (fun kk wr => ∃ k : Nat, kk = .int .i64 k ∧ k ≤ l.length ∧ Hid ((List.range k).all (entOk l) = true) ∧ Hid (∀ p ∈ allPages (l.take k), 0 ≤ p ∧ p < c.pages) ∧ Hid ((allPages (l.take k)).Nodup) ∧ Hid (SeenAt wr M n (allPages (l.take k))) ∧ Hid (Below M w1 wr)) (fun kk _ => l.length - (intOf kk).toNat)
  case atStart => exact ⟨0, rfl, Nat.zero_le _, Lib.hid rfl, Lib.hid (by simp [allPages]), Lib.hid (by simp [allPages]), HS0, HB0⟩
  case round =>
    obtain ⟨k, rfl, hk, HALL, HRG, HND, HSA, HBW⟩ := hrel
    by_cases hlt : (k : Int) < l.length
    · obtain ⟨x, hx⟩ : ∃ x, l[k]? = some x := ⟨_, List.getElem?_eq_getElem (by omega)⟩
      obtain ⟨b, off, Ap, cp, rfl, hbc, e0, e1, e2, e3, e4, f0, f1, f2, f3, hs⟩ := rEntry_at (KL.out _ HBW.out) hx
      have HN := Lib.hid (show entOk l k = false → dirRight c l = false from dirRight_not (by omega))
      have HY := Lib.hid (show entOk l k = true → Hid ((List.range (k + 1)).all (entOk l) = true) from fun h => Lib.hid (all_range_succ HALL.out h))
      have HXX := Lib.hid hx
      have HDUP := Lib.hid (show ∀ j p, x.pages[j]? = some p → p ∈ allPages (l.take k) ++ x.pages.take j → dirRight c l = false from fun j p hp h => dirRight_dup hx hp h)
      have HAP := Lib.hid (show allPages (l.take (k + 1)) = allPages (l.take k) ++ x.pages by rw [allPages_succ (by omega)]; congr 2; exact (List.getElem?_eq_some_iff.1 hx).2)
      have FS := Lib.hid (show 0 ≤ x.key.sig ∧ x.key.sig < 18446744073709551616 by simp [Lit.wf, IntKind.min, IntKind.max, IntKind.signed, IntKind.bits] at f1; omega)
      have FL := Lib.hid (show -9223372036854775808 ≤ x.long ∧ x.long ≤ 9223372036854775807 by simpa [Lit.wf, IntKind.min, IntKind.max, IntKind.signed, IntKind.bits] using f3)
      have FIN1 := Lib.hid (show ∀ W, Below wr.heap.size wr W → Below M w1 W from fun W h => HBW.out.trans (h.mono (Nat.le_of_lt HSA.out.lt)))
      have KX := Lib.hid (show ∀ W, Below wr.heap.size wr W → W.cell? ⟨b, off + k * 5, none⟩ = some (.int .i64 x.key.kind) ∧ W.cell? ⟨b, off + k * 5 + 1, none⟩ = some (.int .u64 x.key.sig) ∧ W.cell? ⟨b, off + k * 5 + 2, none⟩ = some (.int .i64 x.key.comp) ∧ W.cell? ⟨b, off + k * 5 + 3, none⟩ = some (.int .i64 x.long) ∧ W.cell? ⟨b, off + k * 5 + 4, none⟩ = some (.slice Ap x.pages.length cp) from fun W h =>
        ⟨(h.cell (p := ⟨b, off + k * 5, none⟩) hbc.lt).trans e0, (h.cell (p := ⟨b, off + k * 5 + 1, none⟩) hbc.lt).trans e1, (h.cell (p := ⟨b, off + k * 5 + 2, none⟩) hbc.lt).trans e2, (h.cell (p := ⟨b, off + k * 5 + 3, none⟩) hbc.lt).trans e3, (h.cell (p := ⟨b, off + k * 5 + 4, none⟩) hbc.lt).trans e4⟩)
      have hpl := hs.1
      have hpm := hs.2.1
      unfold maxLen at hpm
      clear f0 f1 f2 f3 hs hbc
      rcases Nat.eq_zero_or_pos k with hk0 | hk0
      · have hz : decide ((0 : Int) < (k : Int)) = false := decide_eq_false (by omega)
        have hz2 : ¬ (0 : Int) < (k : Int) := by omega
        have HEO := Lib.hid (entOk_eq hx true (fun _ => by rw [hk0]; rfl))
        clear hx hk0
        go_wp2_with fail
        cases hkr : keyRight x.key with
        | false =>
          have HKR := Lib.hid hkr
          have HE := Lib.hid (HN.out (by rw [HEO.out, hkr]; rfl))
          refine wp_region_held_drew (S := fun W => Below wr.heap.size wr W) (by kernel_rfl) ((Below.refl _ _).drew) (fun s3 => ?_)
          refine wpAnyH_take (i := 0) (v := .slice (some ⟨b, off, none⟩) l.length cl) rfl (by kernel_rfl) (by kernel_rfl) (by kernel_rfl) (fun _ _ _ h => h) (Or.inl ⟨by rfl, fun w' _ => by go_simp <;> omega⟩) s3 ?_
          go_simp
          refine wpAnyH_take (i := 1) (v := .int .i64 k) rfl (by kernel_rfl) (by kernel_rfl) (by kernel_rfl) (fun _ _ _ h => h) (Or.inl ⟨by rfl, fun w' _ => by go_simp <;> omega⟩) s3 ?_
          go_simp
          refine wpAnyH_take (i := 2) (v := .pointer (some ⟨b, off + k * 5, none⟩)) rfl (by kernel_rfl) (by kernel_rfl) (by kernel_rfl) (fun _ _ _ h => h) (Or.inl ⟨by rfl, fun w' _ => by go_simp <;> omega⟩) s3 ?_
          go_simp
          refine wpAnyH_take (i := 3) (v := .pointer (some ⟨b, off + k * 5, none⟩)) rfl (by kernel_rfl) (by kernel_rfl) (by kernel_rfl) (fun _ _ _ h => h) (Or.inl ⟨by rfl, fun w' _ => by go_simp <;> omega⟩) s3 ?_
          go_simp
          refine wpAnyH_take (i := 4) (v := .agg #[.int .i64 x.key.kind, .int .u64 x.key.sig, .int .i64 x.key.comp]) rfl (by kernel_rfl) (by kernel_rfl) (by kernel_rfl) (fun _ _ _ h => h) (Or.inl ⟨by rfl, fun w' h => by obtain ⟨q0, q1, q2, q3, q4⟩ := KX.out _ (h : Below wr.heap.size wr w'); go_simp⟩) s3 ?_
          go_simp
          refine wpAnyH_all (rs := [5]) (by kernel_rfl) (by simp) ?_
          intro i hi
          obtain rfl : i = 5 := by simpa using hi
          clear hi
          refine wpOp_step rfl (fun K hK => ?_)
          go_simp
          refine (rkright_calls (k := x.key) FS.out _).mono ?_
          rintro e w5 ⟨rfl, hb5⟩
          rw [HKR.out]
          have s2 : Below wr.heap.size wr w5 := Below.trans s3 (hb5.mono (Below.size s3))
          refine hK _ _ ⟨s2, ?_⟩
          clear hb5
          clear hK K
          refine wpAnyH_take (i := 6) (v := .bool true) rfl (by kernel_rfl) (by kernel_rfl) (by kernel_rfl) (fun _ _ _ h => h) (Or.inl ⟨by rfl, fun w' _ => by go_simp <;> omega⟩) s2 ?_
          go_simp
          refine wpAnyH_take (i := 7) (v := .bool true) rfl (by kernel_rfl) (by kernel_rfl) (by kernel_rfl) (fun _ _ _ h => h) (Or.inl ⟨by rfl, fun w' _ => by go_simp <;> omega⟩) s2 ?_
          go_simp
          refine wpAnyH_take (i := 8) (v := undef) rfl (by kernel_rfl) (by kernel_rfl) (by kernel_rfl) (fun _ _ _ h => h) (Or.inr ⟨by rfl, rfl⟩) s2 ?_
          go_simp
          refine wpAnyH_take (i := 9) (v := undef) rfl (by kernel_rfl) (by kernel_rfl) (by kernel_rfl) (fun _ _ _ h => h) (Or.inr ⟨by rfl, rfl⟩) s2 ?_
          go_simp
          refine wpAnyH_take (i := 10) (v := undef) rfl (by kernel_rfl) (by kernel_rfl) (by kernel_rfl) (fun _ _ _ h => h) (Or.inr ⟨by rfl, rfl⟩) s2 ?_
          go_simp
          refine wpAnyH_take (i := 11) (v := undef) rfl (by kernel_rfl) (by kernel_rfl) (by kernel_rfl) (fun _ _ _ h => h) (Or.inr ⟨by rfl, rfl⟩) s2 ?_
          go_simp
          refine wpAnyH_take (i := 12) (v := undef) rfl (by kernel_rfl) (by kernel_rfl) (by kernel_rfl) (fun _ _ _ h => h) (Or.inr ⟨by rfl, rfl⟩) s2 ?_
          go_simp
          refine wpAnyH_take (i := 13) (v := undef) rfl (by kernel_rfl) (by kernel_rfl) (by kernel_rfl) (fun _ _ _ h => h) (Or.inr ⟨by rfl, rfl⟩) s2 ?_
          go_simp
          refine wpAnyH_take (i := 14) (v := undef) rfl (by kernel_rfl) (by kernel_rfl) (by kernel_rfl) (fun _ _ _ h => h) (Or.inr ⟨by rfl, rfl⟩) s2 ?_
          go_simp
          refine wpAnyH_take (i := 15) (v := undef) rfl (by kernel_rfl) (by kernel_rfl) (by kernel_rfl) (fun _ _ _ h => h) (Or.inr ⟨by rfl, rfl⟩) s2 ?_
          go_simp
          refine wpAnyH_take (i := 16) (v := undef) rfl (by kernel_rfl) (by kernel_rfl) (by kernel_rfl) (fun _ _ _ h => h) (Or.inr ⟨by rfl, rfl⟩) s2 ?_
          go_simp
          refine wpAnyH_take (i := 17) (v := undef) rfl (by kernel_rfl) (by kernel_rfl) (by kernel_rfl) (fun _ _ _ h => h) (Or.inr ⟨by rfl, rfl⟩) s2 ?_
          go_simp
          refine wpAnyH_take (i := 18) (v := undef) rfl (by kernel_rfl) (by kernel_rfl) (by kernel_rfl) (fun _ _ _ h => h) (Or.inr ⟨by rfl, rfl⟩) s2 ?_
          go_simp
          refine wpAnyH_take (i := 19) (v := undef) rfl (by kernel_rfl) (by kernel_rfl) (by kernel_rfl) (fun _ _ _ h => h) (Or.inr ⟨by rfl, rfl⟩) s2 ?_
          go_simp
          refine wpAnyH_take (i := 20) (v := undef) rfl (by kernel_rfl) (by kernel_rfl) (by kernel_rfl) (fun _ _ _ h => h) (Or.inr ⟨by rfl, rfl⟩) s2 ?_
          go_simp
          refine wpAnyH_take (i := 21) (v := undef) rfl (by kernel_rfl) (by kernel_rfl) (by kernel_rfl) (fun _ _ _ h => h) (Or.inr ⟨by rfl, rfl⟩) s2 ?_
          go_simp
          refine wpAnyH_take (i := 22) (v := undef) rfl (by kernel_rfl) (by kernel_rfl) (by kernel_rfl) (fun _ _ _ h => h) (Or.inr ⟨by rfl, rfl⟩) s2 ?_
          go_simp
          refine wpAnyH_take (i := 23) (v := undef) rfl (by kernel_rfl) (by kernel_rfl) (by kernel_rfl) (fun _ _ _ h => h) (Or.inr ⟨by rfl, rfl⟩) s2 ?_
          go_simp
          refine wpAnyH_take (i := 24) (v := undef) rfl (by kernel_rfl) (by kernel_rfl) (by kernel_rfl) (fun _ _ _ h => h) (Or.inr ⟨by rfl, rfl⟩) s2 ?_
          go_simp
          refine wpAnyH_take (i := 25) (v := .bool true) rfl (by kernel_rfl) (by kernel_rfl) (by kernel_rfl) (fun _ _ _ h => h) (Or.inl ⟨by rfl, fun w' _ => by go_simp <;> omega⟩) s2 ?_
          go_simp
          refine wpAnyH_take (i := 26) (v := .bool true) rfl (by kernel_rfl) (by kernel_rfl) (by kernel_rfl) (fun _ _ _ h => h) (Or.inl ⟨by rfl, fun w' _ => by go_simp <;> omega⟩) s2 ?_
          go_simp
          refine wpAnyH_take (i := 27) (v := undef) rfl (by kernel_rfl) (by kernel_rfl) (by kernel_rfl) (fun _ _ _ h => h) (Or.inr ⟨by rfl, rfl⟩) s2 ?_
          go_simp
          refine wpAnyH_take (i := 28) (v := undef) rfl (by kernel_rfl) (by kernel_rfl) (by kernel_rfl) (fun _ _ _ h => h) (Or.inr ⟨by rfl, rfl⟩) s2 ?_
          go_simp
          refine wpAnyH_take (i := 29) (v := undef) rfl (by kernel_rfl) (by kernel_rfl) (by kernel_rfl) (fun _ _ _ h => h) (Or.inr ⟨by rfl, rfl⟩) s2 ?_
          go_simp
          refine wpAnyH_take (i := 30) (v := undef) rfl (by kernel_rfl) (by kernel_rfl) (by kernel_rfl) (fun _ _ _ h => h) (Or.inr ⟨by rfl, rfl⟩) s2 ?_
          go_simp
          refine wpAnyH_take (i := 31) (v := undef) rfl (by kernel_rfl) (by kernel_rfl) (by kernel_rfl) (fun _ _ _ h => h) (Or.inr ⟨by rfl, rfl⟩) s2 ?_
          go_simp
          refine wpAnyH_take (i := 32) (v := undef) rfl (by kernel_rfl) (by kernel_rfl) (by kernel_rfl) (fun _ _ _ h => h) (Or.inr ⟨by rfl, rfl⟩) s2 ?_
          go_simp
          refine wpAnyH_take (i := 33) (v := .bool true) rfl (by kernel_rfl) (by kernel_rfl) (by kernel_rfl) (fun _ _ _ h => h) (Or.inl ⟨by rfl, fun w' _ => by go_simp <;> omega⟩) s2 ?_
          go_simp
          refine wpAnyH_take (i := 34) (v := .bool true) rfl (by kernel_rfl) (by kernel_rfl) (by kernel_rfl) (fun _ _ _ h => h) (Or.inl ⟨by rfl, fun w' _ => by go_simp <;> omega⟩) s2 ?_
          go_simp
          refine wpAnyH_take (i := 35) (v := undef) rfl (by kernel_rfl) (by kernel_rfl) (by kernel_rfl) (fun _ _ _ h => h) (Or.inr ⟨by rfl, rfl⟩) s2 ?_
          go_simp
          refine wpAnyH_take (i := 36) (v := undef) rfl (by kernel_rfl) (by kernel_rfl) (by kernel_rfl) (fun _ _ _ h => h) (Or.inr ⟨by rfl, rfl⟩) s2 ?_
          go_simp
          refine wpAnyH_take (i := 37) (v := undef) rfl (by kernel_rfl) (by kernel_rfl) (by kernel_rfl) (fun _ _ _ h => h) (Or.inr ⟨by rfl, rfl⟩) s2 ?_
          go_simp
          refine wpAnyH_take (i := 38) (v := undef) rfl (by kernel_rfl) (by kernel_rfl) (by kernel_rfl) (fun _ _ _ h => h) (Or.inr ⟨by rfl, rfl⟩) s2 ?_
          go_simp
          refine wpAnyH_take (i := 39) (v := undef) rfl (by kernel_rfl) (by kernel_rfl) (by kernel_rfl) (fun _ _ _ h => h) (Or.inr ⟨by rfl, rfl⟩) s2 ?_
          go_simp
          refine wpAnyH_take (i := 40) (v := undef) rfl (by kernel_rfl) (by kernel_rfl) (by kernel_rfl) (fun _ _ _ h => h) (Or.inr ⟨by rfl, rfl⟩) s2 ?_
          go_simp
          refine wpAnyH_take (i := 41) (v := undef) rfl (by kernel_rfl) (by kernel_rfl) (by kernel_rfl) (fun _ _ _ h => h) (Or.inr ⟨by rfl, rfl⟩) s2 ?_
          go_simp
          refine wpAnyH_take (i := 42) (v := undef) rfl (by kernel_rfl) (by kernel_rfl) (by kernel_rfl) (fun _ _ _ h => h) (Or.inr ⟨by rfl, rfl⟩) s2 ?_
          go_simp
          refine wpAnyH_take (i := 43) (v := undef) rfl (by kernel_rfl) (by kernel_rfl) (by kernel_rfl) (fun _ _ _ h => h) (Or.inr ⟨by rfl, rfl⟩) s2 ?_
          go_simp
          refine wpAnyH_take (i := 44) (v := undef) rfl (by kernel_rfl) (by kernel_rfl) (by kernel_rfl) (fun _ _ _ h => h) (Or.inr ⟨by rfl, rfl⟩) s2 ?_
          go_simp
          refine wpAnyH_take (i := 45) (v := undef) rfl (by kernel_rfl) (by kernel_rfl) (by kernel_rfl) (fun _ _ _ h => h) (Or.inr ⟨by rfl, rfl⟩) s2 ?_
          go_simp
          refine wpAnyH_take (i := 46) (v := undef) rfl (by kernel_rfl) (by kernel_rfl) (by kernel_rfl) (fun _ _ _ h => h) (Or.inr ⟨by rfl, rfl⟩) s2 ?_
          go_simp
          refine wpAnyH_take (i := 47) (v := undef) rfl (by kernel_rfl) (by kernel_rfl) (by kernel_rfl) (fun _ _ _ h => h) (Or.inr ⟨by rfl, rfl⟩) s2 ?_
          go_simp
          refine wpAnyH_take (i := 48) (v := .bool true) rfl (by kernel_rfl) (by kernel_rfl) (by kernel_rfl) (fun _ _ _ h => h) (Or.inl ⟨by rfl, fun w' _ => by go_simp <;> omega⟩) s2 ?_
          go_simp
          refine wpAnyH_done (by kernel_rfl) ?_ _
          go_wp2_with fail
          go_ret
          exact ⟨by rw [HE.out]; rfl, FIN.out _ (FIN1.out _ s2)⟩
        | true =>
        have HKR := Lib.hid hkr
        by_cases hl0 : x.long < 0
        · have HE := Lib.hid (HN.out (by rw [HEO.out, decide_eq_false (show ¬ 0 ≤ x.long by omega)]; simp))
          refine wp_region_held_drew (S := fun W => Below wr.heap.size wr W) (by kernel_rfl) ((Below.refl _ _).drew) (fun s3 => ?_)
          refine wpAnyH_take (i := 0) (v := .slice (some ⟨b, off, none⟩) l.length cl) rfl (by kernel_rfl) (by kernel_rfl) (by kernel_rfl) (fun _ _ _ h => h) (Or.inl ⟨by rfl, fun w' _ => by go_simp <;> omega⟩) s3 ?_
          go_simp
          refine wpAnyH_take (i := 1) (v := .int .i64 k) rfl (by kernel_rfl) (by kernel_rfl) (by kernel_rfl) (fun _ _ _ h => h) (Or.inl ⟨by rfl, fun w' _ => by go_simp <;> omega⟩) s3 ?_
          go_simp
          refine wpAnyH_take (i := 2) (v := .pointer (some ⟨b, off + k * 5, none⟩)) rfl (by kernel_rfl) (by kernel_rfl) (by kernel_rfl) (fun _ _ _ h => h) (Or.inl ⟨by rfl, fun w' _ => by go_simp <;> omega⟩) s3 ?_
          go_simp
          refine wpAnyH_take (i := 3) (v := .pointer (some ⟨b, off + k * 5, none⟩)) rfl (by kernel_rfl) (by kernel_rfl) (by kernel_rfl) (fun _ _ _ h => h) (Or.inl ⟨by rfl, fun w' _ => by go_simp <;> omega⟩) s3 ?_
          go_simp
          refine wpAnyH_take (i := 4) (v := .agg #[.int .i64 x.key.kind, .int .u64 x.key.sig, .int .i64 x.key.comp]) rfl (by kernel_rfl) (by kernel_rfl) (by kernel_rfl) (fun _ _ _ h => h) (Or.inl ⟨by rfl, fun w' h => by obtain ⟨q0, q1, q2, q3, q4⟩ := KX.out _ (h : Below wr.heap.size wr w'); go_simp⟩) s3 ?_
          go_simp
          refine wpAnyH_all (rs := [5]) (by kernel_rfl) (by simp) ?_
          intro i hi
          obtain rfl : i = 5 := by simpa using hi
          clear hi
          refine wpOp_step rfl (fun K hK => ?_)
          go_simp
          refine (rkright_calls (k := x.key) FS.out _).mono ?_
          rintro e w5 ⟨rfl, hb5⟩
          rw [HKR.out]
          have s2 : Below wr.heap.size wr w5 := Below.trans s3 (hb5.mono (Below.size s3))
          refine hK _ _ ⟨s2, ?_⟩
          clear hb5
          clear hK K
          refine wpAnyH_take (i := 6) (v := .bool false) rfl (by kernel_rfl) (by kernel_rfl) (by kernel_rfl) (fun _ _ _ h => h) (Or.inl ⟨by rfl, fun w' _ => by go_simp <;> omega⟩) s2 ?_
          go_simp
          refine wpAnyH_take (i := 7) (v := .bool false) rfl (by kernel_rfl) (by kernel_rfl) (by kernel_rfl) (fun _ _ _ h => h) (Or.inl ⟨by rfl, fun w' _ => by go_simp <;> omega⟩) s2 ?_
          go_simp
          refine wpAnyH_take (i := 8) (v := .int .i64 k) rfl (by kernel_rfl) (by kernel_rfl) (by kernel_rfl) (fun _ _ _ h => h) (Or.inl ⟨by rfl, fun w' _ => by go_simp <;> omega⟩) s2 ?_
          go_simp
          refine wpAnyH_take (i := 9) (v := .bool false) rfl (by kernel_rfl) (by kernel_rfl) (by kernel_rfl) (fun _ _ _ h => h) (Or.inl ⟨by rfl, fun w' _ => by go_simp <;> omega⟩) s2 ?_
          go_simp
          refine wpAnyH_take (i := 10) (v := .bool false) rfl (by kernel_rfl) (by kernel_rfl) (by kernel_rfl) (fun _ _ _ h => h) (Or.inl ⟨by rfl, fun w' _ => by go_simp <;> omega⟩) s2 ?_
          go_simp
          refine wpAnyH_take (i := 11) (v := undef) rfl (by kernel_rfl) (by kernel_rfl) (by kernel_rfl) (fun _ _ _ h => h) (Or.inr ⟨by rfl, rfl⟩) s2 ?_
          go_simp
          refine wpAnyH_take (i := 12) (v := undef) rfl (by kernel_rfl) (by kernel_rfl) (by kernel_rfl) (fun _ _ _ h => h) (Or.inr ⟨by rfl, rfl⟩) s2 ?_
          go_simp
          refine wpAnyH_take (i := 13) (v := undef) rfl (by kernel_rfl) (by kernel_rfl) (by kernel_rfl) (fun _ _ _ h => h) (Or.inr ⟨by rfl, rfl⟩) s2 ?_
          go_simp
          refine wpAnyH_take (i := 14) (v := undef) rfl (by kernel_rfl) (by kernel_rfl) (by kernel_rfl) (fun _ _ _ h => h) (Or.inr ⟨by rfl, rfl⟩) s2 ?_
          go_simp
          refine wpAnyH_take (i := 15) (v := undef) rfl (by kernel_rfl) (by kernel_rfl) (by kernel_rfl) (fun _ _ _ h => h) (Or.inr ⟨by rfl, rfl⟩) s2 ?_
          go_simp
          refine wpAnyH_take (i := 16) (v := undef) rfl (by kernel_rfl) (by kernel_rfl) (by kernel_rfl) (fun _ _ _ h => h) (Or.inr ⟨by rfl, rfl⟩) s2 ?_
          go_simp
          refine wpAnyH_take (i := 17) (v := undef) rfl (by kernel_rfl) (by kernel_rfl) (by kernel_rfl) (fun _ _ _ h => h) (Or.inr ⟨by rfl, rfl⟩) s2 ?_
          go_simp
          refine wpAnyH_take (i := 18) (v := undef) rfl (by kernel_rfl) (by kernel_rfl) (by kernel_rfl) (fun _ _ _ h => h) (Or.inr ⟨by rfl, rfl⟩) s2 ?_
          go_simp
          refine wpAnyH_take (i := 19) (v := undef) rfl (by kernel_rfl) (by kernel_rfl) (by kernel_rfl) (fun _ _ _ h => h) (Or.inr ⟨by rfl, rfl⟩) s2 ?_
          go_simp
          refine wpAnyH_take (i := 20) (v := undef) rfl (by kernel_rfl) (by kernel_rfl) (by kernel_rfl) (fun _ _ _ h => h) (Or.inr ⟨by rfl, rfl⟩) s2 ?_
          go_simp
          refine wpAnyH_take (i := 21) (v := undef) rfl (by kernel_rfl) (by kernel_rfl) (by kernel_rfl) (fun _ _ _ h => h) (Or.inr ⟨by rfl, rfl⟩) s2 ?_
          go_simp
          refine wpAnyH_take (i := 22) (v := undef) rfl (by kernel_rfl) (by kernel_rfl) (by kernel_rfl) (fun _ _ _ h => h) (Or.inr ⟨by rfl, rfl⟩) s2 ?_
          go_simp
          refine wpAnyH_take (i := 23) (v := undef) rfl (by kernel_rfl) (by kernel_rfl) (by kernel_rfl) (fun _ _ _ h => h) (Or.inr ⟨by rfl, rfl⟩) s2 ?_
          go_simp
          refine wpAnyH_take (i := 24) (v := .bool false) rfl (by kernel_rfl) (by kernel_rfl) (by kernel_rfl) (fun _ _ _ h => h) (Or.inl ⟨by rfl, fun w' _ => by go_simp <;> omega⟩) s2 ?_
          go_simp
          refine wpAnyH_take (i := 25) (v := .bool false) rfl (by kernel_rfl) (by kernel_rfl) (by kernel_rfl) (fun _ _ _ h => h) (Or.inl ⟨by rfl, fun w' _ => by go_simp <;> omega⟩) s2 ?_
          go_simp
          refine wpAnyH_take (i := 26) (v := .bool false) rfl (by kernel_rfl) (by kernel_rfl) (by kernel_rfl) (fun _ _ _ h => h) (Or.inl ⟨by rfl, fun w' _ => by go_simp <;> omega⟩) s2 ?_
          go_simp
          refine wpAnyH_take (i := 27) (v := .slice (some ⟨b, off, none⟩) l.length cl) rfl (by kernel_rfl) (by kernel_rfl) (by kernel_rfl) (fun _ _ _ h => h) (Or.inl ⟨by rfl, fun w' _ => by go_simp <;> omega⟩) s2 ?_
          go_simp
          refine wpAnyH_take (i := 28) (v := .int .i64 k) rfl (by kernel_rfl) (by kernel_rfl) (by kernel_rfl) (fun _ _ _ h => h) (Or.inl ⟨by rfl, fun w' _ => by go_simp <;> omega⟩) s2 ?_
          go_simp
          refine wpAnyH_take (i := 29) (v := .pointer (some ⟨b, off + k * 5, none⟩)) rfl (by kernel_rfl) (by kernel_rfl) (by kernel_rfl) (fun _ _ _ h => h) (Or.inl ⟨by rfl, fun w' _ => by go_simp <;> omega⟩) s2 ?_
          go_simp
          refine wpAnyH_take (i := 30) (v := .pointer (some ⟨b, off + k * 5 + 3, none⟩)) rfl (by kernel_rfl) (by kernel_rfl) (by kernel_rfl) (fun _ _ _ h => h) (Or.inl ⟨by rfl, fun w' _ => by go_simp <;> omega⟩) s2 ?_
          go_simp
          refine wpAnyH_take (i := 31) (v := .int .i64 x.long) rfl (by kernel_rfl) (by kernel_rfl) (by kernel_rfl) (fun _ _ _ h => h) (Or.inl ⟨by rfl, fun w' h => by obtain ⟨q0, q1, q2, q3, q4⟩ := KX.out _ (h : Below wr.heap.size wr w'); go_simp⟩) s2 ?_
          go_simp
          refine wpAnyH_take (i := 32) (v := .bool true) rfl (by kernel_rfl) (by kernel_rfl) (by kernel_rfl) (fun _ _ _ h => h) (Or.inl ⟨by rfl, fun w' _ => by go_simp <;> omega⟩) s2 ?_
          go_simp
          refine wpAnyH_take (i := 33) (v := .bool true) rfl (by kernel_rfl) (by kernel_rfl) (by kernel_rfl) (fun _ _ _ h => h) (Or.inl ⟨by rfl, fun w' _ => by go_simp <;> omega⟩) s2 ?_
          go_simp
          refine wpAnyH_take (i := 34) (v := .bool true) rfl (by kernel_rfl) (by kernel_rfl) (by kernel_rfl) (fun _ _ _ h => h) (Or.inl ⟨by rfl, fun w' _ => by go_simp <;> omega⟩) s2 ?_
          go_simp
          refine wpAnyH_take (i := 35) (v := undef) rfl (by kernel_rfl) (by kernel_rfl) (by kernel_rfl) (fun _ _ _ h => h) (Or.inr ⟨by rfl, rfl⟩) s2 ?_
          go_simp
          refine wpAnyH_take (i := 36) (v := undef) rfl (by kernel_rfl) (by kernel_rfl) (by kernel_rfl) (fun _ _ _ h => h) (Or.inr ⟨by rfl, rfl⟩) s2 ?_
          go_simp
          refine wpAnyH_take (i := 37) (v := undef) rfl (by kernel_rfl) (by kernel_rfl) (by kernel_rfl) (fun _ _ _ h => h) (Or.inr ⟨by rfl, rfl⟩) s2 ?_
          go_simp
          refine wpAnyH_take (i := 38) (v := undef) rfl (by kernel_rfl) (by kernel_rfl) (by kernel_rfl) (fun _ _ _ h => h) (Or.inr ⟨by rfl, rfl⟩) s2 ?_
          go_simp
          refine wpAnyH_take (i := 39) (v := undef) rfl (by kernel_rfl) (by kernel_rfl) (by kernel_rfl) (fun _ _ _ h => h) (Or.inr ⟨by rfl, rfl⟩) s2 ?_
          go_simp
          refine wpAnyH_take (i := 40) (v := undef) rfl (by kernel_rfl) (by kernel_rfl) (by kernel_rfl) (fun _ _ _ h => h) (Or.inr ⟨by rfl, rfl⟩) s2 ?_
          go_simp
          refine wpAnyH_take (i := 41) (v := undef) rfl (by kernel_rfl) (by kernel_rfl) (by kernel_rfl) (fun _ _ _ h => h) (Or.inr ⟨by rfl, rfl⟩) s2 ?_
          go_simp
          refine wpAnyH_take (i := 42) (v := undef) rfl (by kernel_rfl) (by kernel_rfl) (by kernel_rfl) (fun _ _ _ h => h) (Or.inr ⟨by rfl, rfl⟩) s2 ?_
          go_simp
          refine wpAnyH_take (i := 43) (v := undef) rfl (by kernel_rfl) (by kernel_rfl) (by kernel_rfl) (fun _ _ _ h => h) (Or.inr ⟨by rfl, rfl⟩) s2 ?_
          go_simp
          refine wpAnyH_take (i := 44) (v := undef) rfl (by kernel_rfl) (by kernel_rfl) (by kernel_rfl) (fun _ _ _ h => h) (Or.inr ⟨by rfl, rfl⟩) s2 ?_
          go_simp
          refine wpAnyH_take (i := 45) (v := undef) rfl (by kernel_rfl) (by kernel_rfl) (by kernel_rfl) (fun _ _ _ h => h) (Or.inr ⟨by rfl, rfl⟩) s2 ?_
          go_simp
          refine wpAnyH_take (i := 46) (v := undef) rfl (by kernel_rfl) (by kernel_rfl) (by kernel_rfl) (fun _ _ _ h => h) (Or.inr ⟨by rfl, rfl⟩) s2 ?_
          go_simp
          refine wpAnyH_take (i := 47) (v := undef) rfl (by kernel_rfl) (by kernel_rfl) (by kernel_rfl) (fun _ _ _ h => h) (Or.inr ⟨by rfl, rfl⟩) s2 ?_
          go_simp
          refine wpAnyH_take (i := 48) (v := .bool true) rfl (by kernel_rfl) (by kernel_rfl) (by kernel_rfl) (fun _ _ _ h => h) (Or.inl ⟨by rfl, fun w' _ => by go_simp <;> omega⟩) s2 ?_
          go_simp
          refine wpAnyH_done (by kernel_rfl) ?_ _
          go_wp2_with fail
          go_ret
          exact ⟨by rw [HE.out]; rfl, FIN.out _ (FIN1.out _ s2)⟩
        cases hcn : ((x.pages.length : Int) != pageCount x.long) with
        | true =>
          have HE := Lib.hid (HN.out (by rw [HEO.out, decide_eq_false (show ¬ (x.pages.length : Int) = pageCount x.long by simpa using hcn)]; simp))
          refine wp_region_held_drew (S := fun W => Below wr.heap.size wr W) (by kernel_rfl) ((Below.refl _ _).drew) (fun s3 => ?_)
          refine wpAnyH_take (i := 0) (v := .slice (some ⟨b, off, none⟩) l.length cl) rfl (by kernel_rfl) (by kernel_rfl) (by kernel_rfl) (fun _ _ _ h => h) (Or.inl ⟨by rfl, fun w' _ => by go_simp <;> omega⟩) s3 ?_
          go_simp
          refine wpAnyH_take (i := 1) (v := .int .i64 k) rfl (by kernel_rfl) (by kernel_rfl) (by kernel_rfl) (fun _ _ _ h => h) (Or.inl ⟨by rfl, fun w' _ => by go_simp <;> omega⟩) s3 ?_
          go_simp
          refine wpAnyH_take (i := 2) (v := .pointer (some ⟨b, off + k * 5, none⟩)) rfl (by kernel_rfl) (by kernel_rfl) (by kernel_rfl) (fun _ _ _ h => h) (Or.inl ⟨by rfl, fun w' _ => by go_simp <;> omega⟩) s3 ?_
          go_simp
          refine wpAnyH_take (i := 3) (v := .pointer (some ⟨b, off + k * 5, none⟩)) rfl (by kernel_rfl) (by kernel_rfl) (by kernel_rfl) (fun _ _ _ h => h) (Or.inl ⟨by rfl, fun w' _ => by go_simp <;> omega⟩) s3 ?_
          go_simp
          refine wpAnyH_take (i := 4) (v := .agg #[.int .i64 x.key.kind, .int .u64 x.key.sig, .int .i64 x.key.comp]) rfl (by kernel_rfl) (by kernel_rfl) (by kernel_rfl) (fun _ _ _ h => h) (Or.inl ⟨by rfl, fun w' h => by obtain ⟨q0, q1, q2, q3, q4⟩ := KX.out _ (h : Below wr.heap.size wr w'); go_simp⟩) s3 ?_
          go_simp
          refine wpAnyH_all (rs := [5]) (by kernel_rfl) (by simp) ?_
          intro i hi
          obtain rfl : i = 5 := by simpa using hi
          clear hi
          refine wpOp_step rfl (fun K hK => ?_)
          go_simp
          refine (rkright_calls (k := x.key) FS.out _).mono ?_
          rintro e w5 ⟨rfl, hb5⟩
          rw [HKR.out]
          have s2 : Below wr.heap.size wr w5 := Below.trans s3 (hb5.mono (Below.size s3))
          refine hK _ _ ⟨s2, ?_⟩
          clear hb5
          clear hK K
          refine wpAnyH_take (i := 6) (v := .bool false) rfl (by kernel_rfl) (by kernel_rfl) (by kernel_rfl) (fun _ _ _ h => h) (Or.inl ⟨by rfl, fun w' _ => by go_simp <;> omega⟩) s2 ?_
          go_simp
          refine wpAnyH_take (i := 7) (v := .bool false) rfl (by kernel_rfl) (by kernel_rfl) (by kernel_rfl) (fun _ _ _ h => h) (Or.inl ⟨by rfl, fun w' _ => by go_simp <;> omega⟩) s2 ?_
          go_simp
          refine wpAnyH_take (i := 8) (v := .int .i64 k) rfl (by kernel_rfl) (by kernel_rfl) (by kernel_rfl) (fun _ _ _ h => h) (Or.inl ⟨by rfl, fun w' _ => by go_simp <;> omega⟩) s2 ?_
          go_simp
          refine wpAnyH_take (i := 9) (v := .bool false) rfl (by kernel_rfl) (by kernel_rfl) (by kernel_rfl) (fun _ _ _ h => h) (Or.inl ⟨by rfl, fun w' _ => by go_simp <;> omega⟩) s2 ?_
          go_simp
          refine wpAnyH_take (i := 10) (v := .bool false) rfl (by kernel_rfl) (by kernel_rfl) (by kernel_rfl) (fun _ _ _ h => h) (Or.inl ⟨by rfl, fun w' _ => by go_simp <;> omega⟩) s2 ?_
          go_simp
          refine wpAnyH_take (i := 11) (v := undef) rfl (by kernel_rfl) (by kernel_rfl) (by kernel_rfl) (fun _ _ _ h => h) (Or.inr ⟨by rfl, rfl⟩) s2 ?_
          go_simp
          refine wpAnyH_take (i := 12) (v := undef) rfl (by kernel_rfl) (by kernel_rfl) (by kernel_rfl) (fun _ _ _ h => h) (Or.inr ⟨by rfl, rfl⟩) s2 ?_
          go_simp
          refine wpAnyH_take (i := 13) (v := undef) rfl (by kernel_rfl) (by kernel_rfl) (by kernel_rfl) (fun _ _ _ h => h) (Or.inr ⟨by rfl, rfl⟩) s2 ?_
          go_simp
          refine wpAnyH_take (i := 14) (v := undef) rfl (by kernel_rfl) (by kernel_rfl) (by kernel_rfl) (fun _ _ _ h => h) (Or.inr ⟨by rfl, rfl⟩) s2 ?_
          go_simp
          refine wpAnyH_take (i := 15) (v := undef) rfl (by kernel_rfl) (by kernel_rfl) (by kernel_rfl) (fun _ _ _ h => h) (Or.inr ⟨by rfl, rfl⟩) s2 ?_
          go_simp
          refine wpAnyH_take (i := 16) (v := undef) rfl (by kernel_rfl) (by kernel_rfl) (by kernel_rfl) (fun _ _ _ h => h) (Or.inr ⟨by rfl, rfl⟩) s2 ?_
          go_simp
          refine wpAnyH_take (i := 17) (v := undef) rfl (by kernel_rfl) (by kernel_rfl) (by kernel_rfl) (fun _ _ _ h => h) (Or.inr ⟨by rfl, rfl⟩) s2 ?_
          go_simp
          refine wpAnyH_take (i := 18) (v := undef) rfl (by kernel_rfl) (by kernel_rfl) (by kernel_rfl) (fun _ _ _ h => h) (Or.inr ⟨by rfl, rfl⟩) s2 ?_
          go_simp
          refine wpAnyH_take (i := 19) (v := undef) rfl (by kernel_rfl) (by kernel_rfl) (by kernel_rfl) (fun _ _ _ h => h) (Or.inr ⟨by rfl, rfl⟩) s2 ?_
          go_simp
          refine wpAnyH_take (i := 20) (v := undef) rfl (by kernel_rfl) (by kernel_rfl) (by kernel_rfl) (fun _ _ _ h => h) (Or.inr ⟨by rfl, rfl⟩) s2 ?_
          go_simp
          refine wpAnyH_take (i := 21) (v := undef) rfl (by kernel_rfl) (by kernel_rfl) (by kernel_rfl) (fun _ _ _ h => h) (Or.inr ⟨by rfl, rfl⟩) s2 ?_
          go_simp
          refine wpAnyH_take (i := 22) (v := undef) rfl (by kernel_rfl) (by kernel_rfl) (by kernel_rfl) (fun _ _ _ h => h) (Or.inr ⟨by rfl, rfl⟩) s2 ?_
          go_simp
          refine wpAnyH_take (i := 23) (v := undef) rfl (by kernel_rfl) (by kernel_rfl) (by kernel_rfl) (fun _ _ _ h => h) (Or.inr ⟨by rfl, rfl⟩) s2 ?_
          go_simp
          refine wpAnyH_take (i := 24) (v := .bool false) rfl (by kernel_rfl) (by kernel_rfl) (by kernel_rfl) (fun _ _ _ h => h) (Or.inl ⟨by rfl, fun w' _ => by go_simp <;> omega⟩) s2 ?_
          go_simp
          refine wpAnyH_take (i := 25) (v := .bool false) rfl (by kernel_rfl) (by kernel_rfl) (by kernel_rfl) (fun _ _ _ h => h) (Or.inl ⟨by rfl, fun w' _ => by go_simp <;> omega⟩) s2 ?_
          go_simp
          refine wpAnyH_take (i := 26) (v := .bool false) rfl (by kernel_rfl) (by kernel_rfl) (by kernel_rfl) (fun _ _ _ h => h) (Or.inl ⟨by rfl, fun w' _ => by go_simp <;> omega⟩) s2 ?_
          go_simp
          refine wpAnyH_take (i := 27) (v := .slice (some ⟨b, off, none⟩) l.length cl) rfl (by kernel_rfl) (by kernel_rfl) (by kernel_rfl) (fun _ _ _ h => h) (Or.inl ⟨by rfl, fun w' _ => by go_simp <;> omega⟩) s2 ?_
          go_simp
          refine wpAnyH_take (i := 28) (v := .int .i64 k) rfl (by kernel_rfl) (by kernel_rfl) (by kernel_rfl) (fun _ _ _ h => h) (Or.inl ⟨by rfl, fun w' _ => by go_simp <;> omega⟩) s2 ?_
          go_simp
          refine wpAnyH_take (i := 29) (v := .pointer (some ⟨b, off + k * 5, none⟩)) rfl (by kernel_rfl) (by kernel_rfl) (by kernel_rfl) (fun _ _ _ h => h) (Or.inl ⟨by rfl, fun w' _ => by go_simp <;> omega⟩) s2 ?_
          go_simp
          refine wpAnyH_take (i := 30) (v := .pointer (some ⟨b, off + k * 5 + 3, none⟩)) rfl (by kernel_rfl) (by kernel_rfl) (by kernel_rfl) (fun _ _ _ h => h) (Or.inl ⟨by rfl, fun w' _ => by go_simp <;> omega⟩) s2 ?_
          go_simp
          refine wpAnyH_take (i := 31) (v := .int .i64 x.long) rfl (by kernel_rfl) (by kernel_rfl) (by kernel_rfl) (fun _ _ _ h => h) (Or.inl ⟨by rfl, fun w' h => by obtain ⟨q0, q1, q2, q3, q4⟩ := KX.out _ (h : Below wr.heap.size wr w'); go_simp⟩) s2 ?_
          go_simp
          refine wpAnyH_take (i := 32) (v := .bool false) rfl (by kernel_rfl) (by kernel_rfl) (by kernel_rfl) (fun _ _ _ h => h) (Or.inl ⟨by rfl, fun w' _ => by go_simp <;> omega⟩) s2 ?_
          go_simp
          refine wpAnyH_take (i := 33) (v := .bool false) rfl (by kernel_rfl) (by kernel_rfl) (by kernel_rfl) (fun _ _ _ h => h) (Or.inl ⟨by rfl, fun w' _ => by go_simp <;> omega⟩) s2 ?_
          go_simp
          refine wpAnyH_take (i := 34) (v := .bool false) rfl (by kernel_rfl) (by kernel_rfl) (by kernel_rfl) (fun _ _ _ h => h) (Or.inl ⟨by rfl, fun w' _ => by go_simp <;> omega⟩) s2 ?_
          go_simp
          refine wpAnyH_take (i := 35) (v := .slice (some ⟨b, off, none⟩) l.length cl) rfl (by kernel_rfl) (by kernel_rfl) (by kernel_rfl) (fun _ _ _ h => h) (Or.inl ⟨by rfl, fun w' _ => by go_simp <;> omega⟩) s2 ?_
          go_simp
          refine wpAnyH_take (i := 36) (v := .int .i64 k) rfl (by kernel_rfl) (by kernel_rfl) (by kernel_rfl) (fun _ _ _ h => h) (Or.inl ⟨by rfl, fun w' _ => by go_simp <;> omega⟩) s2 ?_
          go_simp
          refine wpAnyH_take (i := 37) (v := .pointer (some ⟨b, off + k * 5, none⟩)) rfl (by kernel_rfl) (by kernel_rfl) (by kernel_rfl) (fun _ _ _ h => h) (Or.inl ⟨by rfl, fun w' _ => by go_simp <;> omega⟩) s2 ?_
          go_simp
          refine wpAnyH_take (i := 38) (v := .pointer (some ⟨b, off + k * 5 + 4, none⟩)) rfl (by kernel_rfl) (by kernel_rfl) (by kernel_rfl) (fun _ _ _ h => h) (Or.inl ⟨by rfl, fun w' _ => by go_simp <;> omega⟩) s2 ?_
          go_simp
          refine wpAnyH_take (i := 39) (v := .slice Ap x.pages.length cp) rfl (by kernel_rfl) (by kernel_rfl) (by kernel_rfl) (fun _ _ _ h => h) (Or.inl ⟨by rfl, fun w' h => by obtain ⟨q0, q1, q2, q3, q4⟩ := KX.out _ (h : Below wr.heap.size wr w'); go_simp⟩) s2 ?_
          go_simp
          refine wpAnyH_take (i := 40) (v := .int .i64 x.pages.length) rfl (by kernel_rfl) (by kernel_rfl) (by kernel_rfl) (fun _ _ _ h => h) (Or.inl ⟨by rfl, fun w' _ => by go_simp <;> omega⟩) s2 ?_
          go_simp
          refine wpAnyH_take (i := 41) (v := .slice (some ⟨b, off, none⟩) l.length cl) rfl (by kernel_rfl) (by kernel_rfl) (by kernel_rfl) (fun _ _ _ h => h) (Or.inl ⟨by rfl, fun w' _ => by go_simp <;> omega⟩) s2 ?_
          go_simp
          refine wpAnyH_take (i := 42) (v := .int .i64 k) rfl (by kernel_rfl) (by kernel_rfl) (by kernel_rfl) (fun _ _ _ h => h) (Or.inl ⟨by rfl, fun w' _ => by go_simp <;> omega⟩) s2 ?_
          go_simp
          refine wpAnyH_take (i := 43) (v := .pointer (some ⟨b, off + k * 5, none⟩)) rfl (by kernel_rfl) (by kernel_rfl) (by kernel_rfl) (fun _ _ _ h => h) (Or.inl ⟨by rfl, fun w' _ => by go_simp <;> omega⟩) s2 ?_
          go_simp
          refine wpAnyH_take (i := 44) (v := .pointer (some ⟨b, off + k * 5 + 3, none⟩)) rfl (by kernel_rfl) (by kernel_rfl) (by kernel_rfl) (fun _ _ _ h => h) (Or.inl ⟨by rfl, fun w' _ => by go_simp <;> omega⟩) s2 ?_
          go_simp
          refine wpAnyH_take (i := 45) (v := .int .i64 x.long) rfl (by kernel_rfl) (by kernel_rfl) (by kernel_rfl) (fun _ _ _ h => h) (Or.inl ⟨by rfl, fun w' h => by obtain ⟨q0, q1, q2, q3, q4⟩ := KX.out _ (h : Below wr.heap.size wr w'); go_simp⟩) s2 ?_
          go_simp
          refine wpAnyH_all (rs := [46]) (by kernel_rfl) (by simp) ?_
          intro i hi
          obtain rfl : i = 46 := by simpa using hi
          clear hi
          refine wpOp_step rfl (fun K hK => ?_)
          go_simp
          refine (rcount_calls _ _ FL.out.1 FL.out.2).mono ?_
          rintro e w' ⟨rfl, rfl⟩
          refine hK _ _ ⟨s2, ?_⟩
          clear hK K
          refine wpAnyH_take (i := 47) (v := .bool true) rfl (by kernel_rfl) (by kernel_rfl) (by kernel_rfl) (fun _ _ _ h => h) (Or.inl ⟨by rfl, fun w' _ => by go_simp <;> omega⟩) s2 ?_
          go_simp
          refine wpAnyH_take (i := 48) (v := .bool true) rfl (by kernel_rfl) (by kernel_rfl) (by kernel_rfl) (fun _ _ _ h => h) (Or.inl ⟨by rfl, fun w' _ => by go_simp <;> omega⟩) s2 ?_
          go_simp
          refine wpAnyH_done (by kernel_rfl) ?_ _
          go_wp2_with fail
          go_ret
          exact ⟨by rw [HE.out]; rfl, FIN.out _ (FIN1.out _ s2)⟩
        | false =>
        have HE := Lib.hid (HY.out (by rw [HEO.out, hkr, decide_eq_true (show (0 : Int) ≤ x.long by omega), decide_eq_true (show (x.pages.length : Int) = pageCount x.long by simpa using hcn)]; rfl))
        refine wp_region_held_drew (S := fun W => Below wr.heap.size wr W) (by kernel_rfl) ((Below.refl _ _).drew) (fun s3 => ?_)
        refine wpAnyH_take (i := 0) (v := .slice (some ⟨b, off, none⟩) l.length cl) rfl (by kernel_rfl) (by kernel_rfl) (by kernel_rfl) (fun _ _ _ h => h) (Or.inl ⟨by rfl, fun w' _ => by go_simp <;> omega⟩) s3 ?_
        go_simp
        refine wpAnyH_take (i := 1) (v := .int .i64 k) rfl (by kernel_rfl) (by kernel_rfl) (by kernel_rfl) (fun _ _ _ h => h) (Or.inl ⟨by rfl, fun w' _ => by go_simp <;> omega⟩) s3 ?_
        go_simp
        refine wpAnyH_take (i := 2) (v := .pointer (some ⟨b, off + k * 5, none⟩)) rfl (by kernel_rfl) (by kernel_rfl) (by kernel_rfl) (fun _ _ _ h => h) (Or.inl ⟨by rfl, fun w' _ => by go_simp <;> omega⟩) s3 ?_
        go_simp
        refine wpAnyH_take (i := 3) (v := .pointer (some ⟨b, off + k * 5, none⟩)) rfl (by kernel_rfl) (by kernel_rfl) (by kernel_rfl) (fun _ _ _ h => h) (Or.inl ⟨by rfl, fun w' _ => by go_simp <;> omega⟩) s3 ?_
        go_simp
        refine wpAnyH_take (i := 4) (v := .agg #[.int .i64 x.key.kind, .int .u64 x.key.sig, .int .i64 x.key.comp]) rfl (by kernel_rfl) (by kernel_rfl) (by kernel_rfl) (fun _ _ _ h => h) (Or.inl ⟨by rfl, fun w' h => by obtain ⟨q0, q1, q2, q3, q4⟩ := KX.out _ (h : Below wr.heap.size wr w'); go_simp⟩) s3 ?_
        go_simp
        refine wpAnyH_all (rs := [5]) (by kernel_rfl) (by simp) ?_
        intro i hi
        obtain rfl : i = 5 := by simpa using hi
        clear hi
        refine wpOp_step rfl (fun K hK => ?_)
        go_simp
        refine (rkright_calls (k := x.key) FS.out _).mono ?_
        rintro e w5 ⟨rfl, hb5⟩
        rw [HKR.out]
        have s2 : Below wr.heap.size wr w5 := Below.trans s3 (hb5.mono (Below.size s3))
        refine hK _ _ ⟨s2, ?_⟩
        clear hb5
        clear hK K
        refine wpAnyH_take (i := 6) (v := .bool false) rfl (by kernel_rfl) (by kernel_rfl) (by kernel_rfl) (fun _ _ _ h => h) (Or.inl ⟨by rfl, fun w' _ => by go_simp <;> omega⟩) s2 ?_
        go_simp
        refine wpAnyH_take (i := 7) (v := .bool false) rfl (by kernel_rfl) (by kernel_rfl) (by kernel_rfl) (fun _ _ _ h => h) (Or.inl ⟨by rfl, fun w' _ => by go_simp <;> omega⟩) s2 ?_
        go_simp
        refine wpAnyH_take (i := 8) (v := .int .i64 k) rfl (by kernel_rfl) (by kernel_rfl) (by kernel_rfl) (fun _ _ _ h => h) (Or.inl ⟨by rfl, fun w' _ => by go_simp <;> omega⟩) s2 ?_
        go_simp
        refine wpAnyH_take (i := 9) (v := .bool false) rfl (by kernel_rfl) (by kernel_rfl) (by kernel_rfl) (fun _ _ _ h => h) (Or.inl ⟨by rfl, fun w' _ => by go_simp <;> omega⟩) s2 ?_
        go_simp
        refine wpAnyH_take (i := 10) (v := .bool false) rfl (by kernel_rfl) (by kernel_rfl) (by kernel_rfl) (fun _ _ _ h => h) (Or.inl ⟨by rfl, fun w' _ => by go_simp <;> omega⟩) s2 ?_
        go_simp
        refine wpAnyH_take (i := 11) (v := undef) rfl (by kernel_rfl) (by kernel_rfl) (by kernel_rfl) (fun _ _ _ h => h) (Or.inr ⟨by rfl, rfl⟩) s2 ?_
        go_simp
        refine wpAnyH_take (i := 12) (v := undef) rfl (by kernel_rfl) (by kernel_rfl) (by kernel_rfl) (fun _ _ _ h => h) (Or.inr ⟨by rfl, rfl⟩) s2 ?_
        go_simp
        refine wpAnyH_take (i := 13) (v := undef) rfl (by kernel_rfl) (by kernel_rfl) (by kernel_rfl) (fun _ _ _ h => h) (Or.inr ⟨by rfl, rfl⟩) s2 ?_
        go_simp
        refine wpAnyH_take (i := 14) (v := undef) rfl (by kernel_rfl) (by kernel_rfl) (by kernel_rfl) (fun _ _ _ h => h) (Or.inr ⟨by rfl, rfl⟩) s2 ?_
        go_simp
        refine wpAnyH_take (i := 15) (v := undef) rfl (by kernel_rfl) (by kernel_rfl) (by kernel_rfl) (fun _ _ _ h => h) (Or.inr ⟨by rfl, rfl⟩) s2 ?_
        go_simp
        refine wpAnyH_take (i := 16) (v := undef) rfl (by kernel_rfl) (by kernel_rfl) (by kernel_rfl) (fun _ _ _ h => h) (Or.inr ⟨by rfl, rfl⟩) s2 ?_
        go_simp
        refine wpAnyH_take (i := 17) (v := undef) rfl (by kernel_rfl) (by kernel_rfl) (by kernel_rfl) (fun _ _ _ h => h) (Or.inr ⟨by rfl, rfl⟩) s2 ?_
        go_simp
        refine wpAnyH_take (i := 18) (v := undef) rfl (by kernel_rfl) (by kernel_rfl) (by kernel_rfl) (fun _ _ _ h => h) (Or.inr ⟨by rfl, rfl⟩) s2 ?_
        go_simp
        refine wpAnyH_take (i := 19) (v := undef) rfl (by kernel_rfl) (by kernel_rfl) (by kernel_rfl) (fun _ _ _ h => h) (Or.inr ⟨by rfl, rfl⟩) s2 ?_
        go_simp
        refine wpAnyH_take (i := 20) (v := undef) rfl (by kernel_rfl) (by kernel_rfl) (by kernel_rfl) (fun _ _ _ h => h) (Or.inr ⟨by rfl, rfl⟩) s2 ?_
        go_simp
        refine wpAnyH_take (i := 21) (v := undef) rfl (by kernel_rfl) (by kernel_rfl) (by kernel_rfl) (fun _ _ _ h => h) (Or.inr ⟨by rfl, rfl⟩) s2 ?_
        go_simp
        refine wpAnyH_take (i := 22) (v := undef) rfl (by kernel_rfl) (by kernel_rfl) (by kernel_rfl) (fun _ _ _ h => h) (Or.inr ⟨by rfl, rfl⟩) s2 ?_
        go_simp
        refine wpAnyH_take (i := 23) (v := undef) rfl (by kernel_rfl) (by kernel_rfl) (by kernel_rfl) (fun _ _ _ h => h) (Or.inr ⟨by rfl, rfl⟩) s2 ?_
        go_simp
        refine wpAnyH_take (i := 24) (v := .bool false) rfl (by kernel_rfl) (by kernel_rfl) (by kernel_rfl) (fun _ _ _ h => h) (Or.inl ⟨by rfl, fun w' _ => by go_simp <;> omega⟩) s2 ?_
        go_simp
        refine wpAnyH_take (i := 25) (v := .bool false) rfl (by kernel_rfl) (by kernel_rfl) (by kernel_rfl) (fun _ _ _ h => h) (Or.inl ⟨by rfl, fun w' _ => by go_simp <;> omega⟩) s2 ?_
        go_simp
        refine wpAnyH_take (i := 26) (v := .bool false) rfl (by kernel_rfl) (by kernel_rfl) (by kernel_rfl) (fun _ _ _ h => h) (Or.inl ⟨by rfl, fun w' _ => by go_simp <;> omega⟩) s2 ?_
        go_simp
        refine wpAnyH_take (i := 27) (v := .slice (some ⟨b, off, none⟩) l.length cl) rfl (by kernel_rfl) (by kernel_rfl) (by kernel_rfl) (fun _ _ _ h => h) (Or.inl ⟨by rfl, fun w' _ => by go_simp <;> omega⟩) s2 ?_
        go_simp
        refine wpAnyH_take (i := 28) (v := .int .i64 k) rfl (by kernel_rfl) (by kernel_rfl) (by kernel_rfl) (fun _ _ _ h => h) (Or.inl ⟨by rfl, fun w' _ => by go_simp <;> omega⟩) s2 ?_
        go_simp
        refine wpAnyH_take (i := 29) (v := .pointer (some ⟨b, off + k * 5, none⟩)) rfl (by kernel_rfl) (by kernel_rfl) (by kernel_rfl) (fun _ _ _ h => h) (Or.inl ⟨by rfl, fun w' _ => by go_simp <;> omega⟩) s2 ?_
        go_simp
        refine wpAnyH_take (i := 30) (v := .pointer (some ⟨b, off + k * 5 + 3, none⟩)) rfl (by kernel_rfl) (by kernel_rfl) (by kernel_rfl) (fun _ _ _ h => h) (Or.inl ⟨by rfl, fun w' _ => by go_simp <;> omega⟩) s2 ?_
        go_simp
        refine wpAnyH_take (i := 31) (v := .int .i64 x.long) rfl (by kernel_rfl) (by kernel_rfl) (by kernel_rfl) (fun _ _ _ h => h) (Or.inl ⟨by rfl, fun w' h => by obtain ⟨q0, q1, q2, q3, q4⟩ := KX.out _ (h : Below wr.heap.size wr w'); go_simp⟩) s2 ?_
        go_simp
        refine wpAnyH_take (i := 32) (v := .bool false) rfl (by kernel_rfl) (by kernel_rfl) (by kernel_rfl) (fun _ _ _ h => h) (Or.inl ⟨by rfl, fun w' _ => by go_simp <;> omega⟩) s2 ?_
        go_simp
        refine wpAnyH_take (i := 33) (v := .bool false) rfl (by kernel_rfl) (by kernel_rfl) (by kernel_rfl) (fun _ _ _ h => h) (Or.inl ⟨by rfl, fun w' _ => by go_simp <;> omega⟩) s2 ?_
        go_simp
        refine wpAnyH_take (i := 34) (v := .bool false) rfl (by kernel_rfl) (by kernel_rfl) (by kernel_rfl) (fun _ _ _ h => h) (Or.inl ⟨by rfl, fun w' _ => by go_simp <;> omega⟩) s2 ?_
        go_simp
        refine wpAnyH_take (i := 35) (v := .slice (some ⟨b, off, none⟩) l.length cl) rfl (by kernel_rfl) (by kernel_rfl) (by kernel_rfl) (fun _ _ _ h => h) (Or.inl ⟨by rfl, fun w' _ => by go_simp <;> omega⟩) s2 ?_
        go_simp
        refine wpAnyH_take (i := 36) (v := .int .i64 k) rfl (by kernel_rfl) (by kernel_rfl) (by kernel_rfl) (fun _ _ _ h => h) (Or.inl ⟨by rfl, fun w' _ => by go_simp <;> omega⟩) s2 ?_
        go_simp
        refine wpAnyH_take (i := 37) (v := .pointer (some ⟨b, off + k * 5, none⟩)) rfl (by kernel_rfl) (by kernel_rfl) (by kernel_rfl) (fun _ _ _ h => h) (Or.inl ⟨by rfl, fun w' _ => by go_simp <;> omega⟩) s2 ?_
        go_simp
        refine wpAnyH_take (i := 38) (v := .pointer (some ⟨b, off + k * 5 + 4, none⟩)) rfl (by kernel_rfl) (by kernel_rfl) (by kernel_rfl) (fun _ _ _ h => h) (Or.inl ⟨by rfl, fun w' _ => by go_simp <;> omega⟩) s2 ?_
        go_simp
        refine wpAnyH_take (i := 39) (v := .slice Ap x.pages.length cp) rfl (by kernel_rfl) (by kernel_rfl) (by kernel_rfl) (fun _ _ _ h => h) (Or.inl ⟨by rfl, fun w' h => by obtain ⟨q0, q1, q2, q3, q4⟩ := KX.out _ (h : Below wr.heap.size wr w'); go_simp⟩) s2 ?_
        go_simp
        refine wpAnyH_take (i := 40) (v := .int .i64 x.pages.length) rfl (by kernel_rfl) (by kernel_rfl) (by kernel_rfl) (fun _ _ _ h => h) (Or.inl ⟨by rfl, fun w' _ => by go_simp <;> omega⟩) s2 ?_
        go_simp
        refine wpAnyH_take (i := 41) (v := .slice (some ⟨b, off, none⟩) l.length cl) rfl (by kernel_rfl) (by kernel_rfl) (by kernel_rfl) (fun _ _ _ h => h) (Or.inl ⟨by rfl, fun w' _ => by go_simp <;> omega⟩) s2 ?_
        go_simp
        refine wpAnyH_take (i := 42) (v := .int .i64 k) rfl (by kernel_rfl) (by kernel_rfl) (by kernel_rfl) (fun _ _ _ h => h) (Or.inl ⟨by rfl, fun w' _ => by go_simp <;> omega⟩) s2 ?_
        go_simp
        refine wpAnyH_take (i := 43) (v := .pointer (some ⟨b, off + k * 5, none⟩)) rfl (by kernel_rfl) (by kernel_rfl) (by kernel_rfl) (fun _ _ _ h => h) (Or.inl ⟨by rfl, fun w' _ => by go_simp <;> omega⟩) s2 ?_
        go_simp
        refine wpAnyH_take (i := 44) (v := .pointer (some ⟨b, off + k * 5 + 3, none⟩)) rfl (by kernel_rfl) (by kernel_rfl) (by kernel_rfl) (fun _ _ _ h => h) (Or.inl ⟨by rfl, fun w' _ => by go_simp <;> omega⟩) s2 ?_
        go_simp
        refine wpAnyH_take (i := 45) (v := .int .i64 x.long) rfl (by kernel_rfl) (by kernel_rfl) (by kernel_rfl) (fun _ _ _ h => h) (Or.inl ⟨by rfl, fun w' h => by obtain ⟨q0, q1, q2, q3, q4⟩ := KX.out _ (h : Below wr.heap.size wr w'); go_simp⟩) s2 ?_
        go_simp
        refine wpAnyH_all (rs := [46]) (by kernel_rfl) (by simp) ?_
        intro i hi
        obtain rfl : i = 46 := by simpa using hi
        clear hi
        refine wpOp_step rfl (fun K hK => ?_)
        go_simp
        refine (rcount_calls _ _ FL.out.1 FL.out.2).mono ?_
        rintro e w' ⟨rfl, rfl⟩
        refine hK _ _ ⟨s2, ?_⟩
        clear hK K
        refine wpAnyH_take (i := 47) (v := .bool false) rfl (by kernel_rfl) (by kernel_rfl) (by kernel_rfl) (fun _ _ _ h => h) (Or.inl ⟨by rfl, fun w' _ => by go_simp <;> omega⟩) s2 ?_
        go_simp
        refine wpAnyH_take (i := 48) (v := .bool false) rfl (by kernel_rfl) (by kernel_rfl) (by kernel_rfl) (fun _ _ _ h => h) (Or.inl ⟨by rfl, fun w' _ => by go_simp <;> omega⟩) s2 ?_
        go_simp
        refine wpAnyH_done (by kernel_rfl) ?_ _
        clear s3 hl0 hcn hkr
        go_wp2_with fail
        clear e0 e1 e2 e3 e4
        generalize allPages (l.take k) = q at *
        rename World => wz
        have HBZ := Lib.hid (FIN1.out _ s2)
        have HSZ := Lib.hid (HSA.out.keep ((Below.block s2 M HSA.out.lt)))
        clear s2
        go_loopw [7] (fun jj wi => ∃ j : Nat, jj = .int .i64 j ∧ j ≤ x.pages.length ∧ Hid (∀ p ∈ x.pages.take j, 0 ≤ p ∧ p < c.pages) ∧ Hid ((q ++ x.pages.take j).Nodup) ∧ Hid (SeenAt wi M n (q ++ x.pages.take j)) ∧ Hid (Below M w1 wi)) (fun jj _ => x.pages.length - (intOf jj).toNat)
        case atStart => exact ⟨0, rfl, Nat.zero_le _, Lib.hid (by simp), Lib.hid (by simpa using HND.out), Lib.hid (by simpa using HSZ.out), HBZ⟩
        case round =>
          obtain ⟨j, rfl, hj, JP, JN, JS, JB⟩ := hrel
          obtain ⟨b', off', Ap', cp', he, hbc, e0, e1, e2, e3, e4, _, _, _, _, hs⟩ := rEntry_at (KL.out _ JB.out) HXX.out
          cases he
          have hpl := hs.1
          have hpm := hs.2.1
          unfold maxLen at hpm
          by_cases hjl : (j : Int) < x.pages.length
          · obtain ⟨p, hp⟩ : ∃ p, x.pages[j]? = some p := ⟨_, List.getElem?_eq_getElem (by omega)⟩
            obtain ⟨pb, po, rfl, cp0, _⟩ := hs.2.2.int hp
            have c1 := (KM.out _ JB.out).c1
            have HPB := Lib.hid (show ¬ (0 ≤ p ∧ p < c.pages) → dirRight c l = false from dirRight_page HXX.out hp)
            have HPD := Lib.hid (show p ∈ q ++ x.pages.take j → dirRight c l = false from HDUP.out j p hp)
            have HTK := Lib.hid (show x.pages.take (j + 1) = x.pages.take j ++ [p] by rw [List.take_succ_eq_append_getElem (by omega)]; congr 2; exact (List.getElem?_eq_some_iff.1 hp).2)
            clear hs hp hbc
            by_cases hp0 : p < 0
            · have HE := Lib.hid (HPB.out (fun h => by omega))
              go_wp2_with fail
              go_ret
              exact ⟨by rw [HE.out]; rfl, FIN.out _ JB.out⟩
            by_cases hp1 : c.pages ≤ p
            · have HE := Lib.hid (HPB.out (fun h => by omega))
              go_wp2_with fail
              go_ret
              exact ⟨by rw [HE.out]; rfl, FIN.out _ JB.out⟩
            obtain ⟨i, rfl⟩ : ∃ i : Nat, p = i := ⟨p.toNat, by omega⟩
            have hin : (i : Int) < (n : Int) := by have := HCP.out; omega
            have cs0 := JS.out.cell (show i < n by omega)
            have zs0 := JS.out.free i
            by_cases hmem : (i : Int) ∈ q ++ x.pages.take j
            · have HE := Lib.hid (HPD.out hmem)
              rw [decide_eq_true hmem] at cs0
              clear hmem
              go_wp2_with fail
              go_ret
              exact ⟨by rw [HE.out]; rfl, FIN.out _ JB.out⟩
            · have HJP := Lib.hid (show ∀ p ∈ x.pages.take (j + 1), 0 ≤ p ∧ p < c.pages by rw [HTK.out]; intro p hp; rcases List.mem_append.1 hp with h | h; (· exact JP.out p h); (· rw [List.mem_singleton] at h; omega))
              have HJN := Lib.hid (show (q ++ x.pages.take (j + 1)).Nodup by rw [HTK.out, ← List.append_assoc, List.nodup_append]; exact ⟨JN.out, by simp, by rintro a ha b hb rfl; rw [List.mem_singleton] at hb; subst hb; exact hmem ha⟩)
              have HJS := Lib.hid (show SeenAt (wr.setCell ⟨M, i, none⟩ (.bool true)) M n (q ++ x.pages.take (j + 1)) by rw [HTK.out, ← List.append_assoc]; exact JS.out.set i)
              have HJB := Lib.hid (show Below M w1 (wr.setCell ⟨M, i, none⟩ (.bool true)) from JB.out.setCell (p := ⟨M, i, none⟩) (Nat.le_refl _) _)
              rw [decide_eq_false hmem] at cs0
              clear hmem
              go_wp2_with fail
              exact ⟨⟨j + 1, by go_num, by omega, HJP, HJN, HJS, HJB⟩, by simp [intOf]; omega⟩
          · obtain rfl : j = x.pages.length := by omega
            rw [List.take_length] at JP JN JS
            have HQP := Lib.hid (show ∀ p ∈ allPages (l.take (k + 1)), 0 ≤ p ∧ p < c.pages by rw [HAP.out]; intro p hp; rcases List.mem_append.1 hp with h | h; (· exact HRG.out p h); (· exact JP.out p h))
            rw [← HAP.out] at JN JS
            clear hs hbc
            go_wp2_with fail
            exact ⟨⟨k + 1, by go_num, by omega, HE, HQP, JN, JS, JB⟩, by simp [intOf]; omega⟩
      · have hz : decide ((0 : Int) < (k : Int)) = true := decide_eq_true (by omega)
        have hz2 : (0 : Int) < (k : Int) := by omega
        obtain ⟨m, hm⟩ : ∃ m : Nat, (m : Int) = (k : Int) - 1 := ⟨k - 1, by omega⟩
        have hwm : IntKind.i64.wrap ((k : Int) - 1) = (m : Int) := by rw [hm]; exact IntWalk.i64_in _ ⟨by omega, by omega⟩
        have hm0 : (0 : Int) ≤ (m : Int) := by omega
        have hml2 : (m : Int) < l.length := by omega
        obtain ⟨y, hy⟩ : ∃ y, l[m]? = some y := ⟨_, List.getElem?_eq_getElem (by omega)⟩
        have hy2 : l[k - 1]? = some y := by rw [show k - 1 = m by omega]; exact hy
        have KY := Lib.hid (show ∀ W, Below wr.heap.size wr W → W.cell? ⟨b, off + m * 5, none⟩ = some (.int .i64 y.key.kind) ∧ W.cell? ⟨b, off + m * 5 + 1, none⟩ = some (.int .u64 y.key.sig) ∧ W.cell? ⟨b, off + m * 5 + 2, none⟩ = some (.int .i64 y.key.comp) from fun W h => by
          obtain ⟨b', off', _, _, he, _, q0, q1, q2, _⟩ := rEntry_at (KL.out _ (FIN1.out W h)) hy
          cases he
          exact ⟨q0, q1, q2⟩)
        obtain ⟨o, ho⟩ : ∃ o, keyROrder y.key x.key = o := ⟨_, rfl⟩
        have HO := Lib.hid ho
        have HEO := Lib.hid (entOk_eq hx (decide (o = -1)) (fun h => by
          rw [hy2, decide_eq_false (show ¬ k = 0 by omega), Bool.false_or, ← ho]))
        clear hx hy hy2 ho hm
        go_wp2_with fail
        cases hkr : keyRight x.key with
        | false =>
          have HKR := Lib.hid hkr
          have HE := Lib.hid (HN.out (by rw [HEO.out, hkr]; rfl))
          refine wp_region_held_drew (S := fun W => Below wr.heap.size wr W) (by kernel_rfl) ((Below.refl _ _).drew) (fun s3 => ?_)
          refine wpAnyH_take (i := 0) (v := .slice (some ⟨b, off, none⟩) l.length cl) rfl (by kernel_rfl) (by kernel_rfl) (by kernel_rfl) (fun _ _ _ h => h) (Or.inl ⟨by rfl, fun w' _ => by go_simp <;> omega⟩) s3 ?_
          go_simp
          refine wpAnyH_take (i := 1) (v := .int .i64 k) rfl (by kernel_rfl) (by kernel_rfl) (by kernel_rfl) (fun _ _ _ h => h) (Or.inl ⟨by rfl, fun w' _ => by go_simp <;> omega⟩) s3 ?_
          go_simp
          refine wpAnyH_take (i := 2) (v := .pointer (some ⟨b, off + k * 5, none⟩)) rfl (by kernel_rfl) (by kernel_rfl) (by kernel_rfl) (fun _ _ _ h => h) (Or.inl ⟨by rfl, fun w' _ => by go_simp <;> omega⟩) s3 ?_
          go_simp
          refine wpAnyH_take (i := 3) (v := .pointer (some ⟨b, off + k * 5, none⟩)) rfl (by kernel_rfl) (by kernel_rfl) (by kernel_rfl) (fun _ _ _ h => h) (Or.inl ⟨by rfl, fun w' _ => by go_simp <;> omega⟩) s3 ?_
          go_simp
          refine wpAnyH_take (i := 4) (v := .agg #[.int .i64 x.key.kind, .int .u64 x.key.sig, .int .i64 x.key.comp]) rfl (by kernel_rfl) (by kernel_rfl) (by kernel_rfl) (fun _ _ _ h => h) (Or.inl ⟨by rfl, fun w' h => by obtain ⟨q0, q1, q2, q3, q4⟩ := KX.out _ (h : Below wr.heap.size wr w'); obtain ⟨p0, p1, p2⟩ := KY.out _ (h : Below wr.heap.size wr w'); go_simp⟩) s3 ?_
          go_simp
          refine wpAnyH_all (rs := [5]) (by kernel_rfl) (by simp) ?_
          intro i hi
          obtain rfl : i = 5 := by simpa using hi
          clear hi
          refine wpOp_step rfl (fun K hK => ?_)
          go_simp
          refine (rkright_calls (k := x.key) FS.out _).mono ?_
          rintro e w5 ⟨rfl, hb5⟩
          rw [HKR.out]
          have s2 : Below wr.heap.size wr w5 := Below.trans s3 (hb5.mono (Below.size s3))
          refine hK _ _ ⟨s2, ?_⟩
          clear hb5
          clear hK K
          refine wpAnyH_take (i := 6) (v := .bool true) rfl (by kernel_rfl) (by kernel_rfl) (by kernel_rfl) (fun _ _ _ h => h) (Or.inl ⟨by rfl, fun w' _ => by go_simp <;> omega⟩) s2 ?_
          go_simp
          refine wpAnyH_take (i := 7) (v := .bool true) rfl (by kernel_rfl) (by kernel_rfl) (by kernel_rfl) (fun _ _ _ h => h) (Or.inl ⟨by rfl, fun w' _ => by go_simp <;> omega⟩) s2 ?_
          go_simp
          refine wpAnyH_take (i := 8) (v := undef) rfl (by kernel_rfl) (by kernel_rfl) (by kernel_rfl) (fun _ _ _ h => h) (Or.inr ⟨by rfl, rfl⟩) s2 ?_
          go_simp
          refine wpAnyH_take (i := 9) (v := undef) rfl (by kernel_rfl) (by kernel_rfl) (by kernel_rfl) (fun _ _ _ h => h) (Or.inr ⟨by rfl, rfl⟩) s2 ?_
          go_simp
          refine wpAnyH_take (i := 10) (v := undef) rfl (by kernel_rfl) (by kernel_rfl) (by kernel_rfl) (fun _ _ _ h => h) (Or.inr ⟨by rfl, rfl⟩) s2 ?_
          go_simp
          refine wpAnyH_take (i := 11) (v := undef) rfl (by kernel_rfl) (by kernel_rfl) (by kernel_rfl) (fun _ _ _ h => h) (Or.inr ⟨by rfl, rfl⟩) s2 ?_
          go_simp
          refine wpAnyH_take (i := 12) (v := undef) rfl (by kernel_rfl) (by kernel_rfl) (by kernel_rfl) (fun _ _ _ h => h) (Or.inr ⟨by rfl, rfl⟩) s2 ?_
          go_simp
          refine wpAnyH_take (i := 13) (v := undef) rfl (by kernel_rfl) (by kernel_rfl) (by kernel_rfl) (fun _ _ _ h => h) (Or.inr ⟨by rfl, rfl⟩) s2 ?_
          go_simp
          refine wpAnyH_take (i := 14) (v := undef) rfl (by kernel_rfl) (by kernel_rfl) (by kernel_rfl) (fun _ _ _ h => h) (Or.inr ⟨by rfl, rfl⟩) s2 ?_
          go_simp
          refine wpAnyH_take (i := 15) (v := undef) rfl (by kernel_rfl) (by kernel_rfl) (by kernel_rfl) (fun _ _ _ h => h) (Or.inr ⟨by rfl, rfl⟩) s2 ?_
          go_simp
          refine wpAnyH_take (i := 16) (v := undef) rfl (by kernel_rfl) (by kernel_rfl) (by kernel_rfl) (fun _ _ _ h => h) (Or.inr ⟨by rfl, rfl⟩) s2 ?_
          go_simp
          refine wpAnyH_take (i := 17) (v := undef) rfl (by kernel_rfl) (by kernel_rfl) (by kernel_rfl) (fun _ _ _ h => h) (Or.inr ⟨by rfl, rfl⟩) s2 ?_
          go_simp
          refine wpAnyH_take (i := 18) (v := undef) rfl (by kernel_rfl) (by kernel_rfl) (by kernel_rfl) (fun _ _ _ h => h) (Or.inr ⟨by rfl, rfl⟩) s2 ?_
          go_simp
          refine wpAnyH_take (i := 19) (v := undef) rfl (by kernel_rfl) (by kernel_rfl) (by kernel_rfl) (fun _ _ _ h => h) (Or.inr ⟨by rfl, rfl⟩) s2 ?_
          go_simp
          refine wpAnyH_take (i := 20) (v := undef) rfl (by kernel_rfl) (by kernel_rfl) (by kernel_rfl) (fun _ _ _ h => h) (Or.inr ⟨by rfl, rfl⟩) s2 ?_
          go_simp
          refine wpAnyH_take (i := 21) (v := undef) rfl (by kernel_rfl) (by kernel_rfl) (by kernel_rfl) (fun _ _ _ h => h) (Or.inr ⟨by rfl, rfl⟩) s2 ?_
          go_simp
          refine wpAnyH_take (i := 22) (v := undef) rfl (by kernel_rfl) (by kernel_rfl) (by kernel_rfl) (fun _ _ _ h => h) (Or.inr ⟨by rfl, rfl⟩) s2 ?_
          go_simp
          refine wpAnyH_take (i := 23) (v := undef) rfl (by kernel_rfl) (by kernel_rfl) (by kernel_rfl) (fun _ _ _ h => h) (Or.inr ⟨by rfl, rfl⟩) s2 ?_
          go_simp
          refine wpAnyH_take (i := 24) (v := undef) rfl (by kernel_rfl) (by kernel_rfl) (by kernel_rfl) (fun _ _ _ h => h) (Or.inr ⟨by rfl, rfl⟩) s2 ?_
          go_simp
          refine wpAnyH_take (i := 25) (v := .bool true) rfl (by kernel_rfl) (by kernel_rfl) (by kernel_rfl) (fun _ _ _ h => h) (Or.inl ⟨by rfl, fun w' _ => by go_simp <;> omega⟩) s2 ?_
          go_simp
          refine wpAnyH_take (i := 26) (v := .bool true) rfl (by kernel_rfl) (by kernel_rfl) (by kernel_rfl) (fun _ _ _ h => h) (Or.inl ⟨by rfl, fun w' _ => by go_simp <;> omega⟩) s2 ?_
          go_simp
          refine wpAnyH_take (i := 27) (v := undef) rfl (by kernel_rfl) (by kernel_rfl) (by kernel_rfl) (fun _ _ _ h => h) (Or.inr ⟨by rfl, rfl⟩) s2 ?_
          go_simp
          refine wpAnyH_take (i := 28) (v := undef) rfl (by kernel_rfl) (by kernel_rfl) (by kernel_rfl) (fun _ _ _ h => h) (Or.inr ⟨by rfl, rfl⟩) s2 ?_
          go_simp
          refine wpAnyH_take (i := 29) (v := undef) rfl (by kernel_rfl) (by kernel_rfl) (by kernel_rfl) (fun _ _ _ h => h) (Or.inr ⟨by rfl, rfl⟩) s2 ?_
          go_simp
          refine wpAnyH_take (i := 30) (v := undef) rfl (by kernel_rfl) (by kernel_rfl) (by kernel_rfl) (fun _ _ _ h => h) (Or.inr ⟨by rfl, rfl⟩) s2 ?_
          go_simp
          refine wpAnyH_take (i := 31) (v := undef) rfl (by kernel_rfl) (by kernel_rfl) (by kernel_rfl) (fun _ _ _ h => h) (Or.inr ⟨by rfl, rfl⟩) s2 ?_
          go_simp
          refine wpAnyH_take (i := 32) (v := undef) rfl (by kernel_rfl) (by kernel_rfl) (by kernel_rfl) (fun _ _ _ h => h) (Or.inr ⟨by rfl, rfl⟩) s2 ?_
          go_simp
          refine wpAnyH_take (i := 33) (v := .bool true) rfl (by kernel_rfl) (by kernel_rfl) (by kernel_rfl) (fun _ _ _ h => h) (Or.inl ⟨by rfl, fun w' _ => by go_simp <;> omega⟩) s2 ?_
          go_simp
          refine wpAnyH_take (i := 34) (v := .bool true) rfl (by kernel_rfl) (by kernel_rfl) (by kernel_rfl) (fun _ _ _ h => h) (Or.inl ⟨by rfl, fun w' _ => by go_simp <;> omega⟩) s2 ?_
          go_simp
          refine wpAnyH_take (i := 35) (v := undef) rfl (by kernel_rfl) (by kernel_rfl) (by kernel_rfl) (fun _ _ _ h => h) (Or.inr ⟨by rfl, rfl⟩) s2 ?_
          go_simp
          refine wpAnyH_take (i := 36) (v := undef) rfl (by kernel_rfl) (by kernel_rfl) (by kernel_rfl) (fun _ _ _ h => h) (Or.inr ⟨by rfl, rfl⟩) s2 ?_
          go_simp
          refine wpAnyH_take (i := 37) (v := undef) rfl (by kernel_rfl) (by kernel_rfl) (by kernel_rfl) (fun _ _ _ h => h) (Or.inr ⟨by rfl, rfl⟩) s2 ?_
          go_simp
          refine wpAnyH_take (i := 38) (v := undef) rfl (by kernel_rfl) (by kernel_rfl) (by kernel_rfl) (fun _ _ _ h => h) (Or.inr ⟨by rfl, rfl⟩) s2 ?_
          go_simp
          refine wpAnyH_take (i := 39) (v := undef) rfl (by kernel_rfl) (by kernel_rfl) (by kernel_rfl) (fun _ _ _ h => h) (Or.inr ⟨by rfl, rfl⟩) s2 ?_
          go_simp
          refine wpAnyH_take (i := 40) (v := undef) rfl (by kernel_rfl) (by kernel_rfl) (by kernel_rfl) (fun _ _ _ h => h) (Or.inr ⟨by rfl, rfl⟩) s2 ?_
          go_simp
          refine wpAnyH_take (i := 41) (v := undef) rfl (by kernel_rfl) (by kernel_rfl) (by kernel_rfl) (fun _ _ _ h => h) (Or.inr ⟨by rfl, rfl⟩) s2 ?_
          go_simp
          refine wpAnyH_take (i := 42) (v := undef) rfl (by kernel_rfl) (by kernel_rfl) (by kernel_rfl) (fun _ _ _ h => h) (Or.inr ⟨by rfl, rfl⟩) s2 ?_
          go_simp
          refine wpAnyH_take (i := 43) (v := undef) rfl (by kernel_rfl) (by kernel_rfl) (by kernel_rfl) (fun _ _ _ h => h) (Or.inr ⟨by rfl, rfl⟩) s2 ?_
          go_simp
          refine wpAnyH_take (i := 44) (v := undef) rfl (by kernel_rfl) (by kernel_rfl) (by kernel_rfl) (fun _ _ _ h => h) (Or.inr ⟨by rfl, rfl⟩) s2 ?_
          go_simp
          refine wpAnyH_take (i := 45) (v := undef) rfl (by kernel_rfl) (by kernel_rfl) (by kernel_rfl) (fun _ _ _ h => h) (Or.inr ⟨by rfl, rfl⟩) s2 ?_
          go_simp
          refine wpAnyH_take (i := 46) (v := undef) rfl (by kernel_rfl) (by kernel_rfl) (by kernel_rfl) (fun _ _ _ h => h) (Or.inr ⟨by rfl, rfl⟩) s2 ?_
          go_simp
          refine wpAnyH_take (i := 47) (v := undef) rfl (by kernel_rfl) (by kernel_rfl) (by kernel_rfl) (fun _ _ _ h => h) (Or.inr ⟨by rfl, rfl⟩) s2 ?_
          go_simp
          refine wpAnyH_take (i := 48) (v := .bool true) rfl (by kernel_rfl) (by kernel_rfl) (by kernel_rfl) (fun _ _ _ h => h) (Or.inl ⟨by rfl, fun w' _ => by go_simp <;> omega⟩) s2 ?_
          go_simp
          refine wpAnyH_done (by kernel_rfl) ?_ _
          go_wp2_with fail
          go_ret
          exact ⟨by rw [HE.out]; rfl, FIN.out _ (FIN1.out _ s2)⟩
        | true =>
        have HKR := Lib.hid hkr
        cases hor : (o != -1) with
        | true =>
          have HE := Lib.hid (HN.out (by rw [HEO.out, hkr, decide_eq_false (show ¬ o = -1 by simpa using hor)]; rfl))
          refine wp_region_held_drew (S := fun W => Below wr.heap.size wr W) (by kernel_rfl) ((Below.refl _ _).drew) (fun s3 => ?_)
          refine wpAnyH_take (i := 0) (v := .slice (some ⟨b, off, none⟩) l.length cl) rfl (by kernel_rfl) (by kernel_rfl) (by kernel_rfl) (fun _ _ _ h => h) (Or.inl ⟨by rfl, fun w' _ => by go_simp <;> omega⟩) s3 ?_
          go_simp
          refine wpAnyH_take (i := 1) (v := .int .i64 k) rfl (by kernel_rfl) (by kernel_rfl) (by kernel_rfl) (fun _ _ _ h => h) (Or.inl ⟨by rfl, fun w' _ => by go_simp <;> omega⟩) s3 ?_
          go_simp
          refine wpAnyH_take (i := 2) (v := .pointer (some ⟨b, off + k * 5, none⟩)) rfl (by kernel_rfl) (by kernel_rfl) (by kernel_rfl) (fun _ _ _ h => h) (Or.inl ⟨by rfl, fun w' _ => by go_simp <;> omega⟩) s3 ?_
          go_simp
          refine wpAnyH_take (i := 3) (v := .pointer (some ⟨b, off + k * 5, none⟩)) rfl (by kernel_rfl) (by kernel_rfl) (by kernel_rfl) (fun _ _ _ h => h) (Or.inl ⟨by rfl, fun w' _ => by go_simp <;> omega⟩) s3 ?_
          go_simp
          refine wpAnyH_take (i := 4) (v := .agg #[.int .i64 x.key.kind, .int .u64 x.key.sig, .int .i64 x.key.comp]) rfl (by kernel_rfl) (by kernel_rfl) (by kernel_rfl) (fun _ _ _ h => h) (Or.inl ⟨by rfl, fun w' h => by obtain ⟨q0, q1, q2, q3, q4⟩ := KX.out _ (h : Below wr.heap.size wr w'); obtain ⟨p0, p1, p2⟩ := KY.out _ (h : Below wr.heap.size wr w'); go_simp⟩) s3 ?_
          go_simp
          refine wpAnyH_all (rs := [5]) (by kernel_rfl) (by simp) ?_
          intro i hi
          obtain rfl : i = 5 := by simpa using hi
          clear hi
          refine wpOp_step rfl (fun K hK => ?_)
          go_simp
          refine (rkright_calls (k := x.key) FS.out _).mono ?_
          rintro e w5 ⟨rfl, hb5⟩
          rw [HKR.out]
          have s2 : Below wr.heap.size wr w5 := Below.trans s3 (hb5.mono (Below.size s3))
          refine hK _ _ ⟨s2, ?_⟩
          clear hb5
          clear hK K
          refine wpAnyH_take (i := 6) (v := .bool false) rfl (by kernel_rfl) (by kernel_rfl) (by kernel_rfl) (fun _ _ _ h => h) (Or.inl ⟨by rfl, fun w' _ => by go_simp <;> omega⟩) s2 ?_
          go_simp
          refine wpAnyH_take (i := 7) (v := .bool false) rfl (by kernel_rfl) (by kernel_rfl) (by kernel_rfl) (fun _ _ _ h => h) (Or.inl ⟨by rfl, fun w' _ => by go_simp <;> omega⟩) s2 ?_
          go_simp
          refine wpAnyH_take (i := 8) (v := .int .i64 k) rfl (by kernel_rfl) (by kernel_rfl) (by kernel_rfl) (fun _ _ _ h => h) (Or.inl ⟨by rfl, fun w' _ => by go_simp <;> omega⟩) s2 ?_
          go_simp
          refine wpAnyH_take (i := 9) (v := .bool true) rfl (by kernel_rfl) (by kernel_rfl) (by kernel_rfl) (fun _ _ _ h => h) (Or.inl ⟨by rfl, fun w' _ => by go_simp <;> omega⟩) s2 ?_
          go_simp
          refine wpAnyH_take (i := 10) (v := .bool true) rfl (by kernel_rfl) (by kernel_rfl) (by kernel_rfl) (fun _ _ _ h => h) (Or.inl ⟨by rfl, fun w' _ => by go_simp <;> omega⟩) s2 ?_
          go_simp
          refine wpAnyH_take (i := 11) (v := .slice (some ⟨b, off, none⟩) l.length cl) rfl (by kernel_rfl) (by kernel_rfl) (by kernel_rfl) (fun _ _ _ h => h) (Or.inl ⟨by rfl, fun w' _ => by go_simp <;> omega⟩) s2 ?_
          go_simp
          refine wpAnyH_take (i := 12) (v := .int .i64 k) rfl (by kernel_rfl) (by kernel_rfl) (by kernel_rfl) (fun _ _ _ h => h) (Or.inl ⟨by rfl, fun w' _ => by go_simp <;> omega⟩) s2 ?_
          go_simp
          refine wpAnyH_take (i := 13) (v := .int .i64 m) rfl (by kernel_rfl) (by kernel_rfl) (by kernel_rfl) (fun _ _ _ h => h) (Or.inl ⟨by rfl, fun w' _ => by go_simp <;> omega⟩) s2 ?_
          go_simp
          refine wpAnyH_take (i := 14) (v := .pointer (some ⟨b, off + m * 5, none⟩)) rfl (by kernel_rfl) (by kernel_rfl) (by kernel_rfl) (fun _ _ _ h => h) (Or.inl ⟨by rfl, fun w' _ => by go_simp <;> omega⟩) s2 ?_
          go_simp
          refine wpAnyH_take (i := 15) (v := .pointer (some ⟨b, off + m * 5, none⟩)) rfl (by kernel_rfl) (by kernel_rfl) (by kernel_rfl) (fun _ _ _ h => h) (Or.inl ⟨by rfl, fun w' _ => by go_simp <;> omega⟩) s2 ?_
          go_simp
          refine wpAnyH_take (i := 16) (v := .agg #[.int .i64 y.key.kind, .int .u64 y.key.sig, .int .i64 y.key.comp]) rfl (by kernel_rfl) (by kernel_rfl) (by kernel_rfl) (fun _ _ _ h => h) (Or.inl ⟨by rfl, fun w' h => by obtain ⟨q0, q1, q2, q3, q4⟩ := KX.out _ (h : Below wr.heap.size wr w'); obtain ⟨p0, p1, p2⟩ := KY.out _ (h : Below wr.heap.size wr w'); go_simp⟩) s2 ?_
          go_simp
          refine wpAnyH_take (i := 17) (v := .slice (some ⟨b, off, none⟩) l.length cl) rfl (by kernel_rfl) (by kernel_rfl) (by kernel_rfl) (fun _ _ _ h => h) (Or.inl ⟨by rfl, fun w' _ => by go_simp <;> omega⟩) s2 ?_
          go_simp
          refine wpAnyH_take (i := 18) (v := .int .i64 k) rfl (by kernel_rfl) (by kernel_rfl) (by kernel_rfl) (fun _ _ _ h => h) (Or.inl ⟨by rfl, fun w' _ => by go_simp <;> omega⟩) s2 ?_
          go_simp
          refine wpAnyH_take (i := 19) (v := .pointer (some ⟨b, off + k * 5, none⟩)) rfl (by kernel_rfl) (by kernel_rfl) (by kernel_rfl) (fun _ _ _ h => h) (Or.inl ⟨by rfl, fun w' _ => by go_simp <;> omega⟩) s2 ?_
          go_simp
          refine wpAnyH_take (i := 20) (v := .pointer (some ⟨b, off + k * 5, none⟩)) rfl (by kernel_rfl) (by kernel_rfl) (by kernel_rfl) (fun _ _ _ h => h) (Or.inl ⟨by rfl, fun w' _ => by go_simp <;> omega⟩) s2 ?_
          go_simp
          refine wpAnyH_take (i := 21) (v := .agg #[.int .i64 x.key.kind, .int .u64 x.key.sig, .int .i64 x.key.comp]) rfl (by kernel_rfl) (by kernel_rfl) (by kernel_rfl) (fun _ _ _ h => h) (Or.inl ⟨by rfl, fun w' h => by obtain ⟨q0, q1, q2, q3, q4⟩ := KX.out _ (h : Below wr.heap.size wr w'); obtain ⟨p0, p1, p2⟩ := KY.out _ (h : Below wr.heap.size wr w'); go_simp⟩) s2 ?_
          go_simp
          refine wpAnyH_all (rs := [22]) (by kernel_rfl) (by simp) ?_
          intro i hi
          obtain rfl : i = 22 := by simpa using hi
          clear hi
          refine wpOp_step rfl (fun K hK => ?_)
          go_simp
          refine (rorder_calls y.key x.key _).mono ?_
          rintro e w6 ⟨rfl, hb6⟩
          rw [HO.out]
          have s2 : Below wr.heap.size wr w6 := Below.trans s2 (hb6.mono (Below.size s2))
          refine hK _ _ ⟨s2, ?_⟩
          clear hb6
          clear hK K
          refine wpAnyH_take (i := 23) (v := .bool true) rfl (by kernel_rfl) (by kernel_rfl) (by kernel_rfl) (fun _ _ _ h => h) (Or.inl ⟨by rfl, fun w' _ => by go_simp <;> omega⟩) s2 ?_
          go_simp
          refine wpAnyH_take (i := 24) (v := .bool true) rfl (by kernel_rfl) (by kernel_rfl) (by kernel_rfl) (fun _ _ _ h => h) (Or.inl ⟨by rfl, fun w' _ => by go_simp <;> omega⟩) s2 ?_
          go_simp
          refine wpAnyH_take (i := 25) (v := .bool true) rfl (by kernel_rfl) (by kernel_rfl) (by kernel_rfl) (fun _ _ _ h => h) (Or.inl ⟨by rfl, fun w' _ => by go_simp <;> omega⟩) s2 ?_
          go_simp
          refine wpAnyH_take (i := 26) (v := .bool true) rfl (by kernel_rfl) (by kernel_rfl) (by kernel_rfl) (fun _ _ _ h => h) (Or.inl ⟨by rfl, fun w' _ => by go_simp <;> omega⟩) s2 ?_
          go_simp
          refine wpAnyH_take (i := 27) (v := undef) rfl (by kernel_rfl) (by kernel_rfl) (by kernel_rfl) (fun _ _ _ h => h) (Or.inr ⟨by rfl, rfl⟩) s2 ?_
          go_simp
          refine wpAnyH_take (i := 28) (v := undef) rfl (by kernel_rfl) (by kernel_rfl) (by kernel_rfl) (fun _ _ _ h => h) (Or.inr ⟨by rfl, rfl⟩) s2 ?_
          go_simp
          refine wpAnyH_take (i := 29) (v := undef) rfl (by kernel_rfl) (by kernel_rfl) (by kernel_rfl) (fun _ _ _ h => h) (Or.inr ⟨by rfl, rfl⟩) s2 ?_
          go_simp
          refine wpAnyH_take (i := 30) (v := undef) rfl (by kernel_rfl) (by kernel_rfl) (by kernel_rfl) (fun _ _ _ h => h) (Or.inr ⟨by rfl, rfl⟩) s2 ?_
          go_simp
          refine wpAnyH_take (i := 31) (v := undef) rfl (by kernel_rfl) (by kernel_rfl) (by kernel_rfl) (fun _ _ _ h => h) (Or.inr ⟨by rfl, rfl⟩) s2 ?_
          go_simp
          refine wpAnyH_take (i := 32) (v := undef) rfl (by kernel_rfl) (by kernel_rfl) (by kernel_rfl) (fun _ _ _ h => h) (Or.inr ⟨by rfl, rfl⟩) s2 ?_
          go_simp
          refine wpAnyH_take (i := 33) (v := .bool true) rfl (by kernel_rfl) (by kernel_rfl) (by kernel_rfl) (fun _ _ _ h => h) (Or.inl ⟨by rfl, fun w' _ => by go_simp <;> omega⟩) s2 ?_
          go_simp
          refine wpAnyH_take (i := 34) (v := .bool true) rfl (by kernel_rfl) (by kernel_rfl) (by kernel_rfl) (fun _ _ _ h => h) (Or.inl ⟨by rfl, fun w' _ => by go_simp <;> omega⟩) s2 ?_
          go_simp
          refine wpAnyH_take (i := 35) (v := undef) rfl (by kernel_rfl) (by kernel_rfl) (by kernel_rfl) (fun _ _ _ h => h) (Or.inr ⟨by rfl, rfl⟩) s2 ?_
          go_simp
          refine wpAnyH_take (i := 36) (v := undef) rfl (by kernel_rfl) (by kernel_rfl) (by kernel_rfl) (fun _ _ _ h => h) (Or.inr ⟨by rfl, rfl⟩) s2 ?_
          go_simp
          refine wpAnyH_take (i := 37) (v := undef) rfl (by kernel_rfl) (by kernel_rfl) (by kernel_rfl) (fun _ _ _ h => h) (Or.inr ⟨by rfl, rfl⟩) s2 ?_
          go_simp
          refine wpAnyH_take (i := 38) (v := undef) rfl (by kernel_rfl) (by kernel_rfl) (by kernel_rfl) (fun _ _ _ h => h) (Or.inr ⟨by rfl, rfl⟩) s2 ?_
          go_simp
          refine wpAnyH_take (i := 39) (v := undef) rfl (by kernel_rfl) (by kernel_rfl) (by kernel_rfl) (fun _ _ _ h => h) (Or.inr ⟨by rfl, rfl⟩) s2 ?_
          go_simp
          refine wpAnyH_take (i := 40) (v := undef) rfl (by kernel_rfl) (by kernel_rfl) (by kernel_rfl) (fun _ _ _ h => h) (Or.inr ⟨by rfl, rfl⟩) s2 ?_
          go_simp
          refine wpAnyH_take (i := 41) (v := undef) rfl (by kernel_rfl) (by kernel_rfl) (by kernel_rfl) (fun _ _ _ h => h) (Or.inr ⟨by rfl, rfl⟩) s2 ?_
          go_simp
          refine wpAnyH_take (i := 42) (v := undef) rfl (by kernel_rfl) (by kernel_rfl) (by kernel_rfl) (fun _ _ _ h => h) (Or.inr ⟨by rfl, rfl⟩) s2 ?_
          go_simp
          refine wpAnyH_take (i := 43) (v := undef) rfl (by kernel_rfl) (by kernel_rfl) (by kernel_rfl) (fun _ _ _ h => h) (Or.inr ⟨by rfl, rfl⟩) s2 ?_
          go_simp
          refine wpAnyH_take (i := 44) (v := undef) rfl (by kernel_rfl) (by kernel_rfl) (by kernel_rfl) (fun _ _ _ h => h) (Or.inr ⟨by rfl, rfl⟩) s2 ?_
          go_simp
          refine wpAnyH_take (i := 45) (v := undef) rfl (by kernel_rfl) (by kernel_rfl) (by kernel_rfl) (fun _ _ _ h => h) (Or.inr ⟨by rfl, rfl⟩) s2 ?_
          go_simp
          refine wpAnyH_take (i := 46) (v := undef) rfl (by kernel_rfl) (by kernel_rfl) (by kernel_rfl) (fun _ _ _ h => h) (Or.inr ⟨by rfl, rfl⟩) s2 ?_
          go_simp
          refine wpAnyH_take (i := 47) (v := undef) rfl (by kernel_rfl) (by kernel_rfl) (by kernel_rfl) (fun _ _ _ h => h) (Or.inr ⟨by rfl, rfl⟩) s2 ?_
          go_simp
          refine wpAnyH_take (i := 48) (v := .bool true) rfl (by kernel_rfl) (by kernel_rfl) (by kernel_rfl) (fun _ _ _ h => h) (Or.inl ⟨by rfl, fun w' _ => by go_simp <;> omega⟩) s2 ?_
          go_simp
          refine wpAnyH_done (by kernel_rfl) ?_ _
          go_wp2_with fail
          go_ret
          exact ⟨by rw [HE.out]; rfl, FIN.out _ (FIN1.out _ s2)⟩
        | false =>
        rw [decide_eq_true (show o = -1 by simpa using hor)] at HEO
        by_cases hl0 : x.long < 0
        · have HE := Lib.hid (HN.out (by rw [HEO.out, decide_eq_false (show ¬ 0 ≤ x.long by omega)]; simp))
          refine wp_region_held_drew (S := fun W => Below wr.heap.size wr W) (by kernel_rfl) ((Below.refl _ _).drew) (fun s3 => ?_)
          refine wpAnyH_take (i := 0) (v := .slice (some ⟨b, off, none⟩) l.length cl) rfl (by kernel_rfl) (by kernel_rfl) (by kernel_rfl) (fun _ _ _ h => h) (Or.inl ⟨by rfl, fun w' _ => by go_simp <;> omega⟩) s3 ?_
          go_simp
          refine wpAnyH_take (i := 1) (v := .int .i64 k) rfl (by kernel_rfl) (by kernel_rfl) (by kernel_rfl) (fun _ _ _ h => h) (Or.inl ⟨by rfl, fun w' _ => by go_simp <;> omega⟩) s3 ?_
          go_simp
          refine wpAnyH_take (i := 2) (v := .pointer (some ⟨b, off + k * 5, none⟩)) rfl (by kernel_rfl) (by kernel_rfl) (by kernel_rfl) (fun _ _ _ h => h) (Or.inl ⟨by rfl, fun w' _ => by go_simp <;> omega⟩) s3 ?_
          go_simp
          refine wpAnyH_take (i := 3) (v := .pointer (some ⟨b, off + k * 5, none⟩)) rfl (by kernel_rfl) (by kernel_rfl) (by kernel_rfl) (fun _ _ _ h => h) (Or.inl ⟨by rfl, fun w' _ => by go_simp <;> omega⟩) s3 ?_
          go_simp
          refine wpAnyH_take (i := 4) (v := .agg #[.int .i64 x.key.kind, .int .u64 x.key.sig, .int .i64 x.key.comp]) rfl (by kernel_rfl) (by kernel_rfl) (by kernel_rfl) (fun _ _ _ h => h) (Or.inl ⟨by rfl, fun w' h => by obtain ⟨q0, q1, q2, q3, q4⟩ := KX.out _ (h : Below wr.heap.size wr w'); obtain ⟨p0, p1, p2⟩ := KY.out _ (h : Below wr.heap.size wr w'); go_simp⟩) s3 ?_
          go_simp
          refine wpAnyH_all (rs := [5]) (by kernel_rfl) (by simp) ?_
          intro i hi
          obtain rfl : i = 5 := by simpa using hi
          clear hi
          refine wpOp_step rfl (fun K hK => ?_)
          go_simp
          refine (rkright_calls (k := x.key) FS.out _).mono ?_
          rintro e w5 ⟨rfl, hb5⟩
          rw [HKR.out]
          have s2 : Below wr.heap.size wr w5 := Below.trans s3 (hb5.mono (Below.size s3))
          refine hK _ _ ⟨s2, ?_⟩
          clear hb5
          clear hK K
          refine wpAnyH_take (i := 6) (v := .bool false) rfl (by kernel_rfl) (by kernel_rfl) (by kernel_rfl) (fun _ _ _ h => h) (Or.inl ⟨by rfl, fun w' _ => by go_simp <;> omega⟩) s2 ?_
          go_simp
          refine wpAnyH_take (i := 7) (v := .bool false) rfl (by kernel_rfl) (by kernel_rfl) (by kernel_rfl) (fun _ _ _ h => h) (Or.inl ⟨by rfl, fun w' _ => by go_simp <;> omega⟩) s2 ?_
          go_simp
          refine wpAnyH_take (i := 8) (v := .int .i64 k) rfl (by kernel_rfl) (by kernel_rfl) (by kernel_rfl) (fun _ _ _ h => h) (Or.inl ⟨by rfl, fun w' _ => by go_simp <;> omega⟩) s2 ?_
          go_simp
          refine wpAnyH_take (i := 9) (v := .bool true) rfl (by kernel_rfl) (by kernel_rfl) (by kernel_rfl) (fun _ _ _ h => h) (Or.inl ⟨by rfl, fun w' _ => by go_simp <;> omega⟩) s2 ?_
          go_simp
          refine wpAnyH_take (i := 10) (v := .bool true) rfl (by kernel_rfl) (by kernel_rfl) (by kernel_rfl) (fun _ _ _ h => h) (Or.inl ⟨by rfl, fun w' _ => by go_simp <;> omega⟩) s2 ?_
          go_simp
          refine wpAnyH_take (i := 11) (v := .slice (some ⟨b, off, none⟩) l.length cl) rfl (by kernel_rfl) (by kernel_rfl) (by kernel_rfl) (fun _ _ _ h => h) (Or.inl ⟨by rfl, fun w' _ => by go_simp <;> omega⟩) s2 ?_
          go_simp
          refine wpAnyH_take (i := 12) (v := .int .i64 k) rfl (by kernel_rfl) (by kernel_rfl) (by kernel_rfl) (fun _ _ _ h => h) (Or.inl ⟨by rfl, fun w' _ => by go_simp <;> omega⟩) s2 ?_
          go_simp
          refine wpAnyH_take (i := 13) (v := .int .i64 m) rfl (by kernel_rfl) (by kernel_rfl) (by kernel_rfl) (fun _ _ _ h => h) (Or.inl ⟨by rfl, fun w' _ => by go_simp <;> omega⟩) s2 ?_
          go_simp
          refine wpAnyH_take (i := 14) (v := .pointer (some ⟨b, off + m * 5, none⟩)) rfl (by kernel_rfl) (by kernel_rfl) (by kernel_rfl) (fun _ _ _ h => h) (Or.inl ⟨by rfl, fun w' _ => by go_simp <;> omega⟩) s2 ?_
          go_simp
          refine wpAnyH_take (i := 15) (v := .pointer (some ⟨b, off + m * 5, none⟩)) rfl (by kernel_rfl) (by kernel_rfl) (by kernel_rfl) (fun _ _ _ h => h) (Or.inl ⟨by rfl, fun w' _ => by go_simp <;> omega⟩) s2 ?_
          go_simp
          refine wpAnyH_take (i := 16) (v := .agg #[.int .i64 y.key.kind, .int .u64 y.key.sig, .int .i64 y.key.comp]) rfl (by kernel_rfl) (by kernel_rfl) (by kernel_rfl) (fun _ _ _ h => h) (Or.inl ⟨by rfl, fun w' h => by obtain ⟨q0, q1, q2, q3, q4⟩ := KX.out _ (h : Below wr.heap.size wr w'); obtain ⟨p0, p1, p2⟩ := KY.out _ (h : Below wr.heap.size wr w'); go_simp⟩) s2 ?_
          go_simp
          refine wpAnyH_take (i := 17) (v := .slice (some ⟨b, off, none⟩) l.length cl) rfl (by kernel_rfl) (by kernel_rfl) (by kernel_rfl) (fun _ _ _ h => h) (Or.inl ⟨by rfl, fun w' _ => by go_simp <;> omega⟩) s2 ?_
          go_simp
          refine wpAnyH_take (i := 18) (v := .int .i64 k) rfl (by kernel_rfl) (by kernel_rfl) (by kernel_rfl) (fun _ _ _ h => h) (Or.inl ⟨by rfl, fun w' _ => by go_simp <;> omega⟩) s2 ?_
          go_simp
          refine wpAnyH_take (i := 19) (v := .pointer (some ⟨b, off + k * 5, none⟩)) rfl (by kernel_rfl) (by kernel_rfl) (by kernel_rfl) (fun _ _ _ h => h) (Or.inl ⟨by rfl, fun w' _ => by go_simp <;> omega⟩) s2 ?_
          go_simp
          refine wpAnyH_take (i := 20) (v := .pointer (some ⟨b, off + k * 5, none⟩)) rfl (by kernel_rfl) (by kernel_rfl) (by kernel_rfl) (fun _ _ _ h => h) (Or.inl ⟨by rfl, fun w' _ => by go_simp <;> omega⟩) s2 ?_
          go_simp
          refine wpAnyH_take (i := 21) (v := .agg #[.int .i64 x.key.kind, .int .u64 x.key.sig, .int .i64 x.key.comp]) rfl (by kernel_rfl) (by kernel_rfl) (by kernel_rfl) (fun _ _ _ h => h) (Or.inl ⟨by rfl, fun w' h => by obtain ⟨q0, q1, q2, q3, q4⟩ := KX.out _ (h : Below wr.heap.size wr w'); obtain ⟨p0, p1, p2⟩ := KY.out _ (h : Below wr.heap.size wr w'); go_simp⟩) s2 ?_
          go_simp
          refine wpAnyH_all (rs := [22]) (by kernel_rfl) (by simp) ?_
          intro i hi
          obtain rfl : i = 22 := by simpa using hi
          clear hi
          refine wpOp_step rfl (fun K hK => ?_)
          go_simp
          refine (rorder_calls y.key x.key _).mono ?_
          rintro e w6 ⟨rfl, hb6⟩
          rw [HO.out]
          have s2 : Below wr.heap.size wr w6 := Below.trans s2 (hb6.mono (Below.size s2))
          refine hK _ _ ⟨s2, ?_⟩
          clear hb6
          clear hK K
          refine wpAnyH_take (i := 23) (v := .bool false) rfl (by kernel_rfl) (by kernel_rfl) (by kernel_rfl) (fun _ _ _ h => h) (Or.inl ⟨by rfl, fun w' _ => by go_simp <;> omega⟩) s2 ?_
          go_simp
          refine wpAnyH_take (i := 24) (v := .bool false) rfl (by kernel_rfl) (by kernel_rfl) (by kernel_rfl) (fun _ _ _ h => h) (Or.inl ⟨by rfl, fun w' _ => by go_simp <;> omega⟩) s2 ?_
          go_simp
          refine wpAnyH_take (i := 25) (v := .bool false) rfl (by kernel_rfl) (by kernel_rfl) (by kernel_rfl) (fun _ _ _ h => h) (Or.inl ⟨by rfl, fun w' _ => by go_simp <;> omega⟩) s2 ?_
          go_simp
          refine wpAnyH_take (i := 26) (v := .bool false) rfl (by kernel_rfl) (by kernel_rfl) (by kernel_rfl) (fun _ _ _ h => h) (Or.inl ⟨by rfl, fun w' _ => by go_simp <;> omega⟩) s2 ?_
          go_simp
          refine wpAnyH_take (i := 27) (v := .slice (some ⟨b, off, none⟩) l.length cl) rfl (by kernel_rfl) (by kernel_rfl) (by kernel_rfl) (fun _ _ _ h => h) (Or.inl ⟨by rfl, fun w' _ => by go_simp <;> omega⟩) s2 ?_
          go_simp
          refine wpAnyH_take (i := 28) (v := .int .i64 k) rfl (by kernel_rfl) (by kernel_rfl) (by kernel_rfl) (fun _ _ _ h => h) (Or.inl ⟨by rfl, fun w' _ => by go_simp <;> omega⟩) s2 ?_
          go_simp
          refine wpAnyH_take (i := 29) (v := .pointer (some ⟨b, off + k * 5, none⟩)) rfl (by kernel_rfl) (by kernel_rfl) (by kernel_rfl) (fun _ _ _ h => h) (Or.inl ⟨by rfl, fun w' _ => by go_simp <;> omega⟩) s2 ?_
          go_simp
          refine wpAnyH_take (i := 30) (v := .pointer (some ⟨b, off + k * 5 + 3, none⟩)) rfl (by kernel_rfl) (by kernel_rfl) (by kernel_rfl) (fun _ _ _ h => h) (Or.inl ⟨by rfl, fun w' _ => by go_simp <;> omega⟩) s2 ?_
          go_simp
          refine wpAnyH_take (i := 31) (v := .int .i64 x.long) rfl (by kernel_rfl) (by kernel_rfl) (by kernel_rfl) (fun _ _ _ h => h) (Or.inl ⟨by rfl, fun w' h => by obtain ⟨q0, q1, q2, q3, q4⟩ := KX.out _ (h : Below wr.heap.size wr w'); obtain ⟨p0, p1, p2⟩ := KY.out _ (h : Below wr.heap.size wr w'); go_simp⟩) s2 ?_
          go_simp
          refine wpAnyH_take (i := 32) (v := .bool true) rfl (by kernel_rfl) (by kernel_rfl) (by kernel_rfl) (fun _ _ _ h => h) (Or.inl ⟨by rfl, fun w' _ => by go_simp <;> omega⟩) s2 ?_
          go_simp
          refine wpAnyH_take (i := 33) (v := .bool true) rfl (by kernel_rfl) (by kernel_rfl) (by kernel_rfl) (fun _ _ _ h => h) (Or.inl ⟨by rfl, fun w' _ => by go_simp <;> omega⟩) s2 ?_
          go_simp
          refine wpAnyH_take (i := 34) (v := .bool true) rfl (by kernel_rfl) (by kernel_rfl) (by kernel_rfl) (fun _ _ _ h => h) (Or.inl ⟨by rfl, fun w' _ => by go_simp <;> omega⟩) s2 ?_
          go_simp
          refine wpAnyH_take (i := 35) (v := undef) rfl (by kernel_rfl) (by kernel_rfl) (by kernel_rfl) (fun _ _ _ h => h) (Or.inr ⟨by rfl, rfl⟩) s2 ?_
          go_simp
          refine wpAnyH_take (i := 36) (v := undef) rfl (by kernel_rfl) (by kernel_rfl) (by kernel_rfl) (fun _ _ _ h => h) (Or.inr ⟨by rfl, rfl⟩) s2 ?_
          go_simp
          refine wpAnyH_take (i := 37) (v := undef) rfl (by kernel_rfl) (by kernel_rfl) (by kernel_rfl) (fun _ _ _ h => h) (Or.inr ⟨by rfl, rfl⟩) s2 ?_
          go_simp
          refine wpAnyH_take (i := 38) (v := undef) rfl (by kernel_rfl) (by kernel_rfl) (by kernel_rfl) (fun _ _ _ h => h) (Or.inr ⟨by rfl, rfl⟩) s2 ?_
          go_simp
          refine wpAnyH_take (i := 39) (v := undef) rfl (by kernel_rfl) (by kernel_rfl) (by kernel_rfl) (fun _ _ _ h => h) (Or.inr ⟨by rfl, rfl⟩) s2 ?_
          go_simp
          refine wpAnyH_take (i := 40) (v := undef) rfl (by kernel_rfl) (by kernel_rfl) (by kernel_rfl) (fun _ _ _ h => h) (Or.inr ⟨by rfl, rfl⟩) s2 ?_
          go_simp
          refine wpAnyH_take (i := 41) (v := undef) rfl (by kernel_rfl) (by kernel_rfl) (by kernel_rfl) (fun _ _ _ h => h) (Or.inr ⟨by rfl, rfl⟩) s2 ?_
          go_simp
          refine wpAnyH_take (i := 42) (v := undef) rfl (by kernel_rfl) (by kernel_rfl) (by kernel_rfl) (fun _ _ _ h => h) (Or.inr ⟨by rfl, rfl⟩) s2 ?_
          go_simp
          refine wpAnyH_take (i := 43) (v := undef) rfl (by kernel_rfl) (by kernel_rfl) (by kernel_rfl) (fun _ _ _ h => h) (Or.inr ⟨by rfl, rfl⟩) s2 ?_
          go_simp
          refine wpAnyH_take (i := 44) (v := undef) rfl (by kernel_rfl) (by kernel_rfl) (by kernel_rfl) (fun _ _ _ h => h) (Or.inr ⟨by rfl, rfl⟩) s2 ?_
          go_simp
          refine wpAnyH_take (i := 45) (v := undef) rfl (by kernel_rfl) (by kernel_rfl) (by kernel_rfl) (fun _ _ _ h => h) (Or.inr ⟨by rfl, rfl⟩) s2 ?_
          go_simp
          refine wpAnyH_take (i := 46) (v := undef) rfl (by kernel_rfl) (by kernel_rfl) (by kernel_rfl) (fun _ _ _ h => h) (Or.inr ⟨by rfl, rfl⟩) s2 ?_
          go_simp
          refine wpAnyH_take (i := 47) (v := undef) rfl (by kernel_rfl) (by kernel_rfl) (by kernel_rfl) (fun _ _ _ h => h) (Or.inr ⟨by rfl, rfl⟩) s2 ?_
          go_simp
          refine wpAnyH_take (i := 48) (v := .bool true) rfl (by kernel_rfl) (by kernel_rfl) (by kernel_rfl) (fun _ _ _ h => h) (Or.inl ⟨by rfl, fun w' _ => by go_simp <;> omega⟩) s2 ?_
          go_simp
          refine wpAnyH_done (by kernel_rfl) ?_ _
          go_wp2_with fail
          go_ret
          exact ⟨by rw [HE.out]; rfl, FIN.out _ (FIN1.out _ s2)⟩
        cases hcn : ((x.pages.length : Int) != pageCount x.long) with
        | true =>
          have HE := Lib.hid (HN.out (by rw [HEO.out, decide_eq_false (show ¬ (x.pages.length : Int) = pageCount x.long by simpa using hcn)]; simp))
          refine wp_region_held_drew (S := fun W => Below wr.heap.size wr W) (by kernel_rfl) ((Below.refl _ _).drew) (fun s3 => ?_)
          refine wpAnyH_take (i := 0) (v := .slice (some ⟨b, off, none⟩) l.length cl) rfl (by kernel_rfl) (by kernel_rfl) (by kernel_rfl) (fun _ _ _ h => h) (Or.inl ⟨by rfl, fun w' _ => by go_simp <;> omega⟩) s3 ?_
          go_simp
          refine wpAnyH_take (i := 1) (v := .int .i64 k) rfl (by kernel_rfl) (by kernel_rfl) (by kernel_rfl) (fun _ _ _ h => h) (Or.inl ⟨by rfl, fun w' _ => by go_simp <;> omega⟩) s3 ?_
          go_simp
          refine wpAnyH_take (i := 2) (v := .pointer (some ⟨b, off + k * 5, none⟩)) rfl (by kernel_rfl) (by kernel_rfl) (by kernel_rfl) (fun _ _ _ h => h) (Or.inl ⟨by rfl, fun w' _ => by go_simp <;> omega⟩) s3 ?_
          go_simp
          refine wpAnyH_take (i := 3) (v := .pointer (some ⟨b, off + k * 5, none⟩)) rfl (by kernel_rfl) (by kernel_rfl) (by kernel_rfl) (fun _ _ _ h => h) (Or.inl ⟨by rfl, fun w' _ => by go_simp <;> omega⟩) s3 ?_
          go_simp
          refine wpAnyH_take (i := 4) (v := .agg #[.int .i64 x.key.kind, .int .u64 x.key.sig, .int .i64 x.key.comp]) rfl (by kernel_rfl) (by kernel_rfl) (by kernel_rfl) (fun _ _ _ h => h) (Or.inl ⟨by rfl, fun w' h => by obtain ⟨q0, q1, q2, q3, q4⟩ := KX.out _ (h : Below wr.heap.size wr w'); obtain ⟨p0, p1, p2⟩ := KY.out _ (h : Below wr.heap.size wr w'); go_simp⟩) s3 ?_
          go_simp
          refine wpAnyH_all (rs := [5]) (by kernel_rfl) (by simp) ?_
          intro i hi
          obtain rfl : i = 5 := by simpa using hi
          clear hi
          refine wpOp_step rfl (fun K hK => ?_)
          go_simp
          refine (rkright_calls (k := x.key) FS.out _).mono ?_
          rintro e w5 ⟨rfl, hb5⟩
          rw [HKR.out]
          have s2 : Below wr.heap.size wr w5 := Below.trans s3 (hb5.mono (Below.size s3))
          refine hK _ _ ⟨s2, ?_⟩
          clear hb5
          clear hK K
          refine wpAnyH_take (i := 6) (v := .bool false) rfl (by kernel_rfl) (by kernel_rfl) (by kernel_rfl) (fun _ _ _ h => h) (Or.inl ⟨by rfl, fun w' _ => by go_simp <;> omega⟩) s2 ?_
          go_simp
          refine wpAnyH_take (i := 7) (v := .bool false) rfl (by kernel_rfl) (by kernel_rfl) (by kernel_rfl) (fun _ _ _ h => h) (Or.inl ⟨by rfl, fun w' _ => by go_simp <;> omega⟩) s2 ?_
          go_simp
          refine wpAnyH_take (i := 8) (v := .int .i64 k) rfl (by kernel_rfl) (by kernel_rfl) (by kernel_rfl) (fun _ _ _ h => h) (Or.inl ⟨by rfl, fun w' _ => by go_simp <;> omega⟩) s2 ?_
          go_simp
          refine wpAnyH_take (i := 9) (v := .bool true) rfl (by kernel_rfl) (by kernel_rfl) (by kernel_rfl) (fun _ _ _ h => h) (Or.inl ⟨by rfl, fun w' _ => by go_simp <;> omega⟩) s2 ?_
          go_simp
          refine wpAnyH_take (i := 10) (v := .bool true) rfl (by kernel_rfl) (by kernel_rfl) (by kernel_rfl) (fun _ _ _ h => h) (Or.inl ⟨by rfl, fun w' _ => by go_simp <;> omega⟩) s2 ?_
          go_simp
          refine wpAnyH_take (i := 11) (v := .slice (some ⟨b, off, none⟩) l.length cl) rfl (by kernel_rfl) (by kernel_rfl) (by kernel_rfl) (fun _ _ _ h => h) (Or.inl ⟨by rfl, fun w' _ => by go_simp <;> omega⟩) s2 ?_
          go_simp
          refine wpAnyH_take (i := 12) (v := .int .i64 k) rfl (by kernel_rfl) (by kernel_rfl) (by kernel_rfl) (fun _ _ _ h => h) (Or.inl ⟨by rfl, fun w' _ => by go_simp <;> omega⟩) s2 ?_
          go_simp
          refine wpAnyH_take (i := 13) (v := .int .i64 m) rfl (by kernel_rfl) (by kernel_rfl) (by kernel_rfl) (fun _ _ _ h => h) (Or.inl ⟨by rfl, fun w' _ => by go_simp <;> omega⟩) s2 ?_
          go_simp
          refine wpAnyH_take (i := 14) (v := .pointer (some ⟨b, off + m * 5, none⟩)) rfl (by kernel_rfl) (by kernel_rfl) (by kernel_rfl) (fun _ _ _ h => h) (Or.inl ⟨by rfl, fun w' _ => by go_simp <;> omega⟩) s2 ?_
          go_simp
          refine wpAnyH_take (i := 15) (v := .pointer (some ⟨b, off + m * 5, none⟩)) rfl (by kernel_rfl) (by kernel_rfl) (by kernel_rfl) (fun _ _ _ h => h) (Or.inl ⟨by rfl, fun w' _ => by go_simp <;> omega⟩) s2 ?_
          go_simp
          refine wpAnyH_take (i := 16) (v := .agg #[.int .i64 y.key.kind, .int .u64 y.key.sig, .int .i64 y.key.comp]) rfl (by kernel_rfl) (by kernel_rfl) (by kernel_rfl) (fun _ _ _ h => h) (Or.inl ⟨by rfl, fun w' h => by obtain ⟨q0, q1, q2, q3, q4⟩ := KX.out _ (h : Below wr.heap.size wr w'); obtain ⟨p0, p1, p2⟩ := KY.out _ (h : Below wr.heap.size wr w'); go_simp⟩) s2 ?_
          go_simp
          refine wpAnyH_take (i := 17) (v := .slice (some ⟨b, off, none⟩) l.length cl) rfl (by kernel_rfl) (by kernel_rfl) (by kernel_rfl) (fun _ _ _ h => h) (Or.inl ⟨by rfl, fun w' _ => by go_simp <;> omega⟩) s2 ?_
          go_simp
          refine wpAnyH_take (i := 18) (v := .int .i64 k) rfl (by kernel_rfl) (by kernel_rfl) (by kernel_rfl) (fun _ _ _ h => h) (Or.inl ⟨by rfl, fun w' _ => by go_simp <;> omega⟩) s2 ?_
          go_simp
          refine wpAnyH_take (i := 19) (v := .pointer (some ⟨b, off + k * 5, none⟩)) rfl (by kernel_rfl) (by kernel_rfl) (by kernel_rfl) (fun _ _ _ h => h) (Or.inl ⟨by rfl, fun w' _ => by go_simp <;> omega⟩) s2 ?_
          go_simp
          refine wpAnyH_take (i := 20) (v := .pointer (some ⟨b, off + k * 5, none⟩)) rfl (by kernel_rfl) (by kernel_rfl) (by kernel_rfl) (fun _ _ _ h => h) (Or.inl ⟨by rfl, fun w' _ => by go_simp <;> omega⟩) s2 ?_
          go_simp
          refine wpAnyH_take (i := 21) (v := .agg #[.int .i64 x.key.kind, .int .u64 x.key.sig, .int .i64 x.key.comp]) rfl (by kernel_rfl) (by kernel_rfl) (by kernel_rfl) (fun _ _ _ h => h) (Or.inl ⟨by rfl, fun w' h => by obtain ⟨q0, q1, q2, q3, q4⟩ := KX.out _ (h : Below wr.heap.size wr w'); obtain ⟨p0, p1, p2⟩ := KY.out _ (h : Below wr.heap.size wr w'); go_simp⟩) s2 ?_
          go_simp
          refine wpAnyH_all (rs := [22]) (by kernel_rfl) (by simp) ?_
          intro i hi
          obtain rfl : i = 22 := by simpa using hi
          clear hi
          refine wpOp_step rfl (fun K hK => ?_)
          go_simp
          refine (rorder_calls y.key x.key _).mono ?_
          rintro e w6 ⟨rfl, hb6⟩
          rw [HO.out]
          have s2 : Below wr.heap.size wr w6 := Below.trans s2 (hb6.mono (Below.size s2))
          refine hK _ _ ⟨s2, ?_⟩
          clear hb6
          clear hK K
          refine wpAnyH_take (i := 23) (v := .bool false) rfl (by kernel_rfl) (by kernel_rfl) (by kernel_rfl) (fun _ _ _ h => h) (Or.inl ⟨by rfl, fun w' _ => by go_simp <;> omega⟩) s2 ?_
          go_simp
          refine wpAnyH_take (i := 24) (v := .bool false) rfl (by kernel_rfl) (by kernel_rfl) (by kernel_rfl) (fun _ _ _ h => h) (Or.inl ⟨by rfl, fun w' _ => by go_simp <;> omega⟩) s2 ?_
          go_simp
          refine wpAnyH_take (i := 25) (v := .bool false) rfl (by kernel_rfl) (by kernel_rfl) (by kernel_rfl) (fun _ _ _ h => h) (Or.inl ⟨by rfl, fun w' _ => by go_simp <;> omega⟩) s2 ?_
          go_simp
          refine wpAnyH_take (i := 26) (v := .bool false) rfl (by kernel_rfl) (by kernel_rfl) (by kernel_rfl) (fun _ _ _ h => h) (Or.inl ⟨by rfl, fun w' _ => by go_simp <;> omega⟩) s2 ?_
          go_simp
          refine wpAnyH_take (i := 27) (v := .slice (some ⟨b, off, none⟩) l.length cl) rfl (by kernel_rfl) (by kernel_rfl) (by kernel_rfl) (fun _ _ _ h => h) (Or.inl ⟨by rfl, fun w' _ => by go_simp <;> omega⟩) s2 ?_
          go_simp
          refine wpAnyH_take (i := 28) (v := .int .i64 k) rfl (by kernel_rfl) (by kernel_rfl) (by kernel_rfl) (fun _ _ _ h => h) (Or.inl ⟨by rfl, fun w' _ => by go_simp <;> omega⟩) s2 ?_
          go_simp
          refine wpAnyH_take (i := 29) (v := .pointer (some ⟨b, off + k * 5, none⟩)) rfl (by kernel_rfl) (by kernel_rfl) (by kernel_rfl) (fun _ _ _ h => h) (Or.inl ⟨by rfl, fun w' _ => by go_simp <;> omega⟩) s2 ?_
          go_simp
          refine wpAnyH_take (i := 30) (v := .pointer (some ⟨b, off + k * 5 + 3, none⟩)) rfl (by kernel_rfl) (by kernel_rfl) (by kernel_rfl) (fun _ _ _ h => h) (Or.inl ⟨by rfl, fun w' _ => by go_simp <;> omega⟩) s2 ?_
          go_simp
          refine wpAnyH_take (i := 31) (v := .int .i64 x.long) rfl (by kernel_rfl) (by kernel_rfl) (by kernel_rfl) (fun _ _ _ h => h) (Or.inl ⟨by rfl, fun w' h => by obtain ⟨q0, q1, q2, q3, q4⟩ := KX.out _ (h : Below wr.heap.size wr w'); obtain ⟨p0, p1, p2⟩ := KY.out _ (h : Below wr.heap.size wr w'); go_simp⟩) s2 ?_
          go_simp
          refine wpAnyH_take (i := 32) (v := .bool false) rfl (by kernel_rfl) (by kernel_rfl) (by kernel_rfl) (fun _ _ _ h => h) (Or.inl ⟨by rfl, fun w' _ => by go_simp <;> omega⟩) s2 ?_
          go_simp
          refine wpAnyH_take (i := 33) (v := .bool false) rfl (by kernel_rfl) (by kernel_rfl) (by kernel_rfl) (fun _ _ _ h => h) (Or.inl ⟨by rfl, fun w' _ => by go_simp <;> omega⟩) s2 ?_
          go_simp
          refine wpAnyH_take (i := 34) (v := .bool false) rfl (by kernel_rfl) (by kernel_rfl) (by kernel_rfl) (fun _ _ _ h => h) (Or.inl ⟨by rfl, fun w' _ => by go_simp <;> omega⟩) s2 ?_
          go_simp
          refine wpAnyH_take (i := 35) (v := .slice (some ⟨b, off, none⟩) l.length cl) rfl (by kernel_rfl) (by kernel_rfl) (by kernel_rfl) (fun _ _ _ h => h) (Or.inl ⟨by rfl, fun w' _ => by go_simp <;> omega⟩) s2 ?_
          go_simp
          refine wpAnyH_take (i := 36) (v := .int .i64 k) rfl (by kernel_rfl) (by kernel_rfl) (by kernel_rfl) (fun _ _ _ h => h) (Or.inl ⟨by rfl, fun w' _ => by go_simp <;> omega⟩) s2 ?_
          go_simp
          refine wpAnyH_take (i := 37) (v := .pointer (some ⟨b, off + k * 5, none⟩)) rfl (by kernel_rfl) (by kernel_rfl) (by kernel_rfl) (fun _ _ _ h => h) (Or.inl ⟨by rfl, fun w' _ => by go_simp <;> omega⟩) s2 ?_
          go_simp
          refine wpAnyH_take (i := 38) (v := .pointer (some ⟨b, off + k * 5 + 4, none⟩)) rfl (by kernel_rfl) (by kernel_rfl) (by kernel_rfl) (fun _ _ _ h => h) (Or.inl ⟨by rfl, fun w' _ => by go_simp <;> omega⟩) s2 ?_
          go_simp
          refine wpAnyH_take (i := 39) (v := .slice Ap x.pages.length cp) rfl (by kernel_rfl) (by kernel_rfl) (by kernel_rfl) (fun _ _ _ h => h) (Or.inl ⟨by rfl, fun w' h => by obtain ⟨q0, q1, q2, q3, q4⟩ := KX.out _ (h : Below wr.heap.size wr w'); obtain ⟨p0, p1, p2⟩ := KY.out _ (h : Below wr.heap.size wr w'); go_simp⟩) s2 ?_
          go_simp
          refine wpAnyH_take (i := 40) (v := .int .i64 x.pages.length) rfl (by kernel_rfl) (by kernel_rfl) (by kernel_rfl) (fun _ _ _ h => h) (Or.inl ⟨by rfl, fun w' _ => by go_simp <;> omega⟩) s2 ?_
          go_simp
          refine wpAnyH_take (i := 41) (v := .slice (some ⟨b, off, none⟩) l.length cl) rfl (by kernel_rfl) (by kernel_rfl) (by kernel_rfl) (fun _ _ _ h => h) (Or.inl ⟨by rfl, fun w' _ => by go_simp <;> omega⟩) s2 ?_
          go_simp
          refine wpAnyH_take (i := 42) (v := .int .i64 k) rfl (by kernel_rfl) (by kernel_rfl) (by kernel_rfl) (fun _ _ _ h => h) (Or.inl ⟨by rfl, fun w' _ => by go_simp <;> omega⟩) s2 ?_
          go_simp
          refine wpAnyH_take (i := 43) (v := .pointer (some ⟨b, off + k * 5, none⟩)) rfl (by kernel_rfl) (by kernel_rfl) (by kernel_rfl) (fun _ _ _ h => h) (Or.inl ⟨by rfl, fun w' _ => by go_simp <;> omega⟩) s2 ?_
          go_simp
          refine wpAnyH_take (i := 44) (v := .pointer (some ⟨b, off + k * 5 + 3, none⟩)) rfl (by kernel_rfl) (by kernel_rfl) (by kernel_rfl) (fun _ _ _ h => h) (Or.inl ⟨by rfl, fun w' _ => by go_simp <;> omega⟩) s2 ?_
          go_simp
          refine wpAnyH_take (i := 45) (v := .int .i64 x.long) rfl (by kernel_rfl) (by kernel_rfl) (by kernel_rfl) (fun _ _ _ h => h) (Or.inl ⟨by rfl, fun w' h => by obtain ⟨q0, q1, q2, q3, q4⟩ := KX.out _ (h : Below wr.heap.size wr w'); obtain ⟨p0, p1, p2⟩ := KY.out _ (h : Below wr.heap.size wr w'); go_simp⟩) s2 ?_
          go_simp
          refine wpAnyH_all (rs := [46]) (by kernel_rfl) (by simp) ?_
          intro i hi
          obtain rfl : i = 46 := by simpa using hi
          clear hi
          refine wpOp_step rfl (fun K hK => ?_)
          go_simp
          refine (rcount_calls _ _ FL.out.1 FL.out.2).mono ?_
          rintro e w' ⟨rfl, rfl⟩
          refine hK _ _ ⟨s2, ?_⟩
          clear hK K
          refine wpAnyH_take (i := 47) (v := .bool true) rfl (by kernel_rfl) (by kernel_rfl) (by kernel_rfl) (fun _ _ _ h => h) (Or.inl ⟨by rfl, fun w' _ => by go_simp <;> omega⟩) s2 ?_
          go_simp
          refine wpAnyH_take (i := 48) (v := .bool true) rfl (by kernel_rfl) (by kernel_rfl) (by kernel_rfl) (fun _ _ _ h => h) (Or.inl ⟨by rfl, fun w' _ => by go_simp <;> omega⟩) s2 ?_
          go_simp
          refine wpAnyH_done (by kernel_rfl) ?_ _
          go_wp2_with fail
          go_ret
          exact ⟨by rw [HE.out]; rfl, FIN.out _ (FIN1.out _ s2)⟩
        | false =>
        have HE := Lib.hid (HY.out (by rw [HEO.out, hkr, decide_eq_true (show (0 : Int) ≤ x.long by omega), decide_eq_true (show (x.pages.length : Int) = pageCount x.long by simpa using hcn)]; rfl))
        refine wp_region_held_drew (S := fun W => Below wr.heap.size wr W) (by kernel_rfl) ((Below.refl _ _).drew) (fun s3 => ?_)
        refine wpAnyH_take (i := 0) (v := .slice (some ⟨b, off, none⟩) l.length cl) rfl (by kernel_rfl) (by kernel_rfl) (by kernel_rfl) (fun _ _ _ h => h) (Or.inl ⟨by rfl, fun w' _ => by go_simp <;> omega⟩) s3 ?_
        go_simp
        refine wpAnyH_take (i := 1) (v := .int .i64 k) rfl (by kernel_rfl) (by kernel_rfl) (by kernel_rfl) (fun _ _ _ h => h) (Or.inl ⟨by rfl, fun w' _ => by go_simp <;> omega⟩) s3 ?_
        go_simp
        refine wpAnyH_take (i := 2) (v := .pointer (some ⟨b, off + k * 5, none⟩)) rfl (by kernel_rfl) (by kernel_rfl) (by kernel_rfl) (fun _ _ _ h => h) (Or.inl ⟨by rfl, fun w' _ => by go_simp <;> omega⟩) s3 ?_
        go_simp
        refine wpAnyH_take (i := 3) (v := .pointer (some ⟨b, off + k * 5, none⟩)) rfl (by kernel_rfl) (by kernel_rfl) (by kernel_rfl) (fun _ _ _ h => h) (Or.inl ⟨by rfl, fun w' _ => by go_simp <;> omega⟩) s3 ?_
        go_simp
        refine wpAnyH_take (i := 4) (v := .agg #[.int .i64 x.key.kind, .int .u64 x.key.sig, .int .i64 x.key.comp]) rfl (by kernel_rfl) (by kernel_rfl) (by kernel_rfl) (fun _ _ _ h => h) (Or.inl ⟨by rfl, fun w' h => by obtain ⟨q0, q1, q2, q3, q4⟩ := KX.out _ (h : Below wr.heap.size wr w'); obtain ⟨p0, p1, p2⟩ := KY.out _ (h : Below wr.heap.size wr w'); go_simp⟩) s3 ?_
        go_simp
        refine wpAnyH_all (rs := [5]) (by kernel_rfl) (by simp) ?_
        intro i hi
        obtain rfl : i = 5 := by simpa using hi
        clear hi
        refine wpOp_step rfl (fun K hK => ?_)
        go_simp
        refine (rkright_calls (k := x.key) FS.out _).mono ?_
        rintro e w5 ⟨rfl, hb5⟩
        rw [HKR.out]
        have s2 : Below wr.heap.size wr w5 := Below.trans s3 (hb5.mono (Below.size s3))
        refine hK _ _ ⟨s2, ?_⟩
        clear hb5
        clear hK K
        refine wpAnyH_take (i := 6) (v := .bool false) rfl (by kernel_rfl) (by kernel_rfl) (by kernel_rfl) (fun _ _ _ h => h) (Or.inl ⟨by rfl, fun w' _ => by go_simp <;> omega⟩) s2 ?_
        go_simp
        refine wpAnyH_take (i := 7) (v := .bool false) rfl (by kernel_rfl) (by kernel_rfl) (by kernel_rfl) (fun _ _ _ h => h) (Or.inl ⟨by rfl, fun w' _ => by go_simp <;> omega⟩) s2 ?_
        go_simp
        refine wpAnyH_take (i := 8) (v := .int .i64 k) rfl (by kernel_rfl) (by kernel_rfl) (by kernel_rfl) (fun _ _ _ h => h) (Or.inl ⟨by rfl, fun w' _ => by go_simp <;> omega⟩) s2 ?_
        go_simp
        refine wpAnyH_take (i := 9) (v := .bool true) rfl (by kernel_rfl) (by kernel_rfl) (by kernel_rfl) (fun _ _ _ h => h) (Or.inl ⟨by rfl, fun w' _ => by go_simp <;> omega⟩) s2 ?_
        go_simp
        refine wpAnyH_take (i := 10) (v := .bool true) rfl (by kernel_rfl) (by kernel_rfl) (by kernel_rfl) (fun _ _ _ h => h) (Or.inl ⟨by rfl, fun w' _ => by go_simp <;> omega⟩) s2 ?_
        go_simp
        refine wpAnyH_take (i := 11) (v := .slice (some ⟨b, off, none⟩) l.length cl) rfl (by kernel_rfl) (by kernel_rfl) (by kernel_rfl) (fun _ _ _ h => h) (Or.inl ⟨by rfl, fun w' _ => by go_simp <;> omega⟩) s2 ?_
        go_simp
        refine wpAnyH_take (i := 12) (v := .int .i64 k) rfl (by kernel_rfl) (by kernel_rfl) (by kernel_rfl) (fun _ _ _ h => h) (Or.inl ⟨by rfl, fun w' _ => by go_simp <;> omega⟩) s2 ?_
        go_simp
        refine wpAnyH_take (i := 13) (v := .int .i64 m) rfl (by kernel_rfl) (by kernel_rfl) (by kernel_rfl) (fun _ _ _ h => h) (Or.inl ⟨by rfl, fun w' _ => by go_simp <;> omega⟩) s2 ?_
        go_simp
        refine wpAnyH_take (i := 14) (v := .pointer (some ⟨b, off + m * 5, none⟩)) rfl (by kernel_rfl) (by kernel_rfl) (by kernel_rfl) (fun _ _ _ h => h) (Or.inl ⟨by rfl, fun w' _ => by go_simp <;> omega⟩) s2 ?_
        go_simp
        refine wpAnyH_take (i := 15) (v := .pointer (some ⟨b, off + m * 5, none⟩)) rfl (by kernel_rfl) (by kernel_rfl) (by kernel_rfl) (fun _ _ _ h => h) (Or.inl ⟨by rfl, fun w' _ => by go_simp <;> omega⟩) s2 ?_
        go_simp
        refine wpAnyH_take (i := 16) (v := .agg #[.int .i64 y.key.kind, .int .u64 y.key.sig, .int .i64 y.key.comp]) rfl (by kernel_rfl) (by kernel_rfl) (by kernel_rfl) (fun _ _ _ h => h) (Or.inl ⟨by rfl, fun w' h => by obtain ⟨q0, q1, q2, q3, q4⟩ := KX.out _ (h : Below wr.heap.size wr w'); obtain ⟨p0, p1, p2⟩ := KY.out _ (h : Below wr.heap.size wr w'); go_simp⟩) s2 ?_
        go_simp
        refine wpAnyH_take (i := 17) (v := .slice (some ⟨b, off, none⟩) l.length cl) rfl (by kernel_rfl) (by kernel_rfl) (by kernel_rfl) (fun _ _ _ h => h) (Or.inl ⟨by rfl, fun w' _ => by go_simp <;> omega⟩) s2 ?_
        go_simp
        refine wpAnyH_take (i := 18) (v := .int .i64 k) rfl (by kernel_rfl) (by kernel_rfl) (by kernel_rfl) (fun _ _ _ h => h) (Or.inl ⟨by rfl, fun w' _ => by go_simp <;> omega⟩) s2 ?_
        go_simp
        refine wpAnyH_take (i := 19) (v := .pointer (some ⟨b, off + k * 5, none⟩)) rfl (by kernel_rfl) (by kernel_rfl) (by kernel_rfl) (fun _ _ _ h => h) (Or.inl ⟨by rfl, fun w' _ => by go_simp <;> omega⟩) s2 ?_
        go_simp
        refine wpAnyH_take (i := 20) (v := .pointer (some ⟨b, off + k * 5, none⟩)) rfl (by kernel_rfl) (by kernel_rfl) (by kernel_rfl) (fun _ _ _ h => h) (Or.inl ⟨by rfl, fun w' _ => by go_simp <;> omega⟩) s2 ?_
        go_simp
        refine wpAnyH_take (i := 21) (v := .agg #[.int .i64 x.key.kind, .int .u64 x.key.sig, .int .i64 x.key.comp]) rfl (by kernel_rfl) (by kernel_rfl) (by kernel_rfl) (fun _ _ _ h => h) (Or.inl ⟨by rfl, fun w' h => by obtain ⟨q0, q1, q2, q3, q4⟩ := KX.out _ (h : Below wr.heap.size wr w'); obtain ⟨p0, p1, p2⟩ := KY.out _ (h : Below wr.heap.size wr w'); go_simp⟩) s2 ?_
        go_simp
        refine wpAnyH_all (rs := [22]) (by kernel_rfl) (by simp) ?_
        intro i hi
        obtain rfl : i = 22 := by simpa using hi
        clear hi
        refine wpOp_step rfl (fun K hK => ?_)
        go_simp
        refine (rorder_calls y.key x.key _).mono ?_
        rintro e w6 ⟨rfl, hb6⟩
        rw [HO.out]
        have s2 : Below wr.heap.size wr w6 := Below.trans s2 (hb6.mono (Below.size s2))
        refine hK _ _ ⟨s2, ?_⟩
        clear hb6
        clear hK K
        refine wpAnyH_take (i := 23) (v := .bool false) rfl (by kernel_rfl) (by kernel_rfl) (by kernel_rfl) (fun _ _ _ h => h) (Or.inl ⟨by rfl, fun w' _ => by go_simp <;> omega⟩) s2 ?_
        go_simp
        refine wpAnyH_take (i := 24) (v := .bool false) rfl (by kernel_rfl) (by kernel_rfl) (by kernel_rfl) (fun _ _ _ h => h) (Or.inl ⟨by rfl, fun w' _ => by go_simp <;> omega⟩) s2 ?_
        go_simp
        refine wpAnyH_take (i := 25) (v := .bool false) rfl (by kernel_rfl) (by kernel_rfl) (by kernel_rfl) (fun _ _ _ h => h) (Or.inl ⟨by rfl, fun w' _ => by go_simp <;> omega⟩) s2 ?_
        go_simp
        refine wpAnyH_take (i := 26) (v := .bool false) rfl (by kernel_rfl) (by kernel_rfl) (by kernel_rfl) (fun _ _ _ h => h) (Or.inl ⟨by rfl, fun w' _ => by go_simp <;> omega⟩) s2 ?_
        go_simp
        refine wpAnyH_take (i := 27) (v := .slice (some ⟨b, off, none⟩) l.length cl) rfl (by kernel_rfl) (by kernel_rfl) (by kernel_rfl) (fun _ _ _ h => h) (Or.inl ⟨by rfl, fun w' _ => by go_simp <;> omega⟩) s2 ?_
        go_simp
        refine wpAnyH_take (i := 28) (v := .int .i64 k) rfl (by kernel_rfl) (by kernel_rfl) (by kernel_rfl) (fun _ _ _ h => h) (Or.inl ⟨by rfl, fun w' _ => by go_simp <;> omega⟩) s2 ?_
        go_simp
        refine wpAnyH_take (i := 29) (v := .pointer (some ⟨b, off + k * 5, none⟩)) rfl (by kernel_rfl) (by kernel_rfl) (by kernel_rfl) (fun _ _ _ h => h) (Or.inl ⟨by rfl, fun w' _ => by go_simp <;> omega⟩) s2 ?_
        go_simp
        refine wpAnyH_take (i := 30) (v := .pointer (some ⟨b, off + k * 5 + 3, none⟩)) rfl (by kernel_rfl) (by kernel_rfl) (by kernel_rfl) (fun _ _ _ h => h) (Or.inl ⟨by rfl, fun w' _ => by go_simp <;> omega⟩) s2 ?_
        go_simp
        refine wpAnyH_take (i := 31) (v := .int .i64 x.long) rfl (by kernel_rfl) (by kernel_rfl) (by kernel_rfl) (fun _ _ _ h => h) (Or.inl ⟨by rfl, fun w' h => by obtain ⟨q0, q1, q2, q3, q4⟩ := KX.out _ (h : Below wr.heap.size wr w'); obtain ⟨p0, p1, p2⟩ := KY.out _ (h : Below wr.heap.size wr w'); go_simp⟩) s2 ?_
        go_simp
        refine wpAnyH_take (i := 32) (v := .bool false) rfl (by kernel_rfl) (by kernel_rfl) (by kernel_rfl) (fun _ _ _ h => h) (Or.inl ⟨by rfl, fun w' _ => by go_simp <;> omega⟩) s2 ?_
        go_simp
        refine wpAnyH_take (i := 33) (v := .bool false) rfl (by kernel_rfl) (by kernel_rfl) (by kernel_rfl) (fun _ _ _ h => h) (Or.inl ⟨by rfl, fun w' _ => by go_simp <;> omega⟩) s2 ?_
        go_simp
        refine wpAnyH_take (i := 34) (v := .bool false) rfl (by kernel_rfl) (by kernel_rfl) (by kernel_rfl) (fun _ _ _ h => h) (Or.inl ⟨by rfl, fun w' _ => by go_simp <;> omega⟩) s2 ?_
        go_simp
        refine wpAnyH_take (i := 35) (v := .slice (some ⟨b, off, none⟩) l.length cl) rfl (by kernel_rfl) (by kernel_rfl) (by kernel_rfl) (fun _ _ _ h => h) (Or.inl ⟨by rfl, fun w' _ => by go_simp <;> omega⟩) s2 ?_
        go_simp
        refine wpAnyH_take (i := 36) (v := .int .i64 k) rfl (by kernel_rfl) (by kernel_rfl) (by kernel_rfl) (fun _ _ _ h => h) (Or.inl ⟨by rfl, fun w' _ => by go_simp <;> omega⟩) s2 ?_
        go_simp
        refine wpAnyH_take (i := 37) (v := .pointer (some ⟨b, off + k * 5, none⟩)) rfl (by kernel_rfl) (by kernel_rfl) (by kernel_rfl) (fun _ _ _ h => h) (Or.inl ⟨by rfl, fun w' _ => by go_simp <;> omega⟩) s2 ?_
        go_simp
        refine wpAnyH_take (i := 38) (v := .pointer (some ⟨b, off + k * 5 + 4, none⟩)) rfl (by kernel_rfl) (by kernel_rfl) (by kernel_rfl) (fun _ _ _ h => h) (Or.inl ⟨by rfl, fun w' _ => by go_simp <;> omega⟩) s2 ?_
        go_simp
        refine wpAnyH_take (i := 39) (v := .slice Ap x.pages.length cp) rfl (by kernel_rfl) (by kernel_rfl) (by kernel_rfl) (fun _ _ _ h => h) (Or.inl ⟨by rfl, fun w' h => by obtain ⟨q0, q1, q2, q3, q4⟩ := KX.out _ (h : Below wr.heap.size wr w'); obtain ⟨p0, p1, p2⟩ := KY.out _ (h : Below wr.heap.size wr w'); go_simp⟩) s2 ?_
        go_simp
        refine wpAnyH_take (i := 40) (v := .int .i64 x.pages.length) rfl (by kernel_rfl) (by kernel_rfl) (by kernel_rfl) (fun _ _ _ h => h) (Or.inl ⟨by rfl, fun w' _ => by go_simp <;> omega⟩) s2 ?_
        go_simp
        refine wpAnyH_take (i := 41) (v := .slice (some ⟨b, off, none⟩) l.length cl) rfl (by kernel_rfl) (by kernel_rfl) (by kernel_rfl) (fun _ _ _ h => h) (Or.inl ⟨by rfl, fun w' _ => by go_simp <;> omega⟩) s2 ?_
        go_simp
        refine wpAnyH_take (i := 42) (v := .int .i64 k) rfl (by kernel_rfl) (by kernel_rfl) (by kernel_rfl) (fun _ _ _ h => h) (Or.inl ⟨by rfl, fun w' _ => by go_simp <;> omega⟩) s2 ?_
        go_simp
        refine wpAnyH_take (i := 43) (v := .pointer (some ⟨b, off + k * 5, none⟩)) rfl (by kernel_rfl) (by kernel_rfl) (by kernel_rfl) (fun _ _ _ h => h) (Or.inl ⟨by rfl, fun w' _ => by go_simp <;> omega⟩) s2 ?_
        go_simp
        refine wpAnyH_take (i := 44) (v := .pointer (some ⟨b, off + k * 5 + 3, none⟩)) rfl (by kernel_rfl) (by kernel_rfl) (by kernel_rfl) (fun _ _ _ h => h) (Or.inl ⟨by rfl, fun w' _ => by go_simp <;> omega⟩) s2 ?_
        go_simp
        refine wpAnyH_take (i := 45) (v := .int .i64 x.long) rfl (by kernel_rfl) (by kernel_rfl) (by kernel_rfl) (fun _ _ _ h => h) (Or.inl ⟨by rfl, fun w' h => by obtain ⟨q0, q1, q2, q3, q4⟩ := KX.out _ (h : Below wr.heap.size wr w'); obtain ⟨p0, p1, p2⟩ := KY.out _ (h : Below wr.heap.size wr w'); go_simp⟩) s2 ?_
        go_simp
        refine wpAnyH_all (rs := [46]) (by kernel_rfl) (by simp) ?_
        intro i hi
        obtain rfl : i = 46 := by simpa using hi
        clear hi
        refine wpOp_step rfl (fun K hK => ?_)
        go_simp
        refine (rcount_calls _ _ FL.out.1 FL.out.2).mono ?_
        rintro e w' ⟨rfl, rfl⟩
        refine hK _ _ ⟨s2, ?_⟩
        clear hK K
        refine wpAnyH_take (i := 47) (v := .bool false) rfl (by kernel_rfl) (by kernel_rfl) (by kernel_rfl) (fun _ _ _ h => h) (Or.inl ⟨by rfl, fun w' _ => by go_simp <;> omega⟩) s2 ?_
        go_simp
        refine wpAnyH_take (i := 48) (v := .bool false) rfl (by kernel_rfl) (by kernel_rfl) (by kernel_rfl) (fun _ _ _ h => h) (Or.inl ⟨by rfl, fun w' _ => by go_simp <;> omega⟩) s2 ?_
        go_simp
        refine wpAnyH_done (by kernel_rfl) ?_ _
        clear s3 hl0 hcn hkr hor
        go_wp2_with fail
        clear e0 e1 e2 e3 e4
        generalize allPages (l.take k) = q at *
        rename World => wz
        have HBZ := Lib.hid (FIN1.out _ s2)
        have HSZ := Lib.hid (HSA.out.keep ((Below.block s2 M HSA.out.lt)))
        clear s2
        go_loopw [7] (fun jj wi => ∃ j : Nat, jj = .int .i64 j ∧ j ≤ x.pages.length ∧ Hid (∀ p ∈ x.pages.take j, 0 ≤ p ∧ p < c.pages) ∧ Hid ((q ++ x.pages.take j).Nodup) ∧ Hid (SeenAt wi M n (q ++ x.pages.take j)) ∧ Hid (Below M w1 wi)) (fun jj _ => x.pages.length - (intOf jj).toNat)
        case atStart => exact ⟨0, rfl, Nat.zero_le _, Lib.hid (by simp), Lib.hid (by simpa using HND.out), Lib.hid (by simpa using HSZ.out), HBZ⟩
        case round =>
          obtain ⟨j, rfl, hj, JP, JN, JS, JB⟩ := hrel
          obtain ⟨b', off', Ap', cp', he, hbc, e0, e1, e2, e3, e4, _, _, _, _, hs⟩ := rEntry_at (KL.out _ JB.out) HXX.out
          cases he
          have hpl := hs.1
          have hpm := hs.2.1
          unfold maxLen at hpm
          by_cases hjl : (j : Int) < x.pages.length
          · obtain ⟨p, hp⟩ : ∃ p, x.pages[j]? = some p := ⟨_, List.getElem?_eq_getElem (by omega)⟩
            obtain ⟨pb, po, rfl, cp0, _⟩ := hs.2.2.int hp
            have c1 := (KM.out _ JB.out).c1
            have HPB := Lib.hid (show ¬ (0 ≤ p ∧ p < c.pages) → dirRight c l = false from dirRight_page HXX.out hp)
            have HPD := Lib.hid (show p ∈ q ++ x.pages.take j → dirRight c l = false from HDUP.out j p hp)
            have HTK := Lib.hid (show x.pages.take (j + 1) = x.pages.take j ++ [p] by rw [List.take_succ_eq_append_getElem (by omega)]; congr 2; exact (List.getElem?_eq_some_iff.1 hp).2)
            clear hs hp hbc
            by_cases hp0 : p < 0
            · have HE := Lib.hid (HPB.out (fun h => by omega))
              go_wp2_with fail
              go_ret
              exact ⟨by rw [HE.out]; rfl, FIN.out _ JB.out⟩
            by_cases hp1 : c.pages ≤ p
            · have HE := Lib.hid (HPB.out (fun h => by omega))
              go_wp2_with fail
              go_ret
              exact ⟨by rw [HE.out]; rfl, FIN.out _ JB.out⟩
            obtain ⟨i, rfl⟩ : ∃ i : Nat, p = i := ⟨p.toNat, by omega⟩
            have hin : (i : Int) < (n : Int) := by have := HCP.out; omega
            have cs0 := JS.out.cell (show i < n by omega)
            have zs0 := JS.out.free i
            by_cases hmem : (i : Int) ∈ q ++ x.pages.take j
            · have HE := Lib.hid (HPD.out hmem)
              rw [decide_eq_true hmem] at cs0
              clear hmem
              go_wp2_with fail
              go_ret
              exact ⟨by rw [HE.out]; rfl, FIN.out _ JB.out⟩
            · have HJP := Lib.hid (show ∀ p ∈ x.pages.take (j + 1), 0 ≤ p ∧ p < c.pages by rw [HTK.out]; intro p hp; rcases List.mem_append.1 hp with h | h; (· exact JP.out p h); (· rw [List.mem_singleton] at h; omega))
              have HJN := Lib.hid (show (q ++ x.pages.take (j + 1)).Nodup by rw [HTK.out, ← List.append_assoc, List.nodup_append]; exact ⟨JN.out, by simp, by rintro a ha b hb rfl; rw [List.mem_singleton] at hb; subst hb; exact hmem ha⟩)
              have HJS := Lib.hid (show SeenAt (wr.setCell ⟨M, i, none⟩ (.bool true)) M n (q ++ x.pages.take (j + 1)) by rw [HTK.out, ← List.append_assoc]; exact JS.out.set i)
              have HJB := Lib.hid (show Below M w1 (wr.setCell ⟨M, i, none⟩ (.bool true)) from JB.out.setCell (p := ⟨M, i, none⟩) (Nat.le_refl _) _)
              rw [decide_eq_false hmem] at cs0
              clear hmem
              go_wp2_with fail
              exact ⟨⟨j + 1, by go_num, by omega, HJP, HJN, HJS, HJB⟩, by simp [intOf]; omega⟩
          · obtain rfl : j = x.pages.length := by omega
            rw [List.take_length] at JP JN JS
            have HQP := Lib.hid (show ∀ p ∈ allPages (l.take (k + 1)), 0 ≤ p ∧ p < c.pages by rw [HAP.out]; intro p hp; rcases List.mem_append.1 hp with h | h; (· exact HRG.out p h); (· exact JP.out p h))
            rw [← HAP.out] at JN JS
            clear hs hbc
            go_wp2_with fail
            exact ⟨⟨k + 1, by go_num, by omega, HE, HQP, JN, JS, JB⟩, by simp [intOf]; omega⟩
    · obtain rfl : k = l.length := by omega
      rw [List.take_length] at HRG HND
      have HE := Lib.hid (show dirRight c l = true by rw [dirRight_pages HCR.out HALL.out]; exact pagesOk_yes HRG.out HND.out)
      go_wp2_with fail
      go_ret
      exact ⟨by rw [HE.out]; rfl, FIN.out _ HBW.out⟩
end Go.Proofs.Ytfpmkenobphfnaa
