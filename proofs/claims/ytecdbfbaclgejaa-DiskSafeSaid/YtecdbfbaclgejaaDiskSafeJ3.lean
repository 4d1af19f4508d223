/- Texts on which the proof of DiskSafe stands, part 3: Page, Count, PCount, RCounts, Most, Idx, CmdCheck, FrameCheck, CmdPut, RCmdPut. No condition is laid on any input. -/
import Derived.Test.YtecdbfbaclgejaaDiskSafeJ2
/- Walks of the functions on pages: how many, in pieces. -/
namespace Go.Proofs.Ytecdbfbaclgejaa
open Go.RowKit

def pageCount (n : Int) : Int := if n < 1 then 0 else (n - 1) / 472 + 1

/-- page.Count -/
theorem count_calls (n : Int) (w : World) (h1 : -9223372036854775808 ≤ n) (h2 : n ≤ 9223372036854775807) :
    Calls Try.prog 20 #[.int .i64 n] w fun e w' => e = .returned (.int .i64 (pageCount n)) ∧ w' = w := by
  by_cases h : n < 1
  · have hf : pageCount n = 0 := by rw [pageCount, if_pos h]
    have HF := Lib.hid hf
    clear hf
    go_enter Try.func20, Try.ntmps20
    go_wp2_with fail
    go_ret
    exact ⟨by rw [HF.out]; rfl, rfl⟩
  · have hf : pageCount n = (n - 1) / 472 + 1 := by rw [pageCount, if_neg h]
    have HF := Lib.hid hf
    clear hf
    go_enter Try.func20, Try.ntmps20
    go_wp2_with fail
    go_ret
    exact ⟨by rw [HF.out]; rfl, rfl⟩

/-- ref20.Count -/
theorem rcount_calls (n : Int) (w : World) (h1 : -9223372036854775808 ≤ n) (h2 : n ≤ 9223372036854775807) :
    Calls Try.prog 21 #[.int .i64 n] w fun e w' => e = .returned (.int .i64 (pageCount n)) ∧ w' = w := by
  by_cases h : n < 1
  · have hf : pageCount n = 0 := by rw [pageCount, if_pos h]
    have HF := Lib.hid hf
    clear hf
    go_enter Try.func21, Try.ntmps21
    go_wp2_with fail
    go_ret
    exact ⟨by rw [HF.out]; rfl, rfl⟩
  · have hf : pageCount n = (n - 1) / 472 + 1 := by rw [pageCount, if_neg h]
    have HF := Lib.hid hf
    clear hf
    by_cases hk : n / 472 * 472 < n
    · have hg : n / 472 + 1 = (n - 1) / 472 + 1 := by omega
      have HG := Lib.hid hg
      clear hg
      go_enter Try.func21, Try.ntmps21
      go_wp2_with fail
      go_ret
      exact ⟨by rw [HF.out, ← HG.out]; rfl, rfl⟩
    · have hg : n / 472 = (n - 1) / 472 + 1 := by omega
      have HG := Lib.hid hg
      clear hg
      go_enter Try.func21, Try.ntmps21
      go_wp2_with fail
      go_ret
      exact ⟨by rw [HF.out, ← HG.out]; rfl, rfl⟩

/-- The pieces. -/
def piece (l : List UInt8) (i : Nat) : List UInt8 := (l.drop (472 * i)).take 472
def pieces (l : List UInt8) (n : Nat) : List (List UInt8) := (List.range n).map (piece l)
def cut (l : List UInt8) : List (List UInt8) := pieces l ((l.length + 471) / 472)

theorem pieces_succ (l : List UInt8) (n : Nat) : pieces l (n + 1) = pieces l n ++ [piece l n] := by simp [pieces, List.range_succ]

set_option maxRecDepth 4000 in
set_option maxHeartbeats 1000000 in
/-- ref20.Cut -/
theorem rcut_calls {Q0 : Nat → Prop} {w : World} {v : Value} {l : List UInt8} (hx : Rep.byte.list.val Q0 w v l) (hl : l.length ≤ 1000000) :
    Calls Try.prog 18 #[v] w (Res Rep.byte.list.list (fun b => (Q0 b ∧ b < w.heap.size) ∨ w.heap.size ≤ b) w (cut l)) := by
  obtain ⟨Q, hQ⟩ : ∃ Q : Nat → Prop, Q = fun b => Q0 b ∧ b < w.heap.size := ⟨_, rfl⟩
  have hQl : ∀ b, Q b → b < w.heap.size := by rw [hQ]; exact fun b h => h.2
  replace hx : Rep.byte.list.val Q w v l := Rep.val_keep (fun b hb hl => ⟨by rw [hQ]; exact ⟨hb, hl.lt⟩, rfl⟩) hx
  obtain ⟨A, c, rfl, hc1, hc2, hA⟩ := Rep.val_list hx
  clear hx
  unfold maxLen at hc2
  have HQ := Lib.hid hQ
  clear hQ
  have hbnd : ∀ k, 472 * k ≤ l.length + 472 → (pieces l k).length + 1 ≤ maxLen ∧ ((pieces l k).length + 1) * 24 ≤ 140737488355328 := fun k hk => by simp [pieces, maxLen]; omega
  have HB := Lib.hid hbnd
  clear hbnd
  go_enter Try.func18, Try.ntmps18
  go_wp2_with fail
  go_loopw [0, 3] (fun b s wr => ∃ (k m : Nat) (A' : Option Addr) (c' : Nat), b = .slice A' m c' ∧ Hid (m + 472 * k = l.length) ∧ m ≤ c' ∧ c' ≤ 9223372036854775807 ∧ Rep.byte.At Q wr A' (l.drop (472 * k)) ∧
    Rep.byte.list.acc 22 w.heap.size Q wr s (pieces l k) ∧ Below w.heap.size w wr) (fun b _ _ => (match b with | .slice _ n _ => n | _ => 0))
  case atStart => exact ⟨0, l.length, A, c, rfl, by simp [Hid], by omega, by omega, by simpa using hA, Rep.acc_nil, Below.refl _ _⟩
  case round =>
    obtain ⟨k, m, A', c', rfl, hk, hc', hm', hA', hacc, hbel⟩ := hrel
    have hown := Rep.acc_own hacc
    have hba : w.heap.size ≤ wr.heap.size := hbel.size
    have hne : ∀ b, Q b → u3.ownBlock ≠ some b := fun b hb he => by have := (hown b he).1; have := hQl b hb; omega
    have HN := Lib.hid hne
    have HO := Lib.hid hown
    clear hne hown
    by_cases hlt : 472 < m
    · have hlt' : (472 : Int) < (m : Int) := by omega
      obtain ⟨b, off, rfl⟩ := hA'.addr (by rw [List.length_drop]; have := hk.out; omega)
      have hy : Rep.byte.list.val (fun b' => Q b' ∧ u3.ownBlock ≠ some b') wr (.slice (some ⟨b, off, none⟩) 472 c') (piece l k) :=
        Rep.list_val (by simp [piece]; have := hk.out; omega) (by omega) (by unfold maxLen; omega) ((hA'.take 472).keep fun b hb _ => ⟨⟨hb, HN.out b hb⟩, rfl⟩)
      obtain ⟨h63, hby⟩ := HB.out k (by have := hk.out; omega)
      go_wp2_with (refine wpList_snoc (e := 22) (base := w.heap.size) (Q := Q) (r := Rep.byte.list) rfl rfl _ _ 24 _ rfl rfl rfl (.slice none 0 0) 1 24 Try.underlying24 info22 rfl (by decide) rfl _ (pieces l k) hacc (piece l k) _ (by exact rfl) hy (by exact rfl) (by exact rfl) h63 hby hba ?_; intro s' w' hacc' hgr hat)
      refine ⟨⟨k + 1, m - 472, _, c' - 472, rfl, ?_, by omega, by omega, ?_, by rw [pieces_succ]; exact hacc', hbel.grown hgr hba fun k hk => (HO.out k hk).1⟩, by show m - 472 < m; omega⟩
      · have := hk.out; unfold Hid; omega
      · have := (hA'.drop (n := 472) (by rw [List.length_drop]; have := hk.out; omega)).grown hgr HN.out
        rw [List.drop_drop] at this
        exact this
    · have hge : ¬ (472 : Int) < (m : Int) := by omega
      have hlen := hk.out
      rcases Nat.eq_zero_or_pos m with h0 | h0
      · subst h0
        have hcut : cut l = pieces l k := by rw [cut]; congr 1; omega
        have HC := Lib.hid hcut
        clear hcut hlen
        go_wp2_with fail
        go_ret
        refine ⟨_, rfl, ?_, hbel⟩
        rw [HC.out]
        refine Rep.val_mono (fun b hb _ => ?_) (Rep.acc_val hacc)
        rcases hb with hb | hb
        · have := HQ.out ▸ hb; exact .inl this
        · exact .inr (HO.out b hb).1
      · have h0' : (0 : Int) < (m : Int) := by omega
        have hcut : cut l = pieces l k ++ [piece l k] := by rw [cut, ← pieces_succ]; congr 1; omega
        have hpc : piece l k = l.drop (472 * k) := by rw [piece, List.take_of_length_le (by rw [List.length_drop]; omega)]
        have hy : Rep.byte.list.val (fun b' => Q b' ∧ u3.ownBlock ≠ some b') wr (.slice A' m c') (piece l k) := by
          rw [hpc]
          exact Rep.list_val (by rw [List.length_drop]; omega) (by omega) (by unfold maxLen; omega) (hA'.keep fun b hb _ => ⟨⟨hb, HN.out b hb⟩, rfl⟩)
        obtain ⟨h63, hby⟩ := HB.out k (by omega)
        have HC := Lib.hid hcut
        clear hcut hlen hpc
        go_wp2_with (refine wpList_snoc (e := 22) (base := w.heap.size) (Q := Q) (r := Rep.byte.list) rfl rfl _ _ 24 _ rfl rfl rfl (.slice none 0 0) 1 24 Try.underlying24 info22 rfl (by decide) rfl _ (pieces l k) hacc (piece l k) _ (by exact rfl) hy (by exact rfl) (by exact rfl) h63 hby hba ?_; intro s' w' hacc' hgr hat)
        go_ret
        refine ⟨_, rfl, ?_, hbel.grown hgr hba fun k hk => (HO.out k hk).1⟩
        rw [HC.out]
        refine Rep.val_mono (fun b hb _ => ?_) (Rep.acc_val hacc')
        rcases hb with hb | hb
        · have := HQ.out ▸ hb; exact .inl this
        · exact .inr (Rep.acc_own hacc' b hb).1
end Go.Proofs.Ytecdbfbaclgejaa
/- Walks of the counts of pages. -/
namespace Go.Proofs.Ytecdbfbaclgejaa
open Go.RowKit

def setsAt (c : DConf) (k : Nat) : Int := min (2 ^ k) c.entities
def sumSizes : List DComp → Int
  | [] => 0
  | x :: l => x.size + sumSizes l
theorem sumSizes_append : ∀ l m : List DComp, sumSizes (l ++ m) = sumSizes l + sumSizes m
  | [], m => by simp [sumSizes]
  | x :: l, m => by simp only [List.cons_append, sumSizes, sumSizes_append l m]; omega
theorem sumSizes_succ {l : List DComp} {k : Nat} (hk : k < l.length) : sumSizes (l.take (k + 1)) = sumSizes (l.take k) + l[k].size := by
  rw [List.take_succ_eq_append_getElem hk, sumSizes_append]; simp [sumSizes]
def streamsOf (c : DConf) : Int := 2 + setsAt c c.comps.length * (c.comps.length + 1)
def dataOf (c : DConf) : Int := (confBytes c).length + 8 + c.entities * (16 + sumSizes c.comps)
def pagesOf (c : DConf) : Int := streamsOf c + dataOf c / 472
def dirOf (c : DConf) : Int := pageCount (2 + 16 * streamsOf c + 2 * pagesOf c)
def mostOf (c : DConf) : Int := if confRight c then pagesOf c + dirOf c else 0
def ampleOf (c : DConf) : Bool := confRight c && decide (3 * (pagesOf c + dirOf c) ≤ c.pages) && decide (dirOf c ≤ 222)

theorem right_facts {c : DConf} (h : confRight c = true) : (2 ≤ c.log ∧ c.log ≤ 1024 ∧ 4 ≤ c.pages ∧ c.pages ≤ 1024 ∧ 1 ≤ c.entities ∧ c.entities ≤ 1024 ∧ 1 ≤ c.gens ∧ c.gens ≤ 1073741824 ∧ c.comps.length ≤ 32) ∧
    ∀ (k : Nat) (hk : k < c.comps.length), 0 ≤ c.comps[k].size ∧ c.comps[k].size ≤ 64 ∧ c.comps[k].name.length ≤ 16 := by
  simp only [confRight, Bool.and_eq_true] at h
  obtain ⟨h1, h2⟩ := h
  refine ⟨?_, fun k hk => ?_⟩
  · simp only [confRange, withinB, Bool.and_eq_true, decide_eq_true_eq] at h1; omega
  · have h3 := List.all_eq_true.1 h2 k (List.mem_range.2 hk)
    unfold compOk at h3
    rw [List.getElem?_eq_getElem hk] at h3
    simp only [Bool.and_eq_true] at h3
    obtain ⟨⟨_, h4⟩, h5⟩ := h3
    simp only [withinB, decide_eq_true_eq] at h5
    simp only [nameB, Bool.and_eq_true, decide_eq_true_eq] at h4
    exact ⟨h5.1, h5.2, h4.1.2⟩

theorem sumSizes_bound {c : DConf} (h : confRight c = true) : ∀ k, k ≤ c.comps.length → 0 ≤ sumSizes (c.comps.take k) ∧ sumSizes (c.comps.take k) ≤ 64 * k
  | 0, _ => by simp [sumSizes]
  | k + 1, hk => by
    have h1 := sumSizes_bound h k (by omega)
    have h2 := (right_facts h).2 k (by omega)
    rw [sumSizes_succ (by omega)]; omega

theorem setsAt_bound {c : DConf} (h : confRight c = true) (k : Nat) : 1 ≤ setsAt c k ∧ setsAt c k ≤ 1024 ∧ setsAt c k ≤ c.entities := by
  have h1 := (right_facts h).1
  have h2 : (1 : Int) ≤ 2 ^ k := by exact_mod_cast Nat.one_le_two_pow
  unfold setsAt; omega
theorem setsAt_zero {c : DConf} (h : confRight c = true) : setsAt c 0 = 1 := by
  have h1 := (right_facts h).1
  unfold setsAt
  simp only [Int.pow_zero]; omega
theorem setsAt_succ {c : DConf} (h : confRight c = true) (k : Nat) : setsAt c (k + 1) = min (2 * setsAt c k) c.entities := by
  have h1 := (right_facts h).1
  have h2 : (1 : Int) ≤ 2 ^ k := by exact_mod_cast Nat.one_le_two_pow
  unfold setsAt
  rw [Int.pow_succ]; omega

theorem mul_bounds {a b A B : Int} (h1 : 0 ≤ a) (h2 : a ≤ A) (h3 : 0 ≤ b) (h4 : b ≤ B) : 0 ≤ a * b ∧ a * b ≤ A * B :=
  ⟨Int.mul_nonneg h1 h3, Int.mul_le_mul h2 h4 h3 (by omega)⟩

theorem confBytes_length {c : DConf} (h : c.comps.length ≤ 32) : (confBytes c).length ≤ 2100000 := by
  have h1 := flatten_le compBytes 65551 compBytes_length c.comps
  have h2 := flatten_le (num 4) 8 (num_length 4) (headOf c)
  have h3 := num_length 1 c.comps.length
  have h4 : (headOf c).length = 4 := rfl
  simp only [confBytes, headBytes, List.length_append] at *; omega

theorem count_bounds {c : DConf} (h : confRight c = true) : 2 ≤ streamsOf c ∧ streamsOf c ≤ 33794 ∧ 0 ≤ dataOf c ∧ dataOf c ≤ 4300000 ∧ 0 ≤ pagesOf c ∧ pagesOf c ≤ 50000 ∧ 0 ≤ dirOf c ∧ dirOf c ≤ 10000 := by
  have h1 := right_facts h
  have h2 := setsAt_bound h c.comps.length
  have h3 := mul_bounds (a := setsAt c c.comps.length) (b := (c.comps.length : Int) + 1) (A := 1024) (B := 33) (by omega) (by omega) (by omega) (by omega)
  have h4 := sumSizes_bound h c.comps.length (Nat.le_refl _)
  rw [List.take_length] at h4
  have h5 := mul_bounds (a := c.entities) (b := 16 + sumSizes c.comps) (A := 1024) (B := 2064) (by omega) (by omega) (by omega) (by omega)
  have h6 := confBytes_length (c := c) (by omega)
  have hs : 2 ≤ streamsOf c ∧ streamsOf c ≤ 33794 := by unfold streamsOf; omega
  have hd : 0 ≤ dataOf c ∧ dataOf c ≤ 4300000 := by unfold dataOf; omega
  have hp : 0 ≤ pagesOf c ∧ pagesOf c ≤ 50000 := by unfold pagesOf; omega
  refine ⟨hs.1, hs.2, hd.1, hd.2, hp.1, hp.2, ?_⟩
  unfold dirOf pageCount
  split <;> omega
end Go.Proofs.Ytecdbfbaclgejaa
/- Walk of policy.count. -/
namespace Go.Proofs.Ytecdbfbaclgejaa
open Go.RowKit

theorem heap_setCell_row {w : World} {b i e : Nat} {cs : Array Value} {v : Value} {f : Nat × Nat} (h : w.heap[b]? = some (.cells cs e f)) : (w.setCell ⟨b, i, none⟩ v).heap[b]? = some (.cells (cs.setIfInBounds i v) e f) := by
  simp [World.setCell, Array.getElem?_modify, h]

set_option maxRecDepth 100000 in
set_option maxHeartbeats 4000000 in
/-- policy.count -/
theorem pcount_calls {Q : Nat → Prop} {w : World} {v : Value} {c : DConf} (hx : rConf.val Q w v c) (hr : confRight c = true) :
    Calls Try.prog 122 #[v] w fun e w' => e = .returned (.agg #[.int .i64 (streamsOf c), .int .i64 (dataOf c), .int .i64 (pagesOf c), .int .i64 (dirOf c)]) ∧ Below w.heap.size w w' := by
  obtain ⟨A, cap, rfl, f0, f1, f2, f3, hc1, hc2, hA⟩ := rConf_val hx
  unfold maxLen at hc2
  have RF := Lib.hid (right_facts hr)
  have SB := Lib.hid (sumSizes_bound hr)
  have TB := Lib.hid (setsAt_bound hr)
  have TZ := Lib.hid (setsAt_zero hr)
  have TS := Lib.hid (setsAt_succ hr)
  have CB := Lib.hid (count_bounds hr)
  have HX := Lib.hid hA
  clear hx hA hr
  go_enter Try.func122, Try.ntmps122
  go_wp2_with fail
  obtain ⟨W1, hW1⟩ : ∃ W1, (w.alloc (.cells #[.int .i64 c.log, .int .i64 c.pages, .int .i64 c.entities, .int .i64 c.gens, .slice A c.comps.length cap] 88)).alloc (.cells #[.int .i64 0, .int .i64 0, .int .i64 0, .int .i64 0] 169) = W1 := ⟨_, rfl⟩
  have hbel : Below w.heap.size w W1 := by rw [← hW1]; exact ((Below.refl _ _).alloc (Nat.le_refl _) _).alloc (by simp) _
  have hsz : W1.heap.size = w.heap.size + 2 := by rw [← hW1]; simp
  have e0 : W1.cell? ⟨w.heap.size, 0, none⟩ = some (.int .i64 c.log) := by rw [← hW1]; simp
  have e1 : W1.cell? ⟨w.heap.size, 1, none⟩ = some (.int .i64 c.pages) := by rw [← hW1]; simp
  have e2 : W1.cell? ⟨w.heap.size, 2, none⟩ = some (.int .i64 c.entities) := by rw [← hW1]; simp
  have e3 : W1.cell? ⟨w.heap.size, 3, none⟩ = some (.int .i64 c.gens) := by rw [← hW1]; simp
  have e4 : W1.cell? ⟨w.heap.size, 4, none⟩ = some (.slice A c.comps.length cap) := by rw [← hW1]; simp
  have hR : W1.heap[w.heap.size + 1]? = some (.cells #[.int .i64 0, .int .i64 0, .int .i64 0, .int .i64 0] 169 (0, 0)) := by
    rw [← hW1]
    have := heap_alloc_new (w.alloc (.cells #[.int .i64 c.log, .int .i64 c.pages, .int .i64 c.entities, .int .i64 c.gens, .slice A c.comps.length cap] 88)) (.cells #[.int .i64 0, .int .i64 0, .int .i64 0, .int .i64 0] 169)
    rwa [World.size_alloc] at this
  rw [hW1]
  clear hW1
  have hrf := RF.out.1
  go_loopw [3, 11] (fun s i wr => ∃ k : Nat, i = .int .i64 k ∧ k ≤ c.comps.length ∧ s = .int .i64 (setsAt c k) ∧ wr = W1)
    (fun _ i _ => c.comps.length - (intOf i).toNat)
  case atStart => exact ⟨0, rfl, by omega, by rw [TZ.out], rfl⟩
  case round =>
    obtain ⟨k, rfl, hk, rfl, rfl⟩ := hrel
    by_cases hlt : (k : Int) < c.comps.length
    · have T := Lib.hid (TS.out k)
      have hb := TB.out k
      generalize setsAt c k = s at *
      by_cases h2 : 2 * s < c.entities
      · have T' := Lib.hid (show setsAt c (k + 1) = 2 * s by rw [T.out]; omega)
        go_wp2_with fail
        exact ⟨⟨k + 1, by go_num, by omega, by rw [T'.out], trivial⟩, by simp [intOf]; omega⟩
      · have T' := Lib.hid (show setsAt c (k + 1) = c.entities by rw [T.out]; omega)
        go_wp2_with fail
        exact ⟨⟨k + 1, by go_num, by omega, by rw [T'.out]; congr 1; split <;> omega, trivial⟩, by simp [intOf]; omega⟩
    · obtain rfl : k = c.comps.length := by omega
      rename World => W1
      clear hlt hk
      go_wp2_with fail
      go_loopw [4, 22] (fun s i wr => ∃ k : Nat, i = .int .i64 k ∧ k ≤ c.comps.length ∧ s = .int .i64 (16 + sumSizes (c.comps.take k)) ∧ Below (w.heap.size + 2) W1 wr)
        (fun _ i _ => c.comps.length - (intOf i).toNat)
      case atStart => exact ⟨0, rfl, by omega, rfl, Below.refl _ _⟩
      case round =>
        obtain ⟨k, rfl, hk, rfl, hb1⟩ := hrel
        by_cases hlt : (k : Int) < c.comps.length
        · have hk' : k < c.comps.length := by omega
          have hAw : rComp.At (fun b => b < w.heap.size) wr A c.comps := Rep.At.keep (w := w) (fun b _ hb => ⟨hb.lt, (hb1.block b (by have := hb.lt; omega)).trans (hbel.block b hb.lt)⟩) HX.out
          obtain ⟨b, off, rfl, hbc, cx0, cx1, g0, g1⟩ := rComp_at hAw (List.getElem?_eq_getElem hk')
          have T := Lib.hid (sumSizes_succ hk')
          have hsb := SB.out k (by omega)
          have hxb := RF.out.2 k hk'
          generalize c.comps[k] = x at *
          generalize sumSizes (c.comps.take k) = s at *
          have HB1 := Lib.hid hb1
          clear hAw hb1
          go_wp2_with fail
          exact ⟨⟨k + 1, by go_num, by omega, by rw [T.out, Int.add_assoc], HB1.out.alloc (by have := HB1.out.size; omega) _⟩, by simp [intOf]; omega⟩
        · obtain rfl : k = c.comps.length := by omega
          rw [List.take_length]
          have hsb := SB.out c.comps.length (by omega)
          rw [List.take_length] at hsb
          have hE4 := (hb1.cell (p := ⟨w.heap.size, 4, none⟩) (show w.heap.size < w.heap.size + 2 by omega)).trans e4
          have hE2 := (hb1.cell (p := ⟨w.heap.size, 2, none⟩) (show w.heap.size < w.heap.size + 2 by omega)).trans e2
          have hlw : w.heap.size < wr.heap.size := by have := hb1.size; omega
          have hca : ∀ o, (wr.alloc o).cell? ⟨w.heap.size, 4, none⟩ = some (.slice A c.comps.length cap) := fun o => (World.cell?_of_block (w := wr) (Below.heap_alloc _ _ _ hlw)).trans hE4
          have hset := TB.out c.comps.length
          have hm := mul_bounds (a := setsAt c c.comps.length) (b := (c.comps.length : Int) + 1) (A := 1024) (B := 33) (by omega) (by omega) (by omega) (by omega)
          go_wp2_with fail
          obtain ⟨W5, hW5⟩ : ∃ W5, wr.alloc (.cells #[.int .i64 (2 + setsAt c c.comps.length * (c.comps.length + 1)), .int .i64 0, .int .i64 0, .int .i64 0] 169) = W5 := ⟨_, rfl⟩
          have hb5 : Below wr.heap.size wr W5 := by rw [← hW5]; exact (Below.refl _ _).alloc (Nat.le_refl _) _
          have hs5 : W5.heap.size = wr.heap.size + 1 := by rw [← hW5]; simp
          have hR5 : W5.heap[wr.heap.size]? = some (.cells #[.int .i64 (2 + setsAt c c.comps.length * (c.comps.length + 1)), .int .i64 0, .int .i64 0, .int .i64 0] 169 (0, 0)) := by rw [← hW5]; exact heap_alloc_new _ _
          rw [hW5]
          have hst : 2 + setsAt c c.comps.length * (c.comps.length + 1) = streamsOf c := rfl
          rw [hst] at hR5
          rw [hst]
          have B5 := Lib.hid (((Below.refl (w.heap.size + 2) W1).trans hb1).trans (hb5.mono (by have := hb1.size; omega)))
          have hdat : dataOf c = (confBytes c).length + 8 + c.entities * (16 + sumSizes c.comps) := rfl
          have hcbl := confBytes_length (c := c) (by omega)
          have hm2 := mul_bounds (a := c.entities) (b := 16 + sumSizes c.comps) (A := 1024) (B := 2064) (by omega) (by omega) (by omega) (by omega)
          have HVal := Lib.hid (show ∀ W, Below W5.heap.size W5 W → rConf.val (fun _ => True) W (.agg #[.int .i64 c.log, .int .i64 c.pages, .int .i64 c.entities, .int .i64 c.gens, .slice A c.comps.length cap]) c from
            fun W hW => rConf_agg f0 f1 f2 f3 ⟨hc1, by unfold maxLen; omega, HX.out.keep (w := w) (w' := W) fun b _ hb => ⟨trivial, (hW.block b (by have := hb.lt; have := B5.out.size; omega)).trans ((B5.out.block b (by have := hb.lt; omega)).trans (hbel.block b hb.lt))⟩⟩)
          have HP := Lib.hid (show ∀ W, Below W5.heap.size W5 W → Calls Try.prog 177 #[.agg #[.int .i64 c.log, .int .i64 c.pages, .int .i64 c.entities, .int .i64 c.gens, .slice A c.comps.length cap]] W (Res Rep.byte.list (fun b => W.heap.size ≤ b) W (confBytes c)) from
            fun W hW => cput_calls (HVal.out W hW) (by omega))
          generalize confBytes c = bs at hdat hcbl HP
          have q1 : IntKind.i64.wrap ((bs.length : Int) + 8) = bs.length + 8 := IntWalk.i64_in _ ⟨by omega, by omega⟩
          have q2 : IntKind.i64.wrap (c.entities * (16 + sumSizes c.comps)) = c.entities * (16 + sumSizes c.comps) := IntWalk.i64_in _ ⟨by omega, by omega⟩
          have q3 : IntKind.i64.wrap ((bs.length : Int) + 8 + c.entities * (16 + sumSizes c.comps)) = bs.length + 8 + c.entities * (16 + sumSizes c.comps) := IntWalk.i64_in _ ⟨by omega, by omega⟩
          have KS := Lib.hid (show ∀ w', Below wr.heap.size wr w' → w'.cell? ⟨w.heap.size, 0, none⟩ = some (.int .i64 c.log) ∧ w'.cell? ⟨w.heap.size, 1, none⟩ = some (.int .i64 c.pages) ∧ w'.cell? ⟨w.heap.size, 2, none⟩ = some (.int .i64 c.entities) ∧ w'.cell? ⟨w.heap.size, 3, none⟩ = some (.int .i64 c.gens) ∧ w'.cell? ⟨w.heap.size, 4, none⟩ = some (.slice A c.comps.length cap) ∧ Below wr.heap.size wr w' from fun w' h => by
            have hB : ∀ i, w'.cell? ⟨w.heap.size, i, none⟩ = W1.cell? ⟨w.heap.size, i, none⟩ := fun i => (h.cell (p := ⟨w.heap.size, i, none⟩) hlw).trans (hb1.cell (p := ⟨w.heap.size, i, none⟩) (show w.heap.size < w.heap.size + 2 by omega))
            exact ⟨(hB 0).trans e0, (hB 1).trans e1, (hB 2).trans e2, (hB 3).trans e3, (hB 4).trans e4, h⟩)
          have hle5 : wr.heap.size ≤ W5.drew.heap.size := show wr.heap.size ≤ W5.heap.size by omega
          clear hW5 hst hm hset hE4 hE2 hca e0 e1 e2 e3 e4
          go_region_held3 (fun w' => w'.cell? ⟨w.heap.size, 0, none⟩ = some (.int .i64 c.log) ∧ w'.cell? ⟨w.heap.size, 1, none⟩ = some (.int .i64 c.pages) ∧ w'.cell? ⟨w.heap.size, 2, none⟩ = some (.int .i64 c.entities) ∧ w'.cell? ⟨w.heap.size, 3, none⟩ = some (.int .i64 c.gens) ∧ w'.cell? ⟨w.heap.size, 4, none⟩ = some (.slice A c.comps.length cap) ∧ Below wr.heap.size wr w')
            (first
              | exact KS.out _ hb5.drew
              | exact KS.out _ (hb5.drew.trans (hbp.mono hle5))
              | exact KS.out _ ((hb5.drew.trans (hbp.mono hle5)).setCell (p := ⟨wr.heap.size, 1, none⟩) (Nat.le_refl _) _))
            (first
              | (go_at_call 177; refine (HP.out _ (Below.refl _ _).drew).mono ?_; rintro e w6 ⟨u6, rfl, hu6, hbp⟩; obtain ⟨A6, c6, rfl, _, _, _⟩ := Rep.val_list hu6; have hR6 := (hbp.block wr.heap.size (Nat.lt_of_lt_of_eq (Nat.lt_succ_self _) hs5.symm)).trans hR5; have hc71 : w6.cell? ⟨wr.heap.size, 1, none⟩ = some (.int .i64 0) := (by simp [World.cell?, hR6]); have hf71 : w6.frozen? ⟨wr.heap.size, 1, none⟩ = false := (by simp [World.frozen?, hR6])))
          rename_i hHeld
          rw [← hdat]
          obtain ⟨W7, hW7⟩ : ∃ W7, w6.setCell ⟨wr.heap.size, 1, none⟩ (.int .i64 (dataOf c)) = W7 := ⟨_, rfl⟩
          have hR7 : W7.heap[wr.heap.size]? = some (.cells #[.int .i64 (streamsOf c), .int .i64 (dataOf c), .int .i64 0, .int .i64 0] 169 (0, 0)) := by
            rw [← hW7, heap_setCell_row hR6]; rfl
          have B7 : Below wr.heap.size wr W7 := by rw [← hW7, hdat]; exact hHeld.2.2.2.2.2
          have hQ7 : W7.heap[w.heap.size + 1]? = some (.cells #[.int .i64 0, .int .i64 0, .int .i64 0, .int .i64 0] 169 (0, 0)) := (B7.block _ (by have := hb1.size; omega)).trans ((hb1.block _ (by omega)).trans hR)
          rw [hW7]
          have B0 := Lib.hid ((hbel.trans (hb1.mono (by omega))).trans (B7.mono (by omega)))
          have h70 : W7.cell? ⟨wr.heap.size, 0, none⟩ = some (.int .i64 (streamsOf c)) := by simp [World.cell?, hR7]
          have h71 : W7.cell? ⟨wr.heap.size, 1, none⟩ = some (.int .i64 (dataOf c)) := by simp [World.cell?, hR7]
          have h72 : W7.cell? ⟨wr.heap.size, 2, none⟩ = some (.int .i64 0) := by simp [World.cell?, hR7]
          have h73 : W7.cell? ⟨wr.heap.size, 3, none⟩ = some (.int .i64 0) := by simp [World.cell?, hR7]
          have z72 : W7.frozen? ⟨wr.heap.size, 2, none⟩ = false := by simp [World.frozen?, hR7]
          have z73 : W7.frozen? ⟨wr.heap.size, 3, none⟩ = false := by simp [World.frozen?, hR7]
          have r0 : W7.cell? ⟨w.heap.size + 1, 0, none⟩ = some (.int .i64 0) := by simp [World.cell?, hQ7]
          have r1 : W7.cell? ⟨w.heap.size + 1, 1, none⟩ = some (.int .i64 0) := by simp [World.cell?, hQ7]
          have r2 : W7.cell? ⟨w.heap.size + 1, 2, none⟩ = some (.int .i64 0) := by simp [World.cell?, hQ7]
          have r3 : W7.cell? ⟨w.heap.size + 1, 3, none⟩ = some (.int .i64 0) := by simp [World.cell?, hQ7]
          have y0 : W7.frozen? ⟨w.heap.size + 1, 0, none⟩ = false := by simp [World.frozen?, hQ7]
          have y1 : W7.frozen? ⟨w.heap.size + 1, 1, none⟩ = false := by simp [World.frozen?, hQ7]
          have y2 : W7.frozen? ⟨w.heap.size + 1, 2, none⟩ = false := by simp [World.frozen?, hQ7]
          have y3 : W7.frozen? ⟨w.heap.size + 1, 3, none⟩ = false := by simp [World.frozen?, hQ7]
          have hne : wr.heap.size ≠ w.heap.size + 1 := by have := hb1.size; omega
          have hpg : streamsOf c + dataOf c / 472 = pagesOf c := rfl
          have hdir : pageCount (2 + 16 * streamsOf c + 2 * pagesOf c) = dirOf c := rfl
          have hcb := CB.out
          have P1 := Lib.hid hpg
          have P2 := Lib.hid hdir
          have hpb : streamsOf c + dataOf c / 472 ≤ 50000 := by omega
          clear hW7 hR7 hQ7 hHeld hR6 hR5 hR hdat hdir hpg hu6 hc71 hf71 B7 hbp q1 q2 q3 KS HP hb5 hb1
          go_wp2_with (go_at_call 20; rw [P1.out]; refine (count_calls _ _ (by omega) (by omega)).mono ?_; rintro e w' ⟨rfl, rfl⟩; rw [P2.out])
          have hfr : Try.f122.results = #[.cell 2 169] := rfl
          refine ⟨rfl, .agg #[.int .i64 (streamsOf c), .int .i64 (dataOf c), .int .i64 (pagesOf c), .int .i64 (dirOf c)], ?_, rfl, ?_⟩
          · simp only [results, hfr]
            go_simp
          · refine (((((B0.out.setCell (p := ⟨wr.heap.size, 2, none⟩) ?_ _).setCell (p := ⟨wr.heap.size, 3, none⟩) ?_ _).setCell (p := ⟨w.heap.size + 1, 0, none⟩) ?_ _).setCell (p := ⟨w.heap.size + 1, 1, none⟩) ?_ _).setCell (p := ⟨w.heap.size + 1, 2, none⟩) ?_ _).setCell (p := ⟨w.heap.size + 1, 3, none⟩) ?_ _ <;> (dsimp only; omega)
end Go.Proofs.Ytecdbfbaclgejaa
/- Walk of the reference's counts. -/
namespace Go.Proofs.Ytecdbfbaclgejaa
open Go.RowKit

theorem pow_le {k n : Nat} (h : k ≤ n) : (2 : Int) ^ k ≤ 2 ^ n := by exact_mod_cast Nat.pow_le_pow_right (by decide) h
theorem setsAt_full {c : DConf} {k n : Nat} (hk : k ≤ n) (h : c.entities ≤ 2 ^ k) : setsAt c n = c.entities := by
  have := pow_le hk
  unfold setsAt; omega
theorem setsAt_pow {c : DConf} {n : Nat} (h : 2 ^ n ≤ c.entities) : setsAt c n = 2 ^ n := by unfold setsAt; omega
theorem data_sum (e s l : Int) : l + 8 + 16 * e + e * s = l + 8 + e * (16 + s) := by rw [Int.mul_add]; omega
theorem mul_step (e s x b : Int) : b + e * s + e * x = b + e * (s + x) := by rw [Int.mul_add]; omega

set_option maxRecDepth 100000 in
set_option maxHeartbeats 4000000 in
/-- ref28.counts -/
theorem rcounts_calls {Q : Nat → Prop} {w : World} {v : Value} {c : DConf} (hx : rConf.val Q w v c) (hr : confRight c = true) :
    Calls Try.prog 123 #[v] w fun e w' => e = .returned (.tuple #[.int .i64 (streamsOf c), .int .i64 (pagesOf c), .int .i64 (dirOf c)]) ∧ Below w.heap.size w w' := by
  obtain ⟨A, cap, rfl, f0, f1, f2, f3, hc1, hc2, hA⟩ := rConf_val hx
  unfold maxLen at hc2
  have RF := Lib.hid (right_facts hr)
  have SB := Lib.hid (sumSizes_bound hr)
  have TB := Lib.hid (setsAt_bound hr)
  have CB := Lib.hid (count_bounds hr)
  have hrf := RF.out.1
  obtain ⟨W1, hW1⟩ : ∃ W1, w.alloc (.cells #[.int .i64 c.log, .int .i64 c.pages, .int .i64 c.entities, .int .i64 c.gens, .slice A c.comps.length cap] 88) = W1 := ⟨_, rfl⟩
  have hbel : Below w.heap.size w W1 := by rw [← hW1]; exact (Below.refl _ _).alloc (Nat.le_refl _) _
  have hsz : W1.heap.size = w.heap.size + 1 := by rw [← hW1]; simp
  have e0 : W1.cell? ⟨w.heap.size, 0, none⟩ = some (.int .i64 c.log) := by rw [← hW1]; simp
  have e1 : W1.cell? ⟨w.heap.size, 1, none⟩ = some (.int .i64 c.pages) := by rw [← hW1]; simp
  have e2 : W1.cell? ⟨w.heap.size, 2, none⟩ = some (.int .i64 c.entities) := by rw [← hW1]; simp
  have e3 : W1.cell? ⟨w.heap.size, 3, none⟩ = some (.int .i64 c.gens) := by rw [← hW1]; simp
  have e4 : W1.cell? ⟨w.heap.size, 4, none⟩ = some (.slice A c.comps.length cap) := by rw [← hW1]; simp
  have HX := Lib.hid hA
  clear hx hA hr
  go_enter Try.func123, Try.ntmps123
  go_wp2_with fail
  try rw [hW1]
  clear hW1
  go_wp2_with fail
  go_loopw [5, 6] (fun s i wr => ∃ (k : Nat) (p : Int), i = .int .i64 k ∧ k ≤ c.comps.length ∧ s = .int .i64 p ∧ Hid (p = 2 ^ k) ∧ 1 ≤ p ∧ p ≤ 2048 ∧ wr = W1)
    (fun _ i _ => c.comps.length - (intOf i).toNat)
  case atStart => exact ⟨0, 1, rfl, by omega, rfl, rfl, by omega, by omega, rfl⟩
  case round =>
    obtain ⟨k, p, rfl, hk, rfl, hp, hp1, hp2, rfl⟩ := hrel
    by_cases hcont : (k : Int) < c.comps.length ∧ p < c.entities
    · obtain ⟨i1, i2⟩ := hcont
      have T := Lib.hid (show 2 * p = 2 ^ (k + 1) by rw [hp.out, Int.pow_succ]; omega)
      go_wp2_with fail
      exact ⟨⟨k + 1, _, by go_num, by omega, rfl, T, by omega, by omega, trivial⟩, by simp [intOf]; omega⟩
    · obtain ⟨st, hst⟩ : ∃ st, st = setsAt c c.comps.length := ⟨_, rfl⟩
      have hS : st = if c.entities < p then c.entities else p := by
        rw [hst]
        split
        · exact setsAt_full hk (by rw [← hp.out]; omega)
        · by_cases hke : (k : Int) < c.comps.length
          · have : p = c.entities := by omega
            rw [setsAt_full hk (by rw [← hp.out]; omega), this]
          · obtain rfl : k = c.comps.length := by omega
            rw [setsAt_pow (by rw [← hp.out]; omega), hp.out]
      have hstb := TB.out c.comps.length
      rw [← hst] at hstb
      have hstr : 2 + st * (c.comps.length + 1) = streamsOf c := by rw [hst]; rfl
      have HS := Lib.hid hS
      have HSTR := Lib.hid hstr
      have hm := mul_bounds (a := st) (b := (c.comps.length : Int) + 1) (A := 1024) (B := 33) (by omega) (by omega) (by omega) (by omega)
      clear hS hst hstr
      rename World => W1
      have hl1 : w.heap.size < W1.heap.size := by omega
      have hcbl := confBytes_length (c := c) (by omega)
      have HVal := Lib.hid (show ∀ W, Below W1.heap.size W1 W → rConf.val (fun _ => True) W (.agg #[.int .i64 c.log, .int .i64 c.pages, .int .i64 c.entities, .int .i64 c.gens, .slice A c.comps.length cap]) c from
        fun W hW => rConf_agg f0 f1 f2 f3 ⟨hc1, by unfold maxLen; omega, HX.out.keep (w := w) (w' := W) fun b _ hb => ⟨trivial, (hW.block b (by have := hb.lt; omega)).trans (hbel.block b hb.lt)⟩⟩)
      have HP := Lib.hid (show ∀ W, Below W1.heap.size W1 W → Calls Try.prog 178 #[.agg #[.int .i64 c.log, .int .i64 c.pages, .int .i64 c.entities, .int .i64 c.gens, .slice A c.comps.length cap]] W (Res Rep.byte.list (fun b => W.heap.size ≤ b) W (confBytes c)) from
        fun W hW => rcput_calls (HVal.out W hW) (by omega))
      have HD := Lib.hid (show dataOf c = (confBytes c).length + 8 + 16 * c.entities + c.entities * sumSizes c.comps by rw [data_sum]; rfl)
      generalize confBytes c = bs at HD hcbl HP
      have q1 : IntKind.i64.wrap ((bs.length : Int) + 8) = bs.length + 8 := IntWalk.i64_in _ ⟨by omega, by omega⟩
      have q2 : IntKind.i64.wrap (16 * c.entities) = 16 * c.entities := IntWalk.i64_in _ ⟨by omega, by omega⟩
      have q3 : IntKind.i64.wrap ((bs.length : Int) + 8 + 16 * c.entities) = bs.length + 8 + 16 * c.entities := IntWalk.i64_in _ ⟨by omega, by omega⟩
      have KS := Lib.hid (show ∀ w', Below W1.heap.size W1 w' → w'.cell? ⟨w.heap.size, 0, none⟩ = some (.int .i64 c.log) ∧ w'.cell? ⟨w.heap.size, 1, none⟩ = some (.int .i64 c.pages) ∧ w'.cell? ⟨w.heap.size, 2, none⟩ = some (.int .i64 c.entities) ∧ w'.cell? ⟨w.heap.size, 3, none⟩ = some (.int .i64 c.gens) ∧ w'.cell? ⟨w.heap.size, 4, none⟩ = some (.slice A c.comps.length cap) ∧ Below W1.heap.size W1 w' from fun w' h =>
        ⟨(h.cell (p := ⟨w.heap.size, 0, none⟩) hl1).trans e0, (h.cell (p := ⟨w.heap.size, 1, none⟩) hl1).trans e1, (h.cell (p := ⟨w.heap.size, 2, none⟩) hl1).trans e2, (h.cell (p := ⟨w.heap.size, 3, none⟩) hl1).trans e3, (h.cell (p := ⟨w.heap.size, 4, none⟩) hl1).trans e4, h⟩)
      have hcase : ((k : Int) < c.comps.length ∧ c.entities ≤ p) ∨ ¬ (k : Int) < c.comps.length := by omega
      obtain ⟨x5, hx5⟩ : ∃ x5 : Int, x5 = st := ⟨_, rfl⟩
      rcases hcase with ⟨i1, i2⟩ | i1 <;> by_cases i3 : c.entities < p
      all_goals
        have hv := HS.out
        simp only [i3, if_true, if_false] at hv
        rw [hv] at hm
        rw [hv] at HSTR
        have hh := HSTR.out
        clear hv HS hx5
        go_wp2_with fail
        try rw [hh]
        clear hh
        go_region_held3 (fun w' => w'.cell? ⟨w.heap.size, 0, none⟩ = some (.int .i64 c.log) ∧ w'.cell? ⟨w.heap.size, 1, none⟩ = some (.int .i64 c.pages) ∧ w'.cell? ⟨w.heap.size, 2, none⟩ = some (.int .i64 c.entities) ∧ w'.cell? ⟨w.heap.size, 3, none⟩ = some (.int .i64 c.gens) ∧ w'.cell? ⟨w.heap.size, 4, none⟩ = some (.slice A c.comps.length cap) ∧ Below W1.heap.size W1 w')
          (first
            | exact KS.out _ (Below.refl _ _).drew
            | exact KS.out _ ((Below.refl _ _).drew.trans hbp))
          (first
            | (go_at_call 178; refine (HP.out _ (Below.refl _ _).drew).mono ?_; rintro e w6 ⟨u6, rfl, hu6, hbp⟩; obtain ⟨A6, c6, rfl, _, _, _⟩ := Rep.val_list hu6))
        rename_i hHeld
        have hb6 := hHeld.2.2.2.2.2
        clear hHeld q1 q2 q3 hbp hu6 e0 e1 e3
        go_wp2_with fail
        go_loopw [8, 9] (fun s i wr => ∃ (k : Nat), i = .int .i64 k ∧ k ≤ c.comps.length ∧ s = .int .i64 ((bs.length : Int) + 8 + 16 * c.entities + c.entities * sumSizes (c.comps.take k)) ∧ Below W1.heap.size W1 wr)
          (fun _ i _ => c.comps.length - (intOf i).toNat)
        case atStart => exact ⟨0, rfl, by omega, by simp [sumSizes], hb6⟩
        case round =>
          obtain ⟨j, rfl, hj, rfl, hb1⟩ := hrel
          have E2 := (hb1.cell (p := ⟨w.heap.size, 2, none⟩) hl1).trans e2
          have E4 := (hb1.cell (p := ⟨w.heap.size, 4, none⟩) hl1).trans e4
          by_cases hlt : (j : Int) < c.comps.length
          · have hj' : j < c.comps.length := by omega
            have hAw : rComp.At (fun b => b < w.heap.size) wr A c.comps := Rep.At.keep (w := w) (fun b _ hb => ⟨hb.lt, (hb1.block b (by have := hb.lt; omega)).trans (hbel.block b hb.lt)⟩) HX.out
            obtain ⟨b, off, rfl, hbc, cx0, cx1, g0, g1⟩ := rComp_at hAw (List.getElem?_eq_getElem hj')
            have T := Lib.hid (sumSizes_succ hj')
            have hsb := SB.out j (by omega)
            have hxb := RF.out.2 j hj'
            generalize c.comps[j] = x at *
            generalize sumSizes (c.comps.take j) = s at *
            have HB1 := Lib.hid hb1
            have m1 := mul_bounds (a := c.entities) (b := s) (A := 1024) (B := 2048) (by omega) (by omega) (by omega) (by omega)
            have m2 := mul_bounds (a := c.entities) (b := x.size) (A := 1024) (B := 64) (by omega) (by omega) (by omega) (by omega)
            have n1 : IntKind.i64.wrap (c.entities * x.size) = c.entities * x.size := IntWalk.i64_in _ ⟨by omega, by omega⟩
            have n2 : IntKind.i64.wrap ((bs.length : Int) + 8 + 16 * c.entities + c.entities * s + c.entities * x.size) = (bs.length : Int) + 8 + 16 * c.entities + c.entities * s + c.entities * x.size := IntWalk.i64_in _ ⟨by omega, by omega⟩
            clear hAw hb1
            go_wp2_with fail
            go_quiet (fail)
            go_wp2_with fail
            exact ⟨⟨j + 1, by go_num, by omega, by rw [T.out, mul_step], below_drewN HB1.out _⟩, by simp [intOf]; omega⟩
          · obtain rfl : j = c.comps.length := by omega
            rw [List.take_length, ← HD.out]
            have hcb := CB.out
            have P1 := Lib.hid (show streamsOf c + dataOf c / 472 = pagesOf c from rfl)
            have P2 := Lib.hid (show pageCount (2 + 16 * streamsOf c + 2 * pagesOf c) = dirOf c from rfl)
            have hpb : streamsOf c + dataOf c / 472 ≤ 50000 := by have := P1.out; omega
            have HB1 := Lib.hid hb1
            clear hb1
            go_wp2_with (go_at_call 21; rw [P1.out]; refine (rcount_calls _ _ (by omega) (by omega)).mono ?_; rintro e w' ⟨rfl, rfl⟩; rw [P2.out])
            go_ret3
            exact ⟨rfl, hbel.trans (HB1.out.mono (by omega))⟩
end Go.Proofs.Ytecdbfbaclgejaa
/- Walks of Most, Ample and Due, both. -/
namespace Go.Proofs.Ytecdbfbaclgejaa
open Go.RowKit

/-- A layout in a box, and what reads it. -/
structure InBox (W : World) (B : Nat) (c : DConf) (A : Option Addr) (cap : Nat) : Prop where
  c0 : W.cell? ⟨B, 0, none⟩ = some (.int .i64 c.log)
  c1 : W.cell? ⟨B, 1, none⟩ = some (.int .i64 c.pages)
  c2 : W.cell? ⟨B, 2, none⟩ = some (.int .i64 c.entities)
  c3 : W.cell? ⟨B, 3, none⟩ = some (.int .i64 c.gens)
  c4 : W.cell? ⟨B, 4, none⟩ = some (.slice A c.comps.length cap)
  val : rConf.val (fun b => b < B) W (.agg #[.int .i64 c.log, .int .i64 c.pages, .int .i64 c.entities, .int .i64 c.gens, .slice A c.comps.length cap]) c
theorem InBox.later {W W' : World} {B : Nat} {c : DConf} {A : Option Addr} {cap : Nat} (h : InBox W B c A cap) (hb : Below (B + 1) W W') : InBox W' B c A cap :=
  ⟨(hb.cell (p := ⟨B, 0, none⟩) (Nat.lt_succ_self _)).trans h.c0, (hb.cell (p := ⟨B, 1, none⟩) (Nat.lt_succ_self _)).trans h.c1, (hb.cell (p := ⟨B, 2, none⟩) (Nat.lt_succ_self _)).trans h.c2,
   (hb.cell (p := ⟨B, 3, none⟩) (Nat.lt_succ_self _)).trans h.c3, (hb.cell (p := ⟨B, 4, none⟩) (Nat.lt_succ_self _)).trans h.c4, Rep.val_keep (fun b hq _ => ⟨hq, hb.block b (by omega)⟩) h.val⟩
theorem InBox.made {Q : Nat → Prop} {w : World} {c : DConf} {A : Option Addr} {cap : Nat} (h : rConf.val Q w (.agg #[.int .i64 c.log, .int .i64 c.pages, .int .i64 c.entities, .int .i64 c.gens, .slice A c.comps.length cap]) c) (t : TypeId) :
    InBox (w.alloc (.cells #[.int .i64 c.log, .int .i64 c.pages, .int .i64 c.entities, .int .i64 c.gens, .slice A c.comps.length cap] t)) w.heap.size c A cap :=
  ⟨by simp, by simp, by simp, by simp, by simp, Rep.val_keep (w := w) (fun _ _ hl => ⟨hl.lt, Below.heap_alloc _ _ _ hl.lt⟩) h⟩

set_option maxRecDepth 100000 in
set_option maxHeartbeats 4000000 in
/-- policy.Most -/
theorem most_calls {Q : Nat → Prop} {w : World} {v : Value} {c : DConf} (hx : rConf.val Q w v c) :
    Calls Try.prog 54 #[v] w fun e w' => e = .returned (.int .i64 (mostOf c)) ∧ Below w.heap.size w w' := by
  obtain ⟨A, cap, rfl, _⟩ := rConf_val hx
  have hm := InBox.made hx 88
  have hbel : Below w.heap.size w (w.alloc (.cells #[.int .i64 c.log, .int .i64 c.pages, .int .i64 c.entities, .int .i64 c.gens, .slice A c.comps.length cap] 88)) := (Below.refl _ _).alloc (Nat.le_refl _) _
  have hsz : (w.alloc (.cells #[.int .i64 c.log, .int .i64 c.pages, .int .i64 c.entities, .int .i64 c.gens, .slice A c.comps.length cap] 88)).heap.size = w.heap.size + 1 := by simp
  generalize hW1 : w.alloc (.cells #[.int .i64 c.log, .int .i64 c.pages, .int .i64 c.entities, .int .i64 c.gens, .slice A c.comps.length cap] 88) = W1 at *
  have HM := Lib.hid hm
  have HB := Lib.hid hbel
  have HS := Lib.hid hsz
  obtain ⟨a0, a1, a2, a3, a4, _⟩ := hm
  clear hx hbel hsz
  cases hr : confRight c with
  | false =>
    have HR := Lib.hid hr
    have HF := Lib.hid (show mostOf c = 0 by unfold mostOf; rw [hr]; rfl)
    clear hr
    go_enter Try.func54, Try.ntmps54
    go_wp2_with (go_at_call 121; refine (check_calls HM.out.val).mono ?_; rintro e w2 ⟨rfl, hb2⟩; rw [HR.out])
    go_ret
    exact ⟨by rw [HF.out]; rfl, HB.out.trans (hb2.mono HB.out.size)⟩
  | true =>
    have HR := Lib.hid hr
    have CB := Lib.hid (count_bounds hr)
    have hcb := CB.out
    have HF := Lib.hid (show mostOf c = pagesOf c + dirOf c by unfold mostOf; rw [hr]; rfl)
    have HK := Lib.hid (show checkOf true = 0 from rfl)
    clear hr
    go_enter Try.func54, Try.ntmps54
    go_wp2_with (first
      | (go_at_call 121; refine (check_calls HM.out.val).mono ?_; rintro e w2 ⟨rfl, hb2⟩; rw [HR.out, HK.out]; obtain ⟨b0, b1, b2, b3, b4, hv2⟩ := HM.out.later (hb2.mono (Nat.le_of_eq HS.out.symm)))
      | (go_at_call 122; refine (pcount_calls hv2 HR.out).mono ?_; rintro e w3 ⟨rfl, hb3⟩))
    go_ret
    have hB := HB.out.trans (hb2.mono HB.out.size)
    have hB3 := hB.trans (hb3.mono hB.size)
    exact ⟨by rw [HF.out]; rfl, hB3.alloc hB3.size _⟩

set_option maxRecDepth 100000 in
set_option maxHeartbeats 4000000 in
/-- ref28.Most -/
theorem rmost_calls {Q : Nat → Prop} {w : World} {v : Value} {c : DConf} (hx : rConf.val Q w v c) :
    Calls Try.prog 55 #[v] w fun e w' => e = .returned (.int .i64 (mostOf c)) ∧ Below w.heap.size w w' := by
  obtain ⟨A, cap, rfl, _⟩ := rConf_val hx
  have hm := InBox.made hx 88
  have hbel : Below w.heap.size w (w.alloc (.cells #[.int .i64 c.log, .int .i64 c.pages, .int .i64 c.entities, .int .i64 c.gens, .slice A c.comps.length cap] 88)) := (Below.refl _ _).alloc (Nat.le_refl _) _
  have hsz : (w.alloc (.cells #[.int .i64 c.log, .int .i64 c.pages, .int .i64 c.entities, .int .i64 c.gens, .slice A c.comps.length cap] 88)).heap.size = w.heap.size + 1 := by simp
  generalize hW1 : w.alloc (.cells #[.int .i64 c.log, .int .i64 c.pages, .int .i64 c.entities, .int .i64 c.gens, .slice A c.comps.length cap] 88) = W1 at *
  have HM := Lib.hid hm
  have HB := Lib.hid hbel
  have HS := Lib.hid hsz
  obtain ⟨a0, a1, a2, a3, a4, _⟩ := hm
  clear hx hbel hsz
  cases hr : confRight c with
  | false =>
    have HR := Lib.hid hr
    have HF := Lib.hid (show mostOf c = 0 by unfold mostOf; rw [hr]; rfl)
    clear hr
    go_enter Try.func55, Try.ntmps55
    go_wp2_with (go_at_call 73; refine (right_calls HM.out.val).mono ?_; rintro e w2 ⟨rfl, hb2⟩; rw [HR.out]; obtain ⟨b0, b1, b2, b3, b4, hv2⟩ := HM.out.later (hb2.mono (Nat.le_of_eq HS.out.symm)))
    go_ret
    exact ⟨by rw [HF.out]; rfl, HB.out.trans (hb2.mono HB.out.size)⟩
  | true =>
    have HR := Lib.hid hr
    have CB := Lib.hid (count_bounds hr)
    have hcb := CB.out
    have HF := Lib.hid (show mostOf c = pagesOf c + dirOf c by unfold mostOf; rw [hr]; rfl)
    clear hr
    go_enter Try.func55, Try.ntmps55
    go_wp2_with (first
      | (go_at_call 73; refine (right_calls HM.out.val).mono ?_; rintro e w2 ⟨rfl, hb2⟩; rw [HR.out]; obtain ⟨b0, b1, b2, b3, b4, hv2⟩ := HM.out.later (hb2.mono (Nat.le_of_eq HS.out.symm)))
      | (go_at_call 123; refine (rcounts_calls hv2 HR.out).mono ?_; rintro e w3 ⟨rfl, hb3⟩))
    go_ret
    have hB := HB.out.trans (hb2.mono HB.out.size)
    exact ⟨by rw [HF.out]; rfl, hB.trans (hb3.mono hB.size)⟩

set_option maxRecDepth 100000 in
set_option maxHeartbeats 4000000 in
/-- ref28.Ample -/
theorem rample_calls {Q : Nat → Prop} {w : World} {v : Value} {c : DConf} (hx : rConf.val Q w v c) :
    Calls Try.prog 57 #[v] w fun e w' => e = .returned (.bool (ampleOf c)) ∧ Below w.heap.size w w' := by
  obtain ⟨A, cap, rfl, _⟩ := rConf_val hx
  have hm := InBox.made hx 88
  have hbel : Below w.heap.size w (w.alloc (.cells #[.int .i64 c.log, .int .i64 c.pages, .int .i64 c.entities, .int .i64 c.gens, .slice A c.comps.length cap] 88)) := (Below.refl _ _).alloc (Nat.le_refl _) _
  have hsz : (w.alloc (.cells #[.int .i64 c.log, .int .i64 c.pages, .int .i64 c.entities, .int .i64 c.gens, .slice A c.comps.length cap] 88)).heap.size = w.heap.size + 1 := by simp
  generalize hW1 : w.alloc (.cells #[.int .i64 c.log, .int .i64 c.pages, .int .i64 c.entities, .int .i64 c.gens, .slice A c.comps.length cap] 88) = W1 at *
  have HM := Lib.hid hm
  have HB := Lib.hid hbel
  have HS := Lib.hid hsz
  obtain ⟨a0, a1, a2, a3, a4, _⟩ := hm
  clear hx hbel hsz
  cases hr : confRight c with
  | false =>
    have HR := Lib.hid hr
    have HF := Lib.hid (show ampleOf c = false by unfold ampleOf; rw [hr]; rfl)
    clear hr
    go_enter Try.func57, Try.ntmps57
    go_wp2_with (go_at_call 73; refine (right_calls HM.out.val).mono ?_; rintro e w2 ⟨rfl, hb2⟩; rw [HR.out]; obtain ⟨b0, b1, b2, b3, b4, hv2⟩ := HM.out.later (hb2.mono (Nat.le_of_eq HS.out.symm)))
    go_ret
    exact ⟨by rw [HF.out]; rfl, HB.out.trans (hb2.mono HB.out.size)⟩
  | true =>
    have HR := Lib.hid hr
    have CB := Lib.hid (count_bounds hr)
    have hcb := CB.out
    obtain ⟨r, hrr⟩ : ∃ r, r = ampleOf c := ⟨_, rfl⟩
    rw [← hrr]
    unfold ampleOf at hrr
    rw [hr, Bool.true_and] at hrr
    clear hr
    by_cases t1 : 3 * (pagesOf c + dirOf c) ≤ c.pages <;> by_cases t2 : dirOf c ≤ 222
    all_goals
      have HRR : r = _ := hrr
      simp only [t1, t2, decide_true, decide_false, Bool.and_self, Bool.and_false, Bool.and_true] at HRR
      clear hrr
      subst HRR
      go_enter Try.func57, Try.ntmps57
      go_wp2_with (first
        | (go_at_call 73; refine (right_calls HM.out.val).mono ?_; rintro e w2 ⟨rfl, hb2⟩; rw [HR.out]; obtain ⟨b0, b1, b2, b3, b4, hv2⟩ := HM.out.later (hb2.mono (Nat.le_of_eq HS.out.symm)))
        | (go_at_call 123; refine (rcounts_calls hv2 HR.out).mono ?_; rintro e w3 ⟨rfl, hb3⟩; have c1' := (hb3.cell (p := ⟨w.heap.size, 1, none⟩) (Nat.lt_of_lt_of_le (Nat.lt_of_lt_of_eq (Nat.lt_succ_self _) HS.out.symm) hb2.size)).trans b1))
      go_ret
      have hB := HB.out.trans (hb2.mono HB.out.size)
      exact ⟨by first | rfl | (rw [← (decide_eq_false (by omega) : decide (dirOf c ≤ 222) = false)]; rfl), hB.trans (hb3.mono hB.size)⟩
end Go.Proofs.Ytecdbfbaclgejaa
/- An element of an array by value. -/
namespace Go.Proofs.Ytecdbfbaclgejaa
open Go.RowKit

theorem idx_dir (w : World) (a b c d : Int) : (Instr.index 169 (.agg #[.int .i64 a, .int .i64 b, .int .i64 c, .int .i64 d]) (.int .i64 3)).run Try.prog w = .ok (.int .i64 d) w := by
  have h : Try.prog.underlying 169 = some (.array 4 3) := by kernel_rfl
  have hi : (Try.prog.info? 3).map (·.size) = some 1 := by kernel_rfl
  obtain ⟨i, hi1, hi2⟩ := Option.map_eq_some_iff.1 hi
  have h3 := Try.underlying3
  simp [Instr.index, run_underlying h, asIntOf, go_sem, part, sizeOf, typeInfo, hi1, hi2, isAgg, run_underlying h3]

set_option maxRecDepth 100000 in
/-- policy.Due, ref28.Due -/
def dueOf (p : DPolicy) (room frames : Int) : Bool := decide (room < p.room) || (decide (0 < p.frames) && decide (p.frames ≤ frames))

set_option maxRecDepth 100000 in
set_option maxHeartbeats 1000000 in
theorem due_calls {Q : Nat → Prop} {w : World} {v : Value} {p : DPolicy} {room frames : Int} (hx : rPolicy.val Q w v p) :
    Calls Try.prog 65 #[v, .int .i64 room, .int .i64 frames] w fun e w' => e = .returned (.bool (dueOf p room frames)) ∧ Below w.heap.size w w' := by
  obtain ⟨rfl, f0, f1⟩ := rPolicy_val hx
  clear hx
  obtain ⟨r, hr⟩ : ∃ r, r = dueOf p room frames := ⟨_, rfl⟩
  rw [← hr]
  unfold dueOf at hr
  rcases dec_split (room < p.room) with t1 | ⟨t1, d1⟩ <;> rcases dec_split (0 < p.frames) with t2 | ⟨t2, d2⟩ <;> rcases dec_split (p.frames ≤ frames) with t3 | ⟨t3, d3⟩
  all_goals
    simp [*] at hr
    subst hr
    go_enter Try.func65, Try.ntmps65
    go_wp2_with fail
    go_ret
    exact ⟨by first | rfl | (simp only [*]; rfl), (Below.refl _ _).alloc (Nat.le_refl _) _⟩
end Go.Proofs.Ytecdbfbaclgejaa
/- Walks of the checks of commands and of frames, both. -/
namespace Go.Proofs.Ytecdbfbaclgejaa
open Go.RowKit

def knownB (k : Int) : Bool := decide (0 ≤ k) && decide (k ≤ 3)
def checkCmd (x : DCmd) : Int := if knownB x.kind then (if 64 < x.data.length then 13 else 0) else 1
def firstBad : List DCmd → Int
  | [] => 0
  | x :: xs => if checkCmd x = 0 then firstBad xs else checkCmd x
def checkFrame (l : List DCmd) : Int := if 64 < l.length then 13 else firstBad l

theorem firstBad_none : ∀ {l : List DCmd}, (∀ x ∈ l, checkCmd x = 0) → firstBad l = 0
  | [], _ => rfl
  | x :: xs, h => by
    unfold firstBad
    rw [if_pos (h x (by simp))]
    exact firstBad_none fun y hy => h y (by simp [hy])
theorem firstBad_at : ∀ {l : List DCmd} {k : Nat} (hk : k < l.length), (∀ x ∈ l.take k, checkCmd x = 0) → checkCmd l[k] ≠ 0 → firstBad l = checkCmd l[k]
  | [], k, hk, _, _ => by simp at hk
  | x :: xs, 0, hk, _, h => by
    unfold firstBad
    rw [if_neg (show ¬ checkCmd x = 0 from h)]; rfl
  | x :: xs, k + 1, hk, h, h2 => by
    unfold firstBad
    rw [if_pos (h x (by simp))]
    exact firstBad_at (by simp at hk; omega) (fun y hy => h y (by simp [hy])) h2
theorem firstBad_zero : ∀ {l : List DCmd}, firstBad l = 0 → ∀ x ∈ l, checkCmd x = 0
  | [], _, x, hx => by simp at hx
  | y :: ys, h, x, hx => by
    unfold firstBad at h
    split at h
    · rename_i h0
      rcases List.mem_cons.1 hx with rfl | hx
      · exact h0
      · exact firstBad_zero h x hx
    · rename_i h0; exact absurd h h0

set_option maxRecDepth 100000 in
/-- cmd.known -/
theorem known_calls (k : Int) (w : World) :
    Calls Try.prog 220 #[.int .i64 k] w fun e w' => e = .returned (.bool (knownB k)) ∧ w' = w := by
  obtain ⟨r, hr⟩ : ∃ r, r = knownB k := ⟨_, rfl⟩
  rw [← hr]
  unfold knownB at hr
  rcases dec_split (0 ≤ k) with t1 | ⟨t1, d1⟩ <;> rcases dec_split (k ≤ 3) with t2 | ⟨t2, d2⟩
  all_goals
    simp [*] at hr
    subst hr
    go_enter Try.func220, Try.ntmps220
    go_wp2_with fail
    go_ret
    exact ⟨by first | rfl | (simp only [*]; rfl), rfl⟩

/-- A command in a box. -/
structure CmdBox (W : World) (B : Nat) (x : DCmd) (A : Option Addr) (c : Nat) : Prop where
  c0 : W.cell? ⟨B, 0, none⟩ = some (.int .i64 x.kind)
  c1 : W.cell? ⟨B, 1, none⟩ = some (.bool x.loc)
  c2 : W.cell? ⟨B, 2, none⟩ = some (.int .i64 x.id.index)
  c3 : W.cell? ⟨B, 3, none⟩ = some (.int .i64 x.id.gen)
  c4 : W.cell? ⟨B, 4, none⟩ = some (.int .i64 x.comp)
  c5 : W.cell? ⟨B, 5, none⟩ = some (.slice A x.data.length c)
  val : rCmd.val (fun b => b < B) W (.agg #[.int .i64 x.kind, .bool x.loc, .int .i64 x.id.index, .int .i64 x.id.gen, .int .i64 x.comp, .slice A x.data.length c]) x
theorem CmdBox.later {W W' : World} {B : Nat} {x : DCmd} {A : Option Addr} {c : Nat} (h : CmdBox W B x A c) (hb : Below (B + 1) W W') : CmdBox W' B x A c :=
  ⟨(hb.cell (p := ⟨B, 0, none⟩) (Nat.lt_succ_self _)).trans h.c0, (hb.cell (p := ⟨B, 1, none⟩) (Nat.lt_succ_self _)).trans h.c1, (hb.cell (p := ⟨B, 2, none⟩) (Nat.lt_succ_self _)).trans h.c2,
   (hb.cell (p := ⟨B, 3, none⟩) (Nat.lt_succ_self _)).trans h.c3, (hb.cell (p := ⟨B, 4, none⟩) (Nat.lt_succ_self _)).trans h.c4, (hb.cell (p := ⟨B, 5, none⟩) (Nat.lt_succ_self _)).trans h.c5, Rep.val_keep (fun b hq _ => ⟨hq, hb.block b (by omega)⟩) h.val⟩
theorem CmdBox.made {Q : Nat → Prop} {w : World} {x : DCmd} {A : Option Addr} {c : Nat} (h : rCmd.val Q w (.agg #[.int .i64 x.kind, .bool x.loc, .int .i64 x.id.index, .int .i64 x.id.gen, .int .i64 x.comp, .slice A x.data.length c]) x) (t : TypeId) :
    CmdBox (w.alloc (.cells #[.int .i64 x.kind, .bool x.loc, .int .i64 x.id.index, .int .i64 x.id.gen, .int .i64 x.comp, .slice A x.data.length c] t)) w.heap.size x A c :=
  ⟨by simp, by simp, by simp, by simp, by simp, by simp, Rep.val_keep (w := w) (fun _ _ hl => ⟨hl.lt, Below.heap_alloc _ _ _ hl.lt⟩) h⟩

set_option maxRecDepth 100000 in
set_option maxHeartbeats 1000000 in
/-- cmd.Check -/
theorem cmdCheck_calls {Q : Nat → Prop} {w : World} {v : Value} {x : DCmd} (hx : rCmd.val Q w v x) :
    Calls Try.prog 183 #[v] w fun e w' => e = .returned (.int .i64 (checkCmd x)) ∧ Below w.heap.size w w' := by
  obtain ⟨A, c, rfl, _, _, _, _, hs⟩ := rCmd_val hx
  have hm := CmdBox.made hx 179
  have hs1 := hs.1
  have hs2 := hs.2.1
  unfold maxLen at hs2
  have hbel : Below w.heap.size w (w.alloc (.cells #[.int .i64 x.kind, .bool x.loc, .int .i64 x.id.index, .int .i64 x.id.gen, .int .i64 x.comp, .slice A x.data.length c] 179)) := (Below.refl _ _).alloc (Nat.le_refl _) _
  obtain ⟨W1, hW1⟩ : ∃ W1, w.alloc (.cells #[.int .i64 x.kind, .bool x.loc, .int .i64 x.id.index, .int .i64 x.id.gen, .int .i64 x.comp, .slice A x.data.length c] 179) = W1 := ⟨_, rfl⟩
  rw [hW1] at hm hbel
  obtain ⟨c0, c1, c2, c3, c4, c5, _⟩ := hm
  have HB := Lib.hid hbel
  clear hbel hx hs
  cases hk : knownB x.kind
  case false =>
    have HK := Lib.hid hk
    have HF := Lib.hid (show checkCmd x = 1 by unfold checkCmd; rw [hk]; rfl)
    clear hk
    go_enter Try.func183, Try.ntmps183
    go_wp2_with fail
    try rw [hW1]
    clear hW1
    go_wp2_with fail
    go_wp2_with (go_at_call 220; refine (known_calls _ _).mono ?_; rintro e w' ⟨rfl, rfl⟩; rw [HK.out])
    try rw [Exit.noGoto_ret]
    go_ret
    exact ⟨by rw [HF.out]; rfl, HB.out⟩
  case true =>
    have HK := Lib.hid hk
    by_cases h64 : (64 : Int) < x.data.length
    · have HF := Lib.hid (show checkCmd x = 13 by unfold checkCmd; rw [hk, if_pos rfl, if_pos (by omega)])
      clear hk
      go_enter Try.func183, Try.ntmps183
      go_wp2_with fail
      try rw [hW1]
      clear hW1
      go_wp2_with fail
      go_wp2_with (go_at_call 220; refine (known_calls _ _).mono ?_; rintro e w' ⟨rfl, rfl⟩; rw [HK.out])
      try rw [Exit.noGoto_ret]
      go_ret
      exact ⟨by rw [HF.out]; rfl, HB.out⟩
    · have HF := Lib.hid (show checkCmd x = 0 by unfold checkCmd; rw [hk, if_pos rfl, if_neg (by omega)])
      clear hk
      go_enter Try.func183, Try.ntmps183
      go_wp2_with fail
      try rw [hW1]
      clear hW1
      go_wp2_with fail
      go_wp2_with (go_at_call 220; refine (known_calls _ _).mono ?_; rintro e w' ⟨rfl, rfl⟩; rw [HK.out])
      try rw [Exit.noGoto_ret]
      go_ret
      exact ⟨by rw [HF.out]; rfl, HB.out⟩

set_option maxRecDepth 100000 in
set_option maxHeartbeats 1000000 in
/-- ref13.Check -/
theorem rcmdCheck_calls {Q : Nat → Prop} {w : World} {v : Value} {x : DCmd} (hx : rCmd.val Q w v x) :
    Calls Try.prog 132 #[v] w fun e w' => e = .returned (.int .i64 (checkCmd x)) ∧ Below w.heap.size w w' := by
  obtain ⟨A, c, rfl, _, _, _, _, hs⟩ := rCmd_val hx
  have hm := CmdBox.made hx 179
  have hs1 := hs.1
  have hs2 := hs.2.1
  unfold maxLen at hs2
  have hbel : Below w.heap.size w (w.alloc (.cells #[.int .i64 x.kind, .bool x.loc, .int .i64 x.id.index, .int .i64 x.id.gen, .int .i64 x.comp, .slice A x.data.length c] 179)) := (Below.refl _ _).alloc (Nat.le_refl _) _
  obtain ⟨W1, hW1⟩ : ∃ W1, w.alloc (.cells #[.int .i64 x.kind, .bool x.loc, .int .i64 x.id.index, .int .i64 x.id.gen, .int .i64 x.comp, .slice A x.data.length c] 179) = W1 := ⟨_, rfl⟩
  rw [hW1] at hm hbel
  obtain ⟨c0, c1, c2, c3, c4, c5, _⟩ := hm
  have HB := Lib.hid hbel
  clear hbel hx hs
  obtain ⟨r, hr⟩ : ∃ r, r = checkCmd x := ⟨_, rfl⟩
  rw [← hr]
  unfold checkCmd knownB at hr
  rcases dec_split (x.kind < 0) with t1 | ⟨t1, d1⟩ <;> rcases dec_split (3 < x.kind) with t2 | ⟨t2, d2⟩ <;> rcases dec_split ((64 : Int) < x.data.length) with t3 | ⟨t3, d3⟩
  all_goals
    try omega
  all_goals
    simp at hr
    (first | rw [if_pos (by omega), if_pos (by omega)] at hr | rw [if_pos (by omega), if_neg (by omega)] at hr | rw [if_neg (by omega)] at hr)
    subst hr
    go_enter Try.func132, Try.ntmps132
    go_wp2_with fail
    try rw [hW1]
    clear hW1
    go_wp2_with fail
    go_ret
    exact ⟨by first | rfl | (simp only [*]; rfl), HB.out⟩
end Go.Proofs.Ytecdbfbaclgejaa
/- Walks of the checks of frames, both; what is too much; what a number of bytes needs; what is due. -/
namespace Go.Proofs.Ytecdbfbaclgejaa
open Go.RowKit

theorem checkFrame_long {l : List DCmd} (h : (64 : Int) < l.length) : checkFrame l = 13 := by unfold checkFrame; rw [if_pos (by omega)]
theorem checkFrame_bad {l : List DCmd} (h : ¬ (64 : Int) < l.length) {k : Nat} (hk : k < l.length) (h1 : ∀ x ∈ l.take k, checkCmd x = 0) (h2 : checkCmd l[k] ≠ 0) : checkFrame l = checkCmd l[k] := by
  unfold checkFrame; rw [if_neg (by omega)]; exact firstBad_at hk h1 h2
theorem checkFrame_good {l : List DCmd} (h : ¬ (64 : Int) < l.length) {k : Nat} (hk : ¬ k < l.length) (h1 : ∀ x ∈ l.take k, checkCmd x = 0) : checkFrame l = 0 := by
  unfold checkFrame; rw [if_neg (by omega)]
  rw [List.take_of_length_le (by omega)] at h1
  exact firstBad_none h1
theorem checks_more {l : List DCmd} {k : Nat} (hk : k < l.length) (h1 : ∀ x ∈ l.take k, checkCmd x = 0) (h2 : checkCmd l[k] = 0) : ∀ x ∈ l.take (k + 1), checkCmd x = 0 := by
  intro x hx
  rw [List.take_add_one, List.getElem?_eq_getElem hk] at hx
  rcases List.mem_append.1 hx with hx | hx
  · exact h1 x hx
  · simp at hx; rw [hx]; exact h2
theorem checkCmd_wf (x : DCmd) : (Lit.int .i64 (checkCmd x)).wf = true := by
  unfold checkCmd; split <;> (try split) <;> rfl

set_option maxRecDepth 100000 in
set_option maxHeartbeats 1000000 in
/-- frame.Check -/
theorem frameCheck_calls {Q : Nat → Prop} {w : World} {v : Value} {l : List DCmd} (hx : rCmd.list.val Q w v l) :
    Calls Try.prog 129 #[v] w fun e w' => e = .returned (.int .i64 (checkFrame l)) ∧ Below w.heap.size w w' := by
  obtain ⟨A, c, rfl, hc1, hc2, hA⟩ := Rep.val_list hx
  unfold maxLen at hc2
  by_cases hlong : (64 : Int) < l.length
  · have HF := Lib.hid (checkFrame_long hlong)
    clear hx hA
    go_enter Try.func129, Try.ntmps129
    go_wp2_with fail
    go_ret
    exact ⟨by rw [HF.out]; rfl, Below.refl _ _⟩
  · have HA := Lib.hid hA
    clear hx hA
    go_enter Try.func129, Try.ntmps129
    go_wp2_with fail
    go_loopw [11] (fun i wr => ∃ k : Nat, i = .int .i64 k ∧ k ≤ l.length ∧ Hid (∀ x ∈ l.take k, checkCmd x = 0) ∧ Below w.heap.size w wr)
      (fun i _ => l.length - (intOf i).toNat)
    case atStart => exact ⟨0, rfl, by omega, (by intro x hx; simp at hx), Below.refl _ _⟩
    case round =>
      obtain ⟨k, rfl, hk, hall, hb1⟩ := hrel
      by_cases hlt : (k : Int) < l.length
      · have hk' : k < l.length := by omega
        obtain ⟨b, off, A6, c6, rfl, _, d0, d1, d2, d3, d4, d5, f0, f1, f2, f3, sp⟩ := rCmd_at (HA.out.below hb1 fun _ _ h => h.lt) (List.getElem?_eq_getElem hk')
        have HBad := Lib.hid (checkFrame_bad (show ¬ (64 : Int) < l.length by omega) hk' hall)
        have HMore := Lib.hid (checks_more hk' hall)
        generalize l[k] = x at *
        have HV := Lib.hid (rCmd_agg f0 f1 f2 f3 sp)
        have HB1 := Lib.hid hb1
        clear sp f0 f1 f2 f3 hb1 hall
        have HB2 := Lib.hid (HB1.out.alloc HB1.out.size (.cells #[.int .i64 x.kind, .bool x.loc, .int .i64 x.id.index, .int .i64 x.id.gen, .int .i64 x.comp, .slice A6 x.data.length c6] 179))
        have HV2 := Lib.hid (Rep.val_keep (w' := wr.alloc (.cells #[.int .i64 x.kind, .bool x.loc, .int .i64 x.id.index, .int .i64 x.id.gen, .int .i64 x.comp, .slice A6 x.data.length c6] 179)) (fun _ _ hl => ⟨trivial, Below.heap_alloc _ _ _ hl.lt⟩) HV.out (Q' := fun _ => True))
        by_cases h0 : checkCmd x = 0
        · have H0 := Lib.hid h0
          clear h0
          go_wp2_with fail
          refine (cmdCheck_calls HV2.out).mono ?_
          rintro e w1 ⟨rfl, hb2⟩
          rw [H0.out]
          have HB3 := Lib.hid (HB2.out.trans (hb2.mono HB2.out.size))
          clear hb2
          go_wp2_with fail
          exact ⟨⟨k + 1, by go_num, by omega, HMore.out H0.out, HB3.out⟩, by simp [intOf]; omega⟩
        · have H0 := Lib.hid h0
          have HF := Lib.hid (HBad.out h0)
          have g0 : (checkCmd x == 0) = false := by simp [h0]
          clear h0
          go_wp2_with fail
          refine (cmdCheck_calls HV2.out).mono ?_
          rintro e w1 ⟨rfl, hb2⟩
          have HB3 := Lib.hid (HB2.out.trans (hb2.mono HB2.out.size))
          clear hb2
          go_wp2_with fail
          go_ret
          exact ⟨by rw [HF.out]; rfl, HB3.out⟩
      · have HF := Lib.hid (checkFrame_good (show ¬ (64 : Int) < l.length by omega) (show ¬ k < l.length by omega) hall)
        go_wp2_with fail
        go_ret
        exact ⟨by rw [HF.out]; rfl, hb1⟩

set_option maxRecDepth 100000 in
set_option maxHeartbeats 1000000 in
/-- ref14.Check -/
theorem rframeCheck_calls {Q : Nat → Prop} {w : World} {v : Value} {l : List DCmd} (hx : rCmd.list.val Q w v l) :
    Calls Try.prog 68 #[v] w fun e w' => e = .returned (.int .i64 (checkFrame l)) ∧ Below w.heap.size w w' := by
  obtain ⟨A, c, rfl, hc1, hc2, hA⟩ := Rep.val_list hx
  unfold maxLen at hc2
  by_cases hlong : (64 : Int) < l.length
  · have HF := Lib.hid (checkFrame_long hlong)
    clear hx hA
    go_enter Try.func68, Try.ntmps68
    go_wp2_with fail
    go_ret
    exact ⟨by rw [HF.out]; rfl, Below.refl _ _⟩
  · have HA := Lib.hid hA
    clear hx hA
    go_enter Try.func68, Try.ntmps68
    go_wp2_with fail
    go_loopw [3] (fun i wr => ∃ k : Nat, i = .int .i64 k ∧ k ≤ l.length ∧ Hid (∀ x ∈ l.take k, checkCmd x = 0) ∧ Below w.heap.size w wr)
      (fun i _ => l.length - (intOf i).toNat)
    case atStart => exact ⟨0, rfl, by omega, (by intro x hx; simp at hx), Below.refl _ _⟩
    case round =>
      obtain ⟨k, rfl, hk, hall, hb1⟩ := hrel
      by_cases hlt : (k : Int) < l.length
      · have hk' : k < l.length := by omega
        obtain ⟨b, off, A6, c6, rfl, _, d0, d1, d2, d3, d4, d5, f0, f1, f2, f3, sp⟩ := rCmd_at (HA.out.below hb1 fun _ _ h => h.lt) (List.getElem?_eq_getElem hk')
        have HBad := Lib.hid (checkFrame_bad (show ¬ (64 : Int) < l.length by omega) hk' hall)
        have HMore := Lib.hid (checks_more hk' hall)
        have HA1 := Lib.hid (HA.out.below hb1 fun _ _ h => h.lt)
        generalize hxx : l[k] = x at *
        have HX := Lib.hid ((List.getElem?_eq_getElem hk').trans (congrArg some hxx))
        have HV := Lib.hid (rCmd_agg f0 f1 f2 f3 sp)
        have HB1 := Lib.hid hb1
        clear sp f0 f1 f2 f3 hb1 hall hxx
        by_cases h0 : checkCmd x = 0
        · have H0 := Lib.hid h0
          clear h0
          go_wp2_with fail
          refine (rcmdCheck_calls HV.out).mono ?_
          rintro e w1 ⟨rfl, hb2⟩
          rw [H0.out]
          have HB3 := Lib.hid (HB1.out.trans (hb2.mono HB1.out.size))
          clear hb2
          go_wp2_with fail
          exact ⟨⟨k + 1, by go_num, by omega, HMore.out H0.out, HB3.out⟩, by simp [intOf]; omega⟩
        · have H0 := Lib.hid h0
          have HF := Lib.hid (HBad.out h0)
          have g0 : (checkCmd x == 0) = false := by simp [h0]
          clear h0
          go_wp2_with fail
          refine (rcmdCheck_calls HV.out).mono ?_
          rintro e w1 ⟨rfl, hb2⟩
          have HB3 := Lib.hid (HB1.out.trans (hb2.mono HB1.out.size))
          obtain ⟨b', off', A7, c7, he, _, z0, z1, z2, z3, z4, z5, f0, f1, f2, f3, sp⟩ := rCmd_at (HA1.out.below hb2 fun _ _ h => h.lt) HX.out
          cases he
          have HV2 := Lib.hid (rCmd_agg f0 f1 f2 f3 sp)
          clear hb2 d0 d1 d2 d3 d4 d5 sp f0 f1 f2 f3
          go_wp2_with fail
          refine (rcmdCheck_calls HV2.out).mono ?_
          rintro e w2 ⟨rfl, hb4⟩
          have HB4 := Lib.hid (HB3.out.trans (hb4.mono HB3.out.size))
          go_wp2_with fail
          go_ret
          exact ⟨by rw [HF.out]; rfl, HB4.out⟩
      · have HF := Lib.hid (checkFrame_good (show ¬ (64 : Int) < l.length by omega) (show ¬ k < l.length by omega) hall)
        go_wp2_with fail
        go_ret
        exact ⟨by rw [HF.out]; rfl, hb1⟩

def MuchCmds (w : World) (l : List DCmd) (e : Ending) (w' : World) : Prop := ∃ r : Bool, e = .returned (.bool r) ∧ (r = false → l.length ≤ 70) ∧ w' = w
set_option maxRecDepth 100000 in
/-- ref13.Much -/
theorem muchCmds_calls {Q : Nat → Prop} {w : World} {v : Value} {l : List DCmd} (hx : rCmd.list.val Q w v l) :
    Calls Try.prog 62 #[v] w (MuchCmds w l) := by
  obtain ⟨A, c, rfl, hc1, hc2, hA⟩ := Rep.val_list hx
  unfold maxLen at hc2
  have HA := Lib.hid hA
  clear hx hA
  go_enter Try.func62, Try.ntmps62
  go_wp2_with fail
  go_loop [3] (fun i => ∃ k : Nat, i = .int .i64 k ∧ k ≤ l.length ∧ k ≤ 100) (fun i => l.length - (intOf i).toNat)
  case atStart => exact ⟨0, rfl, by omega, by omega⟩
  case round =>
    obtain ⟨k, rfl, hk, hk5⟩ := hrel
    by_cases hlt : (k : Int) < l.length
    · by_cases h50 : (k : Int) < 100
      · have hk' : k < l.length := by omega
        obtain ⟨b, off, A6, c6, rfl, _, d0, d1, d2, d3, d4, d5, _, _, _, _, sp⟩ := rCmd_at HA.out (List.getElem?_eq_getElem hk')
        have hp1 := sp.1
        have hp2 := sp.2.1
        unfold maxLen at hp2
        generalize l[k] = x at *
        clear sp
        by_cases h2 : (200 : Int) < x.data.length
        · go_wp2_with fail
          go_ret
          exact ⟨true, rfl, (fun h => (by cases h)), rfl⟩
        · go_wp2_with fail
          go_round
          case rel => exact ⟨k + 1, by go_num, by omega, by omega⟩
          case measure => simp [intOf]; omega
      · have h20 : (70 : Int) < l.length := by omega
        go_wp2_with fail
        go_ret
        exact ⟨true, rfl, (fun h => (by cases h)), rfl⟩
    · by_cases h20 : (70 : Int) < l.length
      · go_wp2_with fail
        go_ret
        exact ⟨true, rfl, (fun h => (by cases h)), rfl⟩
      · go_wp2_with fail
        go_ret
        exact ⟨false, rfl, fun _ => by omega, rfl⟩

def needOf (n : Int) : Int := if n ≤ 460 then 1 else (n - 1) / 460 + 1
theorem need_large {n : Int} (h : 460 < n) (hb : n ≤ 9223372036854775807) : 2 ≤ needOf n ∧ needOf n ≤ n ∧ needOf n = (n - 1) / 460 + 1 := by
  unfold needOf; rw [if_neg (by omega)]; omega
set_option maxRecDepth 100000 in
/-- geom.Need -/
theorem need_calls {n : Int} (h0 : n ≤ 9223372036854775807) (w : World) :
    Calls Try.prog 130 #[.int .i64 n] w fun e w' => e = .returned (.int .i64 (needOf n)) ∧ w' = w := by
  by_cases h : n ≤ 460
  · have HF := Lib.hid (show needOf n = 1 by unfold needOf; rw [if_pos h])
    go_enter Try.func130, Try.ntmps130
    go_wp2_with fail
    go_ret
    exact ⟨by rw [HF.out]; rfl, rfl⟩
  · have HF := Lib.hid (need_large (by omega) h0).2.2
    go_enter Try.func130, Try.ntmps130
    go_wp2_with fail
    go_ret
    exact ⟨by rw [HF.out]; rfl, rfl⟩
set_option maxRecDepth 100000 in
/-- ref16.Need -/
theorem rneed_calls {n : Int} (h0 : n ≤ 9223372036854775807) (w : World) :
    Calls Try.prog 128 #[.int .i64 n] w fun e w' => e = .returned (.int .i64 (needOf n)) ∧ w' = w := by
  by_cases h : n < 1
  · have HF := Lib.hid (show needOf n = 1 by unfold needOf; rw [if_pos (by omega)])
    go_enter Try.func128, Try.ntmps128
    go_wp2_with fail
    go_ret
    exact ⟨by rw [HF.out]; rfl, rfl⟩
  · by_cases hr : 0 < n % 460
    · have HF := Lib.hid (show needOf n = n / 460 + 1 by unfold needOf; split <;> omega)
      go_enter Try.func128, Try.ntmps128
      go_wp2_with fail
      go_ret
      exact ⟨by rw [HF.out]; rfl, rfl⟩
    · have HF := Lib.hid (show needOf n = n / 460 by unfold needOf; split <;> omega)
      go_enter Try.func128, Try.ntmps128
      go_wp2_with fail
      go_ret
      exact ⟨by rw [HF.out]; rfl, rfl⟩

set_option maxRecDepth 100000 in
set_option maxHeartbeats 1000000 in
/-- ref28.Due -/
theorem rdue_calls {Q : Nat → Prop} {w : World} {v : Value} {p : DPolicy} {room frames : Int} (hx : rPolicy.val Q w v p) :
    Calls Try.prog 63 #[v, .int .i64 room, .int .i64 frames] w fun e w' => e = .returned (.bool (dueOf p room frames)) ∧ Below w.heap.size w w' := by
  obtain ⟨rfl, f0, f1⟩ := rPolicy_val hx
  clear hx
  obtain ⟨r, hr⟩ : ∃ r, r = dueOf p room frames := ⟨_, rfl⟩
  rw [← hr]
  unfold dueOf at hr
  rcases dec_split (room < p.room) with t1 | ⟨t1, d1⟩ <;> rcases dec_split (0 < p.frames) with t2 | ⟨t2, d2⟩ <;> rcases dec_split (p.frames ≤ frames) with t3 | ⟨t3, d3⟩
  all_goals
    simp [*] at hr
    subst hr
    go_enter Try.func63, Try.ntmps63
    go_wp2_with fail
    go_ret
    exact ⟨by first | rfl | (simp only [*]; rfl), (Below.refl _ _).alloc (Nat.le_refl _) _⟩
end Go.Proofs.Ytecdbfbaclgejaa
/- Walks of a command as0 bytes: cmd. -/
namespace Go.Proofs.Ytecdbfbaclgejaa
open Go.RowKit

def targetBytes (x : DCmd) : List UInt8 := if x.loc then num 1 1 ++ num 8 x.id.index else num 1 0 ++ num 8 x.id.index ++ num 8 x.id.gen
def dataBytes (x : DCmd) : List UInt8 := num 2 x.data.length ++ x.data
def cmdBytes (x : DCmd) : List UInt8 :=
  if knownB x.kind then num 1 x.kind ++ (if x.kind = 0 then [] else targetBytes x) ++ (if x.kind = 2 ∨ x.kind = 3 then num 8 x.comp else []) ++ (if x.kind = 2 then dataBytes x else [])
  else num 1 255
theorem targetBytes_length (x : DCmd) : (targetBytes x).length ≤ 24 := by
  have h1 := num_length 1 1
  have h2 := num_length 1 0
  have h3 := num_length 8 x.id.index
  have h4 := num_length 8 x.id.gen
  unfold targetBytes
  split <;> simp only [List.length_append] <;> omega

set_option maxRecDepth 100000 in
set_option maxHeartbeats 1000000 in
/-- cmd.target -/
theorem target_calls {Q Q' : Nat → Prop} {w : World} {v u : Value} {l : List UInt8} {x : DCmd} (hv : Rep.byte.list.val Q w v l) (hl : l.length ≤ 100000000) (hx : rCmd.val Q' w u x) :
    Calls Try.prog 240 #[v, u] w (ResA Rep.byte 5 w (l ++ targetBytes x)) := by
  obtain ⟨A, c, rfl, f0, f1, f2, f3, hs⟩ := rCmd_val hx
  have hm := CmdBox.made hx 179
  have hbel : Below w.heap.size w (w.alloc (.cells #[.int .i64 x.kind, .bool x.loc, .int .i64 x.id.index, .int .i64 x.id.gen, .int .i64 x.comp, .slice A x.data.length c] 179)) := (Below.refl _ _).alloc (Nat.le_refl _) _
  have hsz : (w.alloc (.cells #[.int .i64 x.kind, .bool x.loc, .int .i64 x.id.index, .int .i64 x.id.gen, .int .i64 x.comp, .slice A x.data.length c] 179)).heap.size = w.heap.size + 1 := by simp
  obtain ⟨W1, hW1⟩ : ∃ W1, w.alloc (.cells #[.int .i64 x.kind, .bool x.loc, .int .i64 x.id.index, .int .i64 x.id.gen, .int .i64 x.comp, .slice A x.data.length c] 179) = W1 := ⟨_, rfl⟩
  rw [hW1] at hm hbel hsz
  obtain ⟨A0, ca, rfl, hc1, hc2, hA⟩ := Rep.val_list hv
  have HM := Lib.hid hm
  have HB := Lib.hid hbel
  have HS := Lib.hid hsz
  have HV := Lib.hid (show ∀ W, Below W1.heap.size W1 W → Rep.byte.list.val (fun b => b < w.heap.size) W (.slice A0 l.length ca) l from
    fun W h => Rep.val_keep (w := w) (fun b _ hb => ⟨hb.lt, (h.block b (by have := hb.lt; omega)).trans (hbel.block b hb.lt)⟩) hv)
  have KS := Lib.hid (show ∀ w', Below W1.heap.size W1 w' → w'.cell? ⟨w.heap.size, 1, none⟩ = some (.bool x.loc) ∧ w'.cell? ⟨w.heap.size, 2, none⟩ = some (.int .i64 x.id.index) ∧ w'.cell? ⟨w.heap.size, 3, none⟩ = some (.int .i64 x.id.gen) from
    fun w' h => have m := hm.later (h.mono (Nat.le_of_eq hsz.symm)); ⟨m.c1, m.c2, m.c3⟩)
  have LL := Lib.hid (show l.length ≤ 1000000000 by omega)
  obtain ⟨c0, c1, c2, c3, c4, c5, _⟩ := hm
  have F1 := Lib.hid f1
  have F2 := Lib.hid f2
  clear hx hs hv hA hbel hsz f0 f1 f2 f3 c0 c4 c5
  by_cases hloc : x.loc = true
  case pos =>
    rw [hloc] at c1
    obtain ⟨q1, hq1⟩ : ∃ z, z = l ++ num 1 1 := ⟨_, rfl⟩
    obtain ⟨q2, hq2⟩ : ∃ z, z = q1 ++ num 8 x.id.index := ⟨_, rfl⟩
    have L1 := Lib.hid (show q1.length ≤ 1000000000 by have := num_length 1 1; rw [hq1, List.length_append]; omega)
    have T := Lib.hid (show l ++ targetBytes x = q2 by rw [hq2, hq1, targetBytes, hloc]; simp)
    have E1 := Lib.hid hq1
    have E2 := Lib.hid hq2
    clear hq1 hq2 hloc
    go_enter Try.func240, Try.ntmps240
    go_wp2_with fail
    try rw [hW1]
    clear hW1
    go_wp2_with fail
    go_region_held3 (fun W => W.cell? ⟨w.heap.size, 1, none⟩ = some (.bool x.loc) ∧ W.cell? ⟨w.heap.size, 2, none⟩ = some (.int .i64 x.id.index) ∧ W.cell? ⟨w.heap.size, 3, none⟩ = some (.int .i64 x.id.gen))
      (first
        | exact KS.out _ (Below.refl _ _).drew
        | exact KS.out _ D1.out
        | exact KS.out _ D2.out)
      (first
        | (go_at_call_of 116 (Value.int IntKind.i64 1); refine (put_calls (width := 1) (n := 1) (HV.out _ (Below.refl _ _).drew) LL.out rfl rfl).mono ?_; rintro e w1 ⟨u1, rfl, hu1, hb1⟩; rw [← E1.out] at hu1; have D1 := Lib.hid ((Below.refl W1.heap.size W1).drew.trans hb1); have HU1 := Lib.hid (Rep.acc_val hu1); obtain ⟨A5, c5, rfl, _, _⟩ := Rep.acc_form hu1; clear hu1 hb1)
        | (go_at_call_of 116 (Value.int IntKind.i64 x.id.index); refine (put_calls (width := 8) (n := x.id.index) HU1.out L1.out rfl F1.out).mono ?_; rintro e w2 ⟨u2, rfl, hu2, hb2⟩; rw [← E2.out] at hu2; have D2 := Lib.hid (D1.out.trans (hb2.mono D1.out.size)); have HU2 := Lib.hid (Rep.acc_base (Nat.le_trans HB.out.size D1.out.size) hu2); clear hu2 hb2))
    go_wp2_with fail
    go_ret
    exact ⟨_, rfl, by rw [T.out]; exact HU2.out, HB.out.trans (D2.out.mono HB.out.size)⟩
  case neg =>
    replace hloc : x.loc = false := by simpa using hloc
    rw [hloc] at c1
    obtain ⟨q1, hq1⟩ : ∃ z, z = l ++ num 1 0 := ⟨_, rfl⟩
    obtain ⟨q2, hq2⟩ : ∃ z, z = q1 ++ num 8 x.id.index := ⟨_, rfl⟩
    obtain ⟨q3, hq3⟩ : ∃ z, z = q2 ++ num 8 x.id.gen := ⟨_, rfl⟩
    have L2 := Lib.hid (show q2.length ≤ 1000000000 by have := num_length 1 0; have := num_length 8 x.id.index; rw [hq2, hq1, List.length_append, List.length_append]; omega)
    have L1 := Lib.hid (show q1.length ≤ 1000000000 by have := num_length 1 0; rw [hq1, List.length_append]; omega)
    have T := Lib.hid (show l ++ targetBytes x = q3 by rw [hq3, hq2, hq1, targetBytes, hloc]; simp)
    have E1 := Lib.hid hq1
    have E2 := Lib.hid hq2
    have E3 := Lib.hid hq3
    clear hq1 hq2 hq3 hloc
    go_enter Try.func240, Try.ntmps240
    go_wp2_with fail
    try rw [hW1]
    clear hW1
    go_wp2_with fail
    go_region_held3 (fun W => W.cell? ⟨w.heap.size, 1, none⟩ = some (.bool x.loc) ∧ W.cell? ⟨w.heap.size, 2, none⟩ = some (.int .i64 x.id.index) ∧ W.cell? ⟨w.heap.size, 3, none⟩ = some (.int .i64 x.id.gen))
      (first
        | exact KS.out _ (Below.refl _ _).drew
        | exact KS.out _ D1.out
        | exact KS.out _ D2.out
        | exact KS.out _ D3.out)
      (first
        | (go_at_call_of 116 (Value.int IntKind.i64 0); refine (put_calls (width := 1) (n := 0) (HV.out _ (Below.refl _ _).drew) LL.out rfl rfl).mono ?_; rintro e w1 ⟨u1, rfl, hu1, hb1⟩; rw [← E1.out] at hu1; have D1 := Lib.hid ((Below.refl W1.heap.size W1).drew.trans hb1); have HU1 := Lib.hid (Rep.acc_val hu1); obtain ⟨A5, c5, rfl, _, _⟩ := Rep.acc_form hu1; clear hu1 hb1)
        | (go_at_call_of 116 (Value.int IntKind.i64 x.id.index); refine (put_calls (width := 8) (n := x.id.index) HU1.out L1.out rfl F1.out).mono ?_; rintro e w2 ⟨u2, rfl, hu2, hb2⟩; rw [← E2.out] at hu2; have D2 := Lib.hid (D1.out.trans (hb2.mono D1.out.size)); have HU2 := Lib.hid (Rep.acc_val hu2); obtain ⟨A6, c6, rfl, _, _⟩ := Rep.acc_form hu2; clear hu2 hb2)
        | (go_at_call_of 116 (Value.int IntKind.i64 x.id.gen); refine (put_calls (width := 8) (n := x.id.gen) HU2.out L2.out rfl F2.out).mono ?_; rintro e w3 ⟨u3, rfl, hu3, hb3⟩; rw [← E3.out] at hu3; have D3 := Lib.hid (D2.out.trans (hb3.mono D2.out.size)); have HU3 := Lib.hid (Rep.acc_base (Nat.le_trans HB.out.size D2.out.size) hu3); clear hu3 hb3))
    go_wp2_with fail
    go_ret
    exact ⟨_, rfl, by rw [T.out]; exact HU3.out, HB.out.trans (D3.out.mono HB.out.size)⟩

set_option maxRecDepth 100000 in
set_option maxHeartbeats 1000000 in
/-- cmd.Put -/
theorem cmdPut_calls {Q Q' : Nat → Prop} {w : World} {v u : Value} {l : List UInt8} {x : DCmd} (hv : Rep.byte.list.val Q w v l) (hl : l.length ≤ 10000000) (hx : rCmd.val Q' w u x) (hd : x.data.length ≤ 1000000) :
    Calls Try.prog 221 #[v, u] w (ResA Rep.byte 5 w (l ++ cmdBytes x)) := by
  obtain ⟨A, c, rfl, f0, f1, f2, f3, hs⟩ := rCmd_val hx
  have hm := CmdBox.made hx 179
  have hbel : Below w.heap.size w (w.alloc (.cells #[.int .i64 x.kind, .bool x.loc, .int .i64 x.id.index, .int .i64 x.id.gen, .int .i64 x.comp, .slice A x.data.length c] 179)) := (Below.refl _ _).alloc (Nat.le_refl _) _
  have hsz : (w.alloc (.cells #[.int .i64 x.kind, .bool x.loc, .int .i64 x.id.index, .int .i64 x.id.gen, .int .i64 x.comp, .slice A x.data.length c] 179)).heap.size = w.heap.size + 1 := by simp
  obtain ⟨W1, hW1⟩ : ∃ W1, w.alloc (.cells #[.int .i64 x.kind, .bool x.loc, .int .i64 x.id.index, .int .i64 x.id.gen, .int .i64 x.comp, .slice A x.data.length c] 179) = W1 := ⟨_, rfl⟩
  rw [hW1] at hm hbel hsz
  obtain ⟨A0, ca, rfl, hc1, hc2, hA⟩ := Rep.val_list hv
  have HB := Lib.hid hbel
  have HV := Lib.hid (show ∀ W, Below W1.heap.size W1 W → Rep.byte.list.val (fun b => b < w.heap.size) W (.slice A0 l.length ca) l from
    fun W h => Rep.val_keep (w := w) (fun b _ hb => ⟨hb.lt, (h.block b (by have := hb.lt; omega)).trans (hbel.block b hb.lt)⟩) hv)
  have KM := Lib.hid (show ∀ w', Below W1.heap.size W1 w' → CmdBox w' w.heap.size x A c from fun w' h => hm.later (h.mono (Nat.le_of_eq hsz.symm)))
  have LL := Lib.hid hl
  have LD := Lib.hid hd
  have F3 := Lib.hid f3
  have hsm := hs.2.1
  have hsl := hs.1
  unfold maxLen at hsm
  have FD := Lib.hid (wf_i64 (n := (x.data.length : Int)) (by omega) (by omega))
  clear hx hs hv hA hbel hsz f0 f1 f2 f3 hm
  cases hkn : knownB x.kind
  case false =>
    have HKN := Lib.hid hkn
    have KS := Lib.hid (show ∀ w', Below W1.heap.size W1 w' → w'.cell? ⟨w.heap.size, 0, none⟩ = some (.int .i64 x.kind) ∧ w'.cell? ⟨w.heap.size, 1, none⟩ = some (.bool x.loc) ∧ w'.cell? ⟨w.heap.size, 2, none⟩ = some (.int .i64 x.id.index) ∧ w'.cell? ⟨w.heap.size, 3, none⟩ = some (.int .i64 x.id.gen) ∧ w'.cell? ⟨w.heap.size, 4, none⟩ = some (.int .i64 x.comp) ∧ w'.cell? ⟨w.heap.size, 5, none⟩ = some (.slice A x.data.length c) from
      fun w' h => have m := KM.out w' h; ⟨m.c0, m.c1, m.c2, m.c3, m.c4, m.c5⟩)
    obtain ⟨q1, hq1⟩ : ∃ z, z = l ++ num 1 255 := ⟨_, rfl⟩
    have hn1 : q1.length ≤ l.length + 8 := by have := num_length 1 255; rw [hq1, List.length_append]; omega
    have L1 := Lib.hid (show q1.length ≤ 100000000 by omega)
    have T := Lib.hid (show l ++ cmdBytes x = q1 by rw [hq1, cmdBytes, hkn, if_neg Bool.false_ne_true]; try simp)
    have E1 := Lib.hid hq1
    clear hq1 hn1 hkn
    obtain ⟨c0, c1, c2, c3, c4, c5⟩ := KS.out _ (Below.refl _ _)
    go_enter Try.func221, Try.ntmps221
    go_wp2_with fail
    try rw [hW1]
    clear hW1
    go_wp2_with fail
    refine (known_calls _ _).mono ?_
    rintro e w' ⟨rfl, hw⟩
    have hw2 := hw.symm
    subst hw2
    clear hw
    rw [HKN.out]
    go_wp2_with fail
    refine (put_calls (width := 1) (n := 255) (HV.out _ (Below.refl _ _)) (show l.length ≤ 1000000000 by have := LL.out; omega) rfl rfl).mono ?_
    rintro e w1 ⟨u1, rfl, hu1, hb1⟩
    rw [← E1.out] at hu1
    have D1 := Lib.hid (hb1)
    clear c0 c1 c2 c3 c4 c5 hb1
    obtain ⟨c0, c1, c2, c3, c4, c5⟩ := KS.out _ D1.out
    have HU1 := Lib.hid (Rep.acc_base HB.out.size hu1)
    obtain ⟨A_1, c_1, rfl, _, _⟩ := Rep.acc_form hu1
    clear hu1
    go_wp2_with fail
    go_ret
    exact ⟨_, rfl, by rw [T.out]; exact HU1.out, HB.out.trans (D1.out.mono HB.out.size)⟩
  case true =>
    have hk4 : x.kind = 0 ∨ x.kind = 1 ∨ x.kind = 2 ∨ x.kind = 3 := by simp [knownB] at hkn; omega
    clear hkn
    rcases hk4 with hk | hk | hk | hk
    · have KS := Lib.hid (show ∀ w', Below W1.heap.size W1 w' → w'.cell? ⟨w.heap.size, 0, none⟩ = some (.int .i64 0) ∧ w'.cell? ⟨w.heap.size, 1, none⟩ = some (.bool x.loc) ∧ w'.cell? ⟨w.heap.size, 2, none⟩ = some (.int .i64 x.id.index) ∧ w'.cell? ⟨w.heap.size, 3, none⟩ = some (.int .i64 x.id.gen) ∧ w'.cell? ⟨w.heap.size, 4, none⟩ = some (.int .i64 x.comp) ∧ w'.cell? ⟨w.heap.size, 5, none⟩ = some (.slice A x.data.length c) from
        fun w' h => have m := KM.out w' h; ⟨hk ▸ m.c0, m.c1, m.c2, m.c3, m.c4, m.c5⟩)
      have HX := Lib.hid (show ∀ w', Below W1.heap.size W1 w' → rCmd.val (fun b => b < w.heap.size) w' (.agg #[.int .i64 0, .bool x.loc, .int .i64 x.id.index, .int .i64 x.id.gen, .int .i64 x.comp, .slice A x.data.length c]) x from fun w' h => hk ▸ (KM.out w' h).val)
      obtain ⟨q1, hq1⟩ : ∃ z, z = l ++ num 1 0 := ⟨_, rfl⟩
      have hn1 : q1.length ≤ l.length + 8 := by have := num_length 1 0; rw [hq1, List.length_append]; omega
      have L1 := Lib.hid (show q1.length ≤ 100000000 by omega)
      have T := Lib.hid (show l ++ cmdBytes x = q1 by rw [hq1, cmdBytes, hk, show knownB 0 = true from rfl]; try simp)
      have E1 := Lib.hid hq1
      clear hq1 hn1 hk
      obtain ⟨c0, c1, c2, c3, c4, c5⟩ := KS.out _ (Below.refl _ _)
      go_enter Try.func221, Try.ntmps221
      go_wp2_with fail
      try rw [hW1]
      clear hW1
      go_wp2_with fail
      refine (known_calls _ _).mono ?_
      rintro e w' ⟨rfl, hw⟩
      have hw2 := hw.symm
      subst hw2
      clear hw
      rw [show knownB 0 = true from rfl]
      go_wp2_with fail
      refine (put_calls (width := 1) (n := 0) (HV.out _ (Below.refl _ _)) (show l.length ≤ 1000000000 by have := LL.out; omega) rfl rfl).mono ?_
      rintro e w1 ⟨u1, rfl, hu1, hb1⟩
      rw [← E1.out] at hu1
      have D1 := Lib.hid (hb1)
      clear c0 c1 c2 c3 c4 c5 hb1
      obtain ⟨c0, c1, c2, c3, c4, c5⟩ := KS.out _ D1.out
      have HU1 := Lib.hid (Rep.acc_base HB.out.size hu1)
      obtain ⟨A_1, c_1, rfl, _, _⟩ := Rep.acc_form hu1
      clear hu1
      go_wp2_with fail
      go_ret
      exact ⟨_, rfl, by rw [T.out]; exact HU1.out, HB.out.trans (D1.out.mono HB.out.size)⟩
    · have KS := Lib.hid (show ∀ w', Below W1.heap.size W1 w' → w'.cell? ⟨w.heap.size, 0, none⟩ = some (.int .i64 1) ∧ w'.cell? ⟨w.heap.size, 1, none⟩ = some (.bool x.loc) ∧ w'.cell? ⟨w.heap.size, 2, none⟩ = some (.int .i64 x.id.index) ∧ w'.cell? ⟨w.heap.size, 3, none⟩ = some (.int .i64 x.id.gen) ∧ w'.cell? ⟨w.heap.size, 4, none⟩ = some (.int .i64 x.comp) ∧ w'.cell? ⟨w.heap.size, 5, none⟩ = some (.slice A x.data.length c) from
        fun w' h => have m := KM.out w' h; ⟨hk ▸ m.c0, m.c1, m.c2, m.c3, m.c4, m.c5⟩)
      have HX := Lib.hid (show ∀ w', Below W1.heap.size W1 w' → rCmd.val (fun b => b < w.heap.size) w' (.agg #[.int .i64 1, .bool x.loc, .int .i64 x.id.index, .int .i64 x.id.gen, .int .i64 x.comp, .slice A x.data.length c]) x from fun w' h => hk ▸ (KM.out w' h).val)
      obtain ⟨q1, hq1⟩ : ∃ z, z = l ++ num 1 1 := ⟨_, rfl⟩
      have hn1 : q1.length ≤ l.length + 8 := by have := num_length 1 1; rw [hq1, List.length_append]; omega
      obtain ⟨q2, hq2⟩ : ∃ z, z = q1 ++ targetBytes x := ⟨_, rfl⟩
      have hn2 : q2.length ≤ l.length + 32 := by have := targetBytes_length x; rw [hq2, List.length_append]; omega
      have L1 := Lib.hid (show q1.length ≤ 100000000 by omega)
      have L2 := Lib.hid (show q2.length ≤ 100000000 by omega)
      have T := Lib.hid (show l ++ cmdBytes x = q2 by rw [hq2, hq1, cmdBytes, hk, show knownB 1 = true from rfl]; try simp)
      have E1 := Lib.hid hq1
      have E2 := Lib.hid hq2
      clear hq1 hq2 hn1 hn2 hk
      obtain ⟨c0, c1, c2, c3, c4, c5⟩ := KS.out _ (Below.refl _ _)
      go_enter Try.func221, Try.ntmps221
      go_wp2_with fail
      try rw [hW1]
      clear hW1
      go_wp2_with fail
      refine (known_calls _ _).mono ?_
      rintro e w' ⟨rfl, hw⟩
      have hw2 := hw.symm
      subst hw2
      clear hw
      rw [show knownB 1 = true from rfl]
      go_wp2_with fail
      refine (put_calls (width := 1) (n := 1) (HV.out _ (Below.refl _ _)) (show l.length ≤ 1000000000 by have := LL.out; omega) rfl rfl).mono ?_
      rintro e w1 ⟨u1, rfl, hu1, hb1⟩
      rw [← E1.out] at hu1
      have D1 := Lib.hid (hb1)
      clear c0 c1 c2 c3 c4 c5 hb1
      obtain ⟨c0, c1, c2, c3, c4, c5⟩ := KS.out _ D1.out
      have HU1 := Lib.hid (Rep.acc_base HB.out.size hu1)
      obtain ⟨A_1, c_1, rfl, _, _⟩ := Rep.acc_form hu1
      clear hu1
      go_wp2_with fail
      refine (target_calls (Rep.acc_val HU1.out) L1.out (HX.out _ D1.out)).mono ?_
      rintro e w2 ⟨u2, rfl, hu2, hb2⟩
      rw [← E2.out] at hu2
      have HS2 := Lib.hid (Nat.le_trans HB.out.size D1.out.size)
      have D2 := Lib.hid (D1.out.trans (hb2.mono D1.out.size))
      clear c0 c1 c2 c3 c4 c5 hb2
      obtain ⟨c0, c1, c2, c3, c4, c5⟩ := KS.out _ D2.out
      have HU2 := Lib.hid (Rep.acc_base HS2.out hu2)
      obtain ⟨A_2, c_2, rfl, _, _⟩ := Rep.acc_form hu2
      clear hu2
      go_wp2_with fail
      go_ret
      exact ⟨_, rfl, by rw [T.out]; exact HU2.out, HB.out.trans (D2.out.mono HB.out.size)⟩
    · have KS := Lib.hid (show ∀ w', Below W1.heap.size W1 w' → w'.cell? ⟨w.heap.size, 0, none⟩ = some (.int .i64 2) ∧ w'.cell? ⟨w.heap.size, 1, none⟩ = some (.bool x.loc) ∧ w'.cell? ⟨w.heap.size, 2, none⟩ = some (.int .i64 x.id.index) ∧ w'.cell? ⟨w.heap.size, 3, none⟩ = some (.int .i64 x.id.gen) ∧ w'.cell? ⟨w.heap.size, 4, none⟩ = some (.int .i64 x.comp) ∧ w'.cell? ⟨w.heap.size, 5, none⟩ = some (.slice A x.data.length c) from
        fun w' h => have m := KM.out w' h; ⟨hk ▸ m.c0, m.c1, m.c2, m.c3, m.c4, m.c5⟩)
      have HX := Lib.hid (show ∀ w', Below W1.heap.size W1 w' → rCmd.val (fun b => b < w.heap.size) w' (.agg #[.int .i64 2, .bool x.loc, .int .i64 x.id.index, .int .i64 x.id.gen, .int .i64 x.comp, .slice A x.data.length c]) x from fun w' h => hk ▸ (KM.out w' h).val)
      obtain ⟨q1, hq1⟩ : ∃ z, z = l ++ num 1 2 := ⟨_, rfl⟩
      have hn1 : q1.length ≤ l.length + 8 := by have := num_length 1 2; rw [hq1, List.length_append]; omega
      obtain ⟨q2, hq2⟩ : ∃ z, z = q1 ++ targetBytes x := ⟨_, rfl⟩
      have hn2 : q2.length ≤ l.length + 32 := by have := targetBytes_length x; rw [hq2, List.length_append]; omega
      obtain ⟨q3, hq3⟩ : ∃ z, z = q2 ++ num 8 x.comp := ⟨_, rfl⟩
      have hn3 : q3.length ≤ l.length + 40 := by have := num_length 8 x.comp; rw [hq3, List.length_append]; omega
      obtain ⟨q4, hq4⟩ : ∃ z, z = q3 ++ num 2 x.data.length := ⟨_, rfl⟩
      have hn4 : q4.length ≤ l.length + 48 := by have := num_length 2 x.data.length; rw [hq4, List.length_append]; omega
      obtain ⟨q5, hq5⟩ : ∃ z, z = q4 ++ x.data := ⟨_, rfl⟩
      have L1 := Lib.hid (show q1.length ≤ 100000000 by omega)
      have L2 := Lib.hid (show q2.length ≤ 100000000 by omega)
      have L3 := Lib.hid (show q3.length ≤ 100000000 by omega)
      have L4 := Lib.hid (show q4.length ≤ 100000000 by omega)
      have S4 := Lib.hid (show q4.length + x.data.length ≤ maxLen ∧ (q4.length + x.data.length) * 1 ≤ 140737488355328 by unfold maxLen; omega)
      have T := Lib.hid (show l ++ cmdBytes x = q5 by rw [hq5, hq4, hq3, hq2, hq1, cmdBytes, hk, show knownB 2 = true from rfl]; try simp [dataBytes])
      have E1 := Lib.hid hq1
      have E2 := Lib.hid hq2
      have E3 := Lib.hid hq3
      have E4 := Lib.hid hq4
      have E5 := Lib.hid hq5
      clear hq1 hq2 hq3 hq4 hq5 hn1 hn2 hn3 hn4 hk
      obtain ⟨c0, c1, c2, c3, c4, c5⟩ := KS.out _ (Below.refl _ _)
      go_enter Try.func221, Try.ntmps221
      go_wp2_with fail
      try rw [hW1]
      clear hW1
      go_wp2_with fail
      refine (known_calls _ _).mono ?_
      rintro e w' ⟨rfl, hw⟩
      have hw2 := hw.symm
      subst hw2
      clear hw
      rw [show knownB 2 = true from rfl]
      go_wp2_with fail
      refine (put_calls (width := 1) (n := 2) (HV.out _ (Below.refl _ _)) (show l.length ≤ 1000000000 by have := LL.out; omega) rfl rfl).mono ?_
      rintro e w1 ⟨u1, rfl, hu1, hb1⟩
      rw [← E1.out] at hu1
      have D1 := Lib.hid (hb1)
      clear c0 c1 c2 c3 c4 c5 hb1
      obtain ⟨c0, c1, c2, c3, c4, c5⟩ := KS.out _ D1.out
      have HU1 := Lib.hid (Rep.acc_base HB.out.size hu1)
      obtain ⟨A_1, c_1, rfl, _, _⟩ := Rep.acc_form hu1
      clear hu1
      go_wp2_with fail
      refine (target_calls (Rep.acc_val HU1.out) L1.out (HX.out _ D1.out)).mono ?_
      rintro e w2 ⟨u2, rfl, hu2, hb2⟩
      rw [← E2.out] at hu2
      have HS2 := Lib.hid (Nat.le_trans HB.out.size D1.out.size)
      have D2 := Lib.hid (D1.out.trans (hb2.mono D1.out.size))
      clear c0 c1 c2 c3 c4 c5 hb2
      obtain ⟨c0, c1, c2, c3, c4, c5⟩ := KS.out _ D2.out
      have HU2 := Lib.hid (Rep.acc_base HS2.out hu2)
      obtain ⟨A_2, c_2, rfl, _, _⟩ := Rep.acc_form hu2
      clear hu2
      go_wp2_with fail
      refine (put_calls (width := 8) (n := x.comp) (Rep.acc_val HU2.out) (show q2.length ≤ 1000000000 by have := L2.out; omega) rfl F3.out).mono ?_
      rintro e w3 ⟨u3, rfl, hu3, hb3⟩
      rw [← E3.out] at hu3
      have HS3 := Lib.hid (Nat.le_trans HB.out.size D2.out.size)
      have D3 := Lib.hid (D2.out.trans (hb3.mono D2.out.size))
      clear c0 c1 c2 c3 c4 c5 hb3
      obtain ⟨c0, c1, c2, c3, c4, c5⟩ := KS.out _ D3.out
      have HU3 := Lib.hid (Rep.acc_base HS3.out hu3)
      obtain ⟨A_3, c_3, rfl, _, _⟩ := Rep.acc_form hu3
      clear hu3
      go_wp2_with fail
      have HVD := Lib.hid (show ∀ w', Below W1.heap.size W1 w' → Rep.byte.list.val (fun b => b < w.heap.size) w' (.slice A x.data.length c) x.data from fun w' h => by
        obtain ⟨A9, c9, he, _, _, _, _, hs9⟩ := rCmd_val (KM.out w' h).val
        cases he
        exact hs9.val)
      have L3b := Lib.hid (show q3.length ≤ 1000000000 by have := L3.out; omega)
      have HS4 := Lib.hid (D3.out.size)
      have D3d := Lib.hid (show Below W1.heap.size W1 _ from D3.out.drew)
      go_region_held3 (fun W => W.cell? ⟨w.heap.size, 0, none⟩ = some (.int .i64 2) ∧ W.cell? ⟨w.heap.size, 1, none⟩ = some (.bool x.loc) ∧ W.cell? ⟨w.heap.size, 2, none⟩ = some (.int .i64 x.id.index) ∧ W.cell? ⟨w.heap.size, 3, none⟩ = some (.int .i64 x.id.gen) ∧ W.cell? ⟨w.heap.size, 4, none⟩ = some (.int .i64 x.comp) ∧ W.cell? ⟨w.heap.size, 5, none⟩ = some (.slice A x.data.length c))
        (first
          | exact KS.out _ D3d.out
          | exact KS.out _ D4.out
          | exact KS.out _ D5.out)
        (first
          | (go_at_call_of 116 (Value.int IntKind.i64 (x.data.length : Int)); refine (put_calls (width := 2) (n := x.data.length) (Rep.acc_val (Rep.acc_later HU3.out (Below.refl _ _).drew)) L3b.out rfl FD.out).mono ?_; rintro e w4 ⟨u4, rfl, hu4, hb4⟩; rw [← E4.out] at hu4; have D4 := Lib.hid (D3d.out.trans (hb4.mono D3d.out.size)); have HU4 := Lib.hid (Rep.acc_base HS4.out hu4); obtain ⟨A_4, c_4, rfl, _, _⟩ := Rep.acc_form hu4; clear hu4 hb4)
          | (refine step_spread_leaf (e := 5) (base := W1.heap.size) (Q := fun _ => False) Rep.leaf_byte rfl _ _ 22 rfl (.int .u8 0) 1 1 Try.underlying22 info5 rfl (by decide) rfl _ q4 (by exact rfl) HU4.out _ x.data (by exact rfl) (HVD.out _ D4.out) S4.out.1 S4.out.2 D4.out.size ?_; intro v5 w5 hacc5 hgr5 hat5; rw [← E5.out] at hacc5; have HU5 := Lib.hid (Rep.acc_base HB.out.size hacc5); have D5 := Lib.hid (Rep.acc_below HU4.out D4.out hgr5 D4.out.size); clear hacc5 hgr5 hat5))
      go_wp2_with fail
      go_ret
      exact ⟨_, rfl, by rw [T.out]; exact HU5.out, HB.out.trans (D5.out.mono HB.out.size)⟩
    · have KS := Lib.hid (show ∀ w', Below W1.heap.size W1 w' → w'.cell? ⟨w.heap.size, 0, none⟩ = some (.int .i64 3) ∧ w'.cell? ⟨w.heap.size, 1, none⟩ = some (.bool x.loc) ∧ w'.cell? ⟨w.heap.size, 2, none⟩ = some (.int .i64 x.id.index) ∧ w'.cell? ⟨w.heap.size, 3, none⟩ = some (.int .i64 x.id.gen) ∧ w'.cell? ⟨w.heap.size, 4, none⟩ = some (.int .i64 x.comp) ∧ w'.cell? ⟨w.heap.size, 5, none⟩ = some (.slice A x.data.length c) from
        fun w' h => have m := KM.out w' h; ⟨hk ▸ m.c0, m.c1, m.c2, m.c3, m.c4, m.c5⟩)
      have HX := Lib.hid (show ∀ w', Below W1.heap.size W1 w' → rCmd.val (fun b => b < w.heap.size) w' (.agg #[.int .i64 3, .bool x.loc, .int .i64 x.id.index, .int .i64 x.id.gen, .int .i64 x.comp, .slice A x.data.length c]) x from fun w' h => hk ▸ (KM.out w' h).val)
      obtain ⟨q1, hq1⟩ : ∃ z, z = l ++ num 1 3 := ⟨_, rfl⟩
      have hn1 : q1.length ≤ l.length + 8 := by have := num_length 1 3; rw [hq1, List.length_append]; omega
      obtain ⟨q2, hq2⟩ : ∃ z, z = q1 ++ targetBytes x := ⟨_, rfl⟩
      have hn2 : q2.length ≤ l.length + 32 := by have := targetBytes_length x; rw [hq2, List.length_append]; omega
      obtain ⟨q3, hq3⟩ : ∃ z, z = q2 ++ num 8 x.comp := ⟨_, rfl⟩
      have hn3 : q3.length ≤ l.length + 40 := by have := num_length 8 x.comp; rw [hq3, List.length_append]; omega
      have L1 := Lib.hid (show q1.length ≤ 100000000 by omega)
      have L2 := Lib.hid (show q2.length ≤ 100000000 by omega)
      have L3 := Lib.hid (show q3.length ≤ 100000000 by omega)
      have T := Lib.hid (show l ++ cmdBytes x = q3 by rw [hq3, hq2, hq1, cmdBytes, hk, show knownB 3 = true from rfl]; try simp)
      have E1 := Lib.hid hq1
      have E2 := Lib.hid hq2
      have E3 := Lib.hid hq3
      clear hq1 hq2 hq3 hn1 hn2 hn3 hk
      obtain ⟨c0, c1, c2, c3, c4, c5⟩ := KS.out _ (Below.refl _ _)
      go_enter Try.func221, Try.ntmps221
      go_wp2_with fail
      try rw [hW1]
      clear hW1
      go_wp2_with fail
      refine (known_calls _ _).mono ?_
      rintro e w' ⟨rfl, hw⟩
      have hw2 := hw.symm
      subst hw2
      clear hw
      rw [show knownB 3 = true from rfl]
      go_wp2_with fail
      refine (put_calls (width := 1) (n := 3) (HV.out _ (Below.refl _ _)) (show l.length ≤ 1000000000 by have := LL.out; omega) rfl rfl).mono ?_
      rintro e w1 ⟨u1, rfl, hu1, hb1⟩
      rw [← E1.out] at hu1
      have D1 := Lib.hid (hb1)
      clear c0 c1 c2 c3 c4 c5 hb1
      obtain ⟨c0, c1, c2, c3, c4, c5⟩ := KS.out _ D1.out
      have HU1 := Lib.hid (Rep.acc_base HB.out.size hu1)
      obtain ⟨A_1, c_1, rfl, _, _⟩ := Rep.acc_form hu1
      clear hu1
      go_wp2_with fail
      refine (target_calls (Rep.acc_val HU1.out) L1.out (HX.out _ D1.out)).mono ?_
      rintro e w2 ⟨u2, rfl, hu2, hb2⟩
      rw [← E2.out] at hu2
      have HS2 := Lib.hid (Nat.le_trans HB.out.size D1.out.size)
      have D2 := Lib.hid (D1.out.trans (hb2.mono D1.out.size))
      clear c0 c1 c2 c3 c4 c5 hb2
      obtain ⟨c0, c1, c2, c3, c4, c5⟩ := KS.out _ D2.out
      have HU2 := Lib.hid (Rep.acc_base HS2.out hu2)
      obtain ⟨A_2, c_2, rfl, _, _⟩ := Rep.acc_form hu2
      clear hu2
      go_wp2_with fail
      refine (put_calls (width := 8) (n := x.comp) (Rep.acc_val HU2.out) (show q2.length ≤ 1000000000 by have := L2.out; omega) rfl F3.out).mono ?_
      rintro e w3 ⟨u3, rfl, hu3, hb3⟩
      rw [← E3.out] at hu3
      have HS3 := Lib.hid (Nat.le_trans HB.out.size D2.out.size)
      have D3 := Lib.hid (D2.out.trans (hb3.mono D2.out.size))
      clear c0 c1 c2 c3 c4 c5 hb3
      obtain ⟨c0, c1, c2, c3, c4, c5⟩ := KS.out _ D3.out
      have HU3 := Lib.hid (Rep.acc_base HS3.out hu3)
      obtain ⟨A_3, c_3, rfl, _, _⟩ := Rep.acc_form hu3
      clear hu3
      go_wp2_with fail
      go_ret
      exact ⟨_, rfl, by rw [T.out]; exact HU3.out, HB.out.trans (D3.out.mono HB.out.size)⟩
end Go.Proofs.Ytecdbfbaclgejaa
/- Walk of a command as0 bytes: ref13. Printed by gen_rcmdput.py. -/
namespace Go.Proofs.Ytecdbfbaclgejaa
open Go.RowKit

theorem one_is : num 1 1 = [1] := by decide
theorem nil_is : num 1 0 = [0] := by decide
theorem full_is : num 1 255 = [255] := by decide
theorem lit_byte (n : UInt8) {Q : Nat → Prop} {w : World} : Rep.byte.val Q w (.int .u8 (n.toNat : Int)) n := ⟨_, rfl, rfl⟩
theorem lit1 {Q : Nat → Prop} {w : World} : Rep.byte.val Q w (.int .u8 1) 1 := lit_byte 1
theorem lit0 {Q : Nat → Prop} {w : World} : Rep.byte.val Q w (.int .u8 0) 0 := lit_byte 0
theorem lit255 {Q : Nat → Prop} {w : World} : Rep.byte.val Q w (.int .u8 255) 255 := lit_byte 255

theorem lit_res {w W1 : World} {e : TypeId} {l : List UInt8} (hb : Below w.heap.size w W1) (hl : l = [255]) :
    Res Rep.byte.list (fun b => w.heap.size ≤ b) w l (.returned (.slice (some ⟨W1.heap.size, 0, none⟩) 1 1)) (W1.alloc (.cells #[.int .u8 255] e)) := by
  subst hl
  have hn := heap_alloc_new W1 (.cells #[.int .u8 255] e)
  refine ⟨_, rfl, Rep.list_val rfl (Nat.le_refl _) (by simp [maxLen]) ⟨[.int .u8 255], ⟨[.int .u8 255], [], rfl, rfl, rfl⟩, fun _ => ⟨W1.heap.size, 0, rfl, hb.size, ⟨_, _, _, hn⟩, ?_⟩⟩, hb.trans (((Below.refl _ _).alloc (Nat.le_refl _) _).mono hb.size)⟩
  intro j u hj
  have hc : (W1.alloc (.cells #[.int .u8 255] e)).cell? ⟨W1.heap.size, 0 + j, none⟩ = (#[Value.int .u8 255] : Array Value)[0 + j]? := by simp only [World.cell?, hn]; rfl
  rw [hc]
  simpa using hj

set_option maxRecDepth 100000 in
set_option maxHeartbeats 4000000 in
/-- ref13.Bytes -/
theorem rcmdPut_calls {Q' : Nat → Prop} {w : World} {u : Value} {x : DCmd} (hx : rCmd.val Q' w u x) (hd : x.data.length ≤ 1000000) :
    Calls Try.prog 158 #[u] w (Res Rep.byte.list (fun b => w.heap.size ≤ b) w (cmdBytes x)) := by
  obtain ⟨A, c, rfl, f0, f1, f2, f3, hs⟩ := rCmd_val hx
  have hm := CmdBox.made hx 179
  have hbel : Below w.heap.size w (w.alloc (.cells #[.int .i64 x.kind, .bool x.loc, .int .i64 x.id.index, .int .i64 x.id.gen, .int .i64 x.comp, .slice A x.data.length c] 179)) := (Below.refl _ _).alloc (Nat.le_refl _) _
  have hsz : (w.alloc (.cells #[.int .i64 x.kind, .bool x.loc, .int .i64 x.id.index, .int .i64 x.id.gen, .int .i64 x.comp, .slice A x.data.length c] 179)).heap.size = w.heap.size + 1 := by simp
  obtain ⟨W1, hW1⟩ : ∃ W1, w.alloc (.cells #[.int .i64 x.kind, .bool x.loc, .int .i64 x.id.index, .int .i64 x.id.gen, .int .i64 x.comp, .slice A x.data.length c] 179) = W1 := ⟨_, rfl⟩
  rw [hW1] at hm hbel hsz
  have HB := Lib.hid hbel
  have KM := Lib.hid (show ∀ w', Below W1.heap.size W1 w' → CmdBox w' w.heap.size x A c from fun w' h => hm.later (h.mono (Nat.le_of_eq hsz.symm)))
  have HVD := Lib.hid (show ∀ w', Below W1.heap.size W1 w' → Rep.byte.list.val (fun b => b < w.heap.size) w' (.slice A x.data.length c) x.data from fun w' h => by
    obtain ⟨A9, c9, he, _, _, _, _, hs9⟩ := rCmd_val (KM.out w' h).val
    cases he
    exact hs9.val)
  have LD := Lib.hid hd
  have F1 := Lib.hid f1
  have F2 := Lib.hid f2
  have F3 := Lib.hid f3
  have hsm := hs.2.1
  have hsl := hs.1
  unfold maxLen at hsm
  have FD := Lib.hid (wf_i64 (n := (x.data.length : Int)) (by omega) (by omega))
  clear hx hs hbel hsz f0 f1 f2 f3 hm
  cases hkn : knownB x.kind
  case false =>
    have HGT : ¬ x.kind < 0 → 3 < x.kind := by
      intro hneg; unfold knownB at hkn; simp at hkn; omega
    have KS := Lib.hid (show ∀ w', Below W1.heap.size W1 w' → w'.cell? ⟨w.heap.size, 0, none⟩ = some (.int .i64 x.kind) ∧ w'.cell? ⟨w.heap.size, 1, none⟩ = some (.bool x.loc) ∧ w'.cell? ⟨w.heap.size, 2, none⟩ = some (.int .i64 x.id.index) ∧ w'.cell? ⟨w.heap.size, 3, none⟩ = some (.int .i64 x.id.gen) ∧ w'.cell? ⟨w.heap.size, 4, none⟩ = some (.int .i64 x.comp) ∧ w'.cell? ⟨w.heap.size, 5, none⟩ = some (.slice A x.data.length c) from
      fun w' h => have m := KM.out w' h; ⟨m.c0, m.c1, m.c2, m.c3, m.c4, m.c5⟩)
    have T := Lib.hid (show cmdBytes x = [255] by rw [cmdBytes, hkn, if_neg Bool.false_ne_true, full_is])
    obtain ⟨c0, c1, c2, c3, c4, c5⟩ := KS.out _ (Below.refl _ _)
    by_cases hneg : x.kind < 0
    · clear hkn
      go_enter Try.func158, Try.ntmps158
      go_wp2_with fail
      try rw [hW1]
      clear hW1
      go_wp2_with fail
      go_ret
      exact lit_res HB.out T.out
    · clear hkn
      have hgt : 3 < x.kind := HGT hneg
      go_enter Try.func158, Try.ntmps158
      go_wp2_with fail
      try rw [hW1]
      clear hW1
      go_wp2_with fail
      go_ret
      exact lit_res HB.out T.out
  case true =>
    have hk4 : x.kind = 0 ∨ x.kind = 1 ∨ x.kind = 2 ∨ x.kind = 3 := by simp [knownB] at hkn; omega
    clear hkn
    rcases hk4 with hk | hk | hk | hk
    · have KS := Lib.hid (show ∀ w', Below W1.heap.size W1 w' → w'.cell? ⟨w.heap.size, 0, none⟩ = some (.int .i64 0) ∧ w'.cell? ⟨w.heap.size, 1, none⟩ = some (.bool x.loc) ∧ w'.cell? ⟨w.heap.size, 2, none⟩ = some (.int .i64 x.id.index) ∧ w'.cell? ⟨w.heap.size, 3, none⟩ = some (.int .i64 x.id.gen) ∧ w'.cell? ⟨w.heap.size, 4, none⟩ = some (.int .i64 x.comp) ∧ w'.cell? ⟨w.heap.size, 5, none⟩ = some (.slice A x.data.length c) from
        fun w' h => have m := KM.out w' h; ⟨hk ▸ m.c0, m.c1, m.c2, m.c3, m.c4, m.c5⟩)
      obtain ⟨q1, hq1⟩ : ∃ z, z = num 1 0 := ⟨_, rfl⟩
      have hn1 : q1.length ≤ 8 := by have := num_length 1 0; rw [hq1]; omega
      have T := Lib.hid (show cmdBytes x = q1 by rw [hq1, cmdBytes, hk, show knownB 0 = true from rfl]; simp)
      have E1 := Lib.hid hq1
      clear hq1 hn1 hk
      obtain ⟨c0, c1, c2, c3, c4, c5⟩ := KS.out _ (Below.refl _ _)
      go_enter Try.func158, Try.ntmps158
      go_wp2_with fail
      try rw [hW1]
      clear hW1
      go_wp2_with fail
      refine (rnum_calls (width := 1) (n := 0) rfl rfl).mono ?_
      rintro e w1 ⟨u1, rfl, hu1, hb1⟩
      rw [← E1.out] at hu1
      have HU1 := Lib.hid hu1
      have D1 := Lib.hid hb1
      clear hu1 hb1 c0 c1 c2 c3 c4 c5
      obtain ⟨c0, c1, c2, c3, c4, c5⟩ := KS.out _ D1.out
      go_wp2_with fail
      go_ret
      exact ⟨_, rfl, by rw [T.out]; exact Rep.val_mono (fun b hb _ => Nat.le_trans HB.out.size hb) (Rep.acc_fresh HU1.out), HB.out.trans (D1.out.mono HB.out.size)⟩
    · by_cases hloc : x.loc = true
      · have KS := Lib.hid (show ∀ w', Below W1.heap.size W1 w' → w'.cell? ⟨w.heap.size, 0, none⟩ = some (.int .i64 1) ∧ w'.cell? ⟨w.heap.size, 1, none⟩ = some (.bool true) ∧ w'.cell? ⟨w.heap.size, 2, none⟩ = some (.int .i64 x.id.index) ∧ w'.cell? ⟨w.heap.size, 3, none⟩ = some (.int .i64 x.id.gen) ∧ w'.cell? ⟨w.heap.size, 4, none⟩ = some (.int .i64 x.comp) ∧ w'.cell? ⟨w.heap.size, 5, none⟩ = some (.slice A x.data.length c) from
          fun w' h => have m := KM.out w' h; ⟨hk ▸ m.c0, hloc ▸ m.c1, m.c2, m.c3, m.c4, m.c5⟩)
        obtain ⟨q1, hq1⟩ : ∃ z, z = num 1 1 := ⟨_, rfl⟩
        have hn1 : q1.length ≤ 8 := by have := num_length 1 1; rw [hq1]; omega
        have S1 := Lib.hid (show q1.length + 1 ≤ maxLen ∧ (q1.length + 1) * 1 ≤ 140737488355328 by unfold maxLen; omega)
        obtain ⟨q2, hq2⟩ : ∃ z, z = q1 ++ [1] := ⟨_, rfl⟩
        have hn2 : q2.length ≤ 16 := by rw [hq2, List.length_append]; simp; omega
        have S2 := Lib.hid (show q2.length + (num 8 x.id.index).length ≤ maxLen ∧ (q2.length + (num 8 x.id.index).length) * 1 ≤ 140737488355328 by have := num_length 8 x.id.index; unfold maxLen; omega)
        obtain ⟨q3, hq3⟩ : ∃ z, z = q2 ++ num 8 x.id.index := ⟨_, rfl⟩
        have hn3 : q3.length ≤ 24 := by have := num_length 8 x.id.index; rw [hq3, List.length_append]; omega
        have T := Lib.hid (show cmdBytes x = q3 by rw [hq3, hq2, hq1, cmdBytes, hk, show knownB 1 = true from rfl]; simp [targetBytes, hloc, one_is])
        have E1 := Lib.hid hq1
        have E2 := Lib.hid hq2
        have E3 := Lib.hid hq3
        clear hq1 hq2 hq3 hn1 hn2 hn3 hk hloc
        obtain ⟨c0, c1, c2, c3, c4, c5⟩ := KS.out _ (Below.refl _ _)
        go_enter Try.func158, Try.ntmps158
        go_wp2_with fail
        try rw [hW1]
        clear hW1
        go_wp2_with fail
        refine (rnum_calls (width := 1) (n := 1) rfl rfl).mono ?_
        rintro e w1 ⟨u1, rfl, hu1, hb1⟩
        rw [← E1.out] at hu1
        have HU1 := Lib.hid hu1
        have D1 := Lib.hid hb1
        clear hu1 hb1 c0 c1 c2 c3 c4 c5
        obtain ⟨c0, c1, c2, c3, c4, c5⟩ := KS.out _ D1.out
        go_wp2_with (refine wpList_snoc (e := 5) (base := W1.heap.size) (Q := fun _ => False) (r := Rep.byte) rfl rfl _ _ 22 _ rfl rfl rfl (.int .u8 0) 1 1 Try.underlying22 info5 rfl (by decide) rfl _ _ HU1.out (1 : UInt8) _ (by exact rfl) lit1 (by exact rfl) (by exact rfl) S1.out.1 S1.out.2 D1.out.size ?_; intro v2 w2 hacc2 hgr2 hat2; rw [← E2.out] at hacc2; have HU2 := Lib.hid hacc2; have D2 := Lib.hid (Rep.acc_below HU1.out D1.out hgr2 D1.out.size); clear hacc2 hgr2 hat2; obtain ⟨c0, c1, c2, c3, c4, c5⟩ := KS.out _ D2.out)
        refine (rnum_calls (width := 8) (n := x.id.index) rfl F1.out).mono ?_
        rintro e x3 ⟨n3, rfl, hn3, hb3⟩
        have HN3 := Lib.hid hn3
        have G3 := Lib.hid (D2.out.trans (hb3.mono D2.out.size))
        have HA3 := Lib.hid (Rep.acc_later HU2.out hb3)
        clear hn3 hb3
        go_wp2_with (refine wpList_spread_leaf (e := 5) (base := W1.heap.size) (Q := fun _ => False) Rep.leaf_byte rfl _ _ 22 rfl (.int .u8 0) 1 1 Try.underlying22 info5 rfl (by decide) rfl _ _ (by exact rfl) HA3.out _ _ (by exact rfl) (Rep.acc_val HN3.out) S2.out.1 S2.out.2 G3.out.size ?_; intro v3 w3 hacc3 hgr3 hat3; rw [← E3.out] at hacc3; have HU3 := Lib.hid hacc3; have D3 := Lib.hid (Rep.acc_below HA3.out G3.out hgr3 G3.out.size); clear hacc3 hgr3 hat3; obtain ⟨c0, c1, c2, c3, c4, c5⟩ := KS.out _ D3.out)
        go_ret
        exact ⟨_, rfl, by rw [T.out]; exact Rep.val_mono (fun b hb _ => Nat.le_trans HB.out.size hb) (Rep.acc_fresh HU3.out), HB.out.trans (D3.out.mono HB.out.size)⟩
      · replace hloc : x.loc = false := by simpa using hloc
        have KS := Lib.hid (show ∀ w', Below W1.heap.size W1 w' → w'.cell? ⟨w.heap.size, 0, none⟩ = some (.int .i64 1) ∧ w'.cell? ⟨w.heap.size, 1, none⟩ = some (.bool false) ∧ w'.cell? ⟨w.heap.size, 2, none⟩ = some (.int .i64 x.id.index) ∧ w'.cell? ⟨w.heap.size, 3, none⟩ = some (.int .i64 x.id.gen) ∧ w'.cell? ⟨w.heap.size, 4, none⟩ = some (.int .i64 x.comp) ∧ w'.cell? ⟨w.heap.size, 5, none⟩ = some (.slice A x.data.length c) from
          fun w' h => have m := KM.out w' h; ⟨hk ▸ m.c0, hloc ▸ m.c1, m.c2, m.c3, m.c4, m.c5⟩)
        obtain ⟨q1, hq1⟩ : ∃ z, z = num 1 1 := ⟨_, rfl⟩
        have hn1 : q1.length ≤ 8 := by have := num_length 1 1; rw [hq1]; omega
        have S1 := Lib.hid (show q1.length + 1 ≤ maxLen ∧ (q1.length + 1) * 1 ≤ 140737488355328 by unfold maxLen; omega)
        obtain ⟨q2, hq2⟩ : ∃ z, z = q1 ++ [0] := ⟨_, rfl⟩
        have hn2 : q2.length ≤ 16 := by rw [hq2, List.length_append]; simp; omega
        have S2 := Lib.hid (show q2.length + (num 8 x.id.index).length ≤ maxLen ∧ (q2.length + (num 8 x.id.index).length) * 1 ≤ 140737488355328 by have := num_length 8 x.id.index; unfold maxLen; omega)
        obtain ⟨q3, hq3⟩ : ∃ z, z = q2 ++ num 8 x.id.index := ⟨_, rfl⟩
        have hn3 : q3.length ≤ 24 := by have := num_length 8 x.id.index; rw [hq3, List.length_append]; omega
        have S3 := Lib.hid (show q3.length + (num 8 x.id.gen).length ≤ maxLen ∧ (q3.length + (num 8 x.id.gen).length) * 1 ≤ 140737488355328 by have := num_length 8 x.id.gen; unfold maxLen; omega)
        obtain ⟨q4, hq4⟩ : ∃ z, z = q3 ++ num 8 x.id.gen := ⟨_, rfl⟩
        have hn4 : q4.length ≤ 32 := by have := num_length 8 x.id.gen; rw [hq4, List.length_append]; omega
        have T := Lib.hid (show cmdBytes x = q4 by rw [hq4, hq3, hq2, hq1, cmdBytes, hk, show knownB 1 = true from rfl]; simp [targetBytes, hloc, nil_is])
        have E1 := Lib.hid hq1
        have E2 := Lib.hid hq2
        have E3 := Lib.hid hq3
        have E4 := Lib.hid hq4
        clear hq1 hq2 hq3 hq4 hn1 hn2 hn3 hn4 hk hloc
        obtain ⟨c0, c1, c2, c3, c4, c5⟩ := KS.out _ (Below.refl _ _)
        go_enter Try.func158, Try.ntmps158
        go_wp2_with fail
        try rw [hW1]
        clear hW1
        go_wp2_with fail
        refine (rnum_calls (width := 1) (n := 1) rfl rfl).mono ?_
        rintro e w1 ⟨u1, rfl, hu1, hb1⟩
        rw [← E1.out] at hu1
        have HU1 := Lib.hid hu1
        have D1 := Lib.hid hb1
        clear hu1 hb1 c0 c1 c2 c3 c4 c5
        obtain ⟨c0, c1, c2, c3, c4, c5⟩ := KS.out _ D1.out
        go_wp2_with (refine wpList_snoc (e := 5) (base := W1.heap.size) (Q := fun _ => False) (r := Rep.byte) rfl rfl _ _ 22 _ rfl rfl rfl (.int .u8 0) 1 1 Try.underlying22 info5 rfl (by decide) rfl _ _ HU1.out (0 : UInt8) _ (by exact rfl) lit0 (by exact rfl) (by exact rfl) S1.out.1 S1.out.2 D1.out.size ?_; intro v2 w2 hacc2 hgr2 hat2; rw [← E2.out] at hacc2; have HU2 := Lib.hid hacc2; have D2 := Lib.hid (Rep.acc_below HU1.out D1.out hgr2 D1.out.size); clear hacc2 hgr2 hat2; obtain ⟨c0, c1, c2, c3, c4, c5⟩ := KS.out _ D2.out)
        refine (rnum_calls (width := 8) (n := x.id.index) rfl F1.out).mono ?_
        rintro e x3 ⟨n3, rfl, hn3, hb3⟩
        have HN3 := Lib.hid hn3
        have G3 := Lib.hid (D2.out.trans (hb3.mono D2.out.size))
        have HA3 := Lib.hid (Rep.acc_later HU2.out hb3)
        clear hn3 hb3
        go_wp2_with (refine wpList_spread_leaf (e := 5) (base := W1.heap.size) (Q := fun _ => False) Rep.leaf_byte rfl _ _ 22 rfl (.int .u8 0) 1 1 Try.underlying22 info5 rfl (by decide) rfl _ _ (by exact rfl) HA3.out _ _ (by exact rfl) (Rep.acc_val HN3.out) S2.out.1 S2.out.2 G3.out.size ?_; intro v3 w3 hacc3 hgr3 hat3; rw [← E3.out] at hacc3; have HU3 := Lib.hid hacc3; have D3 := Lib.hid (Rep.acc_below HA3.out G3.out hgr3 G3.out.size); clear hacc3 hgr3 hat3; obtain ⟨c0, c1, c2, c3, c4, c5⟩ := KS.out _ D3.out)
        go_wp2_with fail
        refine (rnum_calls (width := 8) (n := x.id.gen) rfl F2.out).mono ?_
        rintro e x4 ⟨n4, rfl, hn4, hb4⟩
        have HN4 := Lib.hid hn4
        have G4 := Lib.hid (D3.out.trans (hb4.mono D3.out.size))
        have HA4 := Lib.hid (Rep.acc_later HU3.out hb4)
        clear hn4 hb4
        go_wp2_with (refine wpList_spread_leaf (e := 5) (base := W1.heap.size) (Q := fun _ => False) Rep.leaf_byte rfl _ _ 22 rfl (.int .u8 0) 1 1 Try.underlying22 info5 rfl (by decide) rfl _ _ (by exact rfl) HA4.out _ _ (by exact rfl) (Rep.acc_val HN4.out) S3.out.1 S3.out.2 G4.out.size ?_; intro v4 w4 hacc4 hgr4 hat4; rw [← E4.out] at hacc4; have HU4 := Lib.hid hacc4; have D4 := Lib.hid (Rep.acc_below HA4.out G4.out hgr4 G4.out.size); clear hacc4 hgr4 hat4; obtain ⟨c0, c1, c2, c3, c4, c5⟩ := KS.out _ D4.out)
        go_ret
        exact ⟨_, rfl, by rw [T.out]; exact Rep.val_mono (fun b hb _ => Nat.le_trans HB.out.size hb) (Rep.acc_fresh HU4.out), HB.out.trans (D4.out.mono HB.out.size)⟩
    · by_cases hloc : x.loc = true
      · have KS := Lib.hid (show ∀ w', Below W1.heap.size W1 w' → w'.cell? ⟨w.heap.size, 0, none⟩ = some (.int .i64 2) ∧ w'.cell? ⟨w.heap.size, 1, none⟩ = some (.bool true) ∧ w'.cell? ⟨w.heap.size, 2, none⟩ = some (.int .i64 x.id.index) ∧ w'.cell? ⟨w.heap.size, 3, none⟩ = some (.int .i64 x.id.gen) ∧ w'.cell? ⟨w.heap.size, 4, none⟩ = some (.int .i64 x.comp) ∧ w'.cell? ⟨w.heap.size, 5, none⟩ = some (.slice A x.data.length c) from
          fun w' h => have m := KM.out w' h; ⟨hk ▸ m.c0, hloc ▸ m.c1, m.c2, m.c3, m.c4, m.c5⟩)
        obtain ⟨q1, hq1⟩ : ∃ z, z = num 1 2 := ⟨_, rfl⟩
        have hn1 : q1.length ≤ 8 := by have := num_length 1 2; rw [hq1]; omega
        have S1 := Lib.hid (show q1.length + 1 ≤ maxLen ∧ (q1.length + 1) * 1 ≤ 140737488355328 by unfold maxLen; omega)
        obtain ⟨q2, hq2⟩ : ∃ z, z = q1 ++ [1] := ⟨_, rfl⟩
        have hn2 : q2.length ≤ 16 := by rw [hq2, List.length_append]; simp; omega
        have S2 := Lib.hid (show q2.length + (num 8 x.id.index).length ≤ maxLen ∧ (q2.length + (num 8 x.id.index).length) * 1 ≤ 140737488355328 by have := num_length 8 x.id.index; unfold maxLen; omega)
        obtain ⟨q3, hq3⟩ : ∃ z, z = q2 ++ num 8 x.id.index := ⟨_, rfl⟩
        have hn3 : q3.length ≤ 24 := by have := num_length 8 x.id.index; rw [hq3, List.length_append]; omega
        have S3 := Lib.hid (show q3.length + (num 8 x.comp).length ≤ maxLen ∧ (q3.length + (num 8 x.comp).length) * 1 ≤ 140737488355328 by have := num_length 8 x.comp; unfold maxLen; omega)
        obtain ⟨q4, hq4⟩ : ∃ z, z = q3 ++ num 8 x.comp := ⟨_, rfl⟩
        have hn4 : q4.length ≤ 32 := by have := num_length 8 x.comp; rw [hq4, List.length_append]; omega
        have S4 := Lib.hid (show q4.length + (num 2 x.data.length).length ≤ maxLen ∧ (q4.length + (num 2 x.data.length).length) * 1 ≤ 140737488355328 by have := num_length 2 x.data.length; unfold maxLen; omega)
        obtain ⟨q5, hq5⟩ : ∃ z, z = q4 ++ num 2 x.data.length := ⟨_, rfl⟩
        have hn5 : q5.length ≤ 40 := by have := num_length 2 x.data.length; rw [hq5, List.length_append]; omega
        have S5 := Lib.hid (show q5.length + x.data.length ≤ maxLen ∧ (q5.length + x.data.length) * 1 ≤ 140737488355328 by unfold maxLen; omega)
        obtain ⟨q6, hq6⟩ : ∃ z, z = q5 ++ x.data := ⟨_, rfl⟩
        have T := Lib.hid (show cmdBytes x = q6 by rw [hq6, hq5, hq4, hq3, hq2, hq1, cmdBytes, hk, show knownB 2 = true from rfl]; simp [targetBytes, hloc, one_is, dataBytes])
        have E1 := Lib.hid hq1
        have E2 := Lib.hid hq2
        have E3 := Lib.hid hq3
        have E4 := Lib.hid hq4
        have E5 := Lib.hid hq5
        have E6 := Lib.hid hq6
        clear hq1 hq2 hq3 hq4 hq5 hq6 hn1 hn2 hn3 hn4 hn5 hk hloc
        obtain ⟨c0, c1, c2, c3, c4, c5⟩ := KS.out _ (Below.refl _ _)
        go_enter Try.func158, Try.ntmps158
        go_wp2_with fail
        try rw [hW1]
        clear hW1
        go_wp2_with fail
        refine (rnum_calls (width := 1) (n := 2) rfl rfl).mono ?_
        rintro e w1 ⟨u1, rfl, hu1, hb1⟩
        rw [← E1.out] at hu1
        have HU1 := Lib.hid hu1
        have D1 := Lib.hid hb1
        clear hu1 hb1 c0 c1 c2 c3 c4 c5
        obtain ⟨c0, c1, c2, c3, c4, c5⟩ := KS.out _ D1.out
        go_wp2_with (refine wpList_snoc (e := 5) (base := W1.heap.size) (Q := fun _ => False) (r := Rep.byte) rfl rfl _ _ 22 _ rfl rfl rfl (.int .u8 0) 1 1 Try.underlying22 info5 rfl (by decide) rfl _ _ HU1.out (1 : UInt8) _ (by exact rfl) lit1 (by exact rfl) (by exact rfl) S1.out.1 S1.out.2 D1.out.size ?_; intro v2 w2 hacc2 hgr2 hat2; rw [← E2.out] at hacc2; have HU2 := Lib.hid hacc2; have D2 := Lib.hid (Rep.acc_below HU1.out D1.out hgr2 D1.out.size); clear hacc2 hgr2 hat2; obtain ⟨c0, c1, c2, c3, c4, c5⟩ := KS.out _ D2.out)
        refine (rnum_calls (width := 8) (n := x.id.index) rfl F1.out).mono ?_
        rintro e x3 ⟨n3, rfl, hn3, hb3⟩
        have HN3 := Lib.hid hn3
        have G3 := Lib.hid (D2.out.trans (hb3.mono D2.out.size))
        have HA3 := Lib.hid (Rep.acc_later HU2.out hb3)
        clear hn3 hb3
        go_wp2_with (refine wpList_spread_leaf (e := 5) (base := W1.heap.size) (Q := fun _ => False) Rep.leaf_byte rfl _ _ 22 rfl (.int .u8 0) 1 1 Try.underlying22 info5 rfl (by decide) rfl _ _ (by exact rfl) HA3.out _ _ (by exact rfl) (Rep.acc_val HN3.out) S2.out.1 S2.out.2 G3.out.size ?_; intro v3 w3 hacc3 hgr3 hat3; rw [← E3.out] at hacc3; have HU3 := Lib.hid hacc3; have D3 := Lib.hid (Rep.acc_below HA3.out G3.out hgr3 G3.out.size); clear hacc3 hgr3 hat3; obtain ⟨c0, c1, c2, c3, c4, c5⟩ := KS.out _ D3.out)
        go_wp2_with fail
        refine (rnum_calls (width := 8) (n := x.comp) rfl F3.out).mono ?_
        rintro e x4 ⟨n4, rfl, hn4, hb4⟩
        have HN4 := Lib.hid hn4
        have G4 := Lib.hid (D3.out.trans (hb4.mono D3.out.size))
        have HA4 := Lib.hid (Rep.acc_later HU3.out hb4)
        clear hn4 hb4
        go_wp2_with (refine wpList_spread_leaf (e := 5) (base := W1.heap.size) (Q := fun _ => False) Rep.leaf_byte rfl _ _ 22 rfl (.int .u8 0) 1 1 Try.underlying22 info5 rfl (by decide) rfl _ _ (by exact rfl) HA4.out _ _ (by exact rfl) (Rep.acc_val HN4.out) S3.out.1 S3.out.2 G4.out.size ?_; intro v4 w4 hacc4 hgr4 hat4; rw [← E4.out] at hacc4; have HU4 := Lib.hid hacc4; have D4 := Lib.hid (Rep.acc_below HA4.out G4.out hgr4 G4.out.size); clear hacc4 hgr4 hat4; obtain ⟨c0, c1, c2, c3, c4, c5⟩ := KS.out _ D4.out)
        go_wp2_with fail
        refine (rnum_calls (width := 2) (n := x.data.length) rfl FD.out).mono ?_
        rintro e x5 ⟨n5, rfl, hn5, hb5⟩
        have HN5 := Lib.hid hn5
        have G5 := Lib.hid (D4.out.trans (hb5.mono D4.out.size))
        have HA5 := Lib.hid (Rep.acc_later HU4.out hb5)
        clear hn5 hb5
        go_wp2_with (first | (refine wpList_spread_leaf (e := 5) (base := W1.heap.size) (Q := fun _ => False) Rep.leaf_byte rfl _ _ 22 rfl (.int .u8 0) 1 1 Try.underlying22 info5 rfl (by decide) rfl _ _ (by exact rfl) HA5.out _ _ (by exact rfl) (Rep.acc_val HN5.out) S4.out.1 S4.out.2 G5.out.size ?_; intro v5 w5 hacc5 hgr5 hat5; rw [← E5.out] at hacc5; have HU5 := Lib.hid hacc5; have D5 := Lib.hid (Rep.acc_below HA5.out G5.out hgr5 G5.out.size); clear hacc5 hgr5 hat5; obtain ⟨c0, c1, c2, c3, c4, c5⟩ := KS.out _ D5.out) | (refine wpList_spread_leaf (e := 5) (base := W1.heap.size) (Q := fun _ => False) Rep.leaf_byte rfl _ _ 22 rfl (.int .u8 0) 1 1 Try.underlying22 info5 rfl (by decide) rfl _ _ (by exact rfl) HU5.out _ _ (by exact rfl) (HVD.out _ D5.out) S5.out.1 S5.out.2 D5.out.size ?_; intro v6 w6 hacc6 hgr6 hat6; rw [← E6.out] at hacc6; have HU6 := Lib.hid hacc6; have D6 := Lib.hid (Rep.acc_below HU5.out D5.out hgr6 D5.out.size); clear hacc6 hgr6 hat6; obtain ⟨c0, c1, c2, c3, c4, c5⟩ := KS.out _ D6.out))
        go_ret
        exact ⟨_, rfl, by rw [T.out]; exact Rep.val_mono (fun b hb _ => Nat.le_trans HB.out.size hb) (Rep.acc_fresh HU6.out), HB.out.trans (D6.out.mono HB.out.size)⟩
      · replace hloc : x.loc = false := by simpa using hloc
        have KS := Lib.hid (show ∀ w', Below W1.heap.size W1 w' → w'.cell? ⟨w.heap.size, 0, none⟩ = some (.int .i64 2) ∧ w'.cell? ⟨w.heap.size, 1, none⟩ = some (.bool false) ∧ w'.cell? ⟨w.heap.size, 2, none⟩ = some (.int .i64 x.id.index) ∧ w'.cell? ⟨w.heap.size, 3, none⟩ = some (.int .i64 x.id.gen) ∧ w'.cell? ⟨w.heap.size, 4, none⟩ = some (.int .i64 x.comp) ∧ w'.cell? ⟨w.heap.size, 5, none⟩ = some (.slice A x.data.length c) from
          fun w' h => have m := KM.out w' h; ⟨hk ▸ m.c0, hloc ▸ m.c1, m.c2, m.c3, m.c4, m.c5⟩)
        obtain ⟨q1, hq1⟩ : ∃ z, z = num 1 2 := ⟨_, rfl⟩
        have hn1 : q1.length ≤ 8 := by have := num_length 1 2; rw [hq1]; omega
        have S1 := Lib.hid (show q1.length + 1 ≤ maxLen ∧ (q1.length + 1) * 1 ≤ 140737488355328 by unfold maxLen; omega)
        obtain ⟨q2, hq2⟩ : ∃ z, z = q1 ++ [0] := ⟨_, rfl⟩
        have hn2 : q2.length ≤ 16 := by rw [hq2, List.length_append]; simp; omega
        have S2 := Lib.hid (show q2.length + (num 8 x.id.index).length ≤ maxLen ∧ (q2.length + (num 8 x.id.index).length) * 1 ≤ 140737488355328 by have := num_length 8 x.id.index; unfold maxLen; omega)
        obtain ⟨q3, hq3⟩ : ∃ z, z = q2 ++ num 8 x.id.index := ⟨_, rfl⟩
        have hn3 : q3.length ≤ 24 := by have := num_length 8 x.id.index; rw [hq3, List.length_append]; omega
        have S3 := Lib.hid (show q3.length + (num 8 x.id.gen).length ≤ maxLen ∧ (q3.length + (num 8 x.id.gen).length) * 1 ≤ 140737488355328 by have := num_length 8 x.id.gen; unfold maxLen; omega)
        obtain ⟨q4, hq4⟩ : ∃ z, z = q3 ++ num 8 x.id.gen := ⟨_, rfl⟩
        have hn4 : q4.length ≤ 32 := by have := num_length 8 x.id.gen; rw [hq4, List.length_append]; omega
        have S4 := Lib.hid (show q4.length + (num 8 x.comp).length ≤ maxLen ∧ (q4.length + (num 8 x.comp).length) * 1 ≤ 140737488355328 by have := num_length 8 x.comp; unfold maxLen; omega)
        obtain ⟨q5, hq5⟩ : ∃ z, z = q4 ++ num 8 x.comp := ⟨_, rfl⟩
        have hn5 : q5.length ≤ 40 := by have := num_length 8 x.comp; rw [hq5, List.length_append]; omega
        have S5 := Lib.hid (show q5.length + (num 2 x.data.length).length ≤ maxLen ∧ (q5.length + (num 2 x.data.length).length) * 1 ≤ 140737488355328 by have := num_length 2 x.data.length; unfold maxLen; omega)
        obtain ⟨q6, hq6⟩ : ∃ z, z = q5 ++ num 2 x.data.length := ⟨_, rfl⟩
        have hn6 : q6.length ≤ 48 := by have := num_length 2 x.data.length; rw [hq6, List.length_append]; omega
        have S6 := Lib.hid (show q6.length + x.data.length ≤ maxLen ∧ (q6.length + x.data.length) * 1 ≤ 140737488355328 by unfold maxLen; omega)
        obtain ⟨q7, hq7⟩ : ∃ z, z = q6 ++ x.data := ⟨_, rfl⟩
        have T := Lib.hid (show cmdBytes x = q7 by rw [hq7, hq6, hq5, hq4, hq3, hq2, hq1, cmdBytes, hk, show knownB 2 = true from rfl]; simp [targetBytes, hloc, nil_is, dataBytes])
        have E1 := Lib.hid hq1
        have E2 := Lib.hid hq2
        have E3 := Lib.hid hq3
        have E4 := Lib.hid hq4
        have E5 := Lib.hid hq5
        have E6 := Lib.hid hq6
        have E7 := Lib.hid hq7
        clear hq1 hq2 hq3 hq4 hq5 hq6 hq7 hn1 hn2 hn3 hn4 hn5 hn6 hk hloc
        obtain ⟨c0, c1, c2, c3, c4, c5⟩ := KS.out _ (Below.refl _ _)
        go_enter Try.func158, Try.ntmps158
        go_wp2_with fail
        try rw [hW1]
        clear hW1
        go_wp2_with fail
        refine (rnum_calls (width := 1) (n := 2) rfl rfl).mono ?_
        rintro e w1 ⟨u1, rfl, hu1, hb1⟩
        rw [← E1.out] at hu1
        have HU1 := Lib.hid hu1
        have D1 := Lib.hid hb1
        clear hu1 hb1 c0 c1 c2 c3 c4 c5
        obtain ⟨c0, c1, c2, c3, c4, c5⟩ := KS.out _ D1.out
        go_wp2_with (refine wpList_snoc (e := 5) (base := W1.heap.size) (Q := fun _ => False) (r := Rep.byte) rfl rfl _ _ 22 _ rfl rfl rfl (.int .u8 0) 1 1 Try.underlying22 info5 rfl (by decide) rfl _ _ HU1.out (0 : UInt8) _ (by exact rfl) lit0 (by exact rfl) (by exact rfl) S1.out.1 S1.out.2 D1.out.size ?_; intro v2 w2 hacc2 hgr2 hat2; rw [← E2.out] at hacc2; have HU2 := Lib.hid hacc2; have D2 := Lib.hid (Rep.acc_below HU1.out D1.out hgr2 D1.out.size); clear hacc2 hgr2 hat2; obtain ⟨c0, c1, c2, c3, c4, c5⟩ := KS.out _ D2.out)
        refine (rnum_calls (width := 8) (n := x.id.index) rfl F1.out).mono ?_
        rintro e x3 ⟨n3, rfl, hn3, hb3⟩
        have HN3 := Lib.hid hn3
        have G3 := Lib.hid (D2.out.trans (hb3.mono D2.out.size))
        have HA3 := Lib.hid (Rep.acc_later HU2.out hb3)
        clear hn3 hb3
        go_wp2_with (refine wpList_spread_leaf (e := 5) (base := W1.heap.size) (Q := fun _ => False) Rep.leaf_byte rfl _ _ 22 rfl (.int .u8 0) 1 1 Try.underlying22 info5 rfl (by decide) rfl _ _ (by exact rfl) HA3.out _ _ (by exact rfl) (Rep.acc_val HN3.out) S2.out.1 S2.out.2 G3.out.size ?_; intro v3 w3 hacc3 hgr3 hat3; rw [← E3.out] at hacc3; have HU3 := Lib.hid hacc3; have D3 := Lib.hid (Rep.acc_below HA3.out G3.out hgr3 G3.out.size); clear hacc3 hgr3 hat3; obtain ⟨c0, c1, c2, c3, c4, c5⟩ := KS.out _ D3.out)
        go_wp2_with fail
        refine (rnum_calls (width := 8) (n := x.id.gen) rfl F2.out).mono ?_
        rintro e x4 ⟨n4, rfl, hn4, hb4⟩
        have HN4 := Lib.hid hn4
        have G4 := Lib.hid (D3.out.trans (hb4.mono D3.out.size))
        have HA4 := Lib.hid (Rep.acc_later HU3.out hb4)
        clear hn4 hb4
        go_wp2_with (refine wpList_spread_leaf (e := 5) (base := W1.heap.size) (Q := fun _ => False) Rep.leaf_byte rfl _ _ 22 rfl (.int .u8 0) 1 1 Try.underlying22 info5 rfl (by decide) rfl _ _ (by exact rfl) HA4.out _ _ (by exact rfl) (Rep.acc_val HN4.out) S3.out.1 S3.out.2 G4.out.size ?_; intro v4 w4 hacc4 hgr4 hat4; rw [← E4.out] at hacc4; have HU4 := Lib.hid hacc4; have D4 := Lib.hid (Rep.acc_below HA4.out G4.out hgr4 G4.out.size); clear hacc4 hgr4 hat4; obtain ⟨c0, c1, c2, c3, c4, c5⟩ := KS.out _ D4.out)
        go_wp2_with fail
        refine (rnum_calls (width := 8) (n := x.comp) rfl F3.out).mono ?_
        rintro e x5 ⟨n5, rfl, hn5, hb5⟩
        have HN5 := Lib.hid hn5
        have G5 := Lib.hid (D4.out.trans (hb5.mono D4.out.size))
        have HA5 := Lib.hid (Rep.acc_later HU4.out hb5)
        clear hn5 hb5
        go_wp2_with (refine wpList_spread_leaf (e := 5) (base := W1.heap.size) (Q := fun _ => False) Rep.leaf_byte rfl _ _ 22 rfl (.int .u8 0) 1 1 Try.underlying22 info5 rfl (by decide) rfl _ _ (by exact rfl) HA5.out _ _ (by exact rfl) (Rep.acc_val HN5.out) S4.out.1 S4.out.2 G5.out.size ?_; intro v5 w5 hacc5 hgr5 hat5; rw [← E5.out] at hacc5; have HU5 := Lib.hid hacc5; have D5 := Lib.hid (Rep.acc_below HA5.out G5.out hgr5 G5.out.size); clear hacc5 hgr5 hat5; obtain ⟨c0, c1, c2, c3, c4, c5⟩ := KS.out _ D5.out)
        go_wp2_with fail
        refine (rnum_calls (width := 2) (n := x.data.length) rfl FD.out).mono ?_
        rintro e x6 ⟨n6, rfl, hn6, hb6⟩
        have HN6 := Lib.hid hn6
        have G6 := Lib.hid (D5.out.trans (hb6.mono D5.out.size))
        have HA6 := Lib.hid (Rep.acc_later HU5.out hb6)
        clear hn6 hb6
        go_wp2_with (first | (refine wpList_spread_leaf (e := 5) (base := W1.heap.size) (Q := fun _ => False) Rep.leaf_byte rfl _ _ 22 rfl (.int .u8 0) 1 1 Try.underlying22 info5 rfl (by decide) rfl _ _ (by exact rfl) HA6.out _ _ (by exact rfl) (Rep.acc_val HN6.out) S5.out.1 S5.out.2 G6.out.size ?_; intro v6 w6 hacc6 hgr6 hat6; rw [← E6.out] at hacc6; have HU6 := Lib.hid hacc6; have D6 := Lib.hid (Rep.acc_below HA6.out G6.out hgr6 G6.out.size); clear hacc6 hgr6 hat6; obtain ⟨c0, c1, c2, c3, c4, c5⟩ := KS.out _ D6.out) | (refine wpList_spread_leaf (e := 5) (base := W1.heap.size) (Q := fun _ => False) Rep.leaf_byte rfl _ _ 22 rfl (.int .u8 0) 1 1 Try.underlying22 info5 rfl (by decide) rfl _ _ (by exact rfl) HU6.out _ _ (by exact rfl) (HVD.out _ D6.out) S6.out.1 S6.out.2 D6.out.size ?_; intro v7 w7 hacc7 hgr7 hat7; rw [← E7.out] at hacc7; have HU7 := Lib.hid hacc7; have D7 := Lib.hid (Rep.acc_below HU6.out D6.out hgr7 D6.out.size); clear hacc7 hgr7 hat7; obtain ⟨c0, c1, c2, c3, c4, c5⟩ := KS.out _ D7.out))
        go_ret
        exact ⟨_, rfl, by rw [T.out]; exact Rep.val_mono (fun b hb _ => Nat.le_trans HB.out.size hb) (Rep.acc_fresh HU7.out), HB.out.trans (D7.out.mono HB.out.size)⟩
    · by_cases hloc : x.loc = true
      · have KS := Lib.hid (show ∀ w', Below W1.heap.size W1 w' → w'.cell? ⟨w.heap.size, 0, none⟩ = some (.int .i64 3) ∧ w'.cell? ⟨w.heap.size, 1, none⟩ = some (.bool true) ∧ w'.cell? ⟨w.heap.size, 2, none⟩ = some (.int .i64 x.id.index) ∧ w'.cell? ⟨w.heap.size, 3, none⟩ = some (.int .i64 x.id.gen) ∧ w'.cell? ⟨w.heap.size, 4, none⟩ = some (.int .i64 x.comp) ∧ w'.cell? ⟨w.heap.size, 5, none⟩ = some (.slice A x.data.length c) from
          fun w' h => have m := KM.out w' h; ⟨hk ▸ m.c0, hloc ▸ m.c1, m.c2, m.c3, m.c4, m.c5⟩)
        obtain ⟨q1, hq1⟩ : ∃ z, z = num 1 3 := ⟨_, rfl⟩
        have hn1 : q1.length ≤ 8 := by have := num_length 1 3; rw [hq1]; omega
        have S1 := Lib.hid (show q1.length + 1 ≤ maxLen ∧ (q1.length + 1) * 1 ≤ 140737488355328 by unfold maxLen; omega)
        obtain ⟨q2, hq2⟩ : ∃ z, z = q1 ++ [1] := ⟨_, rfl⟩
        have hn2 : q2.length ≤ 16 := by rw [hq2, List.length_append]; simp; omega
        have S2 := Lib.hid (show q2.length + (num 8 x.id.index).length ≤ maxLen ∧ (q2.length + (num 8 x.id.index).length) * 1 ≤ 140737488355328 by have := num_length 8 x.id.index; unfold maxLen; omega)
        obtain ⟨q3, hq3⟩ : ∃ z, z = q2 ++ num 8 x.id.index := ⟨_, rfl⟩
        have hn3 : q3.length ≤ 24 := by have := num_length 8 x.id.index; rw [hq3, List.length_append]; omega
        have S3 := Lib.hid (show q3.length + (num 8 x.comp).length ≤ maxLen ∧ (q3.length + (num 8 x.comp).length) * 1 ≤ 140737488355328 by have := num_length 8 x.comp; unfold maxLen; omega)
        obtain ⟨q4, hq4⟩ : ∃ z, z = q3 ++ num 8 x.comp := ⟨_, rfl⟩
        have hn4 : q4.length ≤ 32 := by have := num_length 8 x.comp; rw [hq4, List.length_append]; omega
        have T := Lib.hid (show cmdBytes x = q4 by rw [hq4, hq3, hq2, hq1, cmdBytes, hk, show knownB 3 = true from rfl]; simp [targetBytes, hloc, one_is])
        have E1 := Lib.hid hq1
        have E2 := Lib.hid hq2
        have E3 := Lib.hid hq3
        have E4 := Lib.hid hq4
        clear hq1 hq2 hq3 hq4 hn1 hn2 hn3 hn4 hk hloc
        obtain ⟨c0, c1, c2, c3, c4, c5⟩ := KS.out _ (Below.refl _ _)
        go_enter Try.func158, Try.ntmps158
        go_wp2_with fail
        try rw [hW1]
        clear hW1
        go_wp2_with fail
        refine (rnum_calls (width := 1) (n := 3) rfl rfl).mono ?_
        rintro e w1 ⟨u1, rfl, hu1, hb1⟩
        rw [← E1.out] at hu1
        have HU1 := Lib.hid hu1
        have D1 := Lib.hid hb1
        clear hu1 hb1 c0 c1 c2 c3 c4 c5
        obtain ⟨c0, c1, c2, c3, c4, c5⟩ := KS.out _ D1.out
        go_wp2_with (refine wpList_snoc (e := 5) (base := W1.heap.size) (Q := fun _ => False) (r := Rep.byte) rfl rfl _ _ 22 _ rfl rfl rfl (.int .u8 0) 1 1 Try.underlying22 info5 rfl (by decide) rfl _ _ HU1.out (1 : UInt8) _ (by exact rfl) lit1 (by exact rfl) (by exact rfl) S1.out.1 S1.out.2 D1.out.size ?_; intro v2 w2 hacc2 hgr2 hat2; rw [← E2.out] at hacc2; have HU2 := Lib.hid hacc2; have D2 := Lib.hid (Rep.acc_below HU1.out D1.out hgr2 D1.out.size); clear hacc2 hgr2 hat2; obtain ⟨c0, c1, c2, c3, c4, c5⟩ := KS.out _ D2.out)
        refine (rnum_calls (width := 8) (n := x.id.index) rfl F1.out).mono ?_
        rintro e x3 ⟨n3, rfl, hn3, hb3⟩
        have HN3 := Lib.hid hn3
        have G3 := Lib.hid (D2.out.trans (hb3.mono D2.out.size))
        have HA3 := Lib.hid (Rep.acc_later HU2.out hb3)
        clear hn3 hb3
        go_wp2_with (refine wpList_spread_leaf (e := 5) (base := W1.heap.size) (Q := fun _ => False) Rep.leaf_byte rfl _ _ 22 rfl (.int .u8 0) 1 1 Try.underlying22 info5 rfl (by decide) rfl _ _ (by exact rfl) HA3.out _ _ (by exact rfl) (Rep.acc_val HN3.out) S2.out.1 S2.out.2 G3.out.size ?_; intro v3 w3 hacc3 hgr3 hat3; rw [← E3.out] at hacc3; have HU3 := Lib.hid hacc3; have D3 := Lib.hid (Rep.acc_below HA3.out G3.out hgr3 G3.out.size); clear hacc3 hgr3 hat3; obtain ⟨c0, c1, c2, c3, c4, c5⟩ := KS.out _ D3.out)
        go_wp2_with fail
        refine (rnum_calls (width := 8) (n := x.comp) rfl F3.out).mono ?_
        rintro e x4 ⟨n4, rfl, hn4, hb4⟩
        have HN4 := Lib.hid hn4
        have G4 := Lib.hid (D3.out.trans (hb4.mono D3.out.size))
        have HA4 := Lib.hid (Rep.acc_later HU3.out hb4)
        clear hn4 hb4
        go_wp2_with (refine wpList_spread_leaf (e := 5) (base := W1.heap.size) (Q := fun _ => False) Rep.leaf_byte rfl _ _ 22 rfl (.int .u8 0) 1 1 Try.underlying22 info5 rfl (by decide) rfl _ _ (by exact rfl) HA4.out _ _ (by exact rfl) (Rep.acc_val HN4.out) S3.out.1 S3.out.2 G4.out.size ?_; intro v4 w4 hacc4 hgr4 hat4; rw [← E4.out] at hacc4; have HU4 := Lib.hid hacc4; have D4 := Lib.hid (Rep.acc_below HA4.out G4.out hgr4 G4.out.size); clear hacc4 hgr4 hat4; obtain ⟨c0, c1, c2, c3, c4, c5⟩ := KS.out _ D4.out)
        go_ret
        exact ⟨_, rfl, by rw [T.out]; exact Rep.val_mono (fun b hb _ => Nat.le_trans HB.out.size hb) (Rep.acc_fresh HU4.out), HB.out.trans (D4.out.mono HB.out.size)⟩
      · replace hloc : x.loc = false := by simpa using hloc
        have KS := Lib.hid (show ∀ w', Below W1.heap.size W1 w' → w'.cell? ⟨w.heap.size, 0, none⟩ = some (.int .i64 3) ∧ w'.cell? ⟨w.heap.size, 1, none⟩ = some (.bool false) ∧ w'.cell? ⟨w.heap.size, 2, none⟩ = some (.int .i64 x.id.index) ∧ w'.cell? ⟨w.heap.size, 3, none⟩ = some (.int .i64 x.id.gen) ∧ w'.cell? ⟨w.heap.size, 4, none⟩ = some (.int .i64 x.comp) ∧ w'.cell? ⟨w.heap.size, 5, none⟩ = some (.slice A x.data.length c) from
          fun w' h => have m := KM.out w' h; ⟨hk ▸ m.c0, hloc ▸ m.c1, m.c2, m.c3, m.c4, m.c5⟩)
        obtain ⟨q1, hq1⟩ : ∃ z, z = num 1 3 := ⟨_, rfl⟩
        have hn1 : q1.length ≤ 8 := by have := num_length 1 3; rw [hq1]; omega
        have S1 := Lib.hid (show q1.length + 1 ≤ maxLen ∧ (q1.length + 1) * 1 ≤ 140737488355328 by unfold maxLen; omega)
        obtain ⟨q2, hq2⟩ : ∃ z, z = q1 ++ [0] := ⟨_, rfl⟩
        have hn2 : q2.length ≤ 16 := by rw [hq2, List.length_append]; simp; omega
        have S2 := Lib.hid (show q2.length + (num 8 x.id.index).length ≤ maxLen ∧ (q2.length + (num 8 x.id.index).length) * 1 ≤ 140737488355328 by have := num_length 8 x.id.index; unfold maxLen; omega)
        obtain ⟨q3, hq3⟩ : ∃ z, z = q2 ++ num 8 x.id.index := ⟨_, rfl⟩
        have hn3 : q3.length ≤ 24 := by have := num_length 8 x.id.index; rw [hq3, List.length_append]; omega
        have S3 := Lib.hid (show q3.length + (num 8 x.id.gen).length ≤ maxLen ∧ (q3.length + (num 8 x.id.gen).length) * 1 ≤ 140737488355328 by have := num_length 8 x.id.gen; unfold maxLen; omega)
        obtain ⟨q4, hq4⟩ : ∃ z, z = q3 ++ num 8 x.id.gen := ⟨_, rfl⟩
        have hn4 : q4.length ≤ 32 := by have := num_length 8 x.id.gen; rw [hq4, List.length_append]; omega
        have S4 := Lib.hid (show q4.length + (num 8 x.comp).length ≤ maxLen ∧ (q4.length + (num 8 x.comp).length) * 1 ≤ 140737488355328 by have := num_length 8 x.comp; unfold maxLen; omega)
        obtain ⟨q5, hq5⟩ : ∃ z, z = q4 ++ num 8 x.comp := ⟨_, rfl⟩
        have hn5 : q5.length ≤ 40 := by have := num_length 8 x.comp; rw [hq5, List.length_append]; omega
        have T := Lib.hid (show cmdBytes x = q5 by rw [hq5, hq4, hq3, hq2, hq1, cmdBytes, hk, show knownB 3 = true from rfl]; simp [targetBytes, hloc, nil_is])
        have E1 := Lib.hid hq1
        have E2 := Lib.hid hq2
        have E3 := Lib.hid hq3
        have E4 := Lib.hid hq4
        have E5 := Lib.hid hq5
        clear hq1 hq2 hq3 hq4 hq5 hn1 hn2 hn3 hn4 hn5 hk hloc
        obtain ⟨c0, c1, c2, c3, c4, c5⟩ := KS.out _ (Below.refl _ _)
        go_enter Try.func158, Try.ntmps158
        go_wp2_with fail
        try rw [hW1]
        clear hW1
        go_wp2_with fail
        refine (rnum_calls (width := 1) (n := 3) rfl rfl).mono ?_
        rintro e w1 ⟨u1, rfl, hu1, hb1⟩
        rw [← E1.out] at hu1
        have HU1 := Lib.hid hu1
        have D1 := Lib.hid hb1
        clear hu1 hb1 c0 c1 c2 c3 c4 c5
        obtain ⟨c0, c1, c2, c3, c4, c5⟩ := KS.out _ D1.out
        go_wp2_with (refine wpList_snoc (e := 5) (base := W1.heap.size) (Q := fun _ => False) (r := Rep.byte) rfl rfl _ _ 22 _ rfl rfl rfl (.int .u8 0) 1 1 Try.underlying22 info5 rfl (by decide) rfl _ _ HU1.out (0 : UInt8) _ (by exact rfl) lit0 (by exact rfl) (by exact rfl) S1.out.1 S1.out.2 D1.out.size ?_; intro v2 w2 hacc2 hgr2 hat2; rw [← E2.out] at hacc2; have HU2 := Lib.hid hacc2; have D2 := Lib.hid (Rep.acc_below HU1.out D1.out hgr2 D1.out.size); clear hacc2 hgr2 hat2; obtain ⟨c0, c1, c2, c3, c4, c5⟩ := KS.out _ D2.out)
        refine (rnum_calls (width := 8) (n := x.id.index) rfl F1.out).mono ?_
        rintro e x3 ⟨n3, rfl, hn3, hb3⟩
        have HN3 := Lib.hid hn3
        have G3 := Lib.hid (D2.out.trans (hb3.mono D2.out.size))
        have HA3 := Lib.hid (Rep.acc_later HU2.out hb3)
        clear hn3 hb3
        go_wp2_with (refine wpList_spread_leaf (e := 5) (base := W1.heap.size) (Q := fun _ => False) Rep.leaf_byte rfl _ _ 22 rfl (.int .u8 0) 1 1 Try.underlying22 info5 rfl (by decide) rfl _ _ (by exact rfl) HA3.out _ _ (by exact rfl) (Rep.acc_val HN3.out) S2.out.1 S2.out.2 G3.out.size ?_; intro v3 w3 hacc3 hgr3 hat3; rw [← E3.out] at hacc3; have HU3 := Lib.hid hacc3; have D3 := Lib.hid (Rep.acc_below HA3.out G3.out hgr3 G3.out.size); clear hacc3 hgr3 hat3; obtain ⟨c0, c1, c2, c3, c4, c5⟩ := KS.out _ D3.out)
        go_wp2_with fail
        refine (rnum_calls (width := 8) (n := x.id.gen) rfl F2.out).mono ?_
        rintro e x4 ⟨n4, rfl, hn4, hb4⟩
        have HN4 := Lib.hid hn4
        have G4 := Lib.hid (D3.out.trans (hb4.mono D3.out.size))
        have HA4 := Lib.hid (Rep.acc_later HU3.out hb4)
        clear hn4 hb4
        go_wp2_with (refine wpList_spread_leaf (e := 5) (base := W1.heap.size) (Q := fun _ => False) Rep.leaf_byte rfl _ _ 22 rfl (.int .u8 0) 1 1 Try.underlying22 info5 rfl (by decide) rfl _ _ (by exact rfl) HA4.out _ _ (by exact rfl) (Rep.acc_val HN4.out) S3.out.1 S3.out.2 G4.out.size ?_; intro v4 w4 hacc4 hgr4 hat4; rw [← E4.out] at hacc4; have HU4 := Lib.hid hacc4; have D4 := Lib.hid (Rep.acc_below HA4.out G4.out hgr4 G4.out.size); clear hacc4 hgr4 hat4; obtain ⟨c0, c1, c2, c3, c4, c5⟩ := KS.out _ D4.out)
        go_wp2_with fail
        refine (rnum_calls (width := 8) (n := x.comp) rfl F3.out).mono ?_
        rintro e x5 ⟨n5, rfl, hn5, hb5⟩
        have HN5 := Lib.hid hn5
        have G5 := Lib.hid (D4.out.trans (hb5.mono D4.out.size))
        have HA5 := Lib.hid (Rep.acc_later HU4.out hb5)
        clear hn5 hb5
        go_wp2_with (refine wpList_spread_leaf (e := 5) (base := W1.heap.size) (Q := fun _ => False) Rep.leaf_byte rfl _ _ 22 rfl (.int .u8 0) 1 1 Try.underlying22 info5 rfl (by decide) rfl _ _ (by exact rfl) HA5.out _ _ (by exact rfl) (Rep.acc_val HN5.out) S4.out.1 S4.out.2 G5.out.size ?_; intro v5 w5 hacc5 hgr5 hat5; rw [← E5.out] at hacc5; have HU5 := Lib.hid hacc5; have D5 := Lib.hid (Rep.acc_below HA5.out G5.out hgr5 G5.out.size); clear hacc5 hgr5 hat5; obtain ⟨c0, c1, c2, c3, c4, c5⟩ := KS.out _ D5.out)
        go_ret
        exact ⟨_, rfl, by rw [T.out]; exact Rep.val_mono (fun b hb _ => Nat.le_trans HB.out.size hb) (Rep.acc_fresh HU5.out), HB.out.trans (D5.out.mono HB.out.size)⟩
end Go.Proofs.Ytecdbfbaclgejaa
