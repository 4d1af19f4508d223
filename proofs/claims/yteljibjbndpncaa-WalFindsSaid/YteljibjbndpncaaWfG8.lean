/- Texts on which the proofs stand: Page, Count, PCount, RCounts, Most, Idx, CmdCheck. No condition is laid on any input. -/
import Derived.Test.YteljibjbndpncaaWfG1
import Derived.Test.YteljibjbndpncaaWfG7
/- Walks of the functions on pages: how many, in pieces. -/
namespace Go.Proofs.Yteljibjbndpncaa
open Go.RowKit

def pageCount (n : Int) : Int := if n < 1 then 0 else (n - 1) / 472 + 1

/-- ref20.Count -/
theorem rcount_calls (n : Int) (w : World) (h1 : -9223372036854775808 ≤ n) (h2 : n ≤ 9223372036854775807) :
    Calls Try.prog 49 #[.int .i64 n] w fun e w' => e = .returned (.int .i64 (pageCount n)) ∧ w' = w := by
  by_cases h : n < 1
  · have hf : pageCount n = 0 := by rw [pageCount, if_pos h]
    have HF := Lib.hid hf
    clear hf
    go_enter Try.func49, Try.ntmps49
    go_wp2_with fail
    go_ret
    exact ⟨by rw [HF.out]; rfl, rfl⟩
  · have hf : pageCount n = (n - 1) / 472 + 1 := by rw [pageCount, if_neg h]
    have HF := Lib.hid hf
    clear hf
    by_cases hk : n / 472 * 472 < n
    · have hg : n / 472 + 1 = (n - 1) / 472 + 1 := by omega
      have HG := Lib.hid hg
      clear hg
      go_enter Try.func49, Try.ntmps49
      go_wp2_with fail
      go_ret
      exact ⟨by rw [HF.out, ← HG.out]; rfl, rfl⟩
    · have hg : n / 472 = (n - 1) / 472 + 1 := by omega
      have HG := Lib.hid hg
      clear hg
      go_enter Try.func49, Try.ntmps49
      go_wp2_with fail
      go_ret
      exact ⟨by rw [HF.out, ← HG.out]; rfl, rfl⟩

/-- The pieces. -/
def piece (l : List UInt8) (i : Nat) : List UInt8 := (l.drop (472 * i)).take 472
def pieces (l : List UInt8) (n : Nat) : List (List UInt8) := (List.range n).map (piece l)
def cut (l : List UInt8) : List (List UInt8) := pieces l ((l.length + 471) / 472)

theorem pieces_succ (l : List UInt8) (n : Nat) : pieces l (n + 1) = pieces l n ++ [piece l n] := by simp [pieces, List.range_succ]

set_option maxRecDepth 4000 in
set_option maxHeartbeats 1000000 in
/-- ref20.Cut -/
theorem rcut_calls {Q0 : Nat → Prop} {w : World} {v : Value} {l : List UInt8} (hx : Rep.byte.list.val Q0 w v l) (hl : l.length ≤ 1000000) :
    Calls Try.prog 13 #[v] w (Res Rep.byte.list.list (fun b => (Q0 b ∧ b < w.heap.size) ∨ w.heap.size ≤ b) w (cut l)) := by
  obtain ⟨Q, hQ⟩ : ∃ Q : Nat → Prop, Q = fun b => Q0 b ∧ b < w.heap.size := ⟨_, rfl⟩
  have hQl : ∀ b, Q b → b < w.heap.size := by rw [hQ]; exact fun b h => h.2
  replace hx : Rep.byte.list.val Q w v l := Rep.val_keep (fun b hb hl => ⟨by rw [hQ]; exact ⟨hb, hl.lt⟩, rfl⟩) hx
  obtain ⟨A, c, rfl, hc1, hc2, hA⟩ := Rep.val_list hx
  clear hx
  unfold maxLen at hc2
  have HQ := Lib.hid hQ
  clear hQ
  have hbnd : ∀ k, 472 * k ≤ l.length + 472 → (pieces l k).length + 1 ≤ maxLen ∧ ((pieces l k).length + 1) * 24 ≤ 140737488355328 := fun k hk => by simp [pieces, maxLen]; omega
  have HB := Lib.hid hbnd
  clear hbnd
  go_enter Try.func13, Try.ntmps13
  go_wp2_with fail
  go_loopw [0, 3] (fun b s wr => ∃ (k m : Nat) (A' : Option Addr) (c' : Nat), b = .slice A' m c' ∧ Hid (m + 472 * k = l.length) ∧ m ≤ c' ∧ c' ≤ 9223372036854775807 ∧ Rep.byte.At Q wr A' (l.drop (472 * k)) ∧
    Rep.byte.list.acc 33 w.heap.size Q wr s (pieces l k) ∧ Below w.heap.size w wr) (fun b _ _ => (match b with | .slice _ n _ => n | _ => 0))
  case atStart => exact ⟨0, l.length, A, c, rfl, by simp [Hid], by omega, by omega, by simpa using hA, Rep.acc_nil, Below.refl _ _⟩
  case round =>
    obtain ⟨k, m, A', c', rfl, hk, hc', hm', hA', hacc, hbel⟩ := hrel
    have hown := Rep.acc_own hacc
    have hba : w.heap.size ≤ wr.heap.size := hbel.size
    have hne : ∀ b, Q b → u3.ownBlock ≠ some b := fun b hb he => by have := (hown b he).1; have := hQl b hb; omega
    have HN := Lib.hid hne
    have HO := Lib.hid hown
    clear hne hown
    by_cases hlt : 472 < m
    · have hlt' : (472 : Int) < (m : Int) := by omega
      obtain ⟨b, off, rfl⟩ := hA'.addr (by rw [List.length_drop]; have := hk.out; omega)
      have hy : Rep.byte.list.val (fun b' => Q b' ∧ u3.ownBlock ≠ some b') wr (.slice (some ⟨b, off, none⟩) 472 c') (piece l k) :=
        Rep.list_val (by simp [piece]; have := hk.out; omega) (by omega) (by unfold maxLen; omega) ((hA'.take 472).keep fun b hb _ => ⟨⟨hb, HN.out b hb⟩, rfl⟩)
      obtain ⟨h63, hby⟩ := HB.out k (by have := hk.out; omega)
      go_wp2_with (refine wpList_snoc (e := 33) (base := w.heap.size) (Q := Q) (r := Rep.byte.list) rfl rfl _ _ 39 _ rfl rfl rfl (.slice none 0 0) 1 24 Try.underlying39 info22 rfl (by decide) rfl _ (pieces l k) hacc (piece l k) _ (by exact rfl) hy (by exact rfl) (by exact rfl) h63 hby hba ?_; intro s' w' hacc' hgr hat)
      refine ⟨⟨k + 1, m - 472, _, c' - 472, rfl, ?_, by omega, by omega, ?_, by rw [pieces_succ]; exact hacc', hbel.grown hgr hba fun k hk => (HO.out k hk).1⟩, by show m - 472 < m; omega⟩
      · have := hk.out; unfold Hid; omega
      · have := (hA'.drop (n := 472) (by rw [List.length_drop]; have := hk.out; omega)).grown hgr HN.out
        rw [List.drop_drop] at this
        exact this
    · have hge : ¬ (472 : Int) < (m : Int) := by omega
      have hlen := hk.out
      rcases Nat.eq_zero_or_pos m with h0 | h0
      · subst h0
        have hcut : cut l = pieces l k := by rw [cut]; congr 1; omega
        have HC := Lib.hid hcut
        clear hcut hlen
        go_wp2_with fail
        go_ret
        refine ⟨_, rfl, ?_, hbel⟩
        rw [HC.out]
        refine Rep.val_mono (fun b hb _ => ?_) (Rep.acc_val hacc)
        rcases hb with hb | hb
        · have := HQ.out ▸ hb; exact .inl this
        · exact .inr (HO.out b hb).1
      · have h0' : (0 : Int) < (m : Int) := by omega
        have hcut : cut l = pieces l k ++ [piece l k] := by rw [cut, ← pieces_succ]; congr 1; omega
        have hpc : piece l k = l.drop (472 * k) := by rw [piece, List.take_of_length_le (by rw [List.length_drop]; omega)]
        have hy : Rep.byte.list.val (fun b' => Q b' ∧ u3.ownBlock ≠ some b') wr (.slice A' m c') (piece l k) := by
          rw [hpc]
          exact Rep.list_val (by rw [List.length_drop]; omega) (by omega) (by unfold maxLen; omega) (hA'.keep fun b hb _ => ⟨⟨hb, HN.out b hb⟩, rfl⟩)
        obtain ⟨h63, hby⟩ := HB.out k (by omega)
        have HC := Lib.hid hcut
        clear hcut hlen hpc
        go_wp2_with (refine wpList_snoc (e := 33) (base := w.heap.size) (Q := Q) (r := Rep.byte.list) rfl rfl _ _ 39 _ rfl rfl rfl (.slice none 0 0) 1 24 Try.underlying39 info22 rfl (by decide) rfl _ (pieces l k) hacc (piece l k) _ (by exact rfl) hy (by exact rfl) (by exact rfl) h63 hby hba ?_; intro s' w' hacc' hgr hat)
        go_ret
        refine ⟨_, rfl, ?_, hbel.grown hgr hba fun k hk => (HO.out k hk).1⟩
        rw [HC.out]
        refine Rep.val_mono (fun b hb _ => ?_) (Rep.acc_val hacc')
        rcases hb with hb | hb
        · have := HQ.out ▸ hb; exact .inl this
        · exact .inr (Rep.acc_own hacc' b hb).1
end Go.Proofs.Yteljibjbndpncaa
/- Walks of the counts of pages. -/
namespace Go.Proofs.Yteljibjbndpncaa
open Go.RowKit

def setsAt (c : DConf) (k : Nat) : Int := min (2 ^ k) c.entities
def sumSizes : List DComp → Int
  | [] => 0
  | x :: l => x.size + sumSizes l
theorem sumSizes_append : ∀ l m : List DComp, sumSizes (l ++ m) = sumSizes l + sumSizes m
  | [], m => by simp [sumSizes]
  | x :: l, m => by simp only [List.cons_append, sumSizes, sumSizes_append l m]; omega
theorem sumSizes_succ {l : List DComp} {k : Nat} (hk : k < l.length) : sumSizes (l.take (k + 1)) = sumSizes (l.take k) + l[k].size := by
  rw [List.take_succ_eq_append_getElem hk, sumSizes_append]; simp [sumSizes]
def streamsOf (c : DConf) : Int := 2 + setsAt c c.comps.length * (c.comps.length + 1)
def dataOf (c : DConf) : Int := (confBytes c).length + 8 + c.entities * (16 + sumSizes c.comps)
def pagesOf (c : DConf) : Int := streamsOf c + dataOf c / 472
def dirOf (c : DConf) : Int := pageCount (2 + 16 * streamsOf c + 2 * pagesOf c)
def mostOf (c : DConf) : Int := if confRight c then pagesOf c + dirOf c else 0
def ampleOf (c : DConf) : Bool := confRight c && decide (3 * (pagesOf c + dirOf c) ≤ c.pages) && decide (dirOf c ≤ 222)

theorem right_facts {c : DConf} (h : confRight c = true) : (2 ≤ c.log ∧ c.log ≤ 1024 ∧ 4 ≤ c.pages ∧ c.pages ≤ 1024 ∧ 1 ≤ c.entities ∧ c.entities ≤ 1024 ∧ 1 ≤ c.gens ∧ c.gens ≤ 1073741824 ∧ c.comps.length ≤ 32) ∧
    ∀ (k : Nat) (hk : k < c.comps.length), 0 ≤ c.comps[k].size ∧ c.comps[k].size ≤ 64 ∧ c.comps[k].name.length ≤ 16 := by
  simp only [confRight, Bool.and_eq_true] at h
  obtain ⟨h1, h2⟩ := h
  refine ⟨?_, fun k hk => ?_⟩
  · simp only [confRange, withinB, Bool.and_eq_true, decide_eq_true_eq] at h1; omega
  · have h3 := List.all_eq_true.1 h2 k (List.mem_range.2 hk)
    unfold compOk at h3
    rw [List.getElem?_eq_getElem hk] at h3
    simp only [Bool.and_eq_true] at h3
    obtain ⟨⟨_, h4⟩, h5⟩ := h3
    simp only [withinB, decide_eq_true_eq] at h5
    simp only [nameB, Bool.and_eq_true, decide_eq_true_eq] at h4
    exact ⟨h5.1, h5.2, h4.1.2⟩

theorem sumSizes_bound {c : DConf} (h : confRight c = true) : ∀ k, k ≤ c.comps.length → 0 ≤ sumSizes (c.comps.take k) ∧ sumSizes (c.comps.take k) ≤ 64 * k
  | 0, _ => by simp [sumSizes]
  | k + 1, hk => by
    have h1 := sumSizes_bound h k (by omega)
    have h2 := (right_facts h).2 k (by omega)
    rw [sumSizes_succ (by omega)]; omega

theorem setsAt_bound {c : DConf} (h : confRight c = true) (k : Nat) : 1 ≤ setsAt c k ∧ setsAt c k ≤ 1024 ∧ setsAt c k ≤ c.entities := by
  have h1 := (right_facts h).1
  have h2 : (1 : Int) ≤ 2 ^ k := by exact_mod_cast Nat.one_le_two_pow
  unfold setsAt; omega
theorem setsAt_zero {c : DConf} (h : confRight c = true) : setsAt c 0 = 1 := by
  have h1 := (right_facts h).1
  unfold setsAt
  simp only [Int.pow_zero]; omega
theorem setsAt_succ {c : DConf} (h : confRight c = true) (k : Nat) : setsAt c (k + 1) = min (2 * setsAt c k) c.entities := by
  have h1 := (right_facts h).1
  have h2 : (1 : Int) ≤ 2 ^ k := by exact_mod_cast Nat.one_le_two_pow
  unfold setsAt
  rw [Int.pow_succ]; omega

theorem mul_bounds {a b A B : Int} (h1 : 0 ≤ a) (h2 : a ≤ A) (h3 : 0 ≤ b) (h4 : b ≤ B) : 0 ≤ a * b ∧ a * b ≤ A * B :=
  ⟨Int.mul_nonneg h1 h3, Int.mul_le_mul h2 h4 h3 (by omega)⟩

theorem confBytes_length {c : DConf} (h : c.comps.length ≤ 32) : (confBytes c).length ≤ 2100000 := by
  have h1 := flatten_le compBytes 65551 compBytes_length c.comps
  have h2 := flatten_le (num 4) 8 (num_length 4) (headOf c)
  have h3 := num_length 1 c.comps.length
  have h4 : (headOf c).length = 4 := rfl
  simp only [confBytes, headBytes, List.length_append] at *; omega

theorem count_bounds {c : DConf} (h : confRight c = true) : 2 ≤ streamsOf c ∧ streamsOf c ≤ 33794 ∧ 0 ≤ dataOf c ∧ dataOf c ≤ 4300000 ∧ 0 ≤ pagesOf c ∧ pagesOf c ≤ 50000 ∧ 0 ≤ dirOf c ∧ dirOf c ≤ 10000 := by
  have h1 := right_facts h
  have h2 := setsAt_bound h c.comps.length
  have h3 := mul_bounds (a := setsAt c c.comps.length) (b := (c.comps.length : Int) + 1) (A := 1024) (B := 33) (by omega) (by omega) (by omega) (by omega)
  have h4 := sumSizes_bound h c.comps.length (Nat.le_refl _)
  rw [List.take_length] at h4
  have h5 := mul_bounds (a := c.entities) (b := 16 + sumSizes c.comps) (A := 1024) (B := 2064) (by omega) (by omega) (by omega) (by omega)
  have h6 := confBytes_length (c := c) (by omega)
  have hs : 2 ≤ streamsOf c ∧ streamsOf c ≤ 33794 := by unfold streamsOf; omega
  have hd : 0 ≤ dataOf c ∧ dataOf c ≤ 4300000 := by unfold dataOf; omega
  have hp : 0 ≤ pagesOf c ∧ pagesOf c ≤ 50000 := by unfold pagesOf; omega
  refine ⟨hs.1, hs.2, hd.1, hd.2, hp.1, hp.2, ?_⟩
  unfold dirOf pageCount
  split <;> omega
end Go.Proofs.Yteljibjbndpncaa
/- Walk of policy.count. -/
namespace Go.Proofs.Yteljibjbndpncaa
open Go.RowKit

theorem heap_setCell_row {w : World} {b i e : Nat} {cs : Array Value} {v : Value} {f : Nat × Nat} (h : w.heap[b]? = some (.cells cs e f)) : (w.setCell ⟨b, i, none⟩ v).heap[b]? = some (.cells (cs.setIfInBounds i v) e f) := by
  simp [World.setCell, Array.getElem?_modify, h]

end Go.Proofs.Yteljibjbndpncaa
/- Walk of the reference's counts. -/
namespace Go.Proofs.Yteljibjbndpncaa
open Go.RowKit

theorem pow_le {k n : Nat} (h : k ≤ n) : (2 : Int) ^ k ≤ 2 ^ n := by exact_mod_cast Nat.pow_le_pow_right (by decide) h
theorem setsAt_full {c : DConf} {k n : Nat} (hk : k ≤ n) (h : c.entities ≤ 2 ^ k) : setsAt c n = c.entities := by
  have := pow_le hk
  unfold setsAt; omega
theorem setsAt_pow {c : DConf} {n : Nat} (h : 2 ^ n ≤ c.entities) : setsAt c n = 2 ^ n := by unfold setsAt; omega
theorem data_sum (e s l : Int) : l + 8 + 16 * e + e * s = l + 8 + e * (16 + s) := by rw [Int.mul_add]; omega
theorem mul_step (e s x b : Int) : b + e * s + e * x = b + e * (s + x) := by rw [Int.mul_add]; omega

end Go.Proofs.Yteljibjbndpncaa
/- Walks of Most, Ample and Due, both. -/
namespace Go.Proofs.Yteljibjbndpncaa
open Go.RowKit

/-- A layout in a box, and what reads it. -/
structure InBox (W : World) (B : Nat) (c : DConf) (A : Option Addr) (cap : Nat) : Prop where
  c0 : W.cell? ⟨B, 0, none⟩ = some (.int .i64 c.log)
  c1 : W.cell? ⟨B, 1, none⟩ = some (.int .i64 c.pages)
  c2 : W.cell? ⟨B, 2, none⟩ = some (.int .i64 c.entities)
  c3 : W.cell? ⟨B, 3, none⟩ = some (.int .i64 c.gens)
  c4 : W.cell? ⟨B, 4, none⟩ = some (.slice A c.comps.length cap)
  val : rConf.val (fun b => b < B) W (.agg #[.int .i64 c.log, .int .i64 c.pages, .int .i64 c.entities, .int .i64 c.gens, .slice A c.comps.length cap]) c
theorem InBox.later {W W' : World} {B : Nat} {c : DConf} {A : Option Addr} {cap : Nat} (h : InBox W B c A cap) (hb : Below (B + 1) W W') : InBox W' B c A cap :=
  ⟨(hb.cell (p := ⟨B, 0, none⟩) (Nat.lt_succ_self _)).trans h.c0, (hb.cell (p := ⟨B, 1, none⟩) (Nat.lt_succ_self _)).trans h.c1, (hb.cell (p := ⟨B, 2, none⟩) (Nat.lt_succ_self _)).trans h.c2,
   (hb.cell (p := ⟨B, 3, none⟩) (Nat.lt_succ_self _)).trans h.c3, (hb.cell (p := ⟨B, 4, none⟩) (Nat.lt_succ_self _)).trans h.c4, Rep.val_keep (fun b hq _ => ⟨hq, hb.block b (by omega)⟩) h.val⟩
theorem InBox.made {Q : Nat → Prop} {w : World} {c : DConf} {A : Option Addr} {cap : Nat} (h : rConf.val Q w (.agg #[.int .i64 c.log, .int .i64 c.pages, .int .i64 c.entities, .int .i64 c.gens, .slice A c.comps.length cap]) c) (t : TypeId) :
    InBox (w.alloc (.cells #[.int .i64 c.log, .int .i64 c.pages, .int .i64 c.entities, .int .i64 c.gens, .slice A c.comps.length cap] t)) w.heap.size c A cap :=
  ⟨by simp, by simp, by simp, by simp, by simp, Rep.val_keep (w := w) (fun _ _ hl => ⟨hl.lt, Below.heap_alloc _ _ _ hl.lt⟩) h⟩

end Go.Proofs.Yteljibjbndpncaa
/- An element of an array by value. -/
namespace Go.Proofs.Yteljibjbndpncaa
open Go.RowKit

set_option maxRecDepth 100000 in
/-- policy.Due, ref28.Due -/
def dueOf (p : DPolicy) (room frames : Int) : Bool := decide (room < p.room) || (decide (0 < p.frames) && decide (p.frames ≤ frames))

end Go.Proofs.Yteljibjbndpncaa
/- Walks of the checks of commands and of frames, both. -/
namespace Go.Proofs.Yteljibjbndpncaa
open Go.RowKit

def knownB (k : Int) : Bool := decide (0 ≤ k) && decide (k ≤ 3)
def checkCmd (x : DCmd) : Int := if knownB x.kind then (if 64 < x.data.length then 13 else 0) else 1
def firstBad : List DCmd → Int
  | [] => 0
  | x :: xs => if checkCmd x = 0 then firstBad xs else checkCmd x
def checkFrame (l : List DCmd) : Int := if 64 < l.length then 13 else firstBad l

theorem firstBad_none : ∀ {l : List DCmd}, (∀ x ∈ l, checkCmd x = 0) → firstBad l = 0
  | [], _ => rfl
  | x :: xs, h => by
    unfold firstBad
    rw [if_pos (h x (by simp))]
    exact firstBad_none fun y hy => h y (by simp [hy])
theorem firstBad_at : ∀ {l : List DCmd} {k : Nat} (hk : k < l.length), (∀ x ∈ l.take k, checkCmd x = 0) → checkCmd l[k] ≠ 0 → firstBad l = checkCmd l[k]
  | [], k, hk, _, _ => by simp at hk
  | x :: xs, 0, hk, _, h => by
    unfold firstBad
    rw [if_neg (show ¬ checkCmd x = 0 from h)]; rfl
  | x :: xs, k + 1, hk, h, h2 => by
    unfold firstBad
    rw [if_pos (h x (by simp))]
    exact firstBad_at (by simp at hk; omega) (fun y hy => h y (by simp [hy])) h2
theorem firstBad_zero : ∀ {l : List DCmd}, firstBad l = 0 → ∀ x ∈ l, checkCmd x = 0
  | [], _, x, hx => by simp at hx
  | y :: ys, h, x, hx => by
    unfold firstBad at h
    split at h
    · rename_i h0
      rcases List.mem_cons.1 hx with rfl | hx
      · exact h0
      · exact firstBad_zero h x hx
    · rename_i h0; exact absurd h h0

set_option maxRecDepth 100000 in
/-- cmd.known -/
theorem known_calls (k : Int) (w : World) :
    Calls Try.prog 157 #[.int .i64 k] w fun e w' => e = .returned (.bool (knownB k)) ∧ w' = w := by
  obtain ⟨r, hr⟩ : ∃ r, r = knownB k := ⟨_, rfl⟩
  rw [← hr]
  unfold knownB at hr
  rcases dec_split (0 ≤ k) with t1 | ⟨t1, d1⟩ <;> rcases dec_split (k ≤ 3) with t2 | ⟨t2, d2⟩
  all_goals
    simp [*] at hr
    subst hr
    go_enter Try.func157, Try.ntmps157
    go_wp2_with fail
    go_ret
    exact ⟨by first | rfl | (simp only [*]; rfl), rfl⟩

/-- A command in a box. -/
structure CmdBox (W : World) (B : Nat) (x : DCmd) (A : Option Addr) (c : Nat) : Prop where
  c0 : W.cell? ⟨B, 0, none⟩ = some (.int .i64 x.kind)
  c1 : W.cell? ⟨B, 1, none⟩ = some (.bool x.loc)
  c2 : W.cell? ⟨B, 2, none⟩ = some (.int .i64 x.id.index)
  c3 : W.cell? ⟨B, 3, none⟩ = some (.int .i64 x.id.gen)
  c4 : W.cell? ⟨B, 4, none⟩ = some (.int .i64 x.comp)
  c5 : W.cell? ⟨B, 5, none⟩ = some (.slice A x.data.length c)
  val : rCmd.val (fun b => b < B) W (.agg #[.int .i64 x.kind, .bool x.loc, .int .i64 x.id.index, .int .i64 x.id.gen, .int .i64 x.comp, .slice A x.data.length c]) x
theorem CmdBox.later {W W' : World} {B : Nat} {x : DCmd} {A : Option Addr} {c : Nat} (h : CmdBox W B x A c) (hb : Below (B + 1) W W') : CmdBox W' B x A c :=
  ⟨(hb.cell (p := ⟨B, 0, none⟩) (Nat.lt_succ_self _)).trans h.c0, (hb.cell (p := ⟨B, 1, none⟩) (Nat.lt_succ_self _)).trans h.c1, (hb.cell (p := ⟨B, 2, none⟩) (Nat.lt_succ_self _)).trans h.c2,
   (hb.cell (p := ⟨B, 3, none⟩) (Nat.lt_succ_self _)).trans h.c3, (hb.cell (p := ⟨B, 4, none⟩) (Nat.lt_succ_self _)).trans h.c4, (hb.cell (p := ⟨B, 5, none⟩) (Nat.lt_succ_self _)).trans h.c5, Rep.val_keep (fun b hq _ => ⟨hq, hb.block b (by omega)⟩) h.val⟩
theorem CmdBox.made {Q : Nat → Prop} {w : World} {x : DCmd} {A : Option Addr} {c : Nat} (h : rCmd.val Q w (.agg #[.int .i64 x.kind, .bool x.loc, .int .i64 x.id.index, .int .i64 x.id.gen, .int .i64 x.comp, .slice A x.data.length c]) x) (t : TypeId) :
    CmdBox (w.alloc (.cells #[.int .i64 x.kind, .bool x.loc, .int .i64 x.id.index, .int .i64 x.id.gen, .int .i64 x.comp, .slice A x.data.length c] t)) w.heap.size x A c :=
  ⟨by simp, by simp, by simp, by simp, by simp, by simp, Rep.val_keep (w := w) (fun _ _ hl => ⟨hl.lt, Below.heap_alloc _ _ _ hl.lt⟩) h⟩

set_option maxRecDepth 100000 in
set_option maxHeartbeats 1000000 in
/-- ref13.Check -/
theorem rcmdCheck_calls {Q : Nat → Prop} {w : World} {v : Value} {x : DCmd} (hx : rCmd.val Q w v x) :
    Calls Try.prog 61 #[v] w fun e w' => e = .returned (.int .i64 (checkCmd x)) ∧ Below w.heap.size w w' := by
  obtain ⟨A, c, rfl, _, _, _, _, hs⟩ := rCmd_val hx
  have hm := CmdBox.made hx 116
  have hs1 := hs.1
  have hs2 := hs.2.1
  unfold maxLen at hs2
  have hbel : Below w.heap.size w (w.alloc (.cells #[.int .i64 x.kind, .bool x.loc, .int .i64 x.id.index, .int .i64 x.id.gen, .int .i64 x.comp, .slice A x.data.length c] 116)) := (Below.refl _ _).alloc (Nat.le_refl _) _
  obtain ⟨W1, hW1⟩ : ∃ W1, w.alloc (.cells #[.int .i64 x.kind, .bool x.loc, .int .i64 x.id.index, .int .i64 x.id.gen, .int .i64 x.comp, .slice A x.data.length c] 116) = W1 := ⟨_, rfl⟩
  rw [hW1] at hm hbel
  obtain ⟨c0, c1, c2, c3, c4, c5, _⟩ := hm
  have HB := Lib.hid hbel
  clear hbel hx hs
  obtain ⟨r, hr⟩ : ∃ r, r = checkCmd x := ⟨_, rfl⟩
  rw [← hr]
  unfold checkCmd knownB at hr
  rcases dec_split (x.kind < 0) with t1 | ⟨t1, d1⟩ <;> rcases dec_split (3 < x.kind) with t2 | ⟨t2, d2⟩ <;> rcases dec_split ((64 : Int) < x.data.length) with t3 | ⟨t3, d3⟩
  all_goals
    try omega
  all_goals
    simp at hr
    (first | rw [if_pos (by omega), if_pos (by omega)] at hr | rw [if_pos (by omega), if_neg (by omega)] at hr | rw [if_neg (by omega)] at hr)
    subst hr
    go_enter Try.func61, Try.ntmps61
    go_wp2_with fail
    try rw [hW1]
    clear hW1
    go_wp2_with fail
    go_ret
    exact ⟨by first | rfl | (simp only [*]; rfl), HB.out⟩
end Go.Proofs.Yteljibjbndpncaa
