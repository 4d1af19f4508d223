/- Walks of the functions on pages: how many, in pieces. -/
import Derived.Test.YthjjnlilpklacaaSupG1
namespace Go.Proofs.Ythjjnlilpklacaa
open Go.RowKit

def pageCount (n : Int) : Int := if n < 1 then 0 else (n - 1) / 472 + 1

/-- page.Count -/
theorem count_calls (n : Int) (w : World) (h1 : -9223372036854775808 ≤ n) (h2 : n ≤ 9223372036854775807) :
    Calls Try.prog 16 #[.int .i64 n] w fun e w' => e = .returned (.int .i64 (pageCount n)) ∧ w' = w := by
  by_cases h : n < 1
  · have hf : pageCount n = 0 := by rw [pageCount, if_pos h]
    have HF := Lib.hid hf
    clear hf
    go_enter Try.func16, Try.ntmps16
    go_wp2_with fail
    go_ret
    exact ⟨by rw [HF.out]; rfl, rfl⟩
  · have hf : pageCount n = (n - 1) / 472 + 1 := by rw [pageCount, if_neg h]
    have HF := Lib.hid hf
    clear hf
    go_enter Try.func16, Try.ntmps16
    go_wp2_with fail
    go_ret
    exact ⟨by rw [HF.out]; rfl, rfl⟩

/-- ref20.Count -/
theorem rcount_calls (n : Int) (w : World) (h1 : -9223372036854775808 ≤ n) (h2 : n ≤ 9223372036854775807) :
    Calls Try.prog 17 #[.int .i64 n] w fun e w' => e = .returned (.int .i64 (pageCount n)) ∧ w' = w := by
  by_cases h : n < 1
  · have hf : pageCount n = 0 := by rw [pageCount, if_pos h]
    have HF := Lib.hid hf
    clear hf
    go_enter Try.func17, Try.ntmps17
    go_wp2_with fail
    go_ret
    exact ⟨by rw [HF.out]; rfl, rfl⟩
  · have hf : pageCount n = (n - 1) / 472 + 1 := by rw [pageCount, if_neg h]
    have HF := Lib.hid hf
    clear hf
    by_cases hk : n / 472 * 472 < n
    · have hg : n / 472 + 1 = (n - 1) / 472 + 1 := by omega
      have HG := Lib.hid hg
      clear hg
      go_enter Try.func17, Try.ntmps17
      go_wp2_with fail
      go_ret
      exact ⟨by rw [HF.out, ← HG.out]; rfl, rfl⟩
    · have hg : n / 472 = (n - 1) / 472 + 1 := by omega
      have HG := Lib.hid hg
      clear hg
      go_enter Try.func17, Try.ntmps17
      go_wp2_with fail
      go_ret
      exact ⟨by rw [HF.out, ← HG.out]; rfl, rfl⟩

/-- The pieces. -/
def piece (l : List UInt8) (i : Nat) : List UInt8 := (l.drop (472 * i)).take 472
def pieces (l : List UInt8) (n : Nat) : List (List UInt8) := (List.range n).map (piece l)
def cut (l : List UInt8) : List (List UInt8) := pieces l ((l.length + 471) / 472)

theorem pieces_succ (l : List UInt8) (n : Nat) : pieces l (n + 1) = pieces l n ++ [piece l n] := by simp [pieces, List.range_succ]

set_option maxRecDepth 4000 in
set_option maxHeartbeats 1000000 in
/-- ref20.Cut -/
theorem rcut_calls {Q0 : Nat → Prop} {w : World} {v : Value} {l : List UInt8} (hx : Rep.byte.list.val Q0 w v l) (hl : l.length ≤ 1000000) :
    Calls Try.prog 14 #[v] w (Res Rep.byte.list.list (fun b => (Q0 b ∧ b < w.heap.size) ∨ w.heap.size ≤ b) w (cut l)) := by
  obtain ⟨Q, hQ⟩ : ∃ Q : Nat → Prop, Q = fun b => Q0 b ∧ b < w.heap.size := ⟨_, rfl⟩
  have hQl : ∀ b, Q b → b < w.heap.size := by rw [hQ]; exact fun b h => h.2
  replace hx : Rep.byte.list.val Q w v l := Rep.val_keep (fun b hb hl => ⟨by rw [hQ]; exact ⟨hb, hl.lt⟩, rfl⟩) hx
  obtain ⟨A, c, rfl, hc1, hc2, hA⟩ := Rep.val_list hx
  clear hx
  unfold maxLen at hc2
  have HQ := Lib.hid hQ
  clear hQ
  have hbnd : ∀ k, 472 * k ≤ l.length + 472 → (pieces l k).length + 1 ≤ maxLen ∧ ((pieces l k).length + 1) * 24 ≤ 140737488355328 := fun k hk => by simp [pieces, maxLen]; omega
  have HB := Lib.hid hbnd
  clear hbnd
  go_enter Try.func14, Try.ntmps14
  go_wp2_with fail
  go_loopw [0, 3] (fun b s wr => ∃ (k m : Nat) (A' : Option Addr) (c' : Nat), b = .slice A' m c' ∧ Hid (m + 472 * k = l.length) ∧ m ≤ c' ∧ c' ≤ 9223372036854775807 ∧ Rep.byte.At Q wr A' (l.drop (472 * k)) ∧
    Rep.byte.list.acc 22 w.heap.size Q wr s (pieces l k) ∧ Below w.heap.size w wr) (fun b _ _ => (match b with | .slice _ n _ => n | _ => 0))
  case atStart => exact ⟨0, l.length, A, c, rfl, by simp [Hid], by omega, by omega, by simpa using hA, Rep.acc_nil, Below.refl _ _⟩
  case round =>
    obtain ⟨k, m, A', c', rfl, hk, hc', hm', hA', hacc, hbel⟩ := hrel
    have hown := Rep.acc_own hacc
    have hba : w.heap.size ≤ wr.heap.size := hbel.size
    have hne : ∀ b, Q b → u3.ownBlock ≠ some b := fun b hb he => by have := (hown b he).1; have := hQl b hb; omega
    have HN := Lib.hid hne
    have HO := Lib.hid hown
    clear hne hown
    by_cases hlt : 472 < m
    · have hlt' : (472 : Int) < (m : Int) := by omega
      obtain ⟨b, off, rfl⟩ := hA'.addr (by rw [List.length_drop]; have := hk.out; omega)
      have hy : Rep.byte.list.val (fun b' => Q b' ∧ u3.ownBlock ≠ some b') wr (.slice (some ⟨b, off, none⟩) 472 c') (piece l k) :=
        Rep.list_val (by simp [piece]; have := hk.out; omega) (by omega) (by unfold maxLen; omega) ((hA'.take 472).keep fun b hb _ => ⟨⟨hb, HN.out b hb⟩, rfl⟩)
      obtain ⟨h63, hby⟩ := HB.out k (by have := hk.out; omega)
      go_wp2_with (refine wpList_snoc (e := 22) (base := w.heap.size) (Q := Q) (r := Rep.byte.list) rfl rfl _ _ 24 _ rfl rfl rfl (.slice none 0 0) 1 24 Try.underlying24 info22 rfl (by decide) rfl _ (pieces l k) hacc (piece l k) _ (by exact rfl) hy (by exact rfl) (by exact rfl) h63 hby hba ?_; intro s' w' hacc' hgr hat)
      refine ⟨⟨k + 1, m - 472, _, c' - 472, rfl, ?_, by omega, by omega, ?_, by rw [pieces_succ]; exact hacc', hbel.grown hgr hba fun k hk => (HO.out k hk).1⟩, by show m - 472 < m; omega⟩
      · have := hk.out; unfold Hid; omega
      · have := (hA'.drop (n := 472) (by rw [List.length_drop]; have := hk.out; omega)).grown hgr HN.out
        rw [List.drop_drop] at this
        exact this
    · have hge : ¬ (472 : Int) < (m : Int) := by omega
      have hlen := hk.out
      rcases Nat.eq_zero_or_pos m with h0 | h0
      · subst h0
        have hcut : cut l = pieces l k := by rw [cut]; congr 1; omega
        have HC := Lib.hid hcut
        clear hcut hlen
        go_wp2_with fail
        go_ret
        refine ⟨_, rfl, ?_, hbel⟩
        rw [HC.out]
        refine Rep.val_mono (fun b hb _ => ?_) (Rep.acc_val hacc)
        rcases hb with hb | hb
        · have := HQ.out ▸ hb; exact .inl this
        · exact .inr (HO.out b hb).1
      · have h0' : (0 : Int) < (m : Int) := by omega
        have hcut : cut l = pieces l k ++ [piece l k] := by rw [cut, ← pieces_succ]; congr 1; omega
        have hpc : piece l k = l.drop (472 * k) := by rw [piece, List.take_of_length_le (by rw [List.length_drop]; omega)]
        have hy : Rep.byte.list.val (fun b' => Q b' ∧ u3.ownBlock ≠ some b') wr (.slice A' m c') (piece l k) := by
          rw [hpc]
          exact Rep.list_val (by rw [List.length_drop]; omega) (by omega) (by unfold maxLen; omega) (hA'.keep fun b hb _ => ⟨⟨hb, HN.out b hb⟩, rfl⟩)
        obtain ⟨h63, hby⟩ := HB.out k (by omega)
        have HC := Lib.hid hcut
        clear hcut hlen hpc
        go_wp2_with (refine wpList_snoc (e := 22) (base := w.heap.size) (Q := Q) (r := Rep.byte.list) rfl rfl _ _ 24 _ rfl rfl rfl (.slice none 0 0) 1 24 Try.underlying24 info22 rfl (by decide) rfl _ (pieces l k) hacc (piece l k) _ (by exact rfl) hy (by exact rfl) (by exact rfl) h63 hby hba ?_; intro s' w' hacc' hgr hat)
        go_ret
        refine ⟨_, rfl, ?_, hbel.grown hgr hba fun k hk => (HO.out k hk).1⟩
        rw [HC.out]
        refine Rep.val_mono (fun b hb _ => ?_) (Rep.acc_val hacc')
        rcases hb with hb | hb
        · have := HQ.out ▸ hb; exact .inl this
        · exact .inr (Rep.acc_own hacc' b hb).1
end Go.Proofs.Ythjjnlilpklacaa
