/- Texts on which the proofs stand: RNew, RBytes04, DevMore, Much04, DiskSafe. No condition is laid on any input. -/
import Derived.Test.YtfpmkenobphfnaaPstDiskNew
import Derived.Test.YtfpmkenobphfnaaPstG1
import Derived.Test.YtfpmkenobphfnaaPstG18
import Derived.Test.YtfpmkenobphfnaaPstG19
import Derived.Test.YtfpmkenobphfnaaPstG20
import Derived.Test.YtfpmkenobphfnaaPstRGoBox
/- Walk of a new device, the reference's. -/
namespace Go.Proofs.Ytfpmkenobphfnaa
open Go.RowKit

def newD (n : Nat) : DDisk := ⟨List.replicate n (zeros 512), [], -1, false, 0, 0⟩
theorem cutTo_nil (n : Nat) : cutTo [] n = zeros n := by unfold cutTo zeros; simp
/-- The two boxes of 'New': the result's, the disk's. -/
structure NewBox (w W : World) (v : Value) (j : Nat) : Prop where
  rblk : W.heap[w.heap.size]? = some (.cells zcells 33 (0, 0))
  dblk : W.heap[w.heap.size + 1]? = some (.cells #[v, .slice none 0 0, .int .i64 (-1), .bool false, .int .i64 0, .int .i64 0] 33 (0, 0))
  acc : Rep.byte.list.acc 36 (w.heap.size + 2) (fun b => w.heap.size + 2 ≤ b) W v (List.replicate j (zeros 512))
  bel : Below w.heap.size w W
  big : w.heap.size + 2 ≤ W.heap.size
theorem NewBox.below {w W W' : World} {v : Value} {j : Nat} (h : NewBox w W v j) (hb : Below W.heap.size W W') : NewBox w W' v j := by
  have hs := h.big
  exact ⟨(hb.block _ (by omega)).trans h.rblk, (hb.block _ (by omega)).trans h.dblk, Rep.acc_later h.acc hb, h.bel.trans (hb.mono (by omega)), Nat.le_trans hs hb.size⟩
theorem NewBox.cond {w W : World} {v : Value} {j : Nat} (h : NewBox w W v j) : ∀ W' : World, Below W.heap.size W W' → W'.cell? ⟨w.heap.size + 1, 0, none⟩ = some v ∧ W'.cell? ⟨w.heap.size + 1, 1, none⟩ = some (.slice none 0 0) ∧ W'.cell? ⟨w.heap.size + 1, 2, none⟩ = some (.int .i64 (-1)) ∧ W'.cell? ⟨w.heap.size + 1, 3, none⟩ = some (.bool false) ∧ W'.cell? ⟨w.heap.size + 1, 4, none⟩ = some (.int .i64 0) ∧ W'.cell? ⟨w.heap.size + 1, 5, none⟩ = some (.int .i64 0) ∧ W'.frozen? ⟨w.heap.size + 1, 0, none⟩ = false ∧
    W'.frozen? ⟨w.heap.size, 0, none⟩ = false ∧ W'.frozen? ⟨w.heap.size, 1, none⟩ = false ∧ W'.frozen? ⟨w.heap.size, 2, none⟩ = false ∧ W'.frozen? ⟨w.heap.size, 3, none⟩ = false ∧ W'.frozen? ⟨w.heap.size, 4, none⟩ = false ∧ W'.frozen? ⟨w.heap.size, 5, none⟩ = false ∧
    W'.cell? ⟨w.heap.size, 0, none⟩ = some (.slice none 0 0) ∧ W'.cell? ⟨w.heap.size, 1, none⟩ = some (.slice none 0 0) ∧ W'.cell? ⟨w.heap.size, 2, none⟩ = some (.int .i64 0) ∧ W'.cell? ⟨w.heap.size, 3, none⟩ = some (.bool false) ∧ W'.cell? ⟨w.heap.size, 4, none⟩ = some (.int .i64 0) ∧ W'.cell? ⟨w.heap.size, 5, none⟩ = some (.int .i64 0) := fun W' hb => by
  have d := (h.below hb).dblk
  have r := (h.below hb).rblk
  exact ⟨cell_row d 0, cell_row d 1, cell_row d 2, cell_row d 3, cell_row d 4, cell_row d 5, frozen_row d 0, frozen_row r 0, frozen_row r 1, frozen_row r 2, frozen_row r 3, frozen_row r 4, frozen_row r 5, cell_row r 0, cell_row r 1, cell_row r 2, cell_row r 3, cell_row r 4, cell_row r 5⟩
theorem NewBox.more {w W W' : World} {v u : Value} {j : Nat} (h : NewBox w W v j) (hb : Below W.heap.size W W' ∨ (∃ W1, Below W.heap.size W W1 ∧ W1.grownBy W' v.ownBlock)) (ha : Rep.byte.list.acc 36 (w.heap.size + 2) (fun b => w.heap.size + 2 ≤ b) W' u (List.replicate (j + 1) (zeros 512))) :
    NewBox w (W'.setCell ⟨w.heap.size + 1, 0, none⟩ u) u (j + 1) := by
  have hs := h.big
  have hv := Rep.acc_own h.acc
  have key : ∀ b, b < w.heap.size + 2 → W'.heap[b]? = W.heap[b]? := fun b hb' => by
    rcases hb with hb | ⟨W1, hb, hg⟩
    · exact hb.block b (by omega)
    · exact (hg.block b (by have := hb.size; omega) (fun e => by have := (hv b e.symm).1; omega)).trans (hb.block b (by omega))
  have hsz : W.heap.size ≤ W'.heap.size := by
    rcases hb with hb | ⟨W1, hb, hg⟩
    · exact hb.size
    · exact Nat.le_trans hb.size hg.size
  have hbel : Below w.heap.size w W' := by
    rcases hb with hb | ⟨W1, hb, hg⟩
    · exact h.bel.trans (hb.mono (by omega))
    · exact (h.bel.trans (hb.mono (by omega))).grown hg (by have := hb.size; omega) (fun k hk => by have := (hv k hk).1; omega)
  have hu := Rep.acc_own ha
  refine ⟨(Below.heap_setCell _ _ _ _ (by show w.heap.size ≠ w.heap.size + 1; omega)).trans ((key _ (by omega)).trans h.rblk), by rw [heap_setRow ((key _ (by omega)).trans h.dblk)]; rfl, Rep.acc_keep (fun b hb' _ => Below.heap_setCell _ _ _ _ ?_) (fun _ hq _ => hq) ha, hbel.setCell (Nat.le_succ _) _, by simp; omega⟩
  show b ≠ w.heap.size + 1
  rcases hb' with hb' | hb'
  · omega
  · have := (hu b hb').1; omega

theorem bytes_new {w5 : World} {n k : Nat} {A : Option Addr} {c base : Nat} {v : Value} {b : List UInt8} (hb : Rep.byte.acc 5 n (fun _ => False) w5 (.slice A b.length c) b) (hn : k ≤ n) (ho : ∀ j, v.ownBlock = some j → base ≤ j ∧ j < n) :
    Rep.byte.list.val (fun j => k ≤ j ∧ v.ownBlock ≠ some j) w5 (.slice A b.length c) b :=
  Rep.val_mono (fun j hj _ => ⟨Nat.le_trans hn hj, fun e => by have := (ho j e).2; omega⟩) (Rep.acc_fresh hb)
theorem frozen_kept {w W W5 W6 : World} {v : Value} {j : Nat} (h : NewBox w W v j) (hb : Below W.heap.size W W5) (hg : W5.grownBy W6 v.ownBlock) : W6.frozen? ⟨w.heap.size + 1, 0, none⟩ = false ∧ W6.cell? ⟨w.heap.size + 1, 0, none⟩ = some v := by
  have hs := h.big
  have e : W6.heap[w.heap.size + 1]? = _ := (hg.block (w.heap.size + 1) (by have := hb.size; omega) (fun e => by have := (Rep.acc_own h.acc _ e.symm).1; omega)).trans ((hb.block _ (by omega)).trans h.dblk)
  exact ⟨frozen_row e 0, cell_row e 0⟩

def RNewPost (w : World) (n : Nat) (e : Ending) (w' : World) : Prop := ∃ z, e = .returned z ∧ rDisk.val (fun b => w.heap.size ≤ b) w' z (newD n) ∧ Below w.heap.size w w'
def RNewAcc (w : World) (n : Nat) (e : Ending) (w' : World) : Prop :=
  ∃ A c, e = .returned (.agg #[.slice A n c, .slice none 0 0, .int .i64 (-1), .bool false, .int .i64 0, .int .i64 0]) ∧ Rep.byte.list.acc 36 w.heap.size (fun b => w.heap.size ≤ b) w' (.slice A n c) (List.replicate n (zeros 512)) ∧ Below w.heap.size w w'
set_option maxRecDepth 100000 in
set_option maxHeartbeats 2000000 in
/-- ref04.New -/
theorem rnew_acc (n : Int) (hn : n ≤ 4096) (w : World) : Calls Try.prog 13 #[.int .i64 n] w (RNewAcc w n.toNat) := by
  have hz1 : (w.alloc (.cells #[.slice none 0 0, .slice none 0 0, .int .i64 0, .bool false, .int .i64 0, .int .i64 0] 33)).heap.size = w.heap.size + 1 := by simp
  have h0 : NewBox w ((w.alloc (.cells #[.slice none 0 0, .slice none 0 0, .int .i64 0, .bool false, .int .i64 0, .int .i64 0] 33)).alloc (.cells #[.slice none 0 0, .slice none 0 0, .int .i64 (-1), .bool false, .int .i64 0, .int .i64 0] 33)) (.slice none 0 0) 0 := by
    obtain ⟨h1, h2, h3, h4⟩ := two_boxes w #[.slice none 0 0, .slice none 0 0, .int .i64 0, .bool false, .int .i64 0, .int .i64 0] #[.slice none 0 0, .slice none 0 0, .int .i64 (-1), .bool false, .int .i64 0, .int .i64 0] 33 33
    exact ⟨h1, h2, Rep.acc_nil, h3, by omega⟩
  have H0 := Lib.hid h0
  clear h0
  go_enter Try.func13, Try.ntmps13
  go_wp2_with fail
  obtain ⟨W1, hW1⟩ : ∃ W1, (w.alloc (.cells #[.slice none 0 0, .slice none 0 0, .int .i64 0, .bool false, .int .i64 0, .int .i64 0] 33)).alloc (.cells #[.slice none 0 0, .slice none 0 0, .int .i64 (-1), .bool false, .int .i64 0, .int .i64 0] 33) = W1 := ⟨_, rfl⟩
  rw [hW1] at H0 ⊢
  clear hW1
  go_loopw [4] (fun kk wr => ∃ (j : Nat) (v : Value), kk = .int .i64 j ∧ j ≤ n.toNat ∧ NewBox w wr v j) (fun kk _ => n.toNat - (intOf kk).toNat)
  case atStart => exact ⟨0, _, rfl, Nat.zero_le _, H0.out⟩
  case round =>
    obtain ⟨j, v, rfl, hj, hbox⟩ := hrel
    obtain ⟨A, c, hv, _, _⟩ := Rep.acc_form hbox.acc
    rw [List.length_replicate] at hv
    subst hv
    have HB := Lib.hid hbox
    have C1 := hbox.cond
    have b1 := Below.refl wr.heap.size wr
    clear hbox
    by_cases hlt : (j : Int) < n
    · have h4 : (j : Int) < 4096 := by omega
      have hbd := b1.drew
      have HJ := Lib.hid (show (List.replicate j (zeros 512)).length = j from List.length_replicate)
      have L := Lib.hid (show (List.replicate j (zeros 512)).length + 1 ≤ maxLen ∧ ((List.replicate j (zeros 512)).length + 1) * 24 ≤ 140737488355328 by rw [List.length_replicate]; unfold maxLen; omega)
      have HR := Lib.hid (show List.replicate (j + 1) (zeros 512) = List.replicate j (zeros 512) ++ [zeros 512] from List.replicate_succ')
      have HE := Lib.hid (cutTo_nil 512)
      go_wp2_with fail
      go_region_law (first
          | (go_simp; go_at_call 84; refine (rcutTo_calls (l := []) (n := 512) (nil_bytes (fun _ => False) _) (by decide)).mono ?_; rintro e w5 ⟨u5, rfl, hu5, hb5⟩; rw [HE.out] at hu5; have HU5 := Lib.hid hu5; have D5 := Lib.hid (hbd.trans hb5); obtain ⟨A5, c5, rfl, _, _⟩ := Rep.acc_form hu5; have d5 := D5.out; have d5a := (fun o => D5.out.alloc D5.out.size o); clear hu5 hb5)
          | (refine step_snoc (e := 36) (base := w.heap.size + 2) (Q := fun b => w.heap.size + 2 ≤ b) (r := Rep.byte.list) rfl _ _ 30 rfl (.slice none 0 0) 1 24 Try.underlying30 info22 rfl (by decide) rfl _ _ (by rfl) (Rep.acc_later HB.out.acc D5.out) (zeros 512) _ (bytes_new HU5.out HB.out.big (fun k hk => ⟨(Rep.acc_own HB.out.acc k hk).1, (Rep.acc_own HB.out.acc k hk).2⟩)) (by rfl) L.out.1 L.out.2 (Nat.le_trans HB.out.big D5.out.size) ?_; intro v6 w6 hacc6 hgr6; rw [← HR.out] at hacc6; have H6 := Lib.hid (HB.out.more (.inr ⟨_, D5.out, hgr6⟩) hacc6); obtain ⟨A6, c6, hv6, _, _⟩ := Rep.acc_form hacc6; rw [List.length_replicate] at hv6; subst hv6; have F6 := Lib.hid (frozen_kept HB.out D5.out hgr6); have f6 := F6.out; clear hacc6 hgr6))
      all_goals
        go_wp2_with fail
        exact ⟨⟨j + 1, _, by go_num, by omega, H6.out⟩, by simp [intOf]; omega⟩
    · have HF := Lib.hid (show j = n.toNat by omega)
      have hfr : Try.f13.results = #[.cell 2 33] := rfl
      go_wp2_with fail
      refine (fun (hb : But w.heap.size wr _) => ⟨rfl, .agg #[.slice A j c, .slice none 0 0, .int .i64 (-1), .bool false, .int .i64 0, .int .i64 0], ?_, ⟨A, c, by rw [← HF.out], ?_, hb.below HB.out.bel (Nat.le_refl _)⟩⟩) ?_
      · repeat (refine But.set ?_ _ _)
        exact But.refl _ _
      · simp only [results, hfr]
        go_simp
      · rw [← HF.out]
        have hown := Rep.acc_own HB.out.acc
        exact Rep.acc_base (Nat.le_add_right _ 2) (Rep.acc_keep (fun b hb' _ => hb.block b (by rcases hb' with hb' | hb'; (· omega); (· have := (hown b hb').1; omega))) (fun b hb' _ => by omega) HB.out.acc)
theorem rnew_calls (n : Int) (hn : n ≤ 4096) (w : World) : Calls Try.prog 13 #[.int .i64 n] w (RNewPost w n.toNat) :=
  (rnew_acc n hn w).mono fun e w' ⟨A, c, he, hacc, hb⟩ => ⟨_, he, by
    obtain ⟨A', c', he, hs⟩ := Rep.val_sl (Rep.acc_val hacc)
    rw [List.length_replicate] at he
    cases he
    have hown := Rep.acc_own hacc
    have h := rDisk_agg (x := newD n.toNat) (hs.keep fun b hb _ => ⟨hb.elim id fun e => (hown b e).1, rfl⟩) (A_wait := none) (c_wait := 0) (show rWrite.Sl _ _ none 0 [] from ⟨Nat.zero_le _, Nat.zero_le _, [], rfl, fun h => absurd h (by simp)⟩) rfl rfl rfl
    have e : (newD n.toNat).safe.length = n.toNat := List.length_replicate
    rw [e] at h
    exact h, hb⟩
end Go.Proofs.Ytfpmkenobphfnaa
/- Walk of what is safe, of the reference's device, as0 bytes. -/
namespace Go.Proofs.Ytfpmkenobphfnaa
open Go.RowKit

theorem flat_upto {l : List (List UInt8)} {j : Nat} {y : List UInt8} (h : l[j]? = some y) : (l.take (j + 1)).flatten = (l.take j).flatten ++ y := by
  obtain ⟨hj, rfl⟩ := List.getElem?_eq_some_iff.1 h
  rw [List.take_succ_eq_append_getElem hj, List.flatten_append]; simp
theorem flat_upto_le {l : List (List UInt8)} {j : Nat} {y : List UInt8} (h : l[j]? = some y) : (l.take j).flatten.length + y.length ≤ l.flatten.length := by
  obtain ⟨hj, rfl⟩ := List.getElem?_eq_some_iff.1 h
  have e : l.flatten = (l.take j).flatten ++ (l[j] ++ (l.drop (j + 1)).flatten) := by
    rw [← List.append_assoc, ← flat_upto (List.getElem?_eq_getElem hj), ← List.flatten_append, List.take_append_drop]
  rw [e]; simp only [List.length_append]; omega

end Go.Proofs.Ytfpmkenobphfnaa
/- What was done of a device: how many reads and writes. -/
namespace Go.Proofs.Ytfpmkenobphfnaa
open Go.RowKit

set_option maxRecDepth 100000 in
/-- (*disk.Disk).Reads -/
theorem dreads_disk {W : World} {P : Nat} {F B : Nat → Prop} {n : Nat} {st : DiskSt} (h : DiskAt W P F B n st) :
    Calls Try.prog 25 #[.pointer (some ⟨P, 0, none⟩)] W fun e W' => e = .returned (.int .i64 st.reads) ∧ W' = W := by
  obtain ⟨Sf, cs, M, D, hd⟩ := h
  have e4 := cell_row hd.blk 4
  clear hd
  go_enter Try.func25, Try.ntmps25
  go_wp2_with fail
  go_ret
  exact ⟨rfl, rfl⟩
set_option maxRecDepth 100000 in
/-- (*disk.Disk).Writes -/
theorem dwrites_disk {W : World} {P : Nat} {F B : Nat → Prop} {n : Nat} {st : DiskSt} (h : DiskAt W P F B n st) :
    Calls Try.prog 26 #[.pointer (some ⟨P, 0, none⟩)] W fun e W' => e = .returned (.int .i64 st.writes) ∧ W' = W := by
  obtain ⟨Sf, cs, M, D, hd⟩ := h
  have e5 := cell_row hd.blk 5
  clear hd
  go_enter Try.func26, Try.ntmps26
  go_wp2_with fail
  go_ret
  exact ⟨rfl, rfl⟩
section
variable {K : Nat → Prop} {W : World} {P n : Nat} {st : DiskSt}
theorem dev_reads (h : DevAt K W P n st) : Calls Try.prog 25 #[.pointer (some ⟨P, 0, none⟩)] W fun e W' => e = .returned (.int .i64 st.reads) ∧ W' = W := by
  obtain ⟨_, F, B, hd, _⟩ := h
  exact dreads_disk hd
theorem dev_writes (h : DevAt K W P n st) : Calls Try.prog 26 #[.pointer (some ⟨P, 0, none⟩)] W fun e W' => e = .returned (.int .i64 st.writes) ∧ W' = W := by
  obtain ⟨_, F, B, hd, _⟩ := h
  exact dwrites_disk hd
end
end Go.Proofs.Ytfpmkenobphfnaa
/- Walk of what is more than is asked in statements: scripts of a device. -/
namespace Go.Proofs.Ytfpmkenobphfnaa
open Go.RowKit

def MuchSteps (w : World) (l : List DStep) (e : Ending) (w' : World) : Prop := ∃ r : Bool, e = .returned (.bool r) ∧ (r = false → l.length ≤ 60) ∧ w' = w
end Go.Proofs.Ytfpmkenobphfnaa
/- The statement on what is safe of a device, walked. -/
namespace Go.Proofs.Ytfpmkenobphfnaa
open Go.RowKit

theorem bools_row {Q : Nat → Prop} {w : World} : ∀ k : Nat, Rep.bool.row Q w (List.replicate k (.bool false)) (List.replicate k false)
  | 0 => rfl
  | k + 1 => ⟨[.bool false], List.replicate k (.bool false), rfl, rfl, bools_row k⟩
/-- 'make([]bool, k)'. -/
theorem made_bools {base : Nat} (w : World) (k : Nat) (hb : base ≤ w.heap.size) (hk : k ≤ maxLen) :
    Rep.bool.acc 4 base (fun _ => False) (w.alloc (.cells (madeCells #[.bool false] k) 4)) (.slice (some ⟨w.heap.size, 0, none⟩) k k) (List.replicate k false) := by
  have hl : (madeCells #[.bool false] k).toList = List.replicate k (.bool false) := toList_madeCells_one ..
  have hs : (madeCells #[.bool false] k).size = k := by rw [← Array.length_toList, hl, List.length_replicate]
  refine ⟨List.replicate k (.bool false), ⟨by simp [Rep.bool], .inr ⟨w.heap.size, k, madeCells #[.bool false] k, by rw [List.length_replicate], hb, heap_alloc_new w _, by rw [List.length_replicate]; exact Nat.le_refl _, hk, by rw [hs]; simp [Rep.bool], ?_⟩⟩, bools_row k⟩
  rw [hl, List.take_of_length_le (by simp [Rep.bool])]
theorem sec_get {st : DiskSt} {k : Nat} (h : Sound st k) {i : Nat} (hi : i < k) : ∃ y, st.safe[i]? = some y ∧ (st.safe.flatten.drop (512 * i)).take 512 = y ∧ y.length = 512 := by
  obtain ⟨y, hy⟩ : ∃ y, st.safe[i]? = some y := ⟨_, List.getElem?_eq_getElem (by rw [h.len]; exact hi)⟩
  exact ⟨y, hy, flatten_sec h.sec hy, h.sec y (List.mem_of_getElem? hy)⟩
theorem sec_len {st : DiskSt} {k : Nat} (h : Sound st k) : st.safe.flatten.length = 512 * k := by rw [flatten_length h.sec, h.len]
def SafePost (w : World) (e : Ending) (w' : World) : Prop := e = .returned (.bool true) ∧ Below w.heap.size w w'
end Go.Proofs.Ytfpmkenobphfnaa
