/- Texts on which the proofs stand: WalLog, LeCut. No condition is laid on any input. -/
import Derived.Test.YteljibjbndpncaaWfG11
import Derived.Test.YteljibjbndpncaaWfSector
import Derived.Test.YteljibjbndpncaaWfWalNew
/- Walks of where a log is. -/
namespace Go.Proofs.Yteljibjbndpncaa
open Go.RowKit

set_option maxRecDepth 100000 in
set_option maxHeartbeats 1000000 in
/-- (*wal.Log).at -/
theorem wat_calls {W : World} {L P : Nat} {A : Option Addr} {cap : Nat} {G : Nat → Prop} {c : DConf} {x : LogSt} (h : LogW W L P A cap G c x) :
    Calls Try.prog 68 #[.pointer (some ⟨L, 0, none⟩)] W fun e w' => e = .returned (.agg #[.int .i64 x.epoch, .int .i64 x.head, .int .i64 x.tail, .int .i64 x.seq]) ∧ Below W.heap.size W w' := by
  have hb := h.blk
  have hlt := h.lt L (.inl rfl)
  clear h
  have hb2 : (W.alloc (.cells #[.int .i64 0, .int .i64 0, .int .i64 0, .int .i64 0] 110)).heap[L]? = _ := (Below.heap_alloc _ _ _ hlt).trans hb
  have e6 := cell_row hb2 6
  have e7 := cell_row hb2 7
  have e8 := cell_row hb2 8
  have e9 := cell_row hb2 9
  have hne : ¬ L = W.heap.size := by omega
  go_enter Try.func68, Try.ntmps68
  go_wp2_with fail
  have hfr : Try.f68.results = #[.cell 2 110] := rfl
  refine ⟨rfl, .agg #[.int .i64 x.epoch, .int .i64 x.head, .int .i64 x.tail, .int .i64 x.seq], ?_, rfl, ?_⟩
  · simp only [results, hfr]
    go_simp
  · exact (Below.refl _ _).alloc (Nat.le_refl _) _

set_option maxRecDepth 100000 in
set_option maxHeartbeats 1000000 in
/-- (*wal.Log).at of no log -/
theorem wat_nil (W : World) : Calls Try.prog 68 #[.pointer none] W fun e w' => e = .returned (.agg #[.int .i64 0, .int .i64 0, .int .i64 0, .int .i64 0]) ∧ Below W.heap.size W w' := by
  go_enter Try.func68, Try.ntmps68
  go_wp2_with fail
  have hfr : Try.f68.results = #[.cell 2 110] := rfl
  refine ⟨rfl, .agg #[.int .i64 0, .int .i64 0, .int .i64 0, .int .i64 0], ?_, rfl, (Below.refl _ _).alloc (Nat.le_refl _) _⟩
  simp only [results, hfr]
  go_simp

set_option maxRecDepth 100000 in
set_option maxHeartbeats 1000000 in
/-- (*wal.Log).Head -/
theorem whead_calls {W : World} {L P : Nat} {A : Option Addr} {cap : Nat} {G : Nat → Prop} {c : DConf} {x : LogSt} (h : LogW W L P A cap G c x) :
    Calls Try.prog 34 #[.pointer (some ⟨L, 0, none⟩)] W fun e w' => e = .returned (.int .i64 x.head) ∧ Below W.heap.size W w' := by
  have H := Lib.hid h
  clear h
  obtain ⟨ep, hd, tl, sq⟩ := x
  have hfd : ∀ w : World, (Instr.field 110 (.agg #[.int .i64 ep, .int .i64 hd, .int .i64 tl, .int .i64 sq]) 1).run Try.prog w = .ok (.int .i64 hd) w := fun _ => by kernel_rfl
  go_enter Try.func34, Try.ntmps34
  go_wp2_with fail
  refine (wat_calls H.out).mono ?_
  rintro e w2 ⟨rfl, hb2⟩
  go_wp2_with fail
  go_ret
  exact ⟨rfl, hb2⟩
set_option maxRecDepth 100000 in
set_option maxHeartbeats 1000000 in
/-- (*wal.Log).Head of no log -/
theorem whead_nil (W : World) : Calls Try.prog 34 #[.pointer none] W fun e w' => e = .returned (.int .i64 0) ∧ Below W.heap.size W w' := by
  have hfd : ∀ w : World, (Instr.field 110 (.agg #[.int .i64 0, .int .i64 0, .int .i64 0, .int .i64 0]) 1).run Try.prog w = .ok (.int .i64 0) w := fun _ => by kernel_rfl
  go_enter Try.func34, Try.ntmps34
  go_wp2_with fail
  refine (wat_nil _).mono ?_
  rintro e w2 ⟨rfl, hb2⟩
  go_wp2_with fail
  go_ret
  exact ⟨rfl, hb2⟩

set_option maxRecDepth 100000 in
set_option maxHeartbeats 1000000 in
/-- (*wal.Log).Tail -/
theorem wtail_calls {W : World} {L P : Nat} {A : Option Addr} {cap : Nat} {G : Nat → Prop} {c : DConf} {x : LogSt} (h : LogW W L P A cap G c x) :
    Calls Try.prog 36 #[.pointer (some ⟨L, 0, none⟩)] W fun e w' => e = .returned (.int .i64 x.tail) ∧ Below W.heap.size W w' := by
  have H := Lib.hid h
  clear h
  obtain ⟨ep, hd, tl, sq⟩ := x
  have hfd : ∀ w : World, (Instr.field 110 (.agg #[.int .i64 ep, .int .i64 hd, .int .i64 tl, .int .i64 sq]) 2).run Try.prog w = .ok (.int .i64 tl) w := fun _ => by kernel_rfl
  go_enter Try.func36, Try.ntmps36
  go_wp2_with fail
  refine (wat_calls H.out).mono ?_
  rintro e w2 ⟨rfl, hb2⟩
  go_wp2_with fail
  go_ret
  exact ⟨rfl, hb2⟩
set_option maxRecDepth 100000 in
set_option maxHeartbeats 1000000 in
/-- (*wal.Log).Tail of no log -/
theorem wtail_nil (W : World) : Calls Try.prog 36 #[.pointer none] W fun e w' => e = .returned (.int .i64 0) ∧ Below W.heap.size W w' := by
  have hfd : ∀ w : World, (Instr.field 110 (.agg #[.int .i64 0, .int .i64 0, .int .i64 0, .int .i64 0]) 2).run Try.prog w = .ok (.int .i64 0) w := fun _ => by kernel_rfl
  go_enter Try.func36, Try.ntmps36
  go_wp2_with fail
  refine (wat_nil _).mono ?_
  rintro e w2 ⟨rfl, hb2⟩
  go_wp2_with fail
  go_ret
  exact ⟨rfl, hb2⟩

set_option maxRecDepth 100000 in
set_option maxHeartbeats 1000000 in
/-- (*wal.Log).Seq -/
theorem wseq_calls {W : World} {L P : Nat} {A : Option Addr} {cap : Nat} {G : Nat → Prop} {c : DConf} {x : LogSt} (h : LogW W L P A cap G c x) :
    Calls Try.prog 31 #[.pointer (some ⟨L, 0, none⟩)] W fun e w' => e = .returned (.int .i64 x.seq) ∧ Below W.heap.size W w' := by
  have H := Lib.hid h
  clear h
  obtain ⟨ep, hd, tl, sq⟩ := x
  have hfd : ∀ w : World, (Instr.field 110 (.agg #[.int .i64 ep, .int .i64 hd, .int .i64 tl, .int .i64 sq]) 3).run Try.prog w = .ok (.int .i64 sq) w := fun _ => by kernel_rfl
  go_enter Try.func31, Try.ntmps31
  go_wp2_with fail
  refine (wat_calls H.out).mono ?_
  rintro e w2 ⟨rfl, hb2⟩
  go_wp2_with fail
  go_ret
  exact ⟨rfl, hb2⟩
set_option maxRecDepth 100000 in
set_option maxHeartbeats 1000000 in
/-- (*wal.Log).Seq of no log -/
theorem wseq_nil (W : World) : Calls Try.prog 31 #[.pointer none] W fun e w' => e = .returned (.int .i64 0) ∧ Below W.heap.size W w' := by
  have hfd : ∀ w : World, (Instr.field 110 (.agg #[.int .i64 0, .int .i64 0, .int .i64 0, .int .i64 0]) 3).run Try.prog w = .ok (.int .i64 0) w := fun _ => by kernel_rfl
  go_enter Try.func31, Try.ntmps31
  go_wp2_with fail
  refine (wat_nil _).mono ?_
  rintro e w2 ⟨rfl, hb2⟩
  go_wp2_with fail
  go_ret
  exact ⟨rfl, hb2⟩

set_option maxRecDepth 100000 in
set_option maxHeartbeats 1000000 in
/-- (*wal.Log).Truncate of no log -/
theorem wtrunc_nil (W : World) : Calls Try.prog 30 #[.pointer none] W fun e w' => e = .returned (.tuple #[]) ∧ w' = W := by
  go_enter Try.func30, Try.ntmps30
  go_wp2_with fail
  exact ⟨rfl, .tuple #[], by simp [results], rfl, rfl⟩

set_option maxRecDepth 100000 in
set_option maxHeartbeats 1000000 in
/-- (*wal.Log).Append of no log -/
theorem wappend_nil (W : World) (v : Value) : Calls Try.prog 29 #[.pointer none, v] W fun e w' => e = .returned (.int .i64 4) ∧ w' = W := by
  go_enter Try.func29, Try.ntmps29
  go_wp2_with fail
  go_ret
  exact ⟨rfl, rfl⟩

set_option maxRecDepth 100000 in
set_option maxHeartbeats 1000000 in
/-- (*wal.Log).Room of no log -/
theorem wroom_nil (W : World) : Calls Try.prog 57 #[.pointer none] W fun e w' => e = .returned (.int .i64 0) ∧ w' = W := by
  go_enter Try.func57, Try.ntmps57
  go_wp2_with fail
  go_ret
  exact ⟨rfl, rfl⟩

set_option maxRecDepth 100000 in
set_option maxHeartbeats 1000000 in
/-- (*wal.Log).Truncate -/
theorem wtrunc_calls {W : World} {L P : Nat} {A : Option Addr} {cap : Nat} {G : Nat → Prop} {c : DConf} {x : LogSt} (h : LogW W L P A cap G c x) :
    Calls Try.prog 30 #[.pointer (some ⟨L, 0, none⟩)] W fun e w' => e = .returned (.tuple #[]) ∧ LogW w' L P A cap G c { x with head := x.tail } ∧ Only (fun b => b = L) W w' := by
  have H := Lib.hid h
  have hb := h.blk
  have e8 := cell_row hb 8
  have e7 := cell_row hb 7
  have z7 := frozen_row hb 7
  clear h hb
  go_enter Try.func30, Try.ntmps30
  go_wp2_with fail
  refine ⟨rfl, .tuple #[], by simp [results], rfl, ⟨heap_setRow H.out.blk, Rep.val_keep (fun b hb _ => ⟨hb, Below.heap_setCell _ _ _ _ (fun e => H.out.ne (by rw [← show b = L from e]; exact hb))⟩) H.out.conf, fun b hb => ?_, H.out.ne⟩, Only.set rfl⟩
  have := H.out.lt b hb
  simpa using this
end Go.Proofs.Yteljibjbndpncaa
/- Walk of bytes cut to a length: the program's. -/
namespace Go.Proofs.Yteljibjbndpncaa
open Go.RowKit
open Extern.Stop (cell)

theorem zeroBytes_is (n : Nat) : zeroBytes n = ((zeros n).map cell).toArray := by
  apply Array.ext'
  rw [zeroBytes, toList_madeCells_one]
  simp [zeros, cell]
theorem cut_splice (l : List UInt8) (n : Nat) : splice (zeros n) 0 (l.take n) = cutTo l n := by
  have hk : (l.take n).length ≤ n := by rw [List.length_take]; omega
  have hz : zeros n = zeros (l.take n).length ++ zeros (n - (l.take n).length) := by rw [← zeros_add]; congr 1; omega
  have h2 : n - (l.take n).length = n - l.length := by rw [List.length_take]; omega
  rw [hz, splice_here (zeros_length _), cutTo, h2]; rfl

set_option maxRecDepth 100000 in
set_option maxHeartbeats 1000000 in
/-- le.Cut -/
theorem lecut_calls {Q : Nat → Prop} {w : World} {v : Value} {l : List UInt8} {n : Nat} (hx : Rep.byte.list.val Q w v l) (hn : n ≤ 65535) :
    Calls Try.prog 115 #[v, .int .i64 n] w fun e w' => e = .returned (.slice (some ⟨w.heap.size, 0, none⟩) n n) ∧ w'.heap[w.heap.size]? = some (.cells ((cutTo l n).map cell).toArray 5 (0, 0)) ∧ Below w.heap.size w w' := by
  obtain ⟨A, c, rfl, hs⟩ := Rep.val_sl hx
  have hmk : ∀ w, (Instr.makeSlice 33 (.int .i64 (n : Int)) (.int .i64 (n : Int))).run Try.prog w = .ok (.slice (some ⟨w.heap.size, 0, none⟩) n n) (w.alloc (.cells (zeroBytes n) 5)) :=
    fun w => run_make_bytes Try.underlying33 info5 n (by omega) w
  have HG := Lib.hid (show (w.alloc (.cells (zeroBytes n) 5)).heap[w.heap.size]? = some (.cells ((zeros n).map cell).toArray 5 (0, 0)) by rw [heap_alloc_new, zeroBytes_is])
  have HB := Lib.hid (show Below w.heap.size w (w.alloc (.cells (zeroBytes n) 5)) from (Below.refl _ _).alloc (Nat.le_refl _) _)
  have HS := Lib.hid (hs.keep (w' := w.alloc (.cells (zeroBytes n) 5)) (Q' := fun _ => True) fun b hb hl => ⟨trivial, Below.heap_alloc _ _ _ hl.lt⟩)
  have HC := Lib.hid (copy_from (X := l.take n) (c := c) (A := A) (w := w.alloc (.cells (zeroBytes n) 5)) (Q := fun _ => True) (by have := HS.out; exact ⟨by rw [List.length_take]; have := this.1; omega, this.2.1, this.2.2.take n⟩))
  have HE := Lib.hid (cut_splice l n)
  have HL := Lib.hid (show ((l.take n).map cell).length = Nat.min l.length n by rw [List.length_map, List.length_take]; exact Nat.min_comm _ _)
  have HF := Lib.hid (show 0 + ((l.take n).map cell).length ≤ ((zeros n).map cell).length by rw [List.length_map, List.length_map, List.length_take, zeros_length]; omega)
  have n1 : (0 : Int) ≤ n := by omega
  have n2 : (n : Int) ≤ 65535 := by omega
  clear hx hs hn
  obtain ⟨Y, hY⟩ : ∃ Y, Y = l.take n := ⟨_, rfl⟩
  rw [← hY] at HC HE HL HF
  clear hY
  obtain ⟨Z, hZ⟩ : ∃ Z, Z = zeroBytes n := ⟨_, rfl⟩
  rw [← hZ] at hmk HG HB HC
  clear HS hZ
  go_enter Try.func115, Try.ntmps115
  go_wp2_with (refine wpList_copy_splice rfl (.tmp 10) (.tmp 11) 33 33 rfl 5 Try.underlying33 size5 (some ⟨w.heap.size, 0, none⟩) A n n l.length c (by exact rfl) (by exact rfl) w.heap.size 0 ((zeros n).map cell) 5 HG.out (Y.map cell) HL.out (fun h => ⟨rfl, HC.out h⟩) HF.out (copy_one Y) w.heap.size w HB.out (Nat.le_refl _) ?_; intro w5 hg5 hb5; have H5 := Lib.hid hg5.out; have D5 := Lib.hid hb5; clear hg5 hb5)
  go_ret
  exact ⟨rfl, by rw [H5.out, ← splice_map, HE.out], D5.out⟩
end Go.Proofs.Yteljibjbndpncaa
