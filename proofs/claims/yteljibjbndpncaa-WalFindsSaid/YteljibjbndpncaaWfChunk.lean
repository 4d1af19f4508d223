/- page.Cut: a range over the library's slices.Chunk. -/
import Derived.Test.YteljibjbndpncaaWfG13
import Derived.Test.YteljibjbndpncaaWfG8
import Derived.Shelf.Abstract
import Derived.Shelf.RegionOpen
import Derived.OwnWalkIn
import Derived.TacticsInMore
import Derived.LoopNIn
import Derived.LoopIn
namespace Go.Proofs.Yteljibjbndpncaa
open Go.RowKit Go.Shelf
attribute [local go_sem] Oper.semAt_some

/-- slices.Chunk: the slice and the number are boxed. -/
theorem chunk_in (n : Nat) (A : Option Addr) (len cap : Nat) (w : World) :
    CallsIn Fence.wide n Try.prog 110 #[.slice A len cap, .int .i64 472] w fun e w' => e = .returned (.func (.func 129) #[] #[.pointer (some ⟨w.heap.size, 0, none⟩), .pointer (some ⟨w.heap.size + 1, 0, none⟩)]) ∧ w' = (w.alloc (.cells #[.slice A len cap] 33)).alloc (.cells #[.int .i64 472] 3) := by
  refine callsIn_wide.2 ?_
  go_enter Try.func110, Try.ntmps110
  go_wp2_with fail
  go_ret
  exact ⟨rfl, rfl⟩

def chunkVal (b off len k : Nat) : Value := .slice (some ⟨b, off + 472 * k, none⟩) (min 472 (len - 472 * k)) (min 472 (len - 472 * k))

def firsts (N k : Nat) (h : k ≤ N) : List (Fin N) := (List.range k).attach.map fun i => ⟨i.1, by have := List.mem_range.1 i.2; omega⟩
theorem firsts_val (N k : Nat) (h : k ≤ N) : (firsts N k h).map Fin.val = List.range k := by simp [firsts]
theorem firsts_length (N k : Nat) (h : k ≤ N) : (firsts N k h).length = k := by simp [firsts]

/-- Two blocks lie as0 they lay. -/
def Both (b c : Nat) (W W' : World) : Prop := W'.heap[b]? = W.heap[b]? ∧ W'.heap[c]? = W.heap[c]?
theorem both_t {b c : Nat} {X Y Z : World} (h : Both b c X Y) (k : Both b c Y Z) : Both b c X Z := ⟨k.1.trans h.1, k.2.trans h.2⟩
theorem both_b {b c : Nat} {w : World} (hb : b < w.heap.size) (hc : c < w.heap.size) (W : World) (l : Nat) (o o' : Obj) (hl : w.heap.size ≤ l) (_ : W.heap[l]? = some o) (_ : o.isCells = false) (_ : o.isWalk = false) : Both b c W (W.putObj l o') :=
  ⟨World.putObj_heap_other (by omega), World.putObj_heap_other (by omega)⟩

set_option maxRecDepth 100000 in
set_option maxHeartbeats 2000000 in
/-- slices.Chunk's closure at a slice that has elements. -/
theorem chunk1_in (n l Bs Bn b off len cap N : Nat) (hn : 1 ≤ n) (hN : N = (len + 471) / 472) (hlen : len ≤ 100000000000000) (hcap : len ≤ cap) (J Jx : List (Fin N) → World → Prop) (hJd : ∀ s W m, J s W → J s (W.drewN m))
    (hY : ∀ pre x W, J pre W → pre.length < N → YieldAt Fence.wide (n - 1) Try.prog l #[chunkVal b off len x.1] W fun e W' =>
      (e = .returned (.bool true) ∧ J (pre ++ [x]) W' ∧ Both Bs Bn W W') ∨ (e = .returned (.bool false) ∧ Jx (pre ++ [x]) W'))
    (W : World) (hBs : W.cell? ⟨Bs, 0, none⟩ = some (.slice (some ⟨b, off, none⟩) len cap)) (hBn : W.cell? ⟨Bn, 0, none⟩ = some (.int .i64 472)) (h0 : J [] W) :
    CallsIn Fence.wide n Try.prog 129 #[.func (.yield l) #[] #[], .pointer (some ⟨Bs, 0, none⟩), .pointer (some ⟨Bn, 0, none⟩)] W fun e W' => (∃ v, e = .returned v) ∧
      ((∃ ys, ys.map Fin.val = List.range N ∧ J ys W') ∨ (∃ pre, True ∧ Jx pre W')) := by
  refine callsIn_of_wp Try.func129 rfl trivial ?_ rfl
  simp only [Try.ntmps129, List.size_toArray, List.length_cons, List.length_nil, Nat.reduceAdd, Nat.reduceSub, Array.replicate_succ, Array.replicate_zero, List.push_toArray, List.append_toArray, List.nil_append, List.cons_append]
  gi_wp2
  gi_loopw [4] (fun v wr => ∃ k i : Nat, k ≤ N ∧ Hid (i = 472 * k) ∧ v = .int .i64 i ∧ (∃ ys : List (Fin N), ys.map Fin.val = List.range k ∧ J ys wr) ∧ Both Bs Bn W wr)
    (fun i _ => len + 472 - (intOf i).toNat)
  case atStart => exact ⟨0, 0, Nat.zero_le _, rfl, rfl, ⟨[], rfl, h0⟩, rfl, rfl⟩
  case round =>
    obtain ⟨k, i, hk, hi, rfl, ⟨ys, hys, hJs⟩, hnx⟩ := hrel
    have hc1 : wr.cell? ⟨Bs, 0, none⟩ = some (.slice (some ⟨b, off, none⟩) len cap) := (World.cell?_of_block hnx.1).trans hBs
    have hc2 : wr.cell? ⟨Bn, 0, none⟩ = some (.int .i64 472) := (World.cell?_of_block hnx.2).trans hBn
    have HYS := Lib.hid hys
    clear hys
    by_cases hlt : i < len
    · have hkN : k < N := by have := hi.out; omega
      have hylen : ys.length < N := by have := congrArg List.length HYS.out; simp at this; omega
      have hcv : ∀ m, m = min 472 (len - i) → chunkVal b off len k = .slice (some ⟨b, off + i, none⟩) m m := by intro m hm; rw [chunkVal, ← hi.out, hm]
      have i1 : (i : Int) < (len : Int) := by omega
      have HN := Lib.hid hN
      clear hN
      have hmix : Try.prog.follows .mixedOrders = true := by kernel_rfl
      rcases Nat.lt_or_ge (len - i) 472 with hm | hm
      · have hm1 := hcv (len - i) (by omega)
        have HM := Lib.hid hm1
        clear hm1 hcv
        have i2 : ((len - i : Nat) : Int) < 472 := by omega
        have i3 : ((i : Int) + ((len - i : Nat) : Int)) = (len : Int) := by omega
        gi_wp2
        gi_big_quiet_th_o (fail)
        obtain ⟨fn, tmps, assign, body, hy, hR⟩ := hY ys ⟨k, hkN⟩ (wr.drewN nq) (hJd _ _ _ hJs) hylen
        dsimp only at hy
        rw [HM.out] at hy
        gi_wp2
        refine hR.mono ?_
        rintro e W3 (⟨rfl, hJ3, hk3⟩ | ⟨rfl, hJx3⟩)
        · have hc3 : W3.cell? ⟨Bn, 0, none⟩ = some (.int .i64 472) := (World.cell?_of_block (w := wr) hk3.2).trans hc2
          have hb3 : Both Bs Bn W W3 := both_t hnx ⟨hk3.1, hk3.2⟩
          gi_wp2
          go_roundw
          case rel => exact ⟨k + 1, i + 472, by omega, by have := hi.out; unfold Hid; omega, by go_num, ⟨ys ++ [⟨k, hkN⟩], by rw [List.map_append, HYS.out, List.range_succ]; rfl, hJ3⟩, hb3⟩
          case measure => simp [intOf]; omega
        · gi_wp2
          refine bodyPost_ret (results_none rfl _ _ _) rfl ?_
          exact ⟨⟨_, rfl⟩, .inr ⟨_, trivial, hJx3⟩⟩
      · have hm1 := hcv 472 (by omega)
        have HM := Lib.hid hm1
        clear hm1 hcv
        have i2 : ¬ ((len - i : Nat) : Int) < 472 := by omega
        have i3 : (i : Int) + 472 ≤ (len : Int) := by omega
        gi_wp2
        gi_big_quiet_th_o (fail)
        obtain ⟨fn, tmps, assign, body, hy, hR⟩ := hY ys ⟨k, hkN⟩ (wr.drewN nq) (hJd _ _ _ hJs) hylen
        dsimp only at hy
        rw [HM.out] at hy
        gi_wp2
        refine hR.mono ?_
        rintro e W3 (⟨rfl, hJ3, hk3⟩ | ⟨rfl, hJx3⟩)
        · have hc3 : W3.cell? ⟨Bn, 0, none⟩ = some (.int .i64 472) := (World.cell?_of_block (w := wr) hk3.2).trans hc2
          have hb3 : Both Bs Bn W W3 := both_t hnx ⟨hk3.1, hk3.2⟩
          gi_wp2
          go_roundw
          case rel => exact ⟨k + 1, i + 472, by omega, by have := hi.out; unfold Hid; omega, by go_num, ⟨ys ++ [⟨k, hkN⟩], by rw [List.map_append, HYS.out, List.range_succ]; rfl, hJ3⟩, hb3⟩
          case measure => simp [intOf]; omega
        · gi_wp2
          refine bodyPost_ret (results_none rfl _ _ _) rfl ?_
          exact ⟨⟨_, rfl⟩, .inr ⟨_, trivial, hJx3⟩⟩
    · have hke : k = N := by have := hi.out; omega
      have HK := Lib.hid hke
      clear hke
      have i1 : ¬ (i : Int) < (len : Int) := by omega
      gi_wp2
      go_end0
      exact ⟨⟨_, rfl⟩, .inl ⟨ys, by rw [HYS.out, HK.out]; exact congrArg List.range hN, hJs⟩⟩

set_option maxRecDepth 100000 in
set_option maxHeartbeats 1000000 in
/-- .. at a slice without elements. -/
theorem chunk0_in (n l Bs Bn cap : Nat) (A : Option Addr) (J : List (Fin 0) → World → Prop) (W : World) (hBs : W.cell? ⟨Bs, 0, none⟩ = some (.slice A 0 cap)) (h0 : J [] W) :
    CallsIn Fence.wide n Try.prog 129 #[.func (.yield l) #[] #[], .pointer (some ⟨Bs, 0, none⟩), .pointer (some ⟨Bn, 0, none⟩)] W fun e W' => (∃ v, e = .returned v) ∧ J [] W' := by
  refine callsIn_of_wp Try.func129 rfl trivial ?_ rfl
  simp only [Try.ntmps129, List.size_toArray, List.length_cons, List.length_nil, Nat.reduceAdd, Nat.reduceSub, Array.replicate_succ, Array.replicate_zero, List.push_toArray, List.append_toArray, List.nil_append, List.cons_append]
  gi_wp2
  gi_loopw [4] (fun i wr => i = .int .i64 0 ∧ J [] wr ∧ wr = W) (fun _ _ => 0)
  case atStart => exact ⟨rfl, h0, rfl⟩
  case round =>
    obtain ⟨rfl, hJs, rfl⟩ := hrel
    gi_wp2
    go_end0
    exact ⟨⟨_, rfl⟩, hJs⟩

theorem abides_drewN {β : Type} {B : Nat} {J : β → World → Prop} (h : AbidesFrom B J) : ∀ s W m, J s W → J s (W.drewN m) :=
  fun s W m hs => h s W (W.drewN m) none hs ⟨rfl, rfl, rfl, Nat.le_refl _, fun _ _ _ => rfl⟩ (fun r e => by cases e)

/-- slices.Chunk's value keeps the contract of an iterator. -/
theorem chunk_stops (n Bs Bn : Nat) (A : Option Addr) (b off len cap N : Nat) (hn : 1 ≤ n) (hN : N = (len + 471) / 472) (hlen : len ≤ 100000000000000) (hcap : len ≤ cap) (hA : 0 < len → A = some ⟨b, off, none⟩) (w : World)
    (hB1 : Bs < w.heap.size) (hB2 : Bn < w.heap.size) (hBs : w.cell? ⟨Bs, 0, none⟩ = some (.slice A len cap)) (hBn : w.cell? ⟨Bn, 0, none⟩ = some (.int .i64 472)) :
    SeqStopsK Fence.wide n Try.prog 129 #[.pointer (some ⟨Bs, 0, none⟩), .pointer (some ⟨Bn, 0, none⟩)] (fun k : Fin N => #[chunkVal b off len k.1]) (Both Bs Bn) (fun ys => ys.map Fin.val = List.range N) (fun _ => True) N w :=
  fun l J Jx W hW hJ _ hY h0 => by
    have hc1 := (hW.cell (p := ⟨Bs, 0, none⟩) hB1).trans hBs
    have hc2 := (hW.cell (p := ⟨Bn, 0, none⟩) hB2).trans hBn
    rcases Nat.eq_zero_or_pos len with h | h
    · subst h
      obtain rfl : N = 0 := by omega
      exact (chunk0_in n l Bs Bn cap A J W hc1 h0).mono fun e W' ⟨he, hj⟩ => ⟨he, .inl ⟨[], rfl, hj⟩⟩
    · obtain rfl := hA h
      exact chunk1_in n l Bs Bn b off len cap N hn hN hlen hcap J Jx (abides_drewN hJ) hY W hc1 hc2 h0
end Go.Proofs.Yteljibjbndpncaa
