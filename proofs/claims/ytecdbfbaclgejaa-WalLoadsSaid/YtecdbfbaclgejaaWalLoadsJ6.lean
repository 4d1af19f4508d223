/- Texts on which the proof of WalLoads stands, part 6: Chunk, Cut, WalLoad, PartSplit, WalNew, WalLog, LeCut. No condition is laid on any input. -/
import Derived.Test.YtecdbfbaclgejaaWalLoadsJ5
import Derived.Shelf.Abstract
import Derived.Shelf.RegionOpen
import Derived.OwnWalkIn
import Derived.TacticsInMore
import Derived.LoopNIn
import Derived.LoopIn
/- page.Cut: a range over the library's slices.Chunk. -/
namespace Go.Proofs.Ytecdbfbaclgejaa
open Go.RowKit Go.Shelf
attribute [local go_sem] Oper.semAt_some

/-- slices.Chunk: the slice and the number are boxed. -/
theorem chunk_in (n : Nat) (A : Option Addr) (len cap : Nat) (w : World) :
    CallsIn Fence.wide n Try.prog 100 #[.slice A len cap, .int .i64 472] w fun e w' => e = .returned (.func (.func 161) #[] #[.pointer (some ⟨w.heap.size, 0, none⟩), .pointer (some ⟨w.heap.size + 1, 0, none⟩)]) ∧ w' = (w.alloc (.cells #[.slice A len cap] 22)).alloc (.cells #[.int .i64 472] 3) := by
  refine callsIn_wide.2 ?_
  go_enter Try.func100, Try.ntmps100
  go_wp2_with fail
  go_ret
  exact ⟨rfl, rfl⟩

def chunkVal (b off len k : Nat) : Value := .slice (some ⟨b, off + 472 * k, none⟩) (min 472 (len - 472 * k)) (min 472 (len - 472 * k))

def firsts (N k : Nat) (h : k ≤ N) : List (Fin N) := (List.range k).attach.map fun i => ⟨i.1, by have := List.mem_range.1 i.2; omega⟩
theorem firsts_val (N k : Nat) (h : k ≤ N) : (firsts N k h).map Fin.val = List.range k := by simp [firsts]
theorem firsts_length (N k : Nat) (h : k ≤ N) : (firsts N k h).length = k := by simp [firsts]

/-- Two blocks lie as0 they lay. -/
def Both (b c : Nat) (W W' : World) : Prop := W'.heap[b]? = W.heap[b]? ∧ W'.heap[c]? = W.heap[c]?
theorem both_t {b c : Nat} {X Y Z : World} (h : Both b c X Y) (k : Both b c Y Z) : Both b c X Z := ⟨k.1.trans h.1, k.2.trans h.2⟩
theorem both_b {b c : Nat} {w : World} (hb : b < w.heap.size) (hc : c < w.heap.size) (W : World) (l : Nat) (o o' : Obj) (hl : w.heap.size ≤ l) (_ : W.heap[l]? = some o) (_ : o.isCells = false) (_ : o.isWalk = false) : Both b c W (W.putObj l o') :=
  ⟨World.putObj_heap_other (by omega), World.putObj_heap_other (by omega)⟩

set_option maxRecDepth 100000 in
set_option maxHeartbeats 2000000 in
/-- slices.Chunk's closure at a slice that has elements. -/
theorem chunk1_in (n l Bs Bn b off len cap N : Nat) (hn : 1 ≤ n) (hN : N = (len + 471) / 472) (hlen : len ≤ 100000000000000) (hcap : len ≤ cap) (J Jx : List (Fin N) → World → Prop) (hJd : ∀ s W m, J s W → J s (W.drewN m))
    (hY : ∀ pre x W, J pre W → pre.length < N → YieldAt Fence.wide (n - 1) Try.prog l #[chunkVal b off len x.1] W fun e W' =>
      (e = .returned (.bool true) ∧ J (pre ++ [x]) W' ∧ Both Bs Bn W W') ∨ (e = .returned (.bool false) ∧ Jx (pre ++ [x]) W'))
    (W : World) (hBs : W.cell? ⟨Bs, 0, none⟩ = some (.slice (some ⟨b, off, none⟩) len cap)) (hBn : W.cell? ⟨Bn, 0, none⟩ = some (.int .i64 472)) (h0 : J [] W) :
    CallsIn Fence.wide n Try.prog 161 #[.func (.yield l) #[] #[], .pointer (some ⟨Bs, 0, none⟩), .pointer (some ⟨Bn, 0, none⟩)] W fun e W' => (∃ v, e = .returned v) ∧
      ((∃ ys, ys.map Fin.val = List.range N ∧ J ys W') ∨ (∃ pre, True ∧ Jx pre W')) := by
  refine callsIn_of_wp Try.func161 rfl trivial ?_ rfl
  simp only [Try.ntmps161, List.size_toArray, List.length_cons, List.length_nil, Nat.reduceAdd, Nat.reduceSub, Array.replicate_succ, Array.replicate_zero, List.push_toArray, List.append_toArray, List.nil_append, List.cons_append]
  gi_wp2
  gi_loopw [4] (fun v wr => ∃ k i : Nat, k ≤ N ∧ Hid (i = 472 * k) ∧ v = .int .i64 i ∧ (∃ ys : List (Fin N), ys.map Fin.val = List.range k ∧ J ys wr) ∧ Both Bs Bn W wr)
    (fun i _ => len + 472 - (intOf i).toNat)
  case atStart => exact ⟨0, 0, Nat.zero_le _, rfl, rfl, ⟨[], rfl, h0⟩, rfl, rfl⟩
  case round =>
    obtain ⟨k, i, hk, hi, rfl, ⟨ys, hys, hJs⟩, hnx⟩ := hrel
    have hc1 : wr.cell? ⟨Bs, 0, none⟩ = some (.slice (some ⟨b, off, none⟩) len cap) := (World.cell?_of_block hnx.1).trans hBs
    have hc2 : wr.cell? ⟨Bn, 0, none⟩ = some (.int .i64 472) := (World.cell?_of_block hnx.2).trans hBn
    have HYS := Lib.hid hys
    clear hys
    by_cases hlt : i < len
    · have hkN : k < N := by have := hi.out; omega
      have hylen : ys.length < N := by have := congrArg List.length HYS.out; simp at this; omega
      have hcv : ∀ m, m = min 472 (len - i) → chunkVal b off len k = .slice (some ⟨b, off + i, none⟩) m m := by intro m hm; rw [chunkVal, ← hi.out, hm]
      have i1 : (i : Int) < (len : Int) := by omega
      have HN := Lib.hid hN
      clear hN
      have hmix : Try.prog.follows .mixedOrders = true := by kernel_rfl
      rcases Nat.lt_or_ge (len - i) 472 with hm | hm
      · have hm1 := hcv (len - i) (by omega)
        have HM := Lib.hid hm1
        clear hm1 hcv
        have i2 : ((len - i : Nat) : Int) < 472 := by omega
        have i3 : ((i : Int) + ((len - i : Nat) : Int)) = (len : Int) := by omega
        gi_wp2
        gi_big_quiet_th_o (fail)
        obtain ⟨fn, tmps, assign, body, hy, hR⟩ := hY ys ⟨k, hkN⟩ (wr.drewN nq) (hJd _ _ _ hJs) hylen
        dsimp only at hy
        rw [HM.out] at hy
        gi_wp2
        refine hR.mono ?_
        rintro e W3 (⟨rfl, hJ3, hk3⟩ | ⟨rfl, hJx3⟩)
        · have hc3 : W3.cell? ⟨Bn, 0, none⟩ = some (.int .i64 472) := (World.cell?_of_block (w := wr) hk3.2).trans hc2
          have hb3 : Both Bs Bn W W3 := both_t hnx ⟨hk3.1, hk3.2⟩
          gi_wp2
          go_roundw
          case rel => exact ⟨k + 1, i + 472, by omega, by have := hi.out; unfold Hid; omega, by go_num, ⟨ys ++ [⟨k, hkN⟩], by rw [List.map_append, HYS.out, List.range_succ]; rfl, hJ3⟩, hb3⟩
          case measure => simp [intOf]; omega
        · gi_wp2
          refine bodyPost_ret (results_none rfl _ _ _) rfl ?_
          exact ⟨⟨_, rfl⟩, .inr ⟨_, trivial, hJx3⟩⟩
      · have hm1 := hcv 472 (by omega)
        have HM := Lib.hid hm1
        clear hm1 hcv
        have i2 : ¬ ((len - i : Nat) : Int) < 472 := by omega
        have i3 : (i : Int) + 472 ≤ (len : Int) := by omega
        gi_wp2
        gi_big_quiet_th_o (fail)
        obtain ⟨fn, tmps, assign, body, hy, hR⟩ := hY ys ⟨k, hkN⟩ (wr.drewN nq) (hJd _ _ _ hJs) hylen
        dsimp only at hy
        rw [HM.out] at hy
        gi_wp2
        refine hR.mono ?_
        rintro e W3 (⟨rfl, hJ3, hk3⟩ | ⟨rfl, hJx3⟩)
        · have hc3 : W3.cell? ⟨Bn, 0, none⟩ = some (.int .i64 472) := (World.cell?_of_block (w := wr) hk3.2).trans hc2
          have hb3 : Both Bs Bn W W3 := both_t hnx ⟨hk3.1, hk3.2⟩
          gi_wp2
          go_roundw
          case rel => exact ⟨k + 1, i + 472, by omega, by have := hi.out; unfold Hid; omega, by go_num, ⟨ys ++ [⟨k, hkN⟩], by rw [List.map_append, HYS.out, List.range_succ]; rfl, hJ3⟩, hb3⟩
          case measure => simp [intOf]; omega
        · gi_wp2
          refine bodyPost_ret (results_none rfl _ _ _) rfl ?_
          exact ⟨⟨_, rfl⟩, .inr ⟨_, trivial, hJx3⟩⟩
    · have hke : k = N := by have := hi.out; omega
      have HK := Lib.hid hke
      clear hke
      have i1 : ¬ (i : Int) < (len : Int) := by omega
      gi_wp2
      go_end0
      exact ⟨⟨_, rfl⟩, .inl ⟨ys, by rw [HYS.out, HK.out]; exact congrArg List.range hN, hJs⟩⟩

set_option maxRecDepth 100000 in
set_option maxHeartbeats 1000000 in
/-- .. at a slice without elements. -/
theorem chunk0_in (n l Bs Bn cap : Nat) (A : Option Addr) (J : List (Fin 0) → World → Prop) (W : World) (hBs : W.cell? ⟨Bs, 0, none⟩ = some (.slice A 0 cap)) (h0 : J [] W) :
    CallsIn Fence.wide n Try.prog 161 #[.func (.yield l) #[] #[], .pointer (some ⟨Bs, 0, none⟩), .pointer (some ⟨Bn, 0, none⟩)] W fun e W' => (∃ v, e = .returned v) ∧ J [] W' := by
  refine callsIn_of_wp Try.func161 rfl trivial ?_ rfl
  simp only [Try.ntmps161, List.size_toArray, List.length_cons, List.length_nil, Nat.reduceAdd, Nat.reduceSub, Array.replicate_succ, Array.replicate_zero, List.push_toArray, List.append_toArray, List.nil_append, List.cons_append]
  gi_wp2
  gi_loopw [4] (fun i wr => i = .int .i64 0 ∧ J [] wr ∧ wr = W) (fun _ _ => 0)
  case atStart => exact ⟨rfl, h0, rfl⟩
  case round =>
    obtain ⟨rfl, hJs, rfl⟩ := hrel
    gi_wp2
    go_end0
    exact ⟨⟨_, rfl⟩, hJs⟩

theorem abides_drewN {β : Type} {B : Nat} {J : β → World → Prop} (h : AbidesFrom B J) : ∀ s W m, J s W → J s (W.drewN m) :=
  fun s W m hs => h s W (W.drewN m) none hs ⟨rfl, rfl, rfl, Nat.le_refl _, fun _ _ _ => rfl⟩ (fun r e => by cases e)

/-- slices.Chunk's value keeps the contract of an iterator. -/
theorem chunk_stops (n Bs Bn : Nat) (A : Option Addr) (b off len cap N : Nat) (hn : 1 ≤ n) (hN : N = (len + 471) / 472) (hlen : len ≤ 100000000000000) (hcap : len ≤ cap) (hA : 0 < len → A = some ⟨b, off, none⟩) (w : World)
    (hB1 : Bs < w.heap.size) (hB2 : Bn < w.heap.size) (hBs : w.cell? ⟨Bs, 0, none⟩ = some (.slice A len cap)) (hBn : w.cell? ⟨Bn, 0, none⟩ = some (.int .i64 472)) :
    SeqStopsK Fence.wide n Try.prog 161 #[.pointer (some ⟨Bs, 0, none⟩), .pointer (some ⟨Bn, 0, none⟩)] (fun k : Fin N => #[chunkVal b off len k.1]) (Both Bs Bn) (fun ys => ys.map Fin.val = List.range N) (fun _ => True) N w :=
  fun l J Jx W hW hJ _ hY h0 => by
    have hc1 := (hW.cell (p := ⟨Bs, 0, none⟩) hB1).trans hBs
    have hc2 := (hW.cell (p := ⟨Bn, 0, none⟩) hB2).trans hBn
    rcases Nat.eq_zero_or_pos len with h | h
    · subst h
      obtain rfl : N = 0 := by omega
      exact (chunk0_in n l Bs Bn cap A J W hc1 h0).mono fun e W' ⟨he, hj⟩ => ⟨he, .inl ⟨[], rfl, hj⟩⟩
    · obtain rfl := hA h
      exact chunk1_in n l Bs Bn b off len cap N hn hN hlen hcap J Jx (abides_drewN hJ) hY W hc1 hc2 h0
end Go.Proofs.Ytecdbfbaclgejaa
/- page.Cut: a range over the library's slices.Chunk, walked. -/
namespace Go.Proofs.Ytecdbfbaclgejaa
open Go.RowKit Go.Shelf
attribute [local go_sem] Oper.semAt_some

theorem info22' : (Try.prog.info? 22).map (fun i => (i.zero, i.size)) = some (some (.slice none 0 0), 1) := by kernel_rfl

theorem own_acc {β α : Type} (r : Rep α) (e base : Nat) (Q : Nat → Prop) (B : Nat) (t : TypeId) (f : β → List α) : Own (fun s W => ∃ v, Boxed W B t v ∧ r.acc e base Q W v (f s)) := by
  rintro s X Y row ⟨v, hv, hr⟩ hg hrow
  have hk : ∀ b, IsC X b → row ≠ some b := by
    rintro b ⟨c, e', f', hb⟩ he
    obtain ⟨o, ho, hc⟩ := hrow b he
    rw [hb] at ho; cases ho; cases hc
  refine ⟨v, hv.kept hg (fun e' => hk B ⟨_, _, _, hv⟩ e'.symm), Rep.acc_keep (fun b _ hb => hg.block b hb.lt (fun e' => hk b hb e'.symm)) (fun _ hb _ => hb) hr⟩

set_option maxRecDepth 100000 in
set_option maxHeartbeats 2000000 in
/-- page.Cut -/
theorem cut_calls {Q : Nat → Prop} {w : World} {v : Value} {l : List UInt8} (hx : Rep.byte.list.val Q w v l) (hl : l.length ≤ 1000000) :
    Calls Try.prog 16 #[v] w (Res Rep.byte.list.list (fun b => w.heap.size ≤ b) w (cut l)) := by
  obtain ⟨A, c, rfl, hc1, hc2, hA⟩ := Rep.val_list hx
  obtain ⟨b, off, hAb⟩ : ∃ b off, 0 < l.length → A = some ⟨b, off, none⟩ := by
    rcases Nat.eq_zero_or_pos l.length with h | h
    · exact ⟨0, 0, fun h' => absurd h' (by omega)⟩
    · obtain ⟨b, off, h'⟩ := hA.addr h; exact ⟨b, off, fun _ => h'⟩
  obtain ⟨N, hN⟩ : ∃ N, N = (l.length + 471) / 472 := ⟨_, rfl⟩
  refine (callsIn_wide (n := 9)).1 ?_
  refine callsIn_of_wp_marks Try.func16 rfl trivial ?_ rfl
  simp only [Try.ntmps16, List.size_toArray, List.length_cons, List.length_nil, Nat.reduceAdd, Nat.reduceSub, Array.replicate_succ, Array.replicate_zero, List.push_toArray, List.append_toArray, List.nil_append, List.cons_append]
  have HB := Lib.hid hAb
  have HA := Lib.hid hA
  have HN := Lib.hid hN
  clear hAb hA hx hN
  gi_wp2_with (refine ⟨trivial, ?_⟩; gi_at_call 100; refine (chunk_in 8 _ _ _ _).mono ?_; rintro e w' ⟨rfl, rfl⟩)
  have bO := Boxed.new w 24 (.slice none 0 0)
  have bS := Boxed.new (w.alloc (.cells #[.slice none 0 0] 24)) 22 (.slice A l.length c)
  have bN := Boxed.new ((w.alloc (.cells #[.slice none 0 0] 24)).alloc (.cells #[.slice A l.length c] 22)) 3 (.int .i64 472)
  simp only [World.size_alloc] at bS bN
  obtain ⟨W0, hW0⟩ : ∃ W0, ((w.alloc (.cells #[.slice none 0 0] 24)).alloc (.cells #[.slice A l.length c] 22)).alloc (.cells #[.int .i64 472] 3) = W0 := ⟨_, rfl⟩
  have hsz : W0.heap.size = w.heap.size + 3 := by rw [← hW0]; simp
  have hB0 : Below w.heap.size w W0 := by rw [← hW0]; exact (((Below.refl _ w).alloc (Nat.le_refl _) _).alloc (by simp) _).alloc (by simp; omega) _
  replace bO : Boxed W0 w.heap.size 24 (.slice none 0 0) := by rw [← hW0]; exact (bO.alloc _).alloc _
  replace bS : Boxed W0 (w.heap.size + 1) 22 (.slice A l.length c) := by rw [← hW0]; exact bS.alloc _
  replace bN : Boxed W0 (w.heap.size + 2) 3 (.int .i64 472) := by rw [← hW0]; exact bN
  rw [hW0]
  clear hW0
  refine wpIn_rangeFunc_ownG rfl (by omega) (gf := 161) (lb := #[.pointer (some ⟨w.heap.size + 1, 0, none⟩), .pointer (some ⟨w.heap.size + 2, 0, none⟩)]) rfl trivial (enters_of Try.func161 (by kernel_rfl) rfl)
    (chunk_stops 8 (w.heap.size + 1) (w.heap.size + 2) A b off l.length c N (by omega) HN.out (by omega) hc1 HB.out W0 (by omega) (by omega) bS.cell bN.cell) both_t (both_b (by omega) (by omega)) (Below.refl _ _) (fun _ => rfl)
    (fun (pre : List (Fin N)) W => (∃ v, Boxed W w.heap.size 24 v ∧ Rep.byte.list.acc 22 (w.heap.size + 3) (fun b => w.heap.size + 3 ≤ b) W v (pre.map fun k => piece l k.1)) ∧ Below w.heap.size w W ∧ w.heap.size + 3 ≤ W.heap.size)
    (fun _ _ _ => False)
    (OwnFrom.and (Own.from (own_acc Rep.byte.list 22 (w.heap.size + 3) (fun b => w.heap.size + 3 ≤ b) w.heap.size 24 (fun pre : List (Fin N) => pre.map fun k => piece l k.1)) _) (OwnFrom.and (ownFrom_below (Nat.le_refl _) (by omega)) (fun _ _ _ _ hs hg _ => Nat.le_trans hs hg.size)))
    (fun _ _ _ _ _ hs _ _ => hs)
    ⟨⟨_, bO, Rep.acc_nil⟩, hB0, by omega⟩
    (fun x => { tmps := #[.slice A l.length c, undef, .slice none 0 0, .pointer (some ⟨w.heap.size, 0, none⟩), chunkVal b off l.length x.1, .slice A l.length c, .func (.func 161) #[] #[.pointer (some ⟨w.heap.size + 1, 0, none⟩), .pointer (some ⟨w.heap.size + 2, 0, none⟩)], chunkVal b off l.length x.1, undef, undef, undef, undef, undef, undef], defers := [] }) ?assign ?body ?done ?stop
  case assign =>
    intro l x W K hK
    gi_wp2
    exact hK
  case body =>
    rintro lr pre x W ⟨⟨v, hv, hacc⟩, hB, hsz3⟩ hlt
    have hx472 : 472 * x.1 < l.length := by have := x.2; have := HN.out; omega
    obtain rfl := HB.out (by omega)
    have hpl : (piece l x.1).length = min 472 (l.length - 472 * x.1) := by simp [piece]
    have hAW : ∀ W' : World, Below W.heap.size W W' → Rep.byte.list.val (fun b => b < w.heap.size) W' (chunkVal b off l.length x.1) (piece l x.1) := fun W' hW' => by
      have h1 : Rep.byte.At (fun b => b < w.heap.size) w (some ⟨b, off, none⟩) l := HA.out.keep (w := w) (fun b _ hb => ⟨hb.lt, rfl⟩)
      have h2 : Rep.byte.At (fun b => b < w.heap.size) W' (some ⟨b, off, none⟩) l := h1.below (hB.trans (hW'.mono hB.size)) (fun _ hb _ => hb)
      have h3 := (h2.drop (n := 472 * x.1) (by omega)).take 472
      simp only [Rep.byte, Nat.mul_one] at h3
      exact Rep.list_val hpl.symm (Nat.le_refl _) (by unfold maxLen; omega) h3
    have hml : (pre.map fun k => piece l k.1).length + 1 ≤ maxLen ∧ ((pre.map fun k => piece l k.1).length + 1) * 24 ≤ 140737488355328 := by
      rw [List.length_map]; have := HN.out; unfold maxLen; omega
    have hpb : (piece l x.1).length ≤ 100000000000000 := by omega
    clear hpl
    refine wpIn_block ?_
    refine region_round (by kernel_rfl) (noDefer_spec rfl) (by rintro ⟨_, _, h⟩; exact h) ?_
    refine wpAny_take (i := 1) (v := chunkVal b off l.length x.1) rfl (by kernel_rfl) (by kernel_rfl) (by kernel_rfl) (fun _ _ _ h => h) (Or.inl ⟨by rfl, fun _ => rfl⟩) ?_
    have hvW : ∀ W' : World, Below W.heap.size W W' → Boxed W' w.heap.size 24 v := fun W' hW' => (hW'.block _ (by omega)).trans hv
    have hbd : Below W.heap.size W W.drew := (Below.refl _ _).drew
    have hcall : ∀ W' : World, Below W.heap.size W W' → Calls Try.prog 101 #[chunkVal b off l.length x.1] W' (Res Rep.byte.list (fun b' => W'.heap.size ≤ b') W' (piece l x.1)) := fun W' hW' => bytesClone (hAW W' hW') hpb
    have hfresh : ∀ (W' : World), Below W.heap.size W W' → ∀ (W2 : World) (u : Value), Rep.byte.list.val (fun b' => W'.heap.size ≤ b') W2 u (piece l x.1) → Rep.byte.list.val (fun b' => w.heap.size + 3 ≤ b' ∧ v.ownBlock ≠ some b') W2 u (piece l x.1) := fun W' hW' W2 u hu =>
      Rep.val_mono (fun b' hb' _ => ⟨Nat.le_trans hsz3 (Nat.le_trans hW'.size hb'), fun he => by have := (Rep.acc_own hacc b' he).2; have := hW'.size; omega⟩) hu
    have hbuild : ∀ (W2 : World) (u : Value), Rep.byte.list.val (fun b' => w.heap.size + 3 ≤ b' ∧ v.ownBlock ≠ some b') W2 u (piece l x.1) → Below W.heap.size W W2 →
        Rep.byte.list.val (fun b' => w.heap.size + 3 ≤ b' ∧ v.ownBlock ≠ some b') (W2.alloc (.cells u.cells 22)) u (piece l x.1) ∧ Below W.heap.size W (W2.alloc (.cells u.cells 22)) ∧ (W2.alloc (.cells u.cells 22)).heap[W2.heap.size]? = some (.cells u.cells 22 (0, 0)) ∧ u.cells.size = 1 := fun W2 u hu hb2 =>
      ⟨Rep.val_keep (w := W2) (fun b' hb' hl => ⟨hb', Below.heap_alloc _ _ _ hl.lt⟩) hu, hb2.alloc hb2.size _, heap_alloc_new W2 _, by obtain ⟨A', c', rfl, _⟩ := Rep.val_list hu; rfl⟩
    refine any_step [0, 2] (by kernel_rfl) (by simp) ?_
    intro i hi
    rcases (by simpa using hi : i = 0 ∨ i = 2) with rfl | rfl
    · refine wpOp_step rfl (fun K hK => ?_)
      have hc := (hvW _ hbd).cell
      go_simp
      clear hc
      refine hK _ _ ?_
      clear hK K
      refine any_step [2] (by kernel_rfl) (by simp) ?_
      intro i hi
      obtain rfl : i = 2 := by simpa using hi
      refine wpOp_step rfl (fun K hK => ?_)
      go_simp
      refine (hcall _ hbd).mono ?_
      rintro e W2 ⟨u, rfl, hu, hb2⟩
      refine hK _ _ ?_
      clear hK K
      have hbW2 : Below W.heap.size W W2 := (hbd).trans (hb2.mono (hbd).size)
      have hu2 := hfresh _ hbd W2 u hu
      obtain ⟨Au, cu, rfl, _, _, _⟩ := Rep.val_list hu
      refine any_step [3] (by kernel_rfl) (by simp) ?_
      intro i hi
      obtain rfl : i = 3 := by simpa using hi
      refine wpOp_step rfl (fun K hK => ?_)
      refine step_run rfl (exec_buildSlice (vy := .slice Au (piece l x.1).length cu) rfl (.slice none 0 0) 1 Try.underlying24 info22' rfl rfl (by decide)) ?_
      go_simp
      refine hK _ _ ?_
      clear hK K
      obtain ⟨hu3, hbW3, hg3, _⟩ := hbuild W2 _ hu2 hbW2
      simp only [Value.cells] at hu3 hbW3 hg3
      obtain ⟨v', w1, q1, q2, q3, q4, q5, q6, q7, q8⟩ := box_collect (P := Try.prog) (ty := 24) Try.underlying24 info22 rfl (by decide) rfl hv (by omega) hsz3 (fun b' hb' => by omega) hacc hbW3 hu3 hg3 hml.1 hml.2
      have hform := Rep.acc_form q4
      refine any_step [4] (by kernel_rfl) (by simp) ?_
      intro i hi
      obtain rfl : i = 4 := by simpa using hi
      refine wpOp_step rfl (fun K hK => ?_)
      refine step_run rfl (exec_append (by rfl) (by rfl) (by rfl) q1) ?_
      go_simp
      refine hK _ _ ?_
      clear hK K
      refine any_step [5] (by kernel_rfl) (by simp) ?_
      intro i hi
      obtain rfl : i = 5 := by simpa using hi
      refine wpOp_step rfl (fun K hK => ?_)
      refine step_run_skip rfl (exec_store_box (by rfl) (by rfl) (by rfl) (by kernel_rfl) q2 (by obtain ⟨A', c', h, _⟩ := hform; exact ⟨_, _, _, h⟩)) ?_
      go_simp
      refine hK _ _ ?_
      clear hK K
      refine wpAny_done (by kernel_rfl) ?_ _
      exact ⟨q5.from _, ⟨q7 _ (by omega) (by omega), q7 _ (by omega) (by omega)⟩, ⟨v', q3, by rw [List.map_append]; exact q4⟩, hB.trans (q6.mono (by omega)), Nat.le_trans hsz3 q5.size⟩
    · refine wpOp_step rfl (fun K hK => ?_)
      go_simp
      refine (hcall _ hbd).mono ?_
      rintro e W2 ⟨u, rfl, hu, hb2⟩
      refine hK _ _ ?_
      clear hK K
      have hbW2 : Below W.heap.size W W2 := (hbd).trans (hb2.mono (hbd).size)
      have hu2 := hfresh _ hbd W2 u hu
      obtain ⟨Au, cu, rfl, _, _, _⟩ := Rep.val_list hu
      refine any_step [0, 3] (by kernel_rfl) (by simp) ?_
      intro i hi
      rcases (by simpa using hi : i = 0 ∨ i = 3) with rfl | rfl
      · refine wpOp_step rfl (fun K hK => ?_)
        have hc := (hvW _ hbW2).cell
        go_simp
        clear hc
        refine hK _ _ ?_
        clear hK K
        refine any_step [3] (by kernel_rfl) (by simp) ?_
        intro i hi
        obtain rfl : i = 3 := by simpa using hi
        refine wpOp_step rfl (fun K hK => ?_)
        refine step_run rfl (exec_buildSlice (vy := .slice Au (piece l x.1).length cu) rfl (.slice none 0 0) 1 Try.underlying24 info22' rfl rfl (by decide)) ?_
        go_simp
        refine hK _ _ ?_
        clear hK K
        obtain ⟨hu3, hbW3, hg3, _⟩ := hbuild W2 _ hu2 hbW2
        simp only [Value.cells] at hu3 hbW3 hg3
        obtain ⟨v', w1, q1, q2, q3, q4, q5, q6, q7, q8⟩ := box_collect (P := Try.prog) (ty := 24) Try.underlying24 info22 rfl (by decide) rfl hv (by omega) hsz3 (fun b' hb' => by omega) hacc hbW3 hu3 hg3 hml.1 hml.2
        have hform := Rep.acc_form q4
        refine any_step [4] (by kernel_rfl) (by simp) ?_
        intro i hi
        obtain rfl : i = 4 := by simpa using hi
        refine wpOp_step rfl (fun K hK => ?_)
        refine step_run rfl (exec_append (by rfl) (by rfl) (by rfl) q1) ?_
        go_simp
        refine hK _ _ ?_
        clear hK K
        refine any_step [5] (by kernel_rfl) (by simp) ?_
        intro i hi
        obtain rfl : i = 5 := by simpa using hi
        refine wpOp_step rfl (fun K hK => ?_)
        refine step_run_skip rfl (exec_store_box (by rfl) (by rfl) (by rfl) (by kernel_rfl) q2 (by obtain ⟨A', c', h, _⟩ := hform; exact ⟨_, _, _, h⟩)) ?_
        go_simp
        refine hK _ _ ?_
        clear hK K
        refine wpAny_done (by kernel_rfl) ?_ _
        exact ⟨q5.from _, ⟨q7 _ (by omega) (by omega), q7 _ (by omega) (by omega)⟩, ⟨v', q3, by rw [List.map_append]; exact q4⟩, hB.trans (q6.mono (by omega)), Nat.le_trans hsz3 q5.size⟩
      · refine wpOp_step rfl (fun K hK => ?_)
        refine step_run rfl (exec_buildSlice (vy := .slice Au (piece l x.1).length cu) rfl (.slice none 0 0) 1 Try.underlying24 info22' rfl rfl (by decide)) ?_
        go_simp
        refine hK _ _ ?_
        clear hK K
        obtain ⟨hu3, hbW3, hg3, _⟩ := hbuild W2 _ hu2 hbW2
        simp only [Value.cells] at hu3 hbW3 hg3
        refine any_step [0] (by kernel_rfl) (by simp) ?_
        intro i hi
        obtain rfl : i = 0 := by simpa using hi
        refine wpOp_step rfl (fun K hK => ?_)
        have hc := (hvW _ hbW3).cell
        go_simp
        clear hc
        refine hK _ _ ?_
        clear hK K
        obtain ⟨v', w1, q1, q2, q3, q4, q5, q6, q7, q8⟩ := box_collect (P := Try.prog) (ty := 24) Try.underlying24 info22 rfl (by decide) rfl hv (by omega) hsz3 (fun b' hb' => by omega) hacc hbW3 hu3 hg3 hml.1 hml.2
        have hform := Rep.acc_form q4
        refine any_step [4] (by kernel_rfl) (by simp) ?_
        intro i hi
        obtain rfl : i = 4 := by simpa using hi
        refine wpOp_step rfl (fun K hK => ?_)
        refine step_run rfl (exec_append (by rfl) (by rfl) (by rfl) q1) ?_
        go_simp
        refine hK _ _ ?_
        clear hK K
        refine any_step [5] (by kernel_rfl) (by simp) ?_
        intro i hi
        obtain rfl : i = 5 := by simpa using hi
        refine wpOp_step rfl (fun K hK => ?_)
        refine step_run_skip rfl (exec_store_box (by rfl) (by rfl) (by rfl) (by kernel_rfl) q2 (by obtain ⟨A', c', h, _⟩ := hform; exact ⟨_, _, _, h⟩)) ?_
        go_simp
        refine hK _ _ ?_
        clear hK K
        refine wpAny_done (by kernel_rfl) ?_ _
        exact ⟨q5.from _, ⟨q7 _ (by omega) (by omega), q7 _ (by omega) (by omega)⟩, ⟨v', q3, by rw [List.map_append]; exact q4⟩, hB.trans (q6.mono (by omega)), Nat.le_trans hsz3 q5.size⟩
  case done =>
    rintro D ys W hD hys ⟨⟨v, hv, hacc⟩, hB, hsz3⟩ hK
    have hc := hv.cell
    gi_wp2
    refine ⟨by simp, .inl ⟨_, _, rfl, run_takeDeferred hK, ?_⟩⟩
    have hcut : (ys.map fun k => piece l k.1) = cut l := by
      have h1 := congrArg (List.map (piece l)) hys
      rw [List.map_map] at h1
      rw [cut, pieces, ← HN.out, ← h1]
      rfl
    have hval : Rep.byte.list.list.val (fun b => w.heap.size ≤ b) (W.putObj D (.deferred none)) v (cut l) := by
      rw [← hcut]
      refine Rep.val_keep (w := W) (fun b' hb' hl => ⟨?_, World.putObj_heap_other ?_⟩) (Rep.acc_val hacc)
      · rcases hb' with hb' | hb'
        · omega
        · have := (Rep.acc_own hacc b' hb').1; omega
      · rintro rfl
        obtain ⟨_, _, _, hl⟩ := hl
        rw [hK] at hl; cases hl
    exact ⟨_, results_tmp rfl _ _ _, v, rfl, hval, hB.trans (belowK_b (w := w) (Nat.le_refl _) W D _ _ (by omega) hK rfl rfl)⟩
  case stop =>
    rintro D c pre W _ _ h _
    exact h.elim
end Go.Proofs.Ytecdbfbaclgejaa
/- Walk of wal.Load. -/
namespace Go.Proofs.Ytecdbfbaclgejaa
open Go.RowKit

theorem Only.grow {F : Nat → Prop} {X Y Z : World} (h : Only F X Y) (hb : Below X.heap.size Y Z) : Only F X Z :=
  ⟨hb.os.trans h.os, hb.tape.trans h.tape, hb.output.trans h.output, Nat.le_trans h.size hb.size, fun b hl hf => (hb.block b hl).trans (h.block b hl hf)⟩
theorem Only.sub {F G : Nat → Prop} {X Y : World} (h : Only F X Y) (hf : ∀ b, F b → G b) : Only G X Y := ⟨h.os, h.tape, h.output, h.size, fun b hl hg => h.block b hl fun e => hg (hf b e)⟩

/-- Sectors read one behind the other, up to the first error. -/
def readAll (st : DiskSt) : List Int → DiskSt × List (List UInt8) × Int
  | [] => (st, [], 0)
  | i :: is => if (readSt st i).2.2 = 0 then ((readAll (readSt st i).1 is).1, (readSt st i).2.1 :: (readAll (readSt st i).1 is).2.1, (readAll (readSt st i).1 is).2.2) else ((readSt st i).1, [], (readSt st i).2.2)
def logIdx (c : DConf) : List Int := (List.range c.log.toNat).map fun k => logOf c (k : Nat)
def loadSt (st : DiskSt) (c : DConf) : DiskSt × List (List UInt8) × Int :=
  if fitsB st c then ((readAll st (logIdx c)).1, if (readAll st (logIdx c)).2.2 = 0 then (readAll st (logIdx c)).2.1 else [], (readAll st (logIdx c)).2.2) else (st, [], 1)
def LoadPost (F B : Nat → Prop) (P n : Nat) (W : World) (r : DiskSt × List (List UInt8) × Int) (e : Ending) (W' : World) : Prop :=
  ∃ u, e = .returned (.tuple #[u, .int .i64 r.2.2]) ∧ Rep.byte.list.list.val (fun b => W.heap.size ≤ b) W' u r.2.1 ∧ DiskAt W' P F B n r.1 ∧ Only F W W'
/-- Where a reading is: what is read already, and what is left. -/
def Upto (st : DiskSt) (is : List Int) (s : DiskSt) (ls : List (List UInt8)) (k : Nat) : Prop :=
  s.safe = st.safe ∧ s.wait = st.wait ∧ ls.length = k ∧ readAll st is = ((readAll s (is.drop k)).1, ls ++ (readAll s (is.drop k)).2.1, (readAll s (is.drop k)).2.2)
theorem readSt_same (st : DiskSt) (i : Int) : (readSt st i).1.safe = st.safe ∧ (readSt st i).1.wait = st.wait := by
  have h := atSt_same st i
  unfold readSt; split
  · exact h
  · exact h
theorem Upto.start (st : DiskSt) (is : List Int) : Upto st is st [] 0 := ⟨rfl, rfl, rfl, by simp⟩
theorem Upto.next {st : DiskSt} {is : List Int} {s : DiskSt} {ls : List (List UInt8)} {k : Nat} {i : Int} (h : Upto st is s ls k) (hi : is[k]? = some i) (h0 : (readSt s i).2.2 = 0) : Upto st is (readSt s i).1 (ls ++ [(readSt s i).2.1]) (k + 1) := by
  obtain ⟨h1, h2, h3, h4⟩ := h
  obtain ⟨g1, g2⟩ := readSt_same s i
  obtain ⟨hk, he⟩ := List.getElem?_eq_some_iff.1 hi
  refine ⟨g1.trans h1, g2.trans h2, by simp [h3], ?_⟩
  rw [h4, List.drop_eq_getElem_cons hk, he]
  simp [readAll, h0]
theorem Upto.stop {st : DiskSt} {is : List Int} {s : DiskSt} {ls : List (List UInt8)} {k : Nat} {i : Int} (h : Upto st is s ls k) (hi : is[k]? = some i) (h0 : (readSt s i).2.2 ≠ 0) : (readAll st is).1 = (readSt s i).1 ∧ (readAll st is).2.2 = (readSt s i).2.2 := by
  obtain ⟨h1, h2, h3, h4⟩ := h
  obtain ⟨hk, he⟩ := List.getElem?_eq_some_iff.1 hi
  rw [h4, List.drop_eq_getElem_cons hk, he]
  simp [readAll, h0]
theorem Upto.all {st : DiskSt} {is : List Int} {s : DiskSt} {ls : List (List UInt8)} {k : Nat} (h : Upto st is s ls k) (hk : is.length ≤ k) : readAll st is = (s, ls, 0) := by
  obtain ⟨h1, h2, h3, h4⟩ := h
  rw [h4, List.drop_of_length_le hk]
  simp [readAll]
theorem logIdx_get {c : DConf} {k : Nat} (h : (k : Int) < c.log) : (logIdx c)[k]? = some (logOf c k) := by
  unfold logIdx
  rw [List.getElem?_map, List.getElem?_range (by omega)]; rfl
theorem logOf_wf {c : DConf} (hr : confRight c = true) (k : Nat) : (Lit.int .i64 (logOf c k)).wf = true := by
  have hf := (right_facts hr).1
  obtain ⟨g1, g2, _⟩ := hf
  have m1 : 0 ≤ (k : Int) % c.log := Int.emod_nonneg _ (by omega)
  have m2 : (k : Int) % c.log < c.log := Int.emod_lt_of_pos _ (by omega)
  unfold logOf; split
  · exact wf_i64 (by omega) (by omega)
  · decide

set_option maxRecDepth 100000 in
set_option maxHeartbeats 1000000 in
/-- wal.Load of no device -/
theorem wload_nil {Q : Nat → Prop} {w : World} {v : Value} {c : DConf} (hx : rConf.val Q w v c) :
    Calls Try.prog 72 #[.pointer none, v] w fun e w' => e = .returned (.tuple #[.slice none 0 0, .int .i64 4]) ∧ Below w.heap.size w w' := by
  obtain ⟨A, cap, rfl, _⟩ := rConf_val hx
  have hbel : Below w.heap.size w (w.alloc (.cells #[.int .i64 c.log, .int .i64 c.pages, .int .i64 c.entities, .int .i64 c.gens, .slice A c.comps.length cap] 88)) := (Below.refl _ _).alloc (Nat.le_refl _) _
  generalize hW1 : w.alloc (.cells #[.int .i64 c.log, .int .i64 c.pages, .int .i64 c.entities, .int .i64 c.gens, .slice A c.comps.length cap] 88) = W1 at *
  have HB := Lib.hid hbel
  clear hx hbel
  go_enter Try.func72, Try.ntmps72
  go_wp2_with fail
  go_ret2
  exact ⟨rfl, HB.out⟩

set_option maxRecDepth 100000 in
set_option maxHeartbeats 4000000 in
/-- wal.Load -/
theorem wload_calls {Q : Nat → Prop} {W : World} {P : Nat} {F B : Nat → Prop} {n : Nat} {st : DiskSt} {v : Value} {c : DConf} (h : DiskAt W P F B n st) (hx : rConf.val Q W v c) (hQ : ∀ k, Q k → ¬ F k)
    (hl : ∀ x ∈ st.safe, x.length ≤ 100000) (hw : ∀ j, ∀ x ∈ st.wait j, x.length ≤ 100000) :
    Calls Try.prog 72 #[.pointer (some ⟨P, 0, none⟩), v] W (LoadPost F B P n W (loadSt st c)) := by
  obtain ⟨A, cap, rfl, _⟩ := rConf_val hx
  have HV := Lib.hid (show ∀ W', Only F W W' → rConf.val Q W' (.agg #[.int .i64 c.log, .int .i64 c.pages, .int .i64 c.entities, .int .i64 c.gens, .slice A c.comps.length cap]) c from fun W' ho => Rep.val_keep (fun k hk hl => ⟨hk, ho.block k hl.lt (hQ k hk)⟩) hx)
  have hbel : Below W.heap.size W (W.alloc (.cells #[.int .i64 c.log, .int .i64 c.pages, .int .i64 c.entities, .int .i64 c.gens, .slice A c.comps.length cap] 88)) := (Below.refl _ _).alloc (Nat.le_refl _) _
  have hbx : (W.alloc (.cells #[.int .i64 c.log, .int .i64 c.pages, .int .i64 c.entities, .int .i64 c.gens, .slice A c.comps.length cap] 88)).heap[W.heap.size]? = some (.cells #[.int .i64 c.log, .int .i64 c.pages, .int .i64 c.entities, .int .i64 c.gens, .slice A c.comps.length cap] 88 (0, 0)) := heap_alloc_new W _
  have hsz : (W.alloc (.cells #[.int .i64 c.log, .int .i64 c.pages, .int .i64 c.entities, .int .i64 c.gens, .slice A c.comps.length cap] 88)).heap.size = W.heap.size + 1 := by simp
  generalize hW1 : W.alloc (.cells #[.int .i64 c.log, .int .i64 c.pages, .int .i64 c.entities, .int .i64 c.gens, .slice A c.comps.length cap] 88) = W1 at *
  have HS := Lib.hid hsz
  have HLT := Lib.hid (show ∀ b, F b ∨ B b → b < W.heap.size by obtain ⟨_, _, _, _, hh⟩ := h; exact hh.lt)
  have HO1 := Lib.hid (Only.of_below (F := F) hbel)
  have HD1 := Lib.hid (h.below hbel)
  have HBX := Lib.hid (show ∀ W', Only F W1 W' → W'.heap[W.heap.size]? = some (.cells #[.int .i64 c.log, .int .i64 c.pages, .int .i64 c.entities, .int .i64 c.gens, .slice A c.comps.length cap] 88 (0, 0)) from fun W' ho => (ho.block _ (by omega) (fun hf => by have := HLT.out _ (.inl hf); omega)).trans hbx)
  have HZ := Lib.hid (show ∀ w' : World, Rep.byte.list.list.val (fun x => W.heap.size ≤ x) w' (.slice none 0 0) ([] : List (List UInt8)) from fun w => Rep.val_nil (by simp [maxLen]))
  have HL := Lib.hid hl
  have HW := Lib.hid hw
  have a0 := cell_row hbx 0
  have a1 := cell_row hbx 1
  have a2 := cell_row hbx 2
  have a3 := cell_row hbx 3
  have a4 := cell_row hbx 4
  clear h hx hbel hbx hsz hl hw
  cases hf : fitsB st c with
  | false =>
    have HF := Lib.hid (show loadSt st c = (st, [], 1) by unfold loadSt; rw [hf]; rfl)
    have HFB := Lib.hid hf
    clear hf
    go_enter Try.func72, Try.ntmps72
    go_wp2_with fail
    refine (fits_calls HD1.out (HV.out _ HO1.out)).mono ?_
    rintro e w2 ⟨rfl, hb2⟩
    rw [HFB.out]
    go_wp2_with fail
    go_ret2
    exact ⟨_, by rw [HF.out]; rfl, by rw [HF.out]; exact HZ.out _, by rw [HF.out]; exact HD1.out.below hb2, HO1.out.trans (Only.of_below hb2)⟩
  | true =>
    have hr : confRight c = true := by unfold fitsB at hf; cases hc : confRight c <;> simp_all
    have HF := Lib.hid (show loadSt st c = ((readAll st (logIdx c)).1, if (readAll st (logIdx c)).2.2 = 0 then (readAll st (logIdx c)).2.1 else [], (readAll st (logIdx c)).2.2) by unfold loadSt; rw [hf]; rfl)
    have HFB := Lib.hid hf
    have HR := Lib.hid hr
    have hff := (right_facts hr).1
    obtain ⟨g1, g2, _⟩ := hff
    clear hf hr
    go_enter Try.func72, Try.ntmps72
    go_wp2_with fail
    refine (fits_calls HD1.out (HV.out _ HO1.out)).mono ?_
    rintro e w2 ⟨rfl, hb2⟩
    rw [HFB.out]
    have HO2 := Lib.hid (show Only F W1 w2 from Only.of_below hb2)
    have HD2 := Lib.hid (HD1.out.below hb2)
    have c0 := cell_row (HBX.out _ HO2.out) 0
    clear a0 a1 a2 a3 a4 hb2
    go_wp2_with fail
    clear c0
    go_loopw [6, 20] (fun u i wr => ∃ (k : Nat) (s : DiskSt) (ls : List (List UInt8)), i = .int .i64 k ∧ k ≤ c.log.toNat ∧ Rep.byte.list.acc 22 W1.heap.size (fun b => W1.heap.size ≤ b) wr u ls ∧ DiskAt wr P F B n s ∧ Only F W1 wr ∧ Hid (Upto st (logIdx c) s ls k)) (fun _ i _ => c.log.toNat - (intOf i).toNat)
    case atStart => exact ⟨0, st, [], rfl, Nat.zero_le _, Rep.acc_nil, HD2.out, HO2.out, Upto.start _ _⟩
    case round =>
      obtain ⟨k, s, ls, rfl, hk, hacc, hd, ho, hup⟩ := hrel
      have HACC := Lib.hid hacc
      have HD := Lib.hid hd
      have HO := Lib.hid ho
      have hform := Rep.acc_form hacc
      obtain ⟨A6, c6, rfl, hc6, hm6⟩ := hform
      have b0 := cell_row (HBX.out _ ho) 0
      have b1 := cell_row (HBX.out _ ho) 1
      have b2 := cell_row (HBX.out _ ho) 2
      have b3 := cell_row (HBX.out _ ho) 3
      have b4 := cell_row (HBX.out _ ho) 4
      have HUP := Lib.hid hup.out
      have HLL := Lib.hid hup.out.2.2.1
      generalize hll : ls.length = len at *
      have HLEN := Lib.hid hll
      clear hacc hd ho hup hll
      by_cases hlt : (k : Int) < c.log
      · have HGET := Lib.hid (logIdx_get hlt)
        go_wp2_with fail
        refine (geomLog_calls (HV.out _ (HO1.out.trans HO.out))).mono ?_
        rintro e w3 ⟨rfl, hb3⟩
        have HD3 := Lib.hid (HD.out.below hb3)
        have HO3 := Lib.hid (HO.out.trans (Only.of_below hb3))
        have HB3 := Lib.hid hb3
        have HWF := Lib.hid (logOf_wf HR.out k)
        clear hb3
        generalize logOf c k = at_ at *
        go_wp2_with fail
        refine (dread_calls HD3.out HWF.out (by rw [HUP.out.1]; exact HL.out) (by rw [HUP.out.2.1]; exact HW.out)).mono ?_
        rintro e w4 ⟨u, rfl, hu, hd4, ho4⟩
        have HNEXT := Lib.hid (fun h0 => HUP.out.next HGET.out h0)
        have HSTOP := Lib.hid (fun h0 => HUP.out.stop HGET.out h0)
        generalize readSt s at_ = r at *
        obtain ⟨s4, y, er⟩ := r
        dsimp only at *
        have HO4 := Lib.hid (HO3.out.trans ho4)
        have HD4 := Lib.hid hd4
        obtain ⟨A7, c7, rfl, hc7, hm7, _⟩ := Rep.val_list hu
        have HY := Lib.hid (show Rep.byte.list.val (fun b => W1.heap.size ≤ b ∧ (Value.slice A6 len c6).ownBlock ≠ some b) w4 (.slice A7 y.length c7) y from Rep.val_mono (fun b hb _ => ⟨Nat.le_trans HO3.out.size hb, fun he => by have := (Rep.acc_own HACC.out b he).2; have := HB3.out.size; omega⟩) hu)
        have HACC4 := Lib.hid (show Rep.byte.list.acc 22 W1.heap.size (fun b => W1.heap.size ≤ b) w4 (.slice A6 len c6) ls from by
          refine Rep.acc_keep (fun b hb hl => ?_) (fun _ hb _ => hb) HACC.out
          have hge : W1.heap.size ≤ b := hb.elim id fun e => (Rep.acc_own HACC.out b e).1
          rw [ho4.block b (Nat.lt_of_lt_of_le hl.lt HB3.out.size) (fun hf => by have := HLT.out _ (.inl hf); have := HS.out; omega), HB3.out.block b hl.lt])
        have HSZ4 := Lib.hid HO4.out.size
        clear hu hd4 ho4
        by_cases he0 : er = 0
        · subst he0
          have HL1 := Lib.hid (show ls.length + 1 ≤ maxLen ∧ (ls.length + 1) * 24 ≤ 140737488355328 by have := HLEN.out; have := HLL.out; unfold maxLen; omega)
          go_wp2_with (refine wpList_snoc (e := 22) (base := W1.heap.size) (Q := fun b => W1.heap.size ≤ b) (r := Rep.byte.list) rfl rfl _ _ 24 _ rfl rfl rfl (.slice none 0 0) 1 24 Try.underlying24 info22 rfl (by decide) rfl _ ls HACC4.out y _ (by exact rfl) HY.out (by exact rfl) (by exact rfl) HL1.out.1 HL1.out.2 HSZ4.out ?_; intro s' w' hacc' hgr hat)
          have hgb : Below W1.heap.size w4 w' := (Below.refl _ _).grown hgr HSZ4.out (fun b hb => (Rep.acc_own HACC4.out b hb).1)
          refine ⟨⟨k + 1, s4, ls ++ [y], rfl, by omega, hacc', HD4.out.keep hgb.size (fun b hb => hgb.block b (by have := HLT.out b hb; have := HS.out; omega)), HO4.out.grow hgb, HNEXT.out rfl⟩, ?_⟩
          show c.log.toNat - ((k : Int) + 1).toNat < c.log.toNat - (k : Int).toNat
          omega
        · have g0 : (er == 0) = false := by simpa using he0
          have HST := Lib.hid (HSTOP.out he0)
          have HNE := Lib.hid he0
          clear he0
          go_wp2_with fail
          go_ret2
          refine ⟨_, by rw [HF.out]; dsimp only; rw [HST.out.2]; rfl, by rw [HF.out]; dsimp only; rw [HST.out.2, if_neg HNE.out]; exact HZ.out _, by rw [HF.out]; dsimp only; rw [HST.out.1]; exact HD4.out, HO1.out.trans HO4.out⟩
      · have HALL := Lib.hid (HUP.out.all (by unfold logIdx; rw [List.length_map, List.length_range]; omega))
        have HV6 := Lib.hid (show Rep.byte.list.list.val (fun b => W.heap.size ≤ b) wr (.slice A6 len c6) ls from by
          refine Rep.val_mono (fun b hb _ => ?_) (Rep.acc_val HACC.out)
          have := HS.out
          rcases hb with hb | hb
          · omega
          · have := (Rep.acc_own HACC.out b hb).1; omega)
        go_wp2_with fail
        go_ret2
        exact ⟨_, by rw [HF.out, HALL.out]; rfl, by rw [HF.out, HALL.out]; exact HV6.out, by rw [HF.out, HALL.out]; exact HD.out, HO1.out.trans HO.out⟩
end Go.Proofs.Ytecdbfbaclgejaa
/- Walk of part.Split. -/
namespace Go.Proofs.Ytecdbfbaclgejaa
open Go.RowKit

def partOf (seq : Int) (b : List UInt8) (i : Nat) : List UInt8 := num 2 (i : Int) ++ (num 2 (needOf b.length) ++ (num 8 (near seq maxEpoch) ++ (b.drop (460 * i)).take 460))
def splitOf (seq : Int) (b : List UInt8) : List (List UInt8) := if 1024 < needOf b.length then [] else (List.range (needOf b.length).toNat).map (partOf seq b)
theorem need_bounds {n : Nat} : 1 ≤ needOf n ∧ 460 * (needOf n - 1) ≤ n ∧ (n : Int) ≤ 460 * needOf n ∧ (needOf n = 1 ∨ 460 * (needOf n - 1) < n) := by unfold needOf; split <;> omega
theorem range_snoc {α : Type} (f : Nat → α) (k : Nat) : (List.range (k + 1)).map f = (List.range k).map f ++ [f k] := by simp [List.range_succ]

set_option maxRecDepth 100000 in
set_option maxHeartbeats 4000000 in
/-- part.Split -/
theorem split_calls {Q : Nat → Prop} {w : World} {v : Value} {b : List UInt8} {seq : Int} (hx : Rep.byte.list.val Q w v b) (hs : (Lit.int .i64 seq).wf = true) (hl : b.length ≤ 10000000) :
    Calls Try.prog 138 #[.int .i64 seq, v] w (Res Rep.byte.list.list (fun b => w.heap.size ≤ b) w (splitOf seq b)) := by
  obtain ⟨A0, c0, rfl, hc1, hc2, hA⟩ := Rep.val_list hx
  unfold maxLen at hc2
  have HX := Lib.hid (Rep.val_any hx)
  have HA := Lib.hid (show Rep.byte.At (fun b => b < w.heap.size) w A0 b from Rep.At.keep (w := w) (fun _ _ hb => ⟨hb.lt, rfl⟩) hA)
  have HZ := Lib.hid (show ∀ w' : World, Rep.byte.list.list.val (fun x => w.heap.size ≤ x) w' (.slice none 0 0) ([] : List (List UInt8)) from fun w => Rep.val_nil (by simp [maxLen]))
  have HZ1 := Lib.hid (show ∀ w' : World, Rep.byte.list.val (fun _ => False) w' (.slice none 0 0) ([] : List UInt8) from fun w => Rep.val_nil (by simp [maxLen]))
  have hn := need_bounds (n := b.length)
  obtain ⟨n, hN⟩ : ∃ n : Nat, needOf b.length = n := ⟨(needOf b.length).toNat, by omega⟩
  have HN := Lib.hid hN
  rw [hN] at hn
  have HNB := Lib.hid hn
  have HWF := Lib.hid (show ∀ k : Int, 0 ≤ k → k ≤ 281474976710656 → (Lit.int .i64 k).wf = true from fun k h0 h1 => wf_i64 (by omega) (by omega))
  have hn1 : (n : Int) ≤ 1000000 := by omega
  clear hx hA hN hn hs
  rcases (show seq ≤ 0 ∨ (0 < seq ∧ seq ≤ 281474976710656) ∨ 281474976710656 < seq by omega) with h | ⟨h, h'⟩ | h
  · have t1 : ¬ 281474976710656 < seq := by omega
    have t2 : ¬ 0 < seq := by omega
    have HSQ := Lib.hid (show near seq maxEpoch = (0 : Int) by unfold near maxEpoch; (repeat' split) <;> omega)
    have HX8 := Lib.hid (show (Lit.int .i64 (0 : Int)).wf = true by first | decide | exact wf_i64 (by omega) (by omega))
    by_cases hbig : (1024 : Int) < n
    · have HF := Lib.hid (show splitOf seq b = [] by unfold splitOf; rw [HN.out, if_pos hbig])
      go_enter Try.func138, Try.ntmps138
      go_wp2_with fail
      refine (need_calls (by omega) _).mono ?_
      rintro e w1 ⟨rfl, hw⟩
      have hw2 := hw.symm
      subst hw2
      clear hw
      rw [HN.out]
      go_wp2_with fail
      go_ret
      exact ⟨_, rfl, by rw [HF.out]; exact HZ.out _, Below.refl _ _⟩
    · have HF := Lib.hid (show splitOf seq b = (List.range n).map (partOf seq b) by unfold splitOf; rw [HN.out, if_neg hbig, Int.toNat_natCast])
      go_enter Try.func138, Try.ntmps138
      go_wp2_with fail
      refine (need_calls (by omega) _).mono ?_
      rintro e w1 ⟨rfl, hw⟩
      have hw2 := hw.symm
      subst hw2
      clear hw
      rw [HN.out]
      go_wp2_with fail
      go_loopw [6, 19] (fun u i wr => ∃ k : Nat, i = .int .i64 k ∧ k ≤ n ∧ Rep.byte.list.acc 22 w.heap.size (fun b => w.heap.size ≤ b) wr u ((List.range k).map (partOf seq b)) ∧ Below w.heap.size w wr) (fun _ i _ => n - (intOf i).toNat)
      case atStart => exact ⟨0, rfl, Nat.zero_le _, Rep.acc_nil, Below.refl _ _⟩
      case round =>
        obtain ⟨k, rfl, hk, hacc, hbel⟩ := hrel
        have HACC := Lib.hid hacc
        have HB := Lib.hid hbel
        by_cases hlt : (k : Int) < n
        · have i1 : IntKind.i64.wrap ((k : Int) + 1) = (k : Int) + 1 := IntWalk.i64_in _ ⟨by omega, by omega⟩
          have i2 : IntKind.i64.wrap (((k : Int) + 1) * 460) = ((k : Int) + 1) * 460 := IntWalk.i64_in _ ⟨by omega, by omega⟩
          have i3 : IntKind.i64.wrap ((k : Int) * 460) = (k : Int) * 460 := IntWalk.i64_in _ ⟨by omega, by omega⟩
          have hle : 460 * k ≤ b.length := by have := HNB.out; omega
          have HLE := Lib.hid hle
          obtain ⟨m, hm⟩ : ∃ m, m = min (460 * (k + 1)) b.length := ⟨_, rfl⟩
          have HM := Lib.hid hm
          have HMM := Lib.hid (show 460 * k ≤ m ∧ m ≤ b.length by omega)
          obtain ⟨q1, hq1⟩ : ∃ q : List UInt8, q = num 2 (k : Int) := ⟨_, rfl⟩
          obtain ⟨q2, hq2⟩ : ∃ q : List UInt8, q = q1 ++ num 2 (n : Int) := ⟨_, rfl⟩
          obtain ⟨q3, hq3⟩ : ∃ q : List UInt8, q = q2 ++ num 8 (0 : Int) := ⟨_, rfl⟩
          have E1 := Lib.hid (show q1 = ([] : List UInt8) ++ num 2 (k : Int) from hq1)
          have E2 := Lib.hid hq2
          have E3 := Lib.hid hq3
          have L1 := Lib.hid (show q1.length = 2 by rw [hq1, num_len2])
          have L2 := Lib.hid (show q2.length = 4 by rw [hq2, List.length_append, num_len2, L1.out])
          have L3 := Lib.hid (show q3.length = 12 by rw [hq3, List.length_append, num_len8, L2.out])
          obtain ⟨y, hy⟩ : ∃ y, y = (b.drop (460 * k)).take 460 := ⟨_, rfl⟩
          have HYL := Lib.hid (show y.length = m - 460 * k by rw [hy, List.length_take, List.length_drop]; omega)
          have HP := Lib.hid (show q3 ++ y = partOf seq b k by unfold partOf; rw [HN.out, HSQ.out, hq3, hq2, hq1, hy]; simp)
          have HYV := Lib.hid (show ∀ W' c1, Below w.heap.size w W' → 0 < y.length → ∃ bb off, A0 = some ⟨bb, off, none⟩ ∧ (y.length ≤ c1 → c1 ≤ maxLen → Rep.byte.list.val (fun _ => True) W' (.slice (some ⟨bb, off + 460 * k, none⟩) y.length c1) y) from fun W' c1 hb hp => by
            have hpos : 0 < b.length := by have := HYL.out; omega
            obtain ⟨bb, off, rfl⟩ := HA.out.addr hpos
            refine ⟨bb, off, rfl, fun h1 h2 => ?_⟩
            have h3 := HA.out.below hb (fun _ h _ => h)
            have h4 := (h3.drop (n := 460 * k) hle).take 460
            simp only [Rep.byte, Nat.mul_one] at h4
            rw [← hy] at h4
            exact Rep.list_val rfl h1 h2 (h4.keep (w := W') fun _ _ _ => ⟨trivial, rfl⟩))
          clear hacc hbel hq1 hq2 hq3 hy
          go_wp2_with fail
          refine (put_calls (width := 2) (n := (k : Int)) (HZ1.out wr) (by simp) rfl (HWF.out _ (by omega) (by omega))).mono ?_
          rintro e w1 ⟨u1, rfl, hu1, hb1⟩
          rw [← E1.out] at hu1
          have HU1 := Lib.hid hu1
          have D1 := Lib.hid hb1
          clear hu1 hb1
          go_wp2_with fail
          refine (put_calls (width := 2) (n := (n : Int)) (Rep.acc_val HU1.out) (by rw [L1.out]; decide) rfl (HWF.out _ (by omega) (by omega))).mono ?_
          rintro e w2 ⟨u2, rfl, hu2, hb2⟩
          rw [← E2.out] at hu2
          have HU2 := Lib.hid hu2
          have D2 := Lib.hid (D1.out.trans (hb2.mono D1.out.size))
          clear hu2 hb2
          go_wp2_with fail
          refine (put_calls (width := 8) (n := (0 : Int)) (Rep.acc_val HU2.out) (by rw [L2.out]; decide) rfl HX8.out).mono ?_
          rintro e w3 ⟨u3, rfl, hu3, hb3⟩
          rw [← E3.out] at hu3
          have HU3 := Lib.hid hu3
          have HB3 := Lib.hid hb3
          have D3 := Lib.hid (D2.out.trans (hb3.mono D2.out.size))
          obtain ⟨A9, c9, hu9, hc9, hm9⟩ := Rep.acc_form hu3
          rw [L3.out] at hu9 hc9
          subst hu9
          clear hu3 hb3
          have BW3 := Lib.hid (HB.out.trans (D3.out.mono HB.out.size))
          have HACC3 := Lib.hid (Rep.acc_later HACC.out D3.out)
          by_cases hp : 0 < y.length
          · obtain ⟨bb, off, rfl, hyv⟩ := HYV.out w3 y.length BW3.out hp
            have HY0 := Lib.hid (hyv (Nat.le_refl _) (by have := HYL.out; unfold maxLen; omega))
            have j1 : (k : Int) * 460 ≤ b.length := by omega
            have j2 : (0 : Int) ≤ (k : Int) * 460 := by omega
            have j3 : ((k : Int) * 460).toNat = 460 * k := by omega
            have j5 : (b.length : Int) ≤ c0 := by omega
            clear hyv
            by_cases hmin : (b.length : Int) < ((k : Int) + 1) * 460
            · have j4 : b.length - 460 * k = y.length := by have := HYL.out; have := HM.out; omega
              clear hm
              have L63 := Lib.hid (show q3.length + y.length ≤ maxLen ∧ (q3.length + y.length) * 1 ≤ 140737488355328 by have := L3.out; have := HYL.out; unfold maxLen; omega)
              have M63 := Lib.hid (show ((List.range k).map (partOf seq b)).length + 1 ≤ maxLen ∧ (((List.range k).map (partOf seq b)).length + 1) * 24 ≤ 140737488355328 by rw [List.length_map, List.length_range]; unfold maxLen; omega)
              generalize hls : (List.range k).map (partOf seq b) = ls at *
              have HLS := Lib.hid hls
              generalize hpp : partOf seq b k = p at *
              have HPP := Lib.hid hpp
              have hown : ∀ x, u6.ownBlock = some x → x < wr.heap.size := fun x hx => (Rep.acc_own HACC.out x hx).2
              have HOWN := Lib.hid hown
              have S23 := Lib.hid (show wr.heap.size ≤ w2.heap.size from D2.out.size)
              have S03 := Lib.hid (show w.heap.size ≤ wr.heap.size from HB.out.size)
              clear hls hpp hown
              go_wp2_with (first
                | (refine wpList_spread_leaf (e := 5) (base := w2.heap.size) (Q := fun _ => False) (r := Rep.byte) Rep.leaf_byte rfl _ _ 22 rfl (.int .u8 0) 1 1 Try.underlying22 info5 rfl (by decide) rfl _ q3 (by exact rfl) HU3.out _ y (by exact rfl) HY0.out L63.out.1 L63.out.2 HB3.out.size ?_; intro v5 w5 hacc5 hgr5 hat5; rw [HP.out] at hacc5; have HU5 := Lib.hid hacc5; have D5 := Lib.hid (D3.out.grown hgr5 D3.out.size (fun x hx => Nat.le_trans S23.out (Rep.acc_own HU3.out x hx).1)); clear hacc5 hgr5 hat5; have HACC5 := Lib.hid (Rep.acc_later HACC.out D5.out); have HV5 := Lib.hid (show Rep.byte.list.val (fun x => w.heap.size ≤ x ∧ u6.ownBlock ≠ some x) w5 v5 p from Rep.val_mono (fun x hx _ => ⟨Nat.le_trans S03.out (Nat.le_trans S23.out hx), fun he => absurd (HOWN.out x he) (by have := S23.out; omega)⟩) (Rep.acc_fresh HU5.out)); obtain ⟨A5, c5, hv5, _, _⟩ := Rep.acc_form HU5.out; subst hv5; have SZ5 := Lib.hid (Nat.le_trans S03.out D5.out.size))
                | (refine wpList_snoc (e := 22) (base := w.heap.size) (Q := fun x => w.heap.size ≤ x) (r := Rep.byte.list) rfl rfl _ _ 24 _ rfl rfl rfl (.slice none 0 0) 1 24 Try.underlying24 info22 rfl (by decide) rfl _ ls HACC5.out p _ (by exact rfl) HV5.out (by exact rfl) (by exact rfl) M63.out.1 M63.out.2 SZ5.out ?_; intro s6 w6 hacc6 hgr6 hat6))
              have HB5 := HB.out.trans (D5.out.mono HB.out.size)
              refine ⟨⟨k + 1, by go_num, by omega, ?_, HB5.grown hgr6 HB5.size (fun x hx => (Rep.acc_own HACC.out x hx).1)⟩, by show n - ((k : Int) + 1).toNat < n - (k : Int).toNat; omega⟩
              rw [range_snoc, HLS.out, HPP.out]
              exact hacc6
            · have j4 : (((k : Int) + 1) * 460).toNat - 460 * k = y.length := by have := HYL.out; have := HM.out; omega
              have j6 : ((k : Int) + 1) * 460 ≤ c0 := by omega
              have j7 : (k : Int) * 460 ≤ ((k : Int) + 1) * 460 := by omega
              have j8 : (0 : Int) ≤ ((k : Int) + 1) * 460 := by omega
              clear hm
              have L63 := Lib.hid (show q3.length + y.length ≤ maxLen ∧ (q3.length + y.length) * 1 ≤ 140737488355328 by have := L3.out; have := HYL.out; unfold maxLen; omega)
              have M63 := Lib.hid (show ((List.range k).map (partOf seq b)).length + 1 ≤ maxLen ∧ (((List.range k).map (partOf seq b)).length + 1) * 24 ≤ 140737488355328 by rw [List.length_map, List.length_range]; unfold maxLen; omega)
              generalize hls : (List.range k).map (partOf seq b) = ls at *
              have HLS := Lib.hid hls
              generalize hpp : partOf seq b k = p at *
              have HPP := Lib.hid hpp
              have hown : ∀ x, u6.ownBlock = some x → x < wr.heap.size := fun x hx => (Rep.acc_own HACC.out x hx).2
              have HOWN := Lib.hid hown
              have S23 := Lib.hid (show wr.heap.size ≤ w2.heap.size from D2.out.size)
              have S03 := Lib.hid (show w.heap.size ≤ wr.heap.size from HB.out.size)
              clear hls hpp hown
              go_wp2_with (first
                | (refine wpList_spread_leaf (e := 5) (base := w2.heap.size) (Q := fun _ => False) (r := Rep.byte) Rep.leaf_byte rfl _ _ 22 rfl (.int .u8 0) 1 1 Try.underlying22 info5 rfl (by decide) rfl _ q3 (by exact rfl) HU3.out _ y (by exact rfl) HY0.out L63.out.1 L63.out.2 HB3.out.size ?_; intro v5 w5 hacc5 hgr5 hat5; rw [HP.out] at hacc5; have HU5 := Lib.hid hacc5; have D5 := Lib.hid (D3.out.grown hgr5 D3.out.size (fun x hx => Nat.le_trans S23.out (Rep.acc_own HU3.out x hx).1)); clear hacc5 hgr5 hat5; have HACC5 := Lib.hid (Rep.acc_later HACC.out D5.out); have HV5 := Lib.hid (show Rep.byte.list.val (fun x => w.heap.size ≤ x ∧ u6.ownBlock ≠ some x) w5 v5 p from Rep.val_mono (fun x hx _ => ⟨Nat.le_trans S03.out (Nat.le_trans S23.out hx), fun he => absurd (HOWN.out x he) (by have := S23.out; omega)⟩) (Rep.acc_fresh HU5.out)); obtain ⟨A5, c5, hv5, _, _⟩ := Rep.acc_form HU5.out; subst hv5; have SZ5 := Lib.hid (Nat.le_trans S03.out D5.out.size))
                | (refine wpList_snoc (e := 22) (base := w.heap.size) (Q := fun x => w.heap.size ≤ x) (r := Rep.byte.list) rfl rfl _ _ 24 _ rfl rfl rfl (.slice none 0 0) 1 24 Try.underlying24 info22 rfl (by decide) rfl _ ls HACC5.out p _ (by exact rfl) HV5.out (by exact rfl) (by exact rfl) M63.out.1 M63.out.2 SZ5.out ?_; intro s6 w6 hacc6 hgr6 hat6))
              have HB5 := HB.out.trans (D5.out.mono HB.out.size)
              refine ⟨⟨k + 1, by go_num, by omega, ?_, HB5.grown hgr6 HB5.size (fun x hx => (Rep.acc_own HACC.out x hx).1)⟩, by show n - ((k : Int) + 1).toNat < n - (k : Int).toNat; omega⟩
              rw [range_snoc, HLS.out, HPP.out]
              exact hacc6
          · have hy0 : y.length = 0 := by omega
            have hk0 : k = 0 := by have := HYL.out; have := HM.out; have := HNB.out; omega
            have hb0 : b.length = 0 := by have := HYL.out; have := HM.out; omega
            have HYN := Lib.hid (show ∀ A' W', Rep.byte.list.val (fun _ => True) W' (.slice A' y.length y.length) y from fun A' W' => Rep.list_val rfl (Nat.le_refl _) (by rw [hy0]; simp [maxLen]) ⟨y.map fun x => .int .u8 (x.toNat : Int), Rep.byte_row y, fun h => absurd h (by omega)⟩)
            have j1 : (k : Int) * 460 ≤ b.length := by omega
            have j2 : (0 : Int) ≤ (k : Int) * 460 := by omega
            have j3 : ((k : Int) * 460).toNat = 460 * k := by omega
            have j5 : (b.length : Int) ≤ c0 := by omega
            have j4 : b.length - 460 * k = y.length := by have := HYL.out; omega
            have hmin : (b.length : Int) < ((k : Int) + 1) * 460 := by omega
            clear hm hp hy0 hb0 hk0
            rcases A0 with _ | ⟨bb, off, pth⟩
            · skip
              have L63 := Lib.hid (show q3.length + y.length ≤ maxLen ∧ (q3.length + y.length) * 1 ≤ 140737488355328 by have := L3.out; have := HYL.out; unfold maxLen; omega)
              have M63 := Lib.hid (show ((List.range k).map (partOf seq b)).length + 1 ≤ maxLen ∧ (((List.range k).map (partOf seq b)).length + 1) * 24 ≤ 140737488355328 by rw [List.length_map, List.length_range]; unfold maxLen; omega)
              generalize hls : (List.range k).map (partOf seq b) = ls at *
              have HLS := Lib.hid hls
              generalize hpp : partOf seq b k = p at *
              have HPP := Lib.hid hpp
              have hown : ∀ x, u6.ownBlock = some x → x < wr.heap.size := fun x hx => (Rep.acc_own HACC.out x hx).2
              have HOWN := Lib.hid hown
              have S23 := Lib.hid (show wr.heap.size ≤ w2.heap.size from D2.out.size)
              have S03 := Lib.hid (show w.heap.size ≤ wr.heap.size from HB.out.size)
              clear hls hpp hown
              go_wp2_with (first
                | (refine wpList_spread_leaf (e := 5) (base := w2.heap.size) (Q := fun _ => False) (r := Rep.byte) Rep.leaf_byte rfl _ _ 22 rfl (.int .u8 0) 1 1 Try.underlying22 info5 rfl (by decide) rfl _ q3 (by exact rfl) HU3.out _ y (by exact rfl) (HYN.out _ _) L63.out.1 L63.out.2 HB3.out.size ?_; intro v5 w5 hacc5 hgr5 hat5; rw [HP.out] at hacc5; have HU5 := Lib.hid hacc5; have D5 := Lib.hid (D3.out.grown hgr5 D3.out.size (fun x hx => Nat.le_trans S23.out (Rep.acc_own HU3.out x hx).1)); clear hacc5 hgr5 hat5; have HACC5 := Lib.hid (Rep.acc_later HACC.out D5.out); have HV5 := Lib.hid (show Rep.byte.list.val (fun x => w.heap.size ≤ x ∧ u6.ownBlock ≠ some x) w5 v5 p from Rep.val_mono (fun x hx _ => ⟨Nat.le_trans S03.out (Nat.le_trans S23.out hx), fun he => absurd (HOWN.out x he) (by have := S23.out; omega)⟩) (Rep.acc_fresh HU5.out)); obtain ⟨A5, c5, hv5, _, _⟩ := Rep.acc_form HU5.out; subst hv5; have SZ5 := Lib.hid (Nat.le_trans S03.out D5.out.size))
                | (refine wpList_snoc (e := 22) (base := w.heap.size) (Q := fun x => w.heap.size ≤ x) (r := Rep.byte.list) rfl rfl _ _ 24 _ rfl rfl rfl (.slice none 0 0) 1 24 Try.underlying24 info22 rfl (by decide) rfl _ ls HACC5.out p _ (by exact rfl) HV5.out (by exact rfl) (by exact rfl) M63.out.1 M63.out.2 SZ5.out ?_; intro s6 w6 hacc6 hgr6 hat6))
              have HB5 := HB.out.trans (D5.out.mono HB.out.size)
              refine ⟨⟨k + 1, by go_num, by omega, ?_, HB5.grown hgr6 HB5.size (fun x hx => (Rep.acc_own HACC.out x hx).1)⟩, by show n - ((k : Int) + 1).toNat < n - (k : Int).toNat; omega⟩
              rw [range_snoc, HLS.out, HPP.out]
              exact hacc6
            · skip
              have L63 := Lib.hid (show q3.length + y.length ≤ maxLen ∧ (q3.length + y.length) * 1 ≤ 140737488355328 by have := L3.out; have := HYL.out; unfold maxLen; omega)
              have M63 := Lib.hid (show ((List.range k).map (partOf seq b)).length + 1 ≤ maxLen ∧ (((List.range k).map (partOf seq b)).length + 1) * 24 ≤ 140737488355328 by rw [List.length_map, List.length_range]; unfold maxLen; omega)
              generalize hls : (List.range k).map (partOf seq b) = ls at *
              have HLS := Lib.hid hls
              generalize hpp : partOf seq b k = p at *
              have HPP := Lib.hid hpp
              have hown : ∀ x, u6.ownBlock = some x → x < wr.heap.size := fun x hx => (Rep.acc_own HACC.out x hx).2
              have HOWN := Lib.hid hown
              have S23 := Lib.hid (show wr.heap.size ≤ w2.heap.size from D2.out.size)
              have S03 := Lib.hid (show w.heap.size ≤ wr.heap.size from HB.out.size)
              clear hls hpp hown
              go_wp2_with (first
                | (refine wpList_spread_leaf (e := 5) (base := w2.heap.size) (Q := fun _ => False) (r := Rep.byte) Rep.leaf_byte rfl _ _ 22 rfl (.int .u8 0) 1 1 Try.underlying22 info5 rfl (by decide) rfl _ q3 (by exact rfl) HU3.out _ y (by exact rfl) (HYN.out _ _) L63.out.1 L63.out.2 HB3.out.size ?_; intro v5 w5 hacc5 hgr5 hat5; rw [HP.out] at hacc5; have HU5 := Lib.hid hacc5; have D5 := Lib.hid (D3.out.grown hgr5 D3.out.size (fun x hx => Nat.le_trans S23.out (Rep.acc_own HU3.out x hx).1)); clear hacc5 hgr5 hat5; have HACC5 := Lib.hid (Rep.acc_later HACC.out D5.out); have HV5 := Lib.hid (show Rep.byte.list.val (fun x => w.heap.size ≤ x ∧ u6.ownBlock ≠ some x) w5 v5 p from Rep.val_mono (fun x hx _ => ⟨Nat.le_trans S03.out (Nat.le_trans S23.out hx), fun he => absurd (HOWN.out x he) (by have := S23.out; omega)⟩) (Rep.acc_fresh HU5.out)); obtain ⟨A5, c5, hv5, _, _⟩ := Rep.acc_form HU5.out; subst hv5; have SZ5 := Lib.hid (Nat.le_trans S03.out D5.out.size))
                | (refine wpList_snoc (e := 22) (base := w.heap.size) (Q := fun x => w.heap.size ≤ x) (r := Rep.byte.list) rfl rfl _ _ 24 _ rfl rfl rfl (.slice none 0 0) 1 24 Try.underlying24 info22 rfl (by decide) rfl _ ls HACC5.out p _ (by exact rfl) HV5.out (by exact rfl) (by exact rfl) M63.out.1 M63.out.2 SZ5.out ?_; intro s6 w6 hacc6 hgr6 hat6))
              have HB5 := HB.out.trans (D5.out.mono HB.out.size)
              refine ⟨⟨k + 1, by go_num, by omega, ?_, HB5.grown hgr6 HB5.size (fun x hx => (Rep.acc_own HACC.out x hx).1)⟩, by show n - ((k : Int) + 1).toNat < n - (k : Int).toNat; omega⟩
              rw [range_snoc, HLS.out, HPP.out]
              exact hacc6
        · have HKN := Lib.hid (show k = n by omega)
          go_wp2_with fail
          go_ret
          refine ⟨_, rfl, ?_, HB.out⟩
          rw [HF.out, ← HKN.out]
          exact Rep.val_mono (fun b hb _ => hb.elim id fun e => (Rep.acc_own HACC.out b e).1) (Rep.acc_val HACC.out)
  · have t1 : ¬ 281474976710656 < seq := by omega
    have HSQ := Lib.hid (show near seq maxEpoch = seq by unfold near maxEpoch; (repeat' split) <;> omega)
    have HX8 := Lib.hid (show (Lit.int .i64 seq).wf = true by first | decide | exact wf_i64 (by omega) (by omega))
    by_cases hbig : (1024 : Int) < n
    · have HF := Lib.hid (show splitOf seq b = [] by unfold splitOf; rw [HN.out, if_pos hbig])
      go_enter Try.func138, Try.ntmps138
      go_wp2_with fail
      refine (need_calls (by omega) _).mono ?_
      rintro e w1 ⟨rfl, hw⟩
      have hw2 := hw.symm
      subst hw2
      clear hw
      rw [HN.out]
      go_wp2_with fail
      go_ret
      exact ⟨_, rfl, by rw [HF.out]; exact HZ.out _, Below.refl _ _⟩
    · have HF := Lib.hid (show splitOf seq b = (List.range n).map (partOf seq b) by unfold splitOf; rw [HN.out, if_neg hbig, Int.toNat_natCast])
      go_enter Try.func138, Try.ntmps138
      go_wp2_with fail
      refine (need_calls (by omega) _).mono ?_
      rintro e w1 ⟨rfl, hw⟩
      have hw2 := hw.symm
      subst hw2
      clear hw
      rw [HN.out]
      go_wp2_with fail
      go_loopw [6, 19] (fun u i wr => ∃ k : Nat, i = .int .i64 k ∧ k ≤ n ∧ Rep.byte.list.acc 22 w.heap.size (fun b => w.heap.size ≤ b) wr u ((List.range k).map (partOf seq b)) ∧ Below w.heap.size w wr) (fun _ i _ => n - (intOf i).toNat)
      case atStart => exact ⟨0, rfl, Nat.zero_le _, Rep.acc_nil, Below.refl _ _⟩
      case round =>
        obtain ⟨k, rfl, hk, hacc, hbel⟩ := hrel
        have HACC := Lib.hid hacc
        have HB := Lib.hid hbel
        by_cases hlt : (k : Int) < n
        · have i1 : IntKind.i64.wrap ((k : Int) + 1) = (k : Int) + 1 := IntWalk.i64_in _ ⟨by omega, by omega⟩
          have i2 : IntKind.i64.wrap (((k : Int) + 1) * 460) = ((k : Int) + 1) * 460 := IntWalk.i64_in _ ⟨by omega, by omega⟩
          have i3 : IntKind.i64.wrap ((k : Int) * 460) = (k : Int) * 460 := IntWalk.i64_in _ ⟨by omega, by omega⟩
          have hle : 460 * k ≤ b.length := by have := HNB.out; omega
          have HLE := Lib.hid hle
          obtain ⟨m, hm⟩ : ∃ m, m = min (460 * (k + 1)) b.length := ⟨_, rfl⟩
          have HM := Lib.hid hm
          have HMM := Lib.hid (show 460 * k ≤ m ∧ m ≤ b.length by omega)
          obtain ⟨q1, hq1⟩ : ∃ q : List UInt8, q = num 2 (k : Int) := ⟨_, rfl⟩
          obtain ⟨q2, hq2⟩ : ∃ q : List UInt8, q = q1 ++ num 2 (n : Int) := ⟨_, rfl⟩
          obtain ⟨q3, hq3⟩ : ∃ q : List UInt8, q = q2 ++ num 8 seq := ⟨_, rfl⟩
          have E1 := Lib.hid (show q1 = ([] : List UInt8) ++ num 2 (k : Int) from hq1)
          have E2 := Lib.hid hq2
          have E3 := Lib.hid hq3
          have L1 := Lib.hid (show q1.length = 2 by rw [hq1, num_len2])
          have L2 := Lib.hid (show q2.length = 4 by rw [hq2, List.length_append, num_len2, L1.out])
          have L3 := Lib.hid (show q3.length = 12 by rw [hq3, List.length_append, num_len8, L2.out])
          obtain ⟨y, hy⟩ : ∃ y, y = (b.drop (460 * k)).take 460 := ⟨_, rfl⟩
          have HYL := Lib.hid (show y.length = m - 460 * k by rw [hy, List.length_take, List.length_drop]; omega)
          have HP := Lib.hid (show q3 ++ y = partOf seq b k by unfold partOf; rw [HN.out, HSQ.out, hq3, hq2, hq1, hy]; simp)
          have HYV := Lib.hid (show ∀ W' c1, Below w.heap.size w W' → 0 < y.length → ∃ bb off, A0 = some ⟨bb, off, none⟩ ∧ (y.length ≤ c1 → c1 ≤ maxLen → Rep.byte.list.val (fun _ => True) W' (.slice (some ⟨bb, off + 460 * k, none⟩) y.length c1) y) from fun W' c1 hb hp => by
            have hpos : 0 < b.length := by have := HYL.out; omega
            obtain ⟨bb, off, rfl⟩ := HA.out.addr hpos
            refine ⟨bb, off, rfl, fun h1 h2 => ?_⟩
            have h3 := HA.out.below hb (fun _ h _ => h)
            have h4 := (h3.drop (n := 460 * k) hle).take 460
            simp only [Rep.byte, Nat.mul_one] at h4
            rw [← hy] at h4
            exact Rep.list_val rfl h1 h2 (h4.keep (w := W') fun _ _ _ => ⟨trivial, rfl⟩))
          clear hacc hbel hq1 hq2 hq3 hy
          go_wp2_with fail
          refine (put_calls (width := 2) (n := (k : Int)) (HZ1.out wr) (by simp) rfl (HWF.out _ (by omega) (by omega))).mono ?_
          rintro e w1 ⟨u1, rfl, hu1, hb1⟩
          rw [← E1.out] at hu1
          have HU1 := Lib.hid hu1
          have D1 := Lib.hid hb1
          clear hu1 hb1
          go_wp2_with fail
          refine (put_calls (width := 2) (n := (n : Int)) (Rep.acc_val HU1.out) (by rw [L1.out]; decide) rfl (HWF.out _ (by omega) (by omega))).mono ?_
          rintro e w2 ⟨u2, rfl, hu2, hb2⟩
          rw [← E2.out] at hu2
          have HU2 := Lib.hid hu2
          have D2 := Lib.hid (D1.out.trans (hb2.mono D1.out.size))
          clear hu2 hb2
          go_wp2_with fail
          refine (put_calls (width := 8) (n := seq) (Rep.acc_val HU2.out) (by rw [L2.out]; decide) rfl HX8.out).mono ?_
          rintro e w3 ⟨u3, rfl, hu3, hb3⟩
          rw [← E3.out] at hu3
          have HU3 := Lib.hid hu3
          have HB3 := Lib.hid hb3
          have D3 := Lib.hid (D2.out.trans (hb3.mono D2.out.size))
          obtain ⟨A9, c9, hu9, hc9, hm9⟩ := Rep.acc_form hu3
          rw [L3.out] at hu9 hc9
          subst hu9
          clear hu3 hb3
          have BW3 := Lib.hid (HB.out.trans (D3.out.mono HB.out.size))
          have HACC3 := Lib.hid (Rep.acc_later HACC.out D3.out)
          by_cases hp : 0 < y.length
          · obtain ⟨bb, off, rfl, hyv⟩ := HYV.out w3 y.length BW3.out hp
            have HY0 := Lib.hid (hyv (Nat.le_refl _) (by have := HYL.out; unfold maxLen; omega))
            have j1 : (k : Int) * 460 ≤ b.length := by omega
            have j2 : (0 : Int) ≤ (k : Int) * 460 := by omega
            have j3 : ((k : Int) * 460).toNat = 460 * k := by omega
            have j5 : (b.length : Int) ≤ c0 := by omega
            clear hyv
            by_cases hmin : (b.length : Int) < ((k : Int) + 1) * 460
            · have j4 : b.length - 460 * k = y.length := by have := HYL.out; have := HM.out; omega
              clear hm
              have L63 := Lib.hid (show q3.length + y.length ≤ maxLen ∧ (q3.length + y.length) * 1 ≤ 140737488355328 by have := L3.out; have := HYL.out; unfold maxLen; omega)
              have M63 := Lib.hid (show ((List.range k).map (partOf seq b)).length + 1 ≤ maxLen ∧ (((List.range k).map (partOf seq b)).length + 1) * 24 ≤ 140737488355328 by rw [List.length_map, List.length_range]; unfold maxLen; omega)
              generalize hls : (List.range k).map (partOf seq b) = ls at *
              have HLS := Lib.hid hls
              generalize hpp : partOf seq b k = p at *
              have HPP := Lib.hid hpp
              have hown : ∀ x, u6.ownBlock = some x → x < wr.heap.size := fun x hx => (Rep.acc_own HACC.out x hx).2
              have HOWN := Lib.hid hown
              have S23 := Lib.hid (show wr.heap.size ≤ w2.heap.size from D2.out.size)
              have S03 := Lib.hid (show w.heap.size ≤ wr.heap.size from HB.out.size)
              clear hls hpp hown
              go_wp2_with (first
                | (refine wpList_spread_leaf (e := 5) (base := w2.heap.size) (Q := fun _ => False) (r := Rep.byte) Rep.leaf_byte rfl _ _ 22 rfl (.int .u8 0) 1 1 Try.underlying22 info5 rfl (by decide) rfl _ q3 (by exact rfl) HU3.out _ y (by exact rfl) HY0.out L63.out.1 L63.out.2 HB3.out.size ?_; intro v5 w5 hacc5 hgr5 hat5; rw [HP.out] at hacc5; have HU5 := Lib.hid hacc5; have D5 := Lib.hid (D3.out.grown hgr5 D3.out.size (fun x hx => Nat.le_trans S23.out (Rep.acc_own HU3.out x hx).1)); clear hacc5 hgr5 hat5; have HACC5 := Lib.hid (Rep.acc_later HACC.out D5.out); have HV5 := Lib.hid (show Rep.byte.list.val (fun x => w.heap.size ≤ x ∧ u6.ownBlock ≠ some x) w5 v5 p from Rep.val_mono (fun x hx _ => ⟨Nat.le_trans S03.out (Nat.le_trans S23.out hx), fun he => absurd (HOWN.out x he) (by have := S23.out; omega)⟩) (Rep.acc_fresh HU5.out)); obtain ⟨A5, c5, hv5, _, _⟩ := Rep.acc_form HU5.out; subst hv5; have SZ5 := Lib.hid (Nat.le_trans S03.out D5.out.size))
                | (refine wpList_snoc (e := 22) (base := w.heap.size) (Q := fun x => w.heap.size ≤ x) (r := Rep.byte.list) rfl rfl _ _ 24 _ rfl rfl rfl (.slice none 0 0) 1 24 Try.underlying24 info22 rfl (by decide) rfl _ ls HACC5.out p _ (by exact rfl) HV5.out (by exact rfl) (by exact rfl) M63.out.1 M63.out.2 SZ5.out ?_; intro s6 w6 hacc6 hgr6 hat6))
              have HB5 := HB.out.trans (D5.out.mono HB.out.size)
              refine ⟨⟨k + 1, by go_num, by omega, ?_, HB5.grown hgr6 HB5.size (fun x hx => (Rep.acc_own HACC.out x hx).1)⟩, by show n - ((k : Int) + 1).toNat < n - (k : Int).toNat; omega⟩
              rw [range_snoc, HLS.out, HPP.out]
              exact hacc6
            · have j4 : (((k : Int) + 1) * 460).toNat - 460 * k = y.length := by have := HYL.out; have := HM.out; omega
              have j6 : ((k : Int) + 1) * 460 ≤ c0 := by omega
              have j7 : (k : Int) * 460 ≤ ((k : Int) + 1) * 460 := by omega
              have j8 : (0 : Int) ≤ ((k : Int) + 1) * 460 := by omega
              clear hm
              have L63 := Lib.hid (show q3.length + y.length ≤ maxLen ∧ (q3.length + y.length) * 1 ≤ 140737488355328 by have := L3.out; have := HYL.out; unfold maxLen; omega)
              have M63 := Lib.hid (show ((List.range k).map (partOf seq b)).length + 1 ≤ maxLen ∧ (((List.range k).map (partOf seq b)).length + 1) * 24 ≤ 140737488355328 by rw [List.length_map, List.length_range]; unfold maxLen; omega)
              generalize hls : (List.range k).map (partOf seq b) = ls at *
              have HLS := Lib.hid hls
              generalize hpp : partOf seq b k = p at *
              have HPP := Lib.hid hpp
              have hown : ∀ x, u6.ownBlock = some x → x < wr.heap.size := fun x hx => (Rep.acc_own HACC.out x hx).2
              have HOWN := Lib.hid hown
              have S23 := Lib.hid (show wr.heap.size ≤ w2.heap.size from D2.out.size)
              have S03 := Lib.hid (show w.heap.size ≤ wr.heap.size from HB.out.size)
              clear hls hpp hown
              go_wp2_with (first
                | (refine wpList_spread_leaf (e := 5) (base := w2.heap.size) (Q := fun _ => False) (r := Rep.byte) Rep.leaf_byte rfl _ _ 22 rfl (.int .u8 0) 1 1 Try.underlying22 info5 rfl (by decide) rfl _ q3 (by exact rfl) HU3.out _ y (by exact rfl) HY0.out L63.out.1 L63.out.2 HB3.out.size ?_; intro v5 w5 hacc5 hgr5 hat5; rw [HP.out] at hacc5; have HU5 := Lib.hid hacc5; have D5 := Lib.hid (D3.out.grown hgr5 D3.out.size (fun x hx => Nat.le_trans S23.out (Rep.acc_own HU3.out x hx).1)); clear hacc5 hgr5 hat5; have HACC5 := Lib.hid (Rep.acc_later HACC.out D5.out); have HV5 := Lib.hid (show Rep.byte.list.val (fun x => w.heap.size ≤ x ∧ u6.ownBlock ≠ some x) w5 v5 p from Rep.val_mono (fun x hx _ => ⟨Nat.le_trans S03.out (Nat.le_trans S23.out hx), fun he => absurd (HOWN.out x he) (by have := S23.out; omega)⟩) (Rep.acc_fresh HU5.out)); obtain ⟨A5, c5, hv5, _, _⟩ := Rep.acc_form HU5.out; subst hv5; have SZ5 := Lib.hid (Nat.le_trans S03.out D5.out.size))
                | (refine wpList_snoc (e := 22) (base := w.heap.size) (Q := fun x => w.heap.size ≤ x) (r := Rep.byte.list) rfl rfl _ _ 24 _ rfl rfl rfl (.slice none 0 0) 1 24 Try.underlying24 info22 rfl (by decide) rfl _ ls HACC5.out p _ (by exact rfl) HV5.out (by exact rfl) (by exact rfl) M63.out.1 M63.out.2 SZ5.out ?_; intro s6 w6 hacc6 hgr6 hat6))
              have HB5 := HB.out.trans (D5.out.mono HB.out.size)
              refine ⟨⟨k + 1, by go_num, by omega, ?_, HB5.grown hgr6 HB5.size (fun x hx => (Rep.acc_own HACC.out x hx).1)⟩, by show n - ((k : Int) + 1).toNat < n - (k : Int).toNat; omega⟩
              rw [range_snoc, HLS.out, HPP.out]
              exact hacc6
          · have hy0 : y.length = 0 := by omega
            have hk0 : k = 0 := by have := HYL.out; have := HM.out; have := HNB.out; omega
            have hb0 : b.length = 0 := by have := HYL.out; have := HM.out; omega
            have HYN := Lib.hid (show ∀ A' W', Rep.byte.list.val (fun _ => True) W' (.slice A' y.length y.length) y from fun A' W' => Rep.list_val rfl (Nat.le_refl _) (by rw [hy0]; simp [maxLen]) ⟨y.map fun x => .int .u8 (x.toNat : Int), Rep.byte_row y, fun h => absurd h (by omega)⟩)
            have j1 : (k : Int) * 460 ≤ b.length := by omega
            have j2 : (0 : Int) ≤ (k : Int) * 460 := by omega
            have j3 : ((k : Int) * 460).toNat = 460 * k := by omega
            have j5 : (b.length : Int) ≤ c0 := by omega
            have j4 : b.length - 460 * k = y.length := by have := HYL.out; omega
            have hmin : (b.length : Int) < ((k : Int) + 1) * 460 := by omega
            clear hm hp hy0 hb0 hk0
            rcases A0 with _ | ⟨bb, off, pth⟩
            · skip
              have L63 := Lib.hid (show q3.length + y.length ≤ maxLen ∧ (q3.length + y.length) * 1 ≤ 140737488355328 by have := L3.out; have := HYL.out; unfold maxLen; omega)
              have M63 := Lib.hid (show ((List.range k).map (partOf seq b)).length + 1 ≤ maxLen ∧ (((List.range k).map (partOf seq b)).length + 1) * 24 ≤ 140737488355328 by rw [List.length_map, List.length_range]; unfold maxLen; omega)
              generalize hls : (List.range k).map (partOf seq b) = ls at *
              have HLS := Lib.hid hls
              generalize hpp : partOf seq b k = p at *
              have HPP := Lib.hid hpp
              have hown : ∀ x, u6.ownBlock = some x → x < wr.heap.size := fun x hx => (Rep.acc_own HACC.out x hx).2
              have HOWN := Lib.hid hown
              have S23 := Lib.hid (show wr.heap.size ≤ w2.heap.size from D2.out.size)
              have S03 := Lib.hid (show w.heap.size ≤ wr.heap.size from HB.out.size)
              clear hls hpp hown
              go_wp2_with (first
                | (refine wpList_spread_leaf (e := 5) (base := w2.heap.size) (Q := fun _ => False) (r := Rep.byte) Rep.leaf_byte rfl _ _ 22 rfl (.int .u8 0) 1 1 Try.underlying22 info5 rfl (by decide) rfl _ q3 (by exact rfl) HU3.out _ y (by exact rfl) (HYN.out _ _) L63.out.1 L63.out.2 HB3.out.size ?_; intro v5 w5 hacc5 hgr5 hat5; rw [HP.out] at hacc5; have HU5 := Lib.hid hacc5; have D5 := Lib.hid (D3.out.grown hgr5 D3.out.size (fun x hx => Nat.le_trans S23.out (Rep.acc_own HU3.out x hx).1)); clear hacc5 hgr5 hat5; have HACC5 := Lib.hid (Rep.acc_later HACC.out D5.out); have HV5 := Lib.hid (show Rep.byte.list.val (fun x => w.heap.size ≤ x ∧ u6.ownBlock ≠ some x) w5 v5 p from Rep.val_mono (fun x hx _ => ⟨Nat.le_trans S03.out (Nat.le_trans S23.out hx), fun he => absurd (HOWN.out x he) (by have := S23.out; omega)⟩) (Rep.acc_fresh HU5.out)); obtain ⟨A5, c5, hv5, _, _⟩ := Rep.acc_form HU5.out; subst hv5; have SZ5 := Lib.hid (Nat.le_trans S03.out D5.out.size))
                | (refine wpList_snoc (e := 22) (base := w.heap.size) (Q := fun x => w.heap.size ≤ x) (r := Rep.byte.list) rfl rfl _ _ 24 _ rfl rfl rfl (.slice none 0 0) 1 24 Try.underlying24 info22 rfl (by decide) rfl _ ls HACC5.out p _ (by exact rfl) HV5.out (by exact rfl) (by exact rfl) M63.out.1 M63.out.2 SZ5.out ?_; intro s6 w6 hacc6 hgr6 hat6))
              have HB5 := HB.out.trans (D5.out.mono HB.out.size)
              refine ⟨⟨k + 1, by go_num, by omega, ?_, HB5.grown hgr6 HB5.size (fun x hx => (Rep.acc_own HACC.out x hx).1)⟩, by show n - ((k : Int) + 1).toNat < n - (k : Int).toNat; omega⟩
              rw [range_snoc, HLS.out, HPP.out]
              exact hacc6
            · skip
              have L63 := Lib.hid (show q3.length + y.length ≤ maxLen ∧ (q3.length + y.length) * 1 ≤ 140737488355328 by have := L3.out; have := HYL.out; unfold maxLen; omega)
              have M63 := Lib.hid (show ((List.range k).map (partOf seq b)).length + 1 ≤ maxLen ∧ (((List.range k).map (partOf seq b)).length + 1) * 24 ≤ 140737488355328 by rw [List.length_map, List.length_range]; unfold maxLen; omega)
              generalize hls : (List.range k).map (partOf seq b) = ls at *
              have HLS := Lib.hid hls
              generalize hpp : partOf seq b k = p at *
              have HPP := Lib.hid hpp
              have hown : ∀ x, u6.ownBlock = some x → x < wr.heap.size := fun x hx => (Rep.acc_own HACC.out x hx).2
              have HOWN := Lib.hid hown
              have S23 := Lib.hid (show wr.heap.size ≤ w2.heap.size from D2.out.size)
              have S03 := Lib.hid (show w.heap.size ≤ wr.heap.size from HB.out.size)
              clear hls hpp hown
              go_wp2_with (first
                | (refine wpList_spread_leaf (e := 5) (base := w2.heap.size) (Q := fun _ => False) (r := Rep.byte) Rep.leaf_byte rfl _ _ 22 rfl (.int .u8 0) 1 1 Try.underlying22 info5 rfl (by decide) rfl _ q3 (by exact rfl) HU3.out _ y (by exact rfl) (HYN.out _ _) L63.out.1 L63.out.2 HB3.out.size ?_; intro v5 w5 hacc5 hgr5 hat5; rw [HP.out] at hacc5; have HU5 := Lib.hid hacc5; have D5 := Lib.hid (D3.out.grown hgr5 D3.out.size (fun x hx => Nat.le_trans S23.out (Rep.acc_own HU3.out x hx).1)); clear hacc5 hgr5 hat5; have HACC5 := Lib.hid (Rep.acc_later HACC.out D5.out); have HV5 := Lib.hid (show Rep.byte.list.val (fun x => w.heap.size ≤ x ∧ u6.ownBlock ≠ some x) w5 v5 p from Rep.val_mono (fun x hx _ => ⟨Nat.le_trans S03.out (Nat.le_trans S23.out hx), fun he => absurd (HOWN.out x he) (by have := S23.out; omega)⟩) (Rep.acc_fresh HU5.out)); obtain ⟨A5, c5, hv5, _, _⟩ := Rep.acc_form HU5.out; subst hv5; have SZ5 := Lib.hid (Nat.le_trans S03.out D5.out.size))
                | (refine wpList_snoc (e := 22) (base := w.heap.size) (Q := fun x => w.heap.size ≤ x) (r := Rep.byte.list) rfl rfl _ _ 24 _ rfl rfl rfl (.slice none 0 0) 1 24 Try.underlying24 info22 rfl (by decide) rfl _ ls HACC5.out p _ (by exact rfl) HV5.out (by exact rfl) (by exact rfl) M63.out.1 M63.out.2 SZ5.out ?_; intro s6 w6 hacc6 hgr6 hat6))
              have HB5 := HB.out.trans (D5.out.mono HB.out.size)
              refine ⟨⟨k + 1, by go_num, by omega, ?_, HB5.grown hgr6 HB5.size (fun x hx => (Rep.acc_own HACC.out x hx).1)⟩, by show n - ((k : Int) + 1).toNat < n - (k : Int).toNat; omega⟩
              rw [range_snoc, HLS.out, HPP.out]
              exact hacc6
        · have HKN := Lib.hid (show k = n by omega)
          go_wp2_with fail
          go_ret
          refine ⟨_, rfl, ?_, HB.out⟩
          rw [HF.out, ← HKN.out]
          exact Rep.val_mono (fun b hb _ => hb.elim id fun e => (Rep.acc_own HACC.out b e).1) (Rep.acc_val HACC.out)
  · have t1 : 0 < seq := by omega
    have HSQ := Lib.hid (show near seq maxEpoch = (281474976710656 : Int) by unfold near maxEpoch; (repeat' split) <;> omega)
    have HX8 := Lib.hid (show (Lit.int .i64 (281474976710656 : Int)).wf = true by first | decide | exact wf_i64 (by omega) (by omega))
    by_cases hbig : (1024 : Int) < n
    · have HF := Lib.hid (show splitOf seq b = [] by unfold splitOf; rw [HN.out, if_pos hbig])
      go_enter Try.func138, Try.ntmps138
      go_wp2_with fail
      refine (need_calls (by omega) _).mono ?_
      rintro e w1 ⟨rfl, hw⟩
      have hw2 := hw.symm
      subst hw2
      clear hw
      rw [HN.out]
      go_wp2_with fail
      go_ret
      exact ⟨_, rfl, by rw [HF.out]; exact HZ.out _, Below.refl _ _⟩
    · have HF := Lib.hid (show splitOf seq b = (List.range n).map (partOf seq b) by unfold splitOf; rw [HN.out, if_neg hbig, Int.toNat_natCast])
      go_enter Try.func138, Try.ntmps138
      go_wp2_with fail
      refine (need_calls (by omega) _).mono ?_
      rintro e w1 ⟨rfl, hw⟩
      have hw2 := hw.symm
      subst hw2
      clear hw
      rw [HN.out]
      go_wp2_with fail
      go_loopw [6, 19] (fun u i wr => ∃ k : Nat, i = .int .i64 k ∧ k ≤ n ∧ Rep.byte.list.acc 22 w.heap.size (fun b => w.heap.size ≤ b) wr u ((List.range k).map (partOf seq b)) ∧ Below w.heap.size w wr) (fun _ i _ => n - (intOf i).toNat)
      case atStart => exact ⟨0, rfl, Nat.zero_le _, Rep.acc_nil, Below.refl _ _⟩
      case round =>
        obtain ⟨k, rfl, hk, hacc, hbel⟩ := hrel
        have HACC := Lib.hid hacc
        have HB := Lib.hid hbel
        by_cases hlt : (k : Int) < n
        · have i1 : IntKind.i64.wrap ((k : Int) + 1) = (k : Int) + 1 := IntWalk.i64_in _ ⟨by omega, by omega⟩
          have i2 : IntKind.i64.wrap (((k : Int) + 1) * 460) = ((k : Int) + 1) * 460 := IntWalk.i64_in _ ⟨by omega, by omega⟩
          have i3 : IntKind.i64.wrap ((k : Int) * 460) = (k : Int) * 460 := IntWalk.i64_in _ ⟨by omega, by omega⟩
          have hle : 460 * k ≤ b.length := by have := HNB.out; omega
          have HLE := Lib.hid hle
          obtain ⟨m, hm⟩ : ∃ m, m = min (460 * (k + 1)) b.length := ⟨_, rfl⟩
          have HM := Lib.hid hm
          have HMM := Lib.hid (show 460 * k ≤ m ∧ m ≤ b.length by omega)
          obtain ⟨q1, hq1⟩ : ∃ q : List UInt8, q = num 2 (k : Int) := ⟨_, rfl⟩
          obtain ⟨q2, hq2⟩ : ∃ q : List UInt8, q = q1 ++ num 2 (n : Int) := ⟨_, rfl⟩
          obtain ⟨q3, hq3⟩ : ∃ q : List UInt8, q = q2 ++ num 8 (281474976710656 : Int) := ⟨_, rfl⟩
          have E1 := Lib.hid (show q1 = ([] : List UInt8) ++ num 2 (k : Int) from hq1)
          have E2 := Lib.hid hq2
          have E3 := Lib.hid hq3
          have L1 := Lib.hid (show q1.length = 2 by rw [hq1, num_len2])
          have L2 := Lib.hid (show q2.length = 4 by rw [hq2, List.length_append, num_len2, L1.out])
          have L3 := Lib.hid (show q3.length = 12 by rw [hq3, List.length_append, num_len8, L2.out])
          obtain ⟨y, hy⟩ : ∃ y, y = (b.drop (460 * k)).take 460 := ⟨_, rfl⟩
          have HYL := Lib.hid (show y.length = m - 460 * k by rw [hy, List.length_take, List.length_drop]; omega)
          have HP := Lib.hid (show q3 ++ y = partOf seq b k by unfold partOf; rw [HN.out, HSQ.out, hq3, hq2, hq1, hy]; simp)
          have HYV := Lib.hid (show ∀ W' c1, Below w.heap.size w W' → 0 < y.length → ∃ bb off, A0 = some ⟨bb, off, none⟩ ∧ (y.length ≤ c1 → c1 ≤ maxLen → Rep.byte.list.val (fun _ => True) W' (.slice (some ⟨bb, off + 460 * k, none⟩) y.length c1) y) from fun W' c1 hb hp => by
            have hpos : 0 < b.length := by have := HYL.out; omega
            obtain ⟨bb, off, rfl⟩ := HA.out.addr hpos
            refine ⟨bb, off, rfl, fun h1 h2 => ?_⟩
            have h3 := HA.out.below hb (fun _ h _ => h)
            have h4 := (h3.drop (n := 460 * k) hle).take 460
            simp only [Rep.byte, Nat.mul_one] at h4
            rw [← hy] at h4
            exact Rep.list_val rfl h1 h2 (h4.keep (w := W') fun _ _ _ => ⟨trivial, rfl⟩))
          clear hacc hbel hq1 hq2 hq3 hy
          go_wp2_with fail
          refine (put_calls (width := 2) (n := (k : Int)) (HZ1.out wr) (by simp) rfl (HWF.out _ (by omega) (by omega))).mono ?_
          rintro e w1 ⟨u1, rfl, hu1, hb1⟩
          rw [← E1.out] at hu1
          have HU1 := Lib.hid hu1
          have D1 := Lib.hid hb1
          clear hu1 hb1
          go_wp2_with fail
          refine (put_calls (width := 2) (n := (n : Int)) (Rep.acc_val HU1.out) (by rw [L1.out]; decide) rfl (HWF.out _ (by omega) (by omega))).mono ?_
          rintro e w2 ⟨u2, rfl, hu2, hb2⟩
          rw [← E2.out] at hu2
          have HU2 := Lib.hid hu2
          have D2 := Lib.hid (D1.out.trans (hb2.mono D1.out.size))
          clear hu2 hb2
          go_wp2_with fail
          refine (put_calls (width := 8) (n := (281474976710656 : Int)) (Rep.acc_val HU2.out) (by rw [L2.out]; decide) rfl HX8.out).mono ?_
          rintro e w3 ⟨u3, rfl, hu3, hb3⟩
          rw [← E3.out] at hu3
          have HU3 := Lib.hid hu3
          have HB3 := Lib.hid hb3
          have D3 := Lib.hid (D2.out.trans (hb3.mono D2.out.size))
          obtain ⟨A9, c9, hu9, hc9, hm9⟩ := Rep.acc_form hu3
          rw [L3.out] at hu9 hc9
          subst hu9
          clear hu3 hb3
          have BW3 := Lib.hid (HB.out.trans (D3.out.mono HB.out.size))
          have HACC3 := Lib.hid (Rep.acc_later HACC.out D3.out)
          by_cases hp : 0 < y.length
          · obtain ⟨bb, off, rfl, hyv⟩ := HYV.out w3 y.length BW3.out hp
            have HY0 := Lib.hid (hyv (Nat.le_refl _) (by have := HYL.out; unfold maxLen; omega))
            have j1 : (k : Int) * 460 ≤ b.length := by omega
            have j2 : (0 : Int) ≤ (k : Int) * 460 := by omega
            have j3 : ((k : Int) * 460).toNat = 460 * k := by omega
            have j5 : (b.length : Int) ≤ c0 := by omega
            clear hyv
            by_cases hmin : (b.length : Int) < ((k : Int) + 1) * 460
            · have j4 : b.length - 460 * k = y.length := by have := HYL.out; have := HM.out; omega
              clear hm
              have L63 := Lib.hid (show q3.length + y.length ≤ maxLen ∧ (q3.length + y.length) * 1 ≤ 140737488355328 by have := L3.out; have := HYL.out; unfold maxLen; omega)
              have M63 := Lib.hid (show ((List.range k).map (partOf seq b)).length + 1 ≤ maxLen ∧ (((List.range k).map (partOf seq b)).length + 1) * 24 ≤ 140737488355328 by rw [List.length_map, List.length_range]; unfold maxLen; omega)
              generalize hls : (List.range k).map (partOf seq b) = ls at *
              have HLS := Lib.hid hls
              generalize hpp : partOf seq b k = p at *
              have HPP := Lib.hid hpp
              have hown : ∀ x, u6.ownBlock = some x → x < wr.heap.size := fun x hx => (Rep.acc_own HACC.out x hx).2
              have HOWN := Lib.hid hown
              have S23 := Lib.hid (show wr.heap.size ≤ w2.heap.size from D2.out.size)
              have S03 := Lib.hid (show w.heap.size ≤ wr.heap.size from HB.out.size)
              clear hls hpp hown
              go_wp2_with (first
                | (refine wpList_spread_leaf (e := 5) (base := w2.heap.size) (Q := fun _ => False) (r := Rep.byte) Rep.leaf_byte rfl _ _ 22 rfl (.int .u8 0) 1 1 Try.underlying22 info5 rfl (by decide) rfl _ q3 (by exact rfl) HU3.out _ y (by exact rfl) HY0.out L63.out.1 L63.out.2 HB3.out.size ?_; intro v5 w5 hacc5 hgr5 hat5; rw [HP.out] at hacc5; have HU5 := Lib.hid hacc5; have D5 := Lib.hid (D3.out.grown hgr5 D3.out.size (fun x hx => Nat.le_trans S23.out (Rep.acc_own HU3.out x hx).1)); clear hacc5 hgr5 hat5; have HACC5 := Lib.hid (Rep.acc_later HACC.out D5.out); have HV5 := Lib.hid (show Rep.byte.list.val (fun x => w.heap.size ≤ x ∧ u6.ownBlock ≠ some x) w5 v5 p from Rep.val_mono (fun x hx _ => ⟨Nat.le_trans S03.out (Nat.le_trans S23.out hx), fun he => absurd (HOWN.out x he) (by have := S23.out; omega)⟩) (Rep.acc_fresh HU5.out)); obtain ⟨A5, c5, hv5, _, _⟩ := Rep.acc_form HU5.out; subst hv5; have SZ5 := Lib.hid (Nat.le_trans S03.out D5.out.size))
                | (refine wpList_snoc (e := 22) (base := w.heap.size) (Q := fun x => w.heap.size ≤ x) (r := Rep.byte.list) rfl rfl _ _ 24 _ rfl rfl rfl (.slice none 0 0) 1 24 Try.underlying24 info22 rfl (by decide) rfl _ ls HACC5.out p _ (by exact rfl) HV5.out (by exact rfl) (by exact rfl) M63.out.1 M63.out.2 SZ5.out ?_; intro s6 w6 hacc6 hgr6 hat6))
              have HB5 := HB.out.trans (D5.out.mono HB.out.size)
              refine ⟨⟨k + 1, by go_num, by omega, ?_, HB5.grown hgr6 HB5.size (fun x hx => (Rep.acc_own HACC.out x hx).1)⟩, by show n - ((k : Int) + 1).toNat < n - (k : Int).toNat; omega⟩
              rw [range_snoc, HLS.out, HPP.out]
              exact hacc6
            · have j4 : (((k : Int) + 1) * 460).toNat - 460 * k = y.length := by have := HYL.out; have := HM.out; omega
              have j6 : ((k : Int) + 1) * 460 ≤ c0 := by omega
              have j7 : (k : Int) * 460 ≤ ((k : Int) + 1) * 460 := by omega
              have j8 : (0 : Int) ≤ ((k : Int) + 1) * 460 := by omega
              clear hm
              have L63 := Lib.hid (show q3.length + y.length ≤ maxLen ∧ (q3.length + y.length) * 1 ≤ 140737488355328 by have := L3.out; have := HYL.out; unfold maxLen; omega)
              have M63 := Lib.hid (show ((List.range k).map (partOf seq b)).length + 1 ≤ maxLen ∧ (((List.range k).map (partOf seq b)).length + 1) * 24 ≤ 140737488355328 by rw [List.length_map, List.length_range]; unfold maxLen; omega)
              generalize hls : (List.range k).map (partOf seq b) = ls at *
              have HLS := Lib.hid hls
              generalize hpp : partOf seq b k = p at *
              have HPP := Lib.hid hpp
              have hown : ∀ x, u6.ownBlock = some x → x < wr.heap.size := fun x hx => (Rep.acc_own HACC.out x hx).2
              have HOWN := Lib.hid hown
              have S23 := Lib.hid (show wr.heap.size ≤ w2.heap.size from D2.out.size)
              have S03 := Lib.hid (show w.heap.size ≤ wr.heap.size from HB.out.size)
              clear hls hpp hown
              go_wp2_with (first
                | (refine wpList_spread_leaf (e := 5) (base := w2.heap.size) (Q := fun _ => False) (r := Rep.byte) Rep.leaf_byte rfl _ _ 22 rfl (.int .u8 0) 1 1 Try.underlying22 info5 rfl (by decide) rfl _ q3 (by exact rfl) HU3.out _ y (by exact rfl) HY0.out L63.out.1 L63.out.2 HB3.out.size ?_; intro v5 w5 hacc5 hgr5 hat5; rw [HP.out] at hacc5; have HU5 := Lib.hid hacc5; have D5 := Lib.hid (D3.out.grown hgr5 D3.out.size (fun x hx => Nat.le_trans S23.out (Rep.acc_own HU3.out x hx).1)); clear hacc5 hgr5 hat5; have HACC5 := Lib.hid (Rep.acc_later HACC.out D5.out); have HV5 := Lib.hid (show Rep.byte.list.val (fun x => w.heap.size ≤ x ∧ u6.ownBlock ≠ some x) w5 v5 p from Rep.val_mono (fun x hx _ => ⟨Nat.le_trans S03.out (Nat.le_trans S23.out hx), fun he => absurd (HOWN.out x he) (by have := S23.out; omega)⟩) (Rep.acc_fresh HU5.out)); obtain ⟨A5, c5, hv5, _, _⟩ := Rep.acc_form HU5.out; subst hv5; have SZ5 := Lib.hid (Nat.le_trans S03.out D5.out.size))
                | (refine wpList_snoc (e := 22) (base := w.heap.size) (Q := fun x => w.heap.size ≤ x) (r := Rep.byte.list) rfl rfl _ _ 24 _ rfl rfl rfl (.slice none 0 0) 1 24 Try.underlying24 info22 rfl (by decide) rfl _ ls HACC5.out p _ (by exact rfl) HV5.out (by exact rfl) (by exact rfl) M63.out.1 M63.out.2 SZ5.out ?_; intro s6 w6 hacc6 hgr6 hat6))
              have HB5 := HB.out.trans (D5.out.mono HB.out.size)
              refine ⟨⟨k + 1, by go_num, by omega, ?_, HB5.grown hgr6 HB5.size (fun x hx => (Rep.acc_own HACC.out x hx).1)⟩, by show n - ((k : Int) + 1).toNat < n - (k : Int).toNat; omega⟩
              rw [range_snoc, HLS.out, HPP.out]
              exact hacc6
          · have hy0 : y.length = 0 := by omega
            have hk0 : k = 0 := by have := HYL.out; have := HM.out; have := HNB.out; omega
            have hb0 : b.length = 0 := by have := HYL.out; have := HM.out; omega
            have HYN := Lib.hid (show ∀ A' W', Rep.byte.list.val (fun _ => True) W' (.slice A' y.length y.length) y from fun A' W' => Rep.list_val rfl (Nat.le_refl _) (by rw [hy0]; simp [maxLen]) ⟨y.map fun x => .int .u8 (x.toNat : Int), Rep.byte_row y, fun h => absurd h (by omega)⟩)
            have j1 : (k : Int) * 460 ≤ b.length := by omega
            have j2 : (0 : Int) ≤ (k : Int) * 460 := by omega
            have j3 : ((k : Int) * 460).toNat = 460 * k := by omega
            have j5 : (b.length : Int) ≤ c0 := by omega
            have j4 : b.length - 460 * k = y.length := by have := HYL.out; omega
            have hmin : (b.length : Int) < ((k : Int) + 1) * 460 := by omega
            clear hm hp hy0 hb0 hk0
            rcases A0 with _ | ⟨bb, off, pth⟩
            · skip
              have L63 := Lib.hid (show q3.length + y.length ≤ maxLen ∧ (q3.length + y.length) * 1 ≤ 140737488355328 by have := L3.out; have := HYL.out; unfold maxLen; omega)
              have M63 := Lib.hid (show ((List.range k).map (partOf seq b)).length + 1 ≤ maxLen ∧ (((List.range k).map (partOf seq b)).length + 1) * 24 ≤ 140737488355328 by rw [List.length_map, List.length_range]; unfold maxLen; omega)
              generalize hls : (List.range k).map (partOf seq b) = ls at *
              have HLS := Lib.hid hls
              generalize hpp : partOf seq b k = p at *
              have HPP := Lib.hid hpp
              have hown : ∀ x, u6.ownBlock = some x → x < wr.heap.size := fun x hx => (Rep.acc_own HACC.out x hx).2
              have HOWN := Lib.hid hown
              have S23 := Lib.hid (show wr.heap.size ≤ w2.heap.size from D2.out.size)
              have S03 := Lib.hid (show w.heap.size ≤ wr.heap.size from HB.out.size)
              clear hls hpp hown
              go_wp2_with (first
                | (refine wpList_spread_leaf (e := 5) (base := w2.heap.size) (Q := fun _ => False) (r := Rep.byte) Rep.leaf_byte rfl _ _ 22 rfl (.int .u8 0) 1 1 Try.underlying22 info5 rfl (by decide) rfl _ q3 (by exact rfl) HU3.out _ y (by exact rfl) (HYN.out _ _) L63.out.1 L63.out.2 HB3.out.size ?_; intro v5 w5 hacc5 hgr5 hat5; rw [HP.out] at hacc5; have HU5 := Lib.hid hacc5; have D5 := Lib.hid (D3.out.grown hgr5 D3.out.size (fun x hx => Nat.le_trans S23.out (Rep.acc_own HU3.out x hx).1)); clear hacc5 hgr5 hat5; have HACC5 := Lib.hid (Rep.acc_later HACC.out D5.out); have HV5 := Lib.hid (show Rep.byte.list.val (fun x => w.heap.size ≤ x ∧ u6.ownBlock ≠ some x) w5 v5 p from Rep.val_mono (fun x hx _ => ⟨Nat.le_trans S03.out (Nat.le_trans S23.out hx), fun he => absurd (HOWN.out x he) (by have := S23.out; omega)⟩) (Rep.acc_fresh HU5.out)); obtain ⟨A5, c5, hv5, _, _⟩ := Rep.acc_form HU5.out; subst hv5; have SZ5 := Lib.hid (Nat.le_trans S03.out D5.out.size))
                | (refine wpList_snoc (e := 22) (base := w.heap.size) (Q := fun x => w.heap.size ≤ x) (r := Rep.byte.list) rfl rfl _ _ 24 _ rfl rfl rfl (.slice none 0 0) 1 24 Try.underlying24 info22 rfl (by decide) rfl _ ls HACC5.out p _ (by exact rfl) HV5.out (by exact rfl) (by exact rfl) M63.out.1 M63.out.2 SZ5.out ?_; intro s6 w6 hacc6 hgr6 hat6))
              have HB5 := HB.out.trans (D5.out.mono HB.out.size)
              refine ⟨⟨k + 1, by go_num, by omega, ?_, HB5.grown hgr6 HB5.size (fun x hx => (Rep.acc_own HACC.out x hx).1)⟩, by show n - ((k : Int) + 1).toNat < n - (k : Int).toNat; omega⟩
              rw [range_snoc, HLS.out, HPP.out]
              exact hacc6
            · skip
              have L63 := Lib.hid (show q3.length + y.length ≤ maxLen ∧ (q3.length + y.length) * 1 ≤ 140737488355328 by have := L3.out; have := HYL.out; unfold maxLen; omega)
              have M63 := Lib.hid (show ((List.range k).map (partOf seq b)).length + 1 ≤ maxLen ∧ (((List.range k).map (partOf seq b)).length + 1) * 24 ≤ 140737488355328 by rw [List.length_map, List.length_range]; unfold maxLen; omega)
              generalize hls : (List.range k).map (partOf seq b) = ls at *
              have HLS := Lib.hid hls
              generalize hpp : partOf seq b k = p at *
              have HPP := Lib.hid hpp
              have hown : ∀ x, u6.ownBlock = some x → x < wr.heap.size := fun x hx => (Rep.acc_own HACC.out x hx).2
              have HOWN := Lib.hid hown
              have S23 := Lib.hid (show wr.heap.size ≤ w2.heap.size from D2.out.size)
              have S03 := Lib.hid (show w.heap.size ≤ wr.heap.size from HB.out.size)
              clear hls hpp hown
              go_wp2_with (first
                | (refine wpList_spread_leaf (e := 5) (base := w2.heap.size) (Q := fun _ => False) (r := Rep.byte) Rep.leaf_byte rfl _ _ 22 rfl (.int .u8 0) 1 1 Try.underlying22 info5 rfl (by decide) rfl _ q3 (by exact rfl) HU3.out _ y (by exact rfl) (HYN.out _ _) L63.out.1 L63.out.2 HB3.out.size ?_; intro v5 w5 hacc5 hgr5 hat5; rw [HP.out] at hacc5; have HU5 := Lib.hid hacc5; have D5 := Lib.hid (D3.out.grown hgr5 D3.out.size (fun x hx => Nat.le_trans S23.out (Rep.acc_own HU3.out x hx).1)); clear hacc5 hgr5 hat5; have HACC5 := Lib.hid (Rep.acc_later HACC.out D5.out); have HV5 := Lib.hid (show Rep.byte.list.val (fun x => w.heap.size ≤ x ∧ u6.ownBlock ≠ some x) w5 v5 p from Rep.val_mono (fun x hx _ => ⟨Nat.le_trans S03.out (Nat.le_trans S23.out hx), fun he => absurd (HOWN.out x he) (by have := S23.out; omega)⟩) (Rep.acc_fresh HU5.out)); obtain ⟨A5, c5, hv5, _, _⟩ := Rep.acc_form HU5.out; subst hv5; have SZ5 := Lib.hid (Nat.le_trans S03.out D5.out.size))
                | (refine wpList_snoc (e := 22) (base := w.heap.size) (Q := fun x => w.heap.size ≤ x) (r := Rep.byte.list) rfl rfl _ _ 24 _ rfl rfl rfl (.slice none 0 0) 1 24 Try.underlying24 info22 rfl (by decide) rfl _ ls HACC5.out p _ (by exact rfl) HV5.out (by exact rfl) (by exact rfl) M63.out.1 M63.out.2 SZ5.out ?_; intro s6 w6 hacc6 hgr6 hat6))
              have HB5 := HB.out.trans (D5.out.mono HB.out.size)
              refine ⟨⟨k + 1, by go_num, by omega, ?_, HB5.grown hgr6 HB5.size (fun x hx => (Rep.acc_own HACC.out x hx).1)⟩, by show n - ((k : Int) + 1).toNat < n - (k : Int).toNat; omega⟩
              rw [range_snoc, HLS.out, HPP.out]
              exact hacc6
        · have HKN := Lib.hid (show k = n by omega)
          go_wp2_with fail
          go_ret
          refine ⟨_, rfl, ?_, HB.out⟩
          rw [HF.out, ← HKN.out]
          exact Rep.val_mono (fun b hb _ => hb.elim id fun e => (Rep.acc_own HACC.out b e).1) (Rep.acc_val HACC.out)
end Go.Proofs.Ytecdbfbaclgejaa
/- Walk of wal.New; how a log lies in memory. -/
namespace Go.Proofs.Ytecdbfbaclgejaa
open Go.RowKit

theorem infoComp : (Try.prog.info? 167).map (fun i => (i.zero, i.size, i.bytes)) = some (some (.agg #[.string ⟨#[]⟩, .int .i64 0]), 2, 24) := by kernel_rfl
theorem rComp_leaf : rComp.Leaf := Rep.leaf_iso _ (Rep.leaf_pair Rep.leaf_text (Rep.leaf_int _))

theorem blk_set5 {w W : World} {b : Nat} {v0 v1 v2 v3 v4 u : Value} {t : TypeId} (h : w.heap[b]? = some (.cells #[v0, v1, v2, v3, v4] t (0, 0))) (he : w.setCell ⟨b, 4, none⟩ u = W) : W.heap[b]? = some (.cells #[v0, v1, v2, v3, u] t (0, 0)) := by
  rw [← he]; exact heap_setRow h
/-- Where a log is. -/
structure LogSt where
  epoch : Int
  head : Int
  tail : Int
  seq : Int
/-- A log lies in block L; its device in block P; G: the blocks of its layout. -/
structure LogW (W : World) (L P : Nat) (A : Option Addr) (cap : Nat) (G : Nat → Prop) (c : DConf) (x : LogSt) : Prop where
  blk : W.heap[L]? = some (.cells #[.pointer (some ⟨P, 0, none⟩), .int .i64 c.log, .int .i64 c.pages, .int .i64 c.entities, .int .i64 c.gens, .slice A c.comps.length cap, .int .i64 x.epoch, .int .i64 x.head, .int .i64 x.tail, .int .i64 x.seq] 194 (0, 0))
  conf : rConf.val G W (.agg #[.int .i64 c.log, .int .i64 c.pages, .int .i64 c.entities, .int .i64 c.gens, .slice A c.comps.length cap]) c
  lt : ∀ b, b = L ∨ G b → b < W.heap.size
  ne : ¬ G L
theorem LogW.keep {W W' : World} {L P : Nat} {A : Option Addr} {cap : Nat} {G : Nat → Prop} {c : DConf} {x : LogSt} (h : LogW W L P A cap G c x) (hs : W.heap.size ≤ W'.heap.size) (hk : ∀ b, b = L ∨ G b → W'.heap[b]? = W.heap[b]?) : LogW W' L P A cap G c x :=
  ⟨(hk L (.inl rfl)).trans h.blk, Rep.val_keep (fun b hb _ => ⟨hb, hk b (.inr hb)⟩) h.conf, fun b hb => Nat.lt_of_lt_of_le (h.lt b hb) hs, h.ne⟩
def rightLog (st : DiskSt) (c : DConf) (x : LogSt) : Bool := fitsB st c && (decide (0 ≤ roomOf c x.head x.tail) && (placeB x.epoch && placeB x.seq))
def WNewPost (F B : Nat → Prop) (P n : Nat) (W : World) (st : DiskSt) (c : DConf) (x : LogSt) (e : Ending) (W' : World) : Prop :=
  Below W.heap.size W W' ∧ ((rightLog st c x = false ∧ e = .returned (.pointer none)) ∨
    (rightLog st c x = true ∧ ∃ L A cap G, e = .returned (.pointer (some ⟨L, 0, none⟩)) ∧ LogW W' L P A cap G c x ∧ (∀ b, b = L ∨ G b → W.heap.size ≤ b)))

set_option maxRecDepth 100000 in
set_option maxHeartbeats 1000000 in
/-- wal.New of no device -/
theorem wnew_nil {Q : Nat → Prop} {w : World} {v : Value} {c : DConf} {ep hd tl sq : Int} (hx : rConf.val Q w v c) :
    Calls Try.prog 83 #[.pointer none, v, .int .i64 ep, .int .i64 hd, .int .i64 tl, .int .i64 sq] w fun e w' => e = .returned (.pointer none) ∧ Below w.heap.size w w' := by
  obtain ⟨A, cap, rfl, _⟩ := rConf_val hx
  have hbel : Below w.heap.size w (w.alloc (.cells #[.int .i64 c.log, .int .i64 c.pages, .int .i64 c.entities, .int .i64 c.gens, .slice A c.comps.length cap] 88)) := (Below.refl _ _).alloc (Nat.le_refl _) _
  generalize hW1 : w.alloc (.cells #[.int .i64 c.log, .int .i64 c.pages, .int .i64 c.entities, .int .i64 c.gens, .slice A c.comps.length cap] 88) = W1 at *
  have HB := Lib.hid hbel
  clear hx hbel
  go_enter Try.func83, Try.ntmps83
  go_wp2_with fail
  go_ret
  exact ⟨rfl, HB.out⟩

set_option maxRecDepth 100000 in
set_option maxHeartbeats 4000000 in
/-- wal.New -/
theorem wnew_calls {Q : Nat → Prop} {W : World} {P : Nat} {F B : Nat → Prop} {n : Nat} {st : DiskSt} {v : Value} {c : DConf} {x : LogSt} (h : DiskAt W P F B n st) (hx : rConf.val Q W v c) (hQ : ∀ k, Q k → ¬ F k) :
    Calls Try.prog 83 #[.pointer (some ⟨P, 0, none⟩), v, .int .i64 x.epoch, .int .i64 x.head, .int .i64 x.tail, .int .i64 x.seq] W (WNewPost F B P n W st c x) := by
  obtain ⟨A, cap, rfl, f0, f1, f2, f3, _⟩ := rConf_val hx
  have HV := Lib.hid (show ∀ W', Only F W W' → rConf.val Q W' (.agg #[.int .i64 c.log, .int .i64 c.pages, .int .i64 c.entities, .int .i64 c.gens, .slice A c.comps.length cap]) c from fun W' ho => Rep.val_keep (fun k hk hl => ⟨hk, ho.block k hl.lt (hQ k hk)⟩) hx)
  have hbel : Below W.heap.size W (W.alloc (.cells #[.int .i64 c.log, .int .i64 c.pages, .int .i64 c.entities, .int .i64 c.gens, .slice A c.comps.length cap] 88)) := (Below.refl _ _).alloc (Nat.le_refl _) _
  have hbx : (W.alloc (.cells #[.int .i64 c.log, .int .i64 c.pages, .int .i64 c.entities, .int .i64 c.gens, .slice A c.comps.length cap] 88)).heap[W.heap.size]? = some (.cells #[.int .i64 c.log, .int .i64 c.pages, .int .i64 c.entities, .int .i64 c.gens, .slice A c.comps.length cap] 88 (0, 0)) := heap_alloc_new W _
  have hsz : (W.alloc (.cells #[.int .i64 c.log, .int .i64 c.pages, .int .i64 c.entities, .int .i64 c.gens, .slice A c.comps.length cap] 88)).heap.size = W.heap.size + 1 := by simp
  generalize hW1 : W.alloc (.cells #[.int .i64 c.log, .int .i64 c.pages, .int .i64 c.entities, .int .i64 c.gens, .slice A c.comps.length cap] 88) = W1 at *
  have HS := Lib.hid hsz
  have HLT := Lib.hid (show ∀ b, F b ∨ B b → b < W.heap.size by obtain ⟨_, _, _, _, hh⟩ := h; exact hh.lt)
  have HO1 := Lib.hid (Only.of_below (F := F) hbel)
  have HD1 := Lib.hid (h.below hbel)
  have HBX := Lib.hid (show ∀ W', Only F W1 W' → W'.heap[W.heap.size]? = some (.cells #[.int .i64 c.log, .int .i64 c.pages, .int .i64 c.entities, .int .i64 c.gens, .slice A c.comps.length cap] 88 (0, 0)) from fun W' ho => (ho.block _ (by omega) (fun hf => by have := HLT.out _ (.inl hf); omega)).trans hbx)
  have a0 := cell_row hbx 0
  have a1 := cell_row hbx 1
  have a2 := cell_row hbx 2
  have a3 := cell_row hbx 3
  have a4 := cell_row hbx 4
  clear h hx hbel hbx hsz
  obtain ⟨ep, hd, tl, sq⟩ := x
  dsimp only
  have HBW := Lib.hid (show Below W.heap.size W W1 from ⟨HO1.out.os, HO1.out.tape, HO1.out.output, HO1.out.size, fun b hb => by rw [← hW1]; exact Below.heap_alloc _ _ _ hb⟩)
  cases hf : fitsB st c with
  | false =>
    have HF := Lib.hid (show rightLog st c ⟨ep, hd, tl, sq⟩ = false by unfold rightLog; rw [hf]; rfl)
    have HFB := Lib.hid hf
    clear hf
    go_enter Try.func83, Try.ntmps83
    go_wp2_with fail
    refine (fits_calls HD1.out (HV.out _ HO1.out)).mono ?_
    rintro e w2 ⟨rfl, hb2⟩
    rw [HFB.out]
    have HB2 := Lib.hid hb2
    have HO2 := Lib.hid (show Only F W1 w2 from Only.of_below hb2)
    obtain ⟨b0, b1, b2, b3, b4⟩ : World.cell? w2 ⟨W.heap.size, 0, none⟩ = some (.int .i64 c.log) ∧ World.cell? w2 ⟨W.heap.size, 1, none⟩ = some (.int .i64 c.pages) ∧ World.cell? w2 ⟨W.heap.size, 2, none⟩ = some (.int .i64 c.entities) ∧ World.cell? w2 ⟨W.heap.size, 3, none⟩ = some (.int .i64 c.gens) ∧ World.cell? w2 ⟨W.heap.size, 4, none⟩ = some (.slice A c.comps.length cap) := ⟨cell_row (HBX.out _ HO2.out) 0, cell_row (HBX.out _ HO2.out) 1, cell_row (HBX.out _ HO2.out) 2, cell_row (HBX.out _ HO2.out) 3, cell_row (HBX.out _ HO2.out) 4⟩
    clear a0 a1 a2 a3 a4 hb2
    go_wp2_with fail
    go_ret
    exact ⟨HBW.out.trans (HB2.out.mono HBW.out.size), .inl ⟨HF.out, rfl⟩⟩
  | true =>
    have HFB := Lib.hid hf
    have HCR := Lib.hid (show confRight c = true by unfold fitsB at hf; cases hc : confRight c <;> simp_all)
    obtain ⟨rm, hrm⟩ : ∃ rm, roomOf c hd tl = rm := ⟨_, rfl⟩
    have HRM := Lib.hid hrm
    by_cases hr0 : rm < 0
    · have HF := Lib.hid (show rightLog st c ⟨ep, hd, tl, sq⟩ = false by unfold rightLog; rw [hf]; dsimp only; rw [hrm, decide_eq_false (by omega)]; rfl)
      clear hf hrm
      go_enter Try.func83, Try.ntmps83
      go_wp2_with fail
      refine (fits_calls HD1.out (HV.out _ HO1.out)).mono ?_
      rintro e w2 ⟨rfl, hb2⟩
      rw [HFB.out]
      have HB2 := Lib.hid hb2
      have HO2 := Lib.hid (show Only F W1 w2 from Only.of_below hb2)
      obtain ⟨b0, b1, b2, b3, b4⟩ : World.cell? w2 ⟨W.heap.size, 0, none⟩ = some (.int .i64 c.log) ∧ World.cell? w2 ⟨W.heap.size, 1, none⟩ = some (.int .i64 c.pages) ∧ World.cell? w2 ⟨W.heap.size, 2, none⟩ = some (.int .i64 c.entities) ∧ World.cell? w2 ⟨W.heap.size, 3, none⟩ = some (.int .i64 c.gens) ∧ World.cell? w2 ⟨W.heap.size, 4, none⟩ = some (.slice A c.comps.length cap) := ⟨cell_row (HBX.out _ HO2.out) 0, cell_row (HBX.out _ HO2.out) 1, cell_row (HBX.out _ HO2.out) 2, cell_row (HBX.out _ HO2.out) 3, cell_row (HBX.out _ HO2.out) 4⟩
      clear a0 a1 a2 a3 a4 hb2
      go_wp2_with fail
      refine (geomRoom_calls (HV.out _ (HO1.out.trans HO2.out))).mono ?_
      rintro e w3 ⟨rfl, hb3⟩
      rw [HRM.out]
      have HB3 := Lib.hid (HB2.out.trans (hb3.mono HB2.out.size))
      have HO3 := Lib.hid (show Only F W1 w3 from Only.of_below HB3.out)
      clear b0 b1 b2 b3 b4
      obtain ⟨b0, b1, b2, b3, b4⟩ : World.cell? w3 ⟨W.heap.size, 0, none⟩ = some (.int .i64 c.log) ∧ World.cell? w3 ⟨W.heap.size, 1, none⟩ = some (.int .i64 c.pages) ∧ World.cell? w3 ⟨W.heap.size, 2, none⟩ = some (.int .i64 c.entities) ∧ World.cell? w3 ⟨W.heap.size, 3, none⟩ = some (.int .i64 c.gens) ∧ World.cell? w3 ⟨W.heap.size, 4, none⟩ = some (.slice A c.comps.length cap) := ⟨cell_row (HBX.out _ HO3.out) 0, cell_row (HBX.out _ HO3.out) 1, cell_row (HBX.out _ HO3.out) 2, cell_row (HBX.out _ HO3.out) 3, cell_row (HBX.out _ HO3.out) 4⟩
      clear hb3
      go_wp2_with fail
      go_ret
      exact ⟨HBW.out.trans (HB3.out.mono HBW.out.size), .inl ⟨HF.out, rfl⟩⟩
    · cases hpe : placeB ep with
      | false =>
        have HPE := Lib.hid hpe
        have HF := Lib.hid (show rightLog st c ⟨ep, hd, tl, sq⟩ = false by unfold rightLog; rw [hf]; dsimp only; rw [hpe]; simp)
        clear hf hrm hpe
        go_enter Try.func83, Try.ntmps83
        go_wp2_with fail
        refine (fits_calls HD1.out (HV.out _ HO1.out)).mono ?_
        rintro e w2 ⟨rfl, hb2⟩
        rw [HFB.out]
        have HB2 := Lib.hid hb2
        have HO2 := Lib.hid (show Only F W1 w2 from Only.of_below hb2)
        obtain ⟨b0, b1, b2, b3, b4⟩ : World.cell? w2 ⟨W.heap.size, 0, none⟩ = some (.int .i64 c.log) ∧ World.cell? w2 ⟨W.heap.size, 1, none⟩ = some (.int .i64 c.pages) ∧ World.cell? w2 ⟨W.heap.size, 2, none⟩ = some (.int .i64 c.entities) ∧ World.cell? w2 ⟨W.heap.size, 3, none⟩ = some (.int .i64 c.gens) ∧ World.cell? w2 ⟨W.heap.size, 4, none⟩ = some (.slice A c.comps.length cap) := ⟨cell_row (HBX.out _ HO2.out) 0, cell_row (HBX.out _ HO2.out) 1, cell_row (HBX.out _ HO2.out) 2, cell_row (HBX.out _ HO2.out) 3, cell_row (HBX.out _ HO2.out) 4⟩
        clear a0 a1 a2 a3 a4 hb2
        go_wp2_with fail
        refine (geomRoom_calls (HV.out _ (HO1.out.trans HO2.out))).mono ?_
        rintro e w3 ⟨rfl, hb3⟩
        rw [HRM.out]
        have HB3 := Lib.hid (HB2.out.trans (hb3.mono HB2.out.size))
        have HO3 := Lib.hid (show Only F W1 w3 from Only.of_below HB3.out)
        clear b0 b1 b2 b3 b4
        obtain ⟨b0, b1, b2, b3, b4⟩ : World.cell? w3 ⟨W.heap.size, 0, none⟩ = some (.int .i64 c.log) ∧ World.cell? w3 ⟨W.heap.size, 1, none⟩ = some (.int .i64 c.pages) ∧ World.cell? w3 ⟨W.heap.size, 2, none⟩ = some (.int .i64 c.entities) ∧ World.cell? w3 ⟨W.heap.size, 3, none⟩ = some (.int .i64 c.gens) ∧ World.cell? w3 ⟨W.heap.size, 4, none⟩ = some (.slice A c.comps.length cap) := ⟨cell_row (HBX.out _ HO3.out) 0, cell_row (HBX.out _ HO3.out) 1, cell_row (HBX.out _ HO3.out) 2, cell_row (HBX.out _ HO3.out) 3, cell_row (HBX.out _ HO3.out) 4⟩
        clear hb3
        go_wp2_with fail
        refine (walPlace_calls ep _).mono ?_
        rintro e w4 ⟨rfl, hw⟩
        have hw4 := hw.symm
        subst hw4
        clear hw
        rw [HPE.out]
        go_wp2_with fail
        go_ret
        exact ⟨HBW.out.trans (HB3.out.mono HBW.out.size), .inl ⟨HF.out, rfl⟩⟩
      | true =>
        have HPE := Lib.hid hpe
        cases hps : placeB sq with
        | false =>
          have HPS := Lib.hid hps
          have HF := Lib.hid (show rightLog st c ⟨ep, hd, tl, sq⟩ = false by unfold rightLog; rw [hf]; dsimp only; rw [hps]; simp)
          clear hf hrm hpe hps
          go_enter Try.func83, Try.ntmps83
          go_wp2_with fail
          refine (fits_calls HD1.out (HV.out _ HO1.out)).mono ?_
          rintro e w2 ⟨rfl, hb2⟩
          rw [HFB.out]
          have HB2 := Lib.hid hb2
          have HO2 := Lib.hid (show Only F W1 w2 from Only.of_below hb2)
          obtain ⟨b0, b1, b2, b3, b4⟩ : World.cell? w2 ⟨W.heap.size, 0, none⟩ = some (.int .i64 c.log) ∧ World.cell? w2 ⟨W.heap.size, 1, none⟩ = some (.int .i64 c.pages) ∧ World.cell? w2 ⟨W.heap.size, 2, none⟩ = some (.int .i64 c.entities) ∧ World.cell? w2 ⟨W.heap.size, 3, none⟩ = some (.int .i64 c.gens) ∧ World.cell? w2 ⟨W.heap.size, 4, none⟩ = some (.slice A c.comps.length cap) := ⟨cell_row (HBX.out _ HO2.out) 0, cell_row (HBX.out _ HO2.out) 1, cell_row (HBX.out _ HO2.out) 2, cell_row (HBX.out _ HO2.out) 3, cell_row (HBX.out _ HO2.out) 4⟩
          clear a0 a1 a2 a3 a4 hb2
          go_wp2_with fail
          refine (geomRoom_calls (HV.out _ (HO1.out.trans HO2.out))).mono ?_
          rintro e w3 ⟨rfl, hb3⟩
          rw [HRM.out]
          have HB3 := Lib.hid (HB2.out.trans (hb3.mono HB2.out.size))
          have HO3 := Lib.hid (show Only F W1 w3 from Only.of_below HB3.out)
          clear b0 b1 b2 b3 b4
          obtain ⟨b0, b1, b2, b3, b4⟩ : World.cell? w3 ⟨W.heap.size, 0, none⟩ = some (.int .i64 c.log) ∧ World.cell? w3 ⟨W.heap.size, 1, none⟩ = some (.int .i64 c.pages) ∧ World.cell? w3 ⟨W.heap.size, 2, none⟩ = some (.int .i64 c.entities) ∧ World.cell? w3 ⟨W.heap.size, 3, none⟩ = some (.int .i64 c.gens) ∧ World.cell? w3 ⟨W.heap.size, 4, none⟩ = some (.slice A c.comps.length cap) := ⟨cell_row (HBX.out _ HO3.out) 0, cell_row (HBX.out _ HO3.out) 1, cell_row (HBX.out _ HO3.out) 2, cell_row (HBX.out _ HO3.out) 3, cell_row (HBX.out _ HO3.out) 4⟩
          clear hb3
          go_wp2_with fail
          refine (walPlace_calls ep _).mono ?_
          rintro e w4 ⟨rfl, hw⟩
          have hw4 := hw.symm
          subst hw4
          clear hw
          rw [HPE.out]
          go_wp2_with fail
          refine (walPlace_calls sq _).mono ?_
          rintro e w5 ⟨rfl, hw⟩
          have hw5 := hw.symm
          subst hw5
          clear hw
          rw [HPS.out]
          go_wp2_with fail
          go_ret
          exact ⟨HBW.out.trans (HB3.out.mono HBW.out.size), .inl ⟨HF.out, rfl⟩⟩
        | true =>
          have HPS := Lib.hid hps
          have HF := Lib.hid (show rightLog st c ⟨ep, hd, tl, sq⟩ = true by unfold rightLog; rw [hf]; dsimp only; rw [hrm, hpe, hps, decide_eq_true (show 0 ≤ rm by omega)]; rfl)
          clear hf hrm hpe hps
          go_enter Try.func83, Try.ntmps83
          go_wp2_with fail
          refine (fits_calls HD1.out (HV.out _ HO1.out)).mono ?_
          rintro e w2 ⟨rfl, hb2⟩
          rw [HFB.out]
          have HB2 := Lib.hid hb2
          have HO2 := Lib.hid (show Only F W1 w2 from Only.of_below hb2)
          obtain ⟨b0, b1, b2, b3, b4⟩ : World.cell? w2 ⟨W.heap.size, 0, none⟩ = some (.int .i64 c.log) ∧ World.cell? w2 ⟨W.heap.size, 1, none⟩ = some (.int .i64 c.pages) ∧ World.cell? w2 ⟨W.heap.size, 2, none⟩ = some (.int .i64 c.entities) ∧ World.cell? w2 ⟨W.heap.size, 3, none⟩ = some (.int .i64 c.gens) ∧ World.cell? w2 ⟨W.heap.size, 4, none⟩ = some (.slice A c.comps.length cap) := ⟨cell_row (HBX.out _ HO2.out) 0, cell_row (HBX.out _ HO2.out) 1, cell_row (HBX.out _ HO2.out) 2, cell_row (HBX.out _ HO2.out) 3, cell_row (HBX.out _ HO2.out) 4⟩
          clear a0 a1 a2 a3 a4 hb2
          go_wp2_with fail
          refine (geomRoom_calls (HV.out _ (HO1.out.trans HO2.out))).mono ?_
          rintro e w3 ⟨rfl, hb3⟩
          rw [HRM.out]
          have HB3 := Lib.hid (HB2.out.trans (hb3.mono HB2.out.size))
          have HO3 := Lib.hid (show Only F W1 w3 from Only.of_below HB3.out)
          clear b0 b1 b2 b3 b4
          obtain ⟨b0, b1, b2, b3, b4⟩ : World.cell? w3 ⟨W.heap.size, 0, none⟩ = some (.int .i64 c.log) ∧ World.cell? w3 ⟨W.heap.size, 1, none⟩ = some (.int .i64 c.pages) ∧ World.cell? w3 ⟨W.heap.size, 2, none⟩ = some (.int .i64 c.entities) ∧ World.cell? w3 ⟨W.heap.size, 3, none⟩ = some (.int .i64 c.gens) ∧ World.cell? w3 ⟨W.heap.size, 4, none⟩ = some (.slice A c.comps.length cap) := ⟨cell_row (HBX.out _ HO3.out) 0, cell_row (HBX.out _ HO3.out) 1, cell_row (HBX.out _ HO3.out) 2, cell_row (HBX.out _ HO3.out) 3, cell_row (HBX.out _ HO3.out) 4⟩
          clear hb3
          go_wp2_with fail
          refine (walPlace_calls ep _).mono ?_
          rintro e w4 ⟨rfl, hw⟩
          have hw4 := hw.symm
          subst hw4
          clear hw
          rw [HPE.out]
          go_wp2_with fail
          refine (walPlace_calls sq _).mono ?_
          rintro e w5 ⟨rfl, hw⟩
          have hw5 := hw.symm
          subst hw5
          clear hw
          rw [HPS.out]
          have HZ := Lib.hid (HBX.out _ HO3.out)
          have hz3 : W1.heap.size ≤ w3.heap.size := HB3.out.size
          have hsz1 := HS.out
          have HZ3 := Lib.hid hz3
          have HA6 := Lib.hid (show rComp.acc 167 w3.heap.size (fun _ => False) (w3.alloc (.cells #[] 167)) (.slice (some ⟨w3.heap.size, 0, none⟩) 0 0) [] from Rep.acc_made w3 #[] 0 (Nat.le_refl _) (by simp [maxLen]) (by simp))
          have HX6 := Lib.hid (show rComp.list.val (fun _ => True) (w3.alloc (.cells #[] 167)) (.slice A c.comps.length cap) c.comps from by
            obtain ⟨A', cap', he, _, _, _, _, hsl⟩ := rConf_val (HV.out _ (HO1.out.trans HO3.out))
            injection he with he
            injection he with he
            simp only [List.cons.injEq, Value.slice.injEq, true_and, and_true] at he
            obtain ⟨rfl, rfl⟩ := he
            exact Rep.val_keep (w := w3) (fun b _ hl => ⟨trivial, Below.heap_alloc _ _ _ hl.lt⟩) hsl.val)
          have L6 := Lib.hid (show ([] : List DComp).length + c.comps.length ≤ maxLen ∧ (([] : List DComp).length + c.comps.length) * 24 ≤ 140737488355328 by have := (right_facts HCR.out).1; simp [maxLen]; omega)
          have SZ6 := Lib.hid (show w3.heap.size ≤ (w3.alloc (.cells #[] 167)).heap.size by simp)
          have hne : ¬ W.heap.size = w3.heap.size := by omega
          have hne2 : W.heap.size < w3.heap.size := by omega
          have BLK7 := Lib.hid (show ∀ (w' : World) row, (w3.alloc (.cells #[] 167)).grownBy w' row → (∀ k, row = some k → w3.heap.size ≤ k) → w'.heap[W.heap.size]? = some (.cells #[.int .i64 c.log, .int .i64 c.pages, .int .i64 c.entities, .int .i64 c.gens, .slice A c.comps.length cap] 88 (0, 0)) from fun w' row hg hr => by rw [hg.block _ (by simp; omega) (fun e => by have := hr _ e.symm; omega), Below.heap_alloc _ _ _ hne2]; exact HZ.out)
          go_wp2_with (refine wpList_spread_leaf (e := 167) (base := w3.heap.size) (Q := fun _ => False) (r := rComp) rComp_leaf rfl _ _ 86 rfl (.agg #[.string ⟨#[]⟩, .int .i64 0]) 2 24 Try.underlying86 infoComp rfl (by decide) rfl _ ([] : List DComp) (by exact rfl) HA6.out _ c.comps (by exact rfl) HX6.out L6.out.1 L6.out.2 SZ6.out ?_; intro v7 w7 hacc7 hgr7 hat7; rw [List.nil_append] at hacc7; obtain ⟨A7, c7, hv7, hc7, hm7⟩ := Rep.acc_form hacc7; subst hv7; have hb7 := BLK7.out w7 _ hgr7 (fun k hk => (Rep.acc_own HA6.out k hk).1); have e0 := cell_row hb7 0; have e1 := cell_row hb7 1; have e2 := cell_row hb7 2; have e3 := cell_row hb7 3; have e4 := cell_row hb7 4; have z4 := frozen_row hb7 4; have H7 := Lib.hid hacc7; have G7 := Lib.hid hgr7; have B7 := Lib.hid hb7; obtain ⟨W8, hW8⟩ : ∃ W8, w7.setCell ⟨W.heap.size, 4, none⟩ (.slice A7 c.comps.length c7) = W8 := ⟨_, rfl⟩; have hb8 := blk_set5 hb7 hW8; have i0 := cell_row hb8 0; have i1 := cell_row hb8 1; have i2 := cell_row hb8 2; have i3 := cell_row hb8 3; have i4 := cell_row hb8 4; have H8 := Lib.hid hW8; clear hacc7 hgr7 hat7 hb7 hb8)
          have hbel7 : Below w3.heap.size w3 w7 := ((Below.refl _ _).alloc (Nat.le_refl _) _).grown G7.out SZ6.out (fun k hk => (Rep.acc_own HA6.out k hk).1)
          have hW1lt : W.heap.size < W1.heap.size := by omega
          have hbel8 : Below W.heap.size W1 W8 := by
            rw [← H8.out]
            exact ((HB3.out.mono (show W.heap.size ≤ W1.heap.size by omega)).trans (hbel7.mono (show W.heap.size ≤ w3.heap.size by omega))).setCell (p := ⟨W.heap.size, 4, none⟩) (Nat.le_refl _) _
          have hs7 : w3.heap.size < w7.heap.size := by
            have := G7.out.size
            simp at this; omega
          have hs8 : W8.heap.size = w7.heap.size := by rw [← H8.out]; simp
          go_ret
          refine ⟨(HBW.out.trans (hbel8.mono (Nat.le_refl _))).alloc (by omega) _, .inr ⟨HF.out, W8.heap.size, A7, c7, fun b => w3.heap.size ≤ b ∧ b < W8.heap.size, rfl, ⟨heap_alloc_new W8 _, ?_, fun b hb => ?_, fun hb => by omega⟩, fun b hb => ?_⟩⟩
          · refine rConf_agg f0 f1 f2 f3 ⟨hc7, hm7, ?_⟩
            obtain ⟨A', c', he, _, _, hat⟩ := Rep.val_list (Rep.acc_val H7.out)
            cases he
            refine Rep.At.keep (w := w7) (fun b hb hl => ?_) hat
            have hb3 : w3.heap.size ≤ b := hb.elim False.elim fun e => (Rep.acc_own H7.out b e).1
            refine ⟨⟨hb3, by rw [hs8]; exact hl.lt⟩, ?_⟩
            rw [Below.heap_alloc _ _ _ (by rw [hs8]; exact hl.lt), ← H8.out]
            exact Below.heap_setCell _ _ _ _ (show b ≠ W.heap.size by omega)
          · rw [World.size_alloc]; omega
          · omega
end Go.Proofs.Ytecdbfbaclgejaa
/- Walks of where a log is. -/
namespace Go.Proofs.Ytecdbfbaclgejaa
open Go.RowKit

set_option maxRecDepth 100000 in
set_option maxHeartbeats 1000000 in
/-- (*wal.Log).at -/
theorem wat_calls {W : World} {L P : Nat} {A : Option Addr} {cap : Nat} {G : Nat → Prop} {c : DConf} {x : LogSt} (h : LogW W L P A cap G c x) :
    Calls Try.prog 143 #[.pointer (some ⟨L, 0, none⟩)] W fun e w' => e = .returned (.agg #[.int .i64 x.epoch, .int .i64 x.head, .int .i64 x.tail, .int .i64 x.seq]) ∧ Below W.heap.size W w' := by
  have hb := h.blk
  have hlt := h.lt L (.inl rfl)
  clear h
  have hb2 : (W.alloc (.cells #[.int .i64 0, .int .i64 0, .int .i64 0, .int .i64 0] 192)).heap[L]? = _ := (Below.heap_alloc _ _ _ hlt).trans hb
  have e6 := cell_row hb2 6
  have e7 := cell_row hb2 7
  have e8 := cell_row hb2 8
  have e9 := cell_row hb2 9
  have hne : ¬ L = W.heap.size := by omega
  go_enter Try.func143, Try.ntmps143
  go_wp2_with fail
  have hfr : Try.f143.results = #[.cell 2 192] := rfl
  refine ⟨rfl, .agg #[.int .i64 x.epoch, .int .i64 x.head, .int .i64 x.tail, .int .i64 x.seq], ?_, rfl, ?_⟩
  · simp only [results, hfr]
    go_simp
  · exact (Below.refl _ _).alloc (Nat.le_refl _) _

set_option maxRecDepth 100000 in
set_option maxHeartbeats 1000000 in
/-- (*wal.Log).at of no log -/
theorem wat_nil (W : World) : Calls Try.prog 143 #[.pointer none] W fun e w' => e = .returned (.agg #[.int .i64 0, .int .i64 0, .int .i64 0, .int .i64 0]) ∧ Below W.heap.size W w' := by
  go_enter Try.func143, Try.ntmps143
  go_wp2_with fail
  have hfr : Try.f143.results = #[.cell 2 192] := rfl
  refine ⟨rfl, .agg #[.int .i64 0, .int .i64 0, .int .i64 0, .int .i64 0], ?_, rfl, (Below.refl _ _).alloc (Nat.le_refl _) _⟩
  simp only [results, hfr]
  go_simp

set_option maxRecDepth 100000 in
set_option maxHeartbeats 1000000 in
/-- (*wal.Log).Head -/
theorem whead_calls {W : World} {L P : Nat} {A : Option Addr} {cap : Nat} {G : Nat → Prop} {c : DConf} {x : LogSt} (h : LogW W L P A cap G c x) :
    Calls Try.prog 79 #[.pointer (some ⟨L, 0, none⟩)] W fun e w' => e = .returned (.int .i64 x.head) ∧ Below W.heap.size W w' := by
  have H := Lib.hid h
  clear h
  obtain ⟨ep, hd, tl, sq⟩ := x
  have hfd : ∀ w : World, (Instr.field 192 (.agg #[.int .i64 ep, .int .i64 hd, .int .i64 tl, .int .i64 sq]) 1).run Try.prog w = .ok (.int .i64 hd) w := fun _ => by kernel_rfl
  go_enter Try.func79, Try.ntmps79
  go_wp2_with fail
  refine (wat_calls H.out).mono ?_
  rintro e w2 ⟨rfl, hb2⟩
  go_wp2_with fail
  go_ret
  exact ⟨rfl, hb2⟩
set_option maxRecDepth 100000 in
set_option maxHeartbeats 1000000 in
/-- (*wal.Log).Head of no log -/
theorem whead_nil (W : World) : Calls Try.prog 79 #[.pointer none] W fun e w' => e = .returned (.int .i64 0) ∧ Below W.heap.size W w' := by
  have hfd : ∀ w : World, (Instr.field 192 (.agg #[.int .i64 0, .int .i64 0, .int .i64 0, .int .i64 0]) 1).run Try.prog w = .ok (.int .i64 0) w := fun _ => by kernel_rfl
  go_enter Try.func79, Try.ntmps79
  go_wp2_with fail
  refine (wat_nil _).mono ?_
  rintro e w2 ⟨rfl, hb2⟩
  go_wp2_with fail
  go_ret
  exact ⟨rfl, hb2⟩

set_option maxRecDepth 100000 in
set_option maxHeartbeats 1000000 in
/-- (*wal.Log).Tail -/
theorem wtail_calls {W : World} {L P : Nat} {A : Option Addr} {cap : Nat} {G : Nat → Prop} {c : DConf} {x : LogSt} (h : LogW W L P A cap G c x) :
    Calls Try.prog 80 #[.pointer (some ⟨L, 0, none⟩)] W fun e w' => e = .returned (.int .i64 x.tail) ∧ Below W.heap.size W w' := by
  have H := Lib.hid h
  clear h
  obtain ⟨ep, hd, tl, sq⟩ := x
  have hfd : ∀ w : World, (Instr.field 192 (.agg #[.int .i64 ep, .int .i64 hd, .int .i64 tl, .int .i64 sq]) 2).run Try.prog w = .ok (.int .i64 tl) w := fun _ => by kernel_rfl
  go_enter Try.func80, Try.ntmps80
  go_wp2_with fail
  refine (wat_calls H.out).mono ?_
  rintro e w2 ⟨rfl, hb2⟩
  go_wp2_with fail
  go_ret
  exact ⟨rfl, hb2⟩
set_option maxRecDepth 100000 in
set_option maxHeartbeats 1000000 in
/-- (*wal.Log).Tail of no log -/
theorem wtail_nil (W : World) : Calls Try.prog 80 #[.pointer none] W fun e w' => e = .returned (.int .i64 0) ∧ Below W.heap.size W w' := by
  have hfd : ∀ w : World, (Instr.field 192 (.agg #[.int .i64 0, .int .i64 0, .int .i64 0, .int .i64 0]) 2).run Try.prog w = .ok (.int .i64 0) w := fun _ => by kernel_rfl
  go_enter Try.func80, Try.ntmps80
  go_wp2_with fail
  refine (wat_nil _).mono ?_
  rintro e w2 ⟨rfl, hb2⟩
  go_wp2_with fail
  go_ret
  exact ⟨rfl, hb2⟩

set_option maxRecDepth 100000 in
set_option maxHeartbeats 1000000 in
/-- (*wal.Log).Seq -/
theorem wseq_calls {W : World} {L P : Nat} {A : Option Addr} {cap : Nat} {G : Nat → Prop} {c : DConf} {x : LogSt} (h : LogW W L P A cap G c x) :
    Calls Try.prog 81 #[.pointer (some ⟨L, 0, none⟩)] W fun e w' => e = .returned (.int .i64 x.seq) ∧ Below W.heap.size W w' := by
  have H := Lib.hid h
  clear h
  obtain ⟨ep, hd, tl, sq⟩ := x
  have hfd : ∀ w : World, (Instr.field 192 (.agg #[.int .i64 ep, .int .i64 hd, .int .i64 tl, .int .i64 sq]) 3).run Try.prog w = .ok (.int .i64 sq) w := fun _ => by kernel_rfl
  go_enter Try.func81, Try.ntmps81
  go_wp2_with fail
  refine (wat_calls H.out).mono ?_
  rintro e w2 ⟨rfl, hb2⟩
  go_wp2_with fail
  go_ret
  exact ⟨rfl, hb2⟩
set_option maxRecDepth 100000 in
set_option maxHeartbeats 1000000 in
/-- (*wal.Log).Seq of no log -/
theorem wseq_nil (W : World) : Calls Try.prog 81 #[.pointer none] W fun e w' => e = .returned (.int .i64 0) ∧ Below W.heap.size W w' := by
  have hfd : ∀ w : World, (Instr.field 192 (.agg #[.int .i64 0, .int .i64 0, .int .i64 0, .int .i64 0]) 3).run Try.prog w = .ok (.int .i64 0) w := fun _ => by kernel_rfl
  go_enter Try.func81, Try.ntmps81
  go_wp2_with fail
  refine (wat_nil _).mono ?_
  rintro e w2 ⟨rfl, hb2⟩
  go_wp2_with fail
  go_ret
  exact ⟨rfl, hb2⟩

set_option maxRecDepth 100000 in
set_option maxHeartbeats 1000000 in
/-- (*wal.Log).Epoch -/
theorem wepoch_calls {W : World} {L P : Nat} {A : Option Addr} {cap : Nat} {G : Nat → Prop} {c : DConf} {x : LogSt} (h : LogW W L P A cap G c x) :
    Calls Try.prog 82 #[.pointer (some ⟨L, 0, none⟩)] W fun e w' => e = .returned (.int .i64 x.epoch) ∧ Below W.heap.size W w' := by
  have H := Lib.hid h
  clear h
  obtain ⟨ep, hd, tl, sq⟩ := x
  have hfd : ∀ w : World, (Instr.field 192 (.agg #[.int .i64 ep, .int .i64 hd, .int .i64 tl, .int .i64 sq]) 0).run Try.prog w = .ok (.int .i64 ep) w := fun _ => by kernel_rfl
  go_enter Try.func82, Try.ntmps82
  go_wp2_with fail
  refine (wat_calls H.out).mono ?_
  rintro e w2 ⟨rfl, hb2⟩
  go_wp2_with fail
  go_ret
  exact ⟨rfl, hb2⟩
set_option maxRecDepth 100000 in
set_option maxHeartbeats 1000000 in
/-- (*wal.Log).Epoch of no log -/
theorem wepoch_nil (W : World) : Calls Try.prog 82 #[.pointer none] W fun e w' => e = .returned (.int .i64 0) ∧ Below W.heap.size W w' := by
  have hfd : ∀ w : World, (Instr.field 192 (.agg #[.int .i64 0, .int .i64 0, .int .i64 0, .int .i64 0]) 0).run Try.prog w = .ok (.int .i64 0) w := fun _ => by kernel_rfl
  go_enter Try.func82, Try.ntmps82
  go_wp2_with fail
  refine (wat_nil _).mono ?_
  rintro e w2 ⟨rfl, hb2⟩
  go_wp2_with fail
  go_ret
  exact ⟨rfl, hb2⟩

set_option maxRecDepth 100000 in
set_option maxHeartbeats 1000000 in
/-- (*wal.Log).Truncate of no log -/
theorem wtrunc_nil (W : World) : Calls Try.prog 75 #[.pointer none] W fun e w' => e = .returned (.tuple #[]) ∧ w' = W := by
  go_enter Try.func75, Try.ntmps75
  go_wp2_with fail
  exact ⟨rfl, .tuple #[], by simp [results], rfl, rfl⟩

set_option maxRecDepth 100000 in
set_option maxHeartbeats 1000000 in
/-- (*wal.Log).Sync of no log -/
theorem wsync_nil (W : World) : Calls Try.prog 77 #[.pointer none] W fun e w' => e = .returned (.int .i64 4) ∧ w' = W := by
  go_enter Try.func77, Try.ntmps77
  go_wp2_with fail
  go_ret
  exact ⟨rfl, rfl⟩

set_option maxRecDepth 100000 in
set_option maxHeartbeats 1000000 in
/-- (*wal.Log).Append of no log -/
theorem wappend_nil (W : World) (v : Value) : Calls Try.prog 76 #[.pointer none, v] W fun e w' => e = .returned (.int .i64 4) ∧ w' = W := by
  go_enter Try.func76, Try.ntmps76
  go_wp2_with fail
  go_ret
  exact ⟨rfl, rfl⟩

set_option maxRecDepth 100000 in
set_option maxHeartbeats 1000000 in
/-- (*wal.Log).Room of no log -/
theorem wroom_nil (W : World) : Calls Try.prog 78 #[.pointer none] W fun e w' => e = .returned (.int .i64 0) ∧ w' = W := by
  go_enter Try.func78, Try.ntmps78
  go_wp2_with fail
  go_ret
  exact ⟨rfl, rfl⟩

set_option maxRecDepth 100000 in
set_option maxHeartbeats 1000000 in
/-- (*wal.Log).Truncate -/
theorem wtrunc_calls {W : World} {L P : Nat} {A : Option Addr} {cap : Nat} {G : Nat → Prop} {c : DConf} {x : LogSt} (h : LogW W L P A cap G c x) :
    Calls Try.prog 75 #[.pointer (some ⟨L, 0, none⟩)] W fun e w' => e = .returned (.tuple #[]) ∧ LogW w' L P A cap G c { x with head := x.tail } ∧ Only (fun b => b = L) W w' := by
  have H := Lib.hid h
  have hb := h.blk
  have e8 := cell_row hb 8
  have e7 := cell_row hb 7
  have z7 := frozen_row hb 7
  clear h hb
  go_enter Try.func75, Try.ntmps75
  go_wp2_with fail
  refine ⟨rfl, .tuple #[], by simp [results], rfl, ⟨heap_setRow H.out.blk, Rep.val_keep (fun b hb _ => ⟨hb, Below.heap_setCell _ _ _ _ (fun e => H.out.ne (by rw [← show b = L from e]; exact hb))⟩) H.out.conf, fun b hb => ?_, H.out.ne⟩, Only.set rfl⟩
  have := H.out.lt b hb
  simpa using this
end Go.Proofs.Ytecdbfbaclgejaa
/- Walk of bytes cut to a length: the program's. -/
namespace Go.Proofs.Ytecdbfbaclgejaa
open Go.RowKit
open Extern.Stop (cell)

theorem zeroBytes_is (n : Nat) : zeroBytes n = ((zeros n).map cell).toArray := by
  apply Array.ext'
  rw [zeroBytes, toList_madeCells_one]
  simp [zeros, cell]
theorem cut_splice (l : List UInt8) (n : Nat) : splice (zeros n) 0 (l.take n) = cutTo l n := by
  have hk : (l.take n).length ≤ n := by rw [List.length_take]; omega
  have hz : zeros n = zeros (l.take n).length ++ zeros (n - (l.take n).length) := by rw [← zeros_add]; congr 1; omega
  have h2 : n - (l.take n).length = n - l.length := by rw [List.length_take]; omega
  rw [hz, splice_here (zeros_length _), cutTo, h2]; rfl

set_option maxRecDepth 100000 in
set_option maxHeartbeats 1000000 in
/-- le.Cut -/
theorem lecut_calls {Q : Nat → Prop} {w : World} {v : Value} {l : List UInt8} {n : Nat} (hx : Rep.byte.list.val Q w v l) (hn : n ≤ 65535) :
    Calls Try.prog 203 #[v, .int .i64 n] w fun e w' => e = .returned (.slice (some ⟨w.heap.size, 0, none⟩) n n) ∧ w'.heap[w.heap.size]? = some (.cells ((cutTo l n).map cell).toArray 5 (0, 0)) ∧ Below w.heap.size w w' := by
  obtain ⟨A, c, rfl, hs⟩ := Rep.val_sl hx
  have hmk : ∀ w, (Instr.makeSlice 22 (.int .i64 (n : Int)) (.int .i64 (n : Int))).run Try.prog w = .ok (.slice (some ⟨w.heap.size, 0, none⟩) n n) (w.alloc (.cells (zeroBytes n) 5)) :=
    fun w => run_make_bytes Try.underlying22 info5 n (by omega) w
  have HG := Lib.hid (show (w.alloc (.cells (zeroBytes n) 5)).heap[w.heap.size]? = some (.cells ((zeros n).map cell).toArray 5 (0, 0)) by rw [heap_alloc_new, zeroBytes_is])
  have HB := Lib.hid (show Below w.heap.size w (w.alloc (.cells (zeroBytes n) 5)) from (Below.refl _ _).alloc (Nat.le_refl _) _)
  have HS := Lib.hid (hs.keep (w' := w.alloc (.cells (zeroBytes n) 5)) (Q' := fun _ => True) fun b hb hl => ⟨trivial, Below.heap_alloc _ _ _ hl.lt⟩)
  have HC := Lib.hid (copy_from (X := l.take n) (c := c) (A := A) (w := w.alloc (.cells (zeroBytes n) 5)) (Q := fun _ => True) (by have := HS.out; exact ⟨by rw [List.length_take]; have := this.1; omega, this.2.1, this.2.2.take n⟩))
  have HE := Lib.hid (cut_splice l n)
  have HL := Lib.hid (show ((l.take n).map cell).length = Nat.min l.length n by rw [List.length_map, List.length_take]; exact Nat.min_comm _ _)
  have HF := Lib.hid (show 0 + ((l.take n).map cell).length ≤ ((zeros n).map cell).length by rw [List.length_map, List.length_map, List.length_take, zeros_length]; omega)
  have n1 : (0 : Int) ≤ n := by omega
  have n2 : (n : Int) ≤ 65535 := by omega
  clear hx hs hn
  obtain ⟨Y, hY⟩ : ∃ Y, Y = l.take n := ⟨_, rfl⟩
  rw [← hY] at HC HE HL HF
  clear hY
  obtain ⟨Z, hZ⟩ : ∃ Z, Z = zeroBytes n := ⟨_, rfl⟩
  rw [← hZ] at hmk HG HB HC
  clear HS hZ
  go_enter Try.func203, Try.ntmps203
  go_wp2_with (refine wpList_copy_splice rfl (.tmp 10) (.tmp 11) 22 22 rfl 5 Try.underlying22 size5 (some ⟨w.heap.size, 0, none⟩) A n n l.length c (by exact rfl) (by exact rfl) w.heap.size 0 ((zeros n).map cell) 5 HG.out (Y.map cell) HL.out (fun h => ⟨rfl, HC.out h⟩) HF.out (copy_one Y) w.heap.size w HB.out (Nat.le_refl _) ?_; intro w5 hg5 hb5; have H5 := Lib.hid hg5.out; have D5 := Lib.hid hb5; clear hg5 hb5)
  go_ret
  exact ⟨rfl, by rw [H5.out, ← splice_map, HE.out], D5.out⟩
end Go.Proofs.Ytecdbfbaclgejaa
