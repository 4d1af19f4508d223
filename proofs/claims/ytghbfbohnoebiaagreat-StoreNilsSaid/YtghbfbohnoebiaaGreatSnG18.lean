/- Texts on which the proofs stand: Chunk, Cut. No condition is laid on any input. -/
import Derived.Test.YtghbfbohnoebiaaGreatSnG5
import Derived.Test.YtghbfbohnoebiaaGreatSnG10
import Derived.Shelf.Abstract
import Derived.Shelf.RegionOpen
import Derived.OwnWalkIn
import Derived.TacticsInMore
import Derived.LoopNIn
import Derived.LoopIn
namespace Go.Proofs.YtghbfbohnoebiaaGreat
open Go.RowKit Go.Shelf
attribute [local go_sem] Oper.semAt_some

/-- slices.Chunk: the slice and the number are boxed. -/
theorem chunk_in (n : Nat) (A : Option Addr) (len cap : Nat) (w : World) :
    CallsIn Fence.wide n Tryz.prog 167 #[.slice A len cap, .int .i64 472] w fun e w' => e = .returned (.func (.func 204) #[] #[.pointer (some ⟨w.heap.size, 0, none⟩), .pointer (some ⟨w.heap.size + 1, 0, none⟩)]) ∧ w' = (w.alloc (.cells #[.slice A len cap] 71)).alloc (.cells #[.int .i64 472] 3) := by
  refine callsIn_wide.2 ?_
  go_enter Tryz.func167, Tryz.ntmps167
  go_wp2_with fail
  go_ret
  exact ⟨rfl, rfl⟩

def chunkVal (b off len k : Nat) : Value := .slice (some ⟨b, off + 472 * k, none⟩) (min 472 (len - 472 * k)) (min 472 (len - 472 * k))

/-- Two blocks lie as0 they lay. -/
def Both (b c : Nat) (W W' : World) : Prop := W'.heap[b]? = W.heap[b]? ∧ W'.heap[c]? = W.heap[c]?
theorem both_t {b c : Nat} {X Y Z : World} (h : Both b c X Y) (k : Both b c Y Z) : Both b c X Z := ⟨k.1.trans h.1, k.2.trans h.2⟩
theorem both_b {b c : Nat} {w : World} (hb : b < w.heap.size) (hc : c < w.heap.size) (W : World) (l : Nat) (o o' : Obj) (hl : w.heap.size ≤ l) (_ : W.heap[l]? = some o) (_ : o.isCells = false) (_ : o.isWalk = false) : Both b c W (W.putObj l o') :=
  ⟨World.putObj_heap_other (by omega), World.putObj_heap_other (by omega)⟩

set_option maxRecDepth 100000 in
set_option maxHeartbeats 2000000 in
/-- slices.Chunk's closure at a slice that has elements. -/
theorem chunk1_in (n l Bs Bn b off len cap N : Nat) (hn : 1 ≤ n) (hN : N = (len + 471) / 472) (hlen : len ≤ 100000000000000) (hcap : len ≤ cap) (J Jx : List (Fin N) → World → Prop) (hJd : ∀ s W m, J s W → J s (W.drewN m))
    (hY : ∀ pre x W, J pre W → pre.length < N → YieldAt Fence.wide (n - 1) Tryz.prog l #[chunkVal b off len x.1] W fun e W' =>
      (e = .returned (.bool true) ∧ J (pre ++ [x]) W' ∧ Both Bs Bn W W') ∨ (e = .returned (.bool false) ∧ Jx (pre ++ [x]) W'))
    (W : World) (hBs : W.cell? ⟨Bs, 0, none⟩ = some (.slice (some ⟨b, off, none⟩) len cap)) (hBn : W.cell? ⟨Bn, 0, none⟩ = some (.int .i64 472)) (h0 : J [] W) :
    CallsIn Fence.wide n Tryz.prog 204 #[.func (.yield l) #[] #[], .pointer (some ⟨Bs, 0, none⟩), .pointer (some ⟨Bn, 0, none⟩)] W fun e W' => (∃ v, e = .returned v) ∧
      ((∃ ys, ys.map Fin.val = List.range N ∧ J ys W') ∨ (∃ pre, True ∧ Jx pre W')) := by
  refine callsIn_of_wp Tryz.func204 rfl trivial ?_ rfl
  simp only [Tryz.ntmps204, List.size_toArray, List.length_cons, List.length_nil, Nat.reduceAdd, Nat.reduceSub, Array.replicate_succ, Array.replicate_zero, List.push_toArray, List.append_toArray, List.nil_append, List.cons_append]
  gi_wp2
  gi_loopw [4] (fun v wr => ∃ k i : Nat, k ≤ N ∧ Hid (i = 472 * k) ∧ v = .int .i64 i ∧ (∃ ys : List (Fin N), ys.map Fin.val = List.range k ∧ J ys wr) ∧ Both Bs Bn W wr)
    (fun i _ => len + 472 - (intOf i).toNat)
  case atStart => exact ⟨0, 0, Nat.zero_le _, rfl, rfl, ⟨[], rfl, h0⟩, rfl, rfl⟩
  case round =>
    obtain ⟨k, i, hk, hi, rfl, ⟨ys, hys, hJs⟩, hnx⟩ := hrel
    have hc1 : wr.cell? ⟨Bs, 0, none⟩ = some (.slice (some ⟨b, off, none⟩) len cap) := (World.cell?_of_block hnx.1).trans hBs
    have hc2 : wr.cell? ⟨Bn, 0, none⟩ = some (.int .i64 472) := (World.cell?_of_block hnx.2).trans hBn
    have HYS := Lib.hid hys
    clear hys
    by_cases hlt : i < len
    · have hkN : k < N := by have := hi.out; omega
      have hylen : ys.length < N := by have := congrArg List.length HYS.out; simp at this; omega
      have hcv : ∀ m, m = min 472 (len - i) → chunkVal b off len k = .slice (some ⟨b, off + i, none⟩) m m := by intro m hm; rw [chunkVal, ← hi.out, hm]
      have i1 : (i : Int) < (len : Int) := by omega
      have HN := Lib.hid hN
      clear hN
      have hmix : Tryz.prog.follows .mixedOrders = true := by kernel_rfl
      rcases Nat.lt_or_ge (len - i) 472 with hm | hm
      · have hm1 := hcv (len - i) (by omega)
        have HM := Lib.hid hm1
        clear hm1 hcv
        have i2 : ((len - i : Nat) : Int) < 472 := by omega
        have i3 : ((i : Int) + ((len - i : Nat) : Int)) = (len : Int) := by omega
        gi_wp2
        gi_big_quiet_th_o (fail)
        obtain ⟨fn, tmps, assign, body, hy, hR⟩ := hY ys ⟨k, hkN⟩ (wr.drewN nq) (hJd _ _ _ hJs) hylen
        dsimp only at hy
        rw [HM.out] at hy
        gi_wp2
        refine hR.mono ?_
        rintro e W3 (⟨rfl, hJ3, hk3⟩ | ⟨rfl, hJx3⟩)
        · have hc3 : W3.cell? ⟨Bn, 0, none⟩ = some (.int .i64 472) := (World.cell?_of_block (w := wr) hk3.2).trans hc2
          have hb3 : Both Bs Bn W W3 := both_t hnx ⟨hk3.1, hk3.2⟩
          gi_wp2
          go_roundw
          case rel => exact ⟨k + 1, i + 472, by omega, by have := hi.out; unfold Hid; omega, by go_num, ⟨ys ++ [⟨k, hkN⟩], by rw [List.map_append, HYS.out, List.range_succ]; rfl, hJ3⟩, hb3⟩
          case measure => simp [intOf]; omega
        · gi_wp2
          refine bodyPost_ret (results_none rfl _ _ _) rfl ?_
          exact ⟨⟨_, rfl⟩, .inr ⟨_, trivial, hJx3⟩⟩
      · have hm1 := hcv 472 (by omega)
        have HM := Lib.hid hm1
        clear hm1 hcv
        have i2 : ¬ ((len - i : Nat) : Int) < 472 := by omega
        have i3 : (i : Int) + 472 ≤ (len : Int) := by omega
        gi_wp2
        gi_big_quiet_th_o (fail)
        obtain ⟨fn, tmps, assign, body, hy, hR⟩ := hY ys ⟨k, hkN⟩ (wr.drewN nq) (hJd _ _ _ hJs) hylen
        dsimp only at hy
        rw [HM.out] at hy
        gi_wp2
        refine hR.mono ?_
        rintro e W3 (⟨rfl, hJ3, hk3⟩ | ⟨rfl, hJx3⟩)
        · have hc3 : W3.cell? ⟨Bn, 0, none⟩ = some (.int .i64 472) := (World.cell?_of_block (w := wr) hk3.2).trans hc2
          have hb3 : Both Bs Bn W W3 := both_t hnx ⟨hk3.1, hk3.2⟩
          gi_wp2
          go_roundw
          case rel => exact ⟨k + 1, i + 472, by omega, by have := hi.out; unfold Hid; omega, by go_num, ⟨ys ++ [⟨k, hkN⟩], by rw [List.map_append, HYS.out, List.range_succ]; rfl, hJ3⟩, hb3⟩
          case measure => simp [intOf]; omega
        · gi_wp2
          refine bodyPost_ret (results_none rfl _ _ _) rfl ?_
          exact ⟨⟨_, rfl⟩, .inr ⟨_, trivial, hJx3⟩⟩
    · have hke : k = N := by have := hi.out; omega
      have HK := Lib.hid hke
      clear hke
      have i1 : ¬ (i : Int) < (len : Int) := by omega
      gi_wp2
      go_end0
      exact ⟨⟨_, rfl⟩, .inl ⟨ys, by rw [HYS.out, HK.out]; exact congrArg List.range hN, hJs⟩⟩

set_option maxRecDepth 100000 in
set_option maxHeartbeats 1000000 in
/-- .. at a slice without elements. -/
theorem chunk0_in (n l Bs Bn cap : Nat) (A : Option Addr) (J : List (Fin 0) → World → Prop) (W : World) (hBs : W.cell? ⟨Bs, 0, none⟩ = some (.slice A 0 cap)) (h0 : J [] W) :
    CallsIn Fence.wide n Tryz.prog 204 #[.func (.yield l) #[] #[], .pointer (some ⟨Bs, 0, none⟩), .pointer (some ⟨Bn, 0, none⟩)] W fun e W' => (∃ v, e = .returned v) ∧ J [] W' := by
  refine callsIn_of_wp Tryz.func204 rfl trivial ?_ rfl
  simp only [Tryz.ntmps204, List.size_toArray, List.length_cons, List.length_nil, Nat.reduceAdd, Nat.reduceSub, Array.replicate_succ, Array.replicate_zero, List.push_toArray, List.append_toArray, List.nil_append, List.cons_append]
  gi_wp2
  gi_loopw [4] (fun i wr => i = .int .i64 0 ∧ J [] wr ∧ wr = W) (fun _ _ => 0)
  case atStart => exact ⟨rfl, h0, rfl⟩
  case round =>
    obtain ⟨rfl, hJs, rfl⟩ := hrel
    gi_wp2
    go_end0
    exact ⟨⟨_, rfl⟩, hJs⟩

theorem abides_drewN {β : Type} {B : Nat} {J : β → World → Prop} (h : AbidesFrom B J) : ∀ s W m, J s W → J s (W.drewN m) :=
  fun s W m hs => h s W (W.drewN m) none hs ⟨rfl, rfl, rfl, Nat.le_refl _, fun _ _ _ => rfl⟩ (fun r e => by cases e)

/-- slices.Chunk's value keeps the contract of an iterator. -/
theorem chunk_stops (n Bs Bn : Nat) (A : Option Addr) (b off len cap N : Nat) (hn : 1 ≤ n) (hN : N = (len + 471) / 472) (hlen : len ≤ 100000000000000) (hcap : len ≤ cap) (hA : 0 < len → A = some ⟨b, off, none⟩) (w : World)
    (hB1 : Bs < w.heap.size) (hB2 : Bn < w.heap.size) (hBs : w.cell? ⟨Bs, 0, none⟩ = some (.slice A len cap)) (hBn : w.cell? ⟨Bn, 0, none⟩ = some (.int .i64 472)) :
    SeqStopsK Fence.wide n Tryz.prog 204 #[.pointer (some ⟨Bs, 0, none⟩), .pointer (some ⟨Bn, 0, none⟩)] (fun k : Fin N => #[chunkVal b off len k.1]) (Both Bs Bn) (fun ys => ys.map Fin.val = List.range N) (fun _ => True) N w :=
  fun l J Jx W hW hJ _ hY h0 => by
    have hc1 := (hW.cell (p := ⟨Bs, 0, none⟩) hB1).trans hBs
    have hc2 := (hW.cell (p := ⟨Bn, 0, none⟩) hB2).trans hBn
    rcases Nat.eq_zero_or_pos len with h | h
    · subst h
      obtain rfl : N = 0 := by omega
      exact (chunk0_in n l Bs Bn cap A J W hc1 h0).mono fun e W' ⟨he, hj⟩ => ⟨he, .inl ⟨[], rfl, hj⟩⟩
    · obtain rfl := hA h
      exact chunk1_in n l Bs Bn b off len cap N hn hN hlen hcap J Jx (abides_drewN hJ) hY W hc1 hc2 h0
end Go.Proofs.YtghbfbohnoebiaaGreat
namespace Go.Proofs.YtghbfbohnoebiaaGreat
open Go.RowKit Go.Shelf
attribute [local go_sem] Oper.semAt_some

theorem info22' : (Tryz.prog.info? 71).map (fun i => (i.zero, i.size)) = some (some (.slice none 0 0), 1) := by kernel_rfl

theorem own_acc {β α : Type} (r : Rep α) (e base : Nat) (Q : Nat → Prop) (B : Nat) (t : TypeId) (f : β → List α) : Own (fun s W => ∃ v, Boxed W B t v ∧ r.acc e base Q W v (f s)) := by
  rintro s X Y row ⟨v, hv, hr⟩ hg hrow
  have hk : ∀ b, IsC X b → row ≠ some b := by
    rintro b ⟨c, e', f', hb⟩ he
    obtain ⟨o, ho, hc⟩ := hrow b he
    rw [hb] at ho; cases ho; cases hc
  refine ⟨v, hv.kept hg (fun e' => hk B ⟨_, _, _, hv⟩ e'.symm), Rep.acc_keep (fun b _ hb => hg.block b hb.lt (fun e' => hk b hb e'.symm)) (fun _ hb _ => hb) hr⟩

set_option maxRecDepth 100000 in
set_option maxHeartbeats 2000000 in
/-- page.Cut -/
theorem cut_calls {Q : Nat → Prop} {w : World} {v : Value} {l : List UInt8} (hx : Rep.byte.list.val Q w v l) (hl : l.length ≤ 1000000) :
    Calls Tryz.prog 117 #[v] w (Res Rep.byte.list.list (fun b => w.heap.size ≤ b) w (cut l)) := by
  obtain ⟨A, c, rfl, hc1, hc2, hA⟩ := Rep.val_list hx
  obtain ⟨b, off, hAb⟩ : ∃ b off, 0 < l.length → A = some ⟨b, off, none⟩ := by
    rcases Nat.eq_zero_or_pos l.length with h | h
    · exact ⟨0, 0, fun h' => absurd h' (by omega)⟩
    · obtain ⟨b, off, h'⟩ := hA.addr h; exact ⟨b, off, fun _ => h'⟩
  obtain ⟨N, hN⟩ : ∃ N, N = (l.length + 471) / 472 := ⟨_, rfl⟩
  refine (callsIn_wide (n := 9)).1 ?_
  refine callsIn_of_wp_marks Tryz.func117 rfl trivial ?_ rfl
  simp only [Tryz.ntmps117, List.size_toArray, List.length_cons, List.length_nil, Nat.reduceAdd, Nat.reduceSub, Array.replicate_succ, Array.replicate_zero, List.push_toArray, List.append_toArray, List.nil_append, List.cons_append]
  have HB := Lib.hid hAb
  have HA := Lib.hid hA
  have HN := Lib.hid hN
  clear hAb hA hx hN
  gi_wp2_with (refine ⟨trivial, ?_⟩; gi_at_call 167; refine (chunk_in 8 _ _ _ _).mono ?_; rintro e w' ⟨rfl, rfl⟩)
  have bO := Boxed.new w 28 (.slice none 0 0)
  have bS := Boxed.new (w.alloc (.cells #[.slice none 0 0] 28)) 71 (.slice A l.length c)
  have bN := Boxed.new ((w.alloc (.cells #[.slice none 0 0] 28)).alloc (.cells #[.slice A l.length c] 71)) 3 (.int .i64 472)
  simp only [World.size_alloc] at bS bN
  obtain ⟨W0, hW0⟩ : ∃ W0, ((w.alloc (.cells #[.slice none 0 0] 28)).alloc (.cells #[.slice A l.length c] 71)).alloc (.cells #[.int .i64 472] 3) = W0 := ⟨_, rfl⟩
  have hsz : W0.heap.size = w.heap.size + 3 := by rw [← hW0]; simp
  have hB0 : Below w.heap.size w W0 := by rw [← hW0]; exact (((Below.refl _ w).alloc (Nat.le_refl _) _).alloc (by simp) _).alloc (by simp; omega) _
  replace bO : Boxed W0 w.heap.size 28 (.slice none 0 0) := by rw [← hW0]; exact (bO.alloc _).alloc _
  replace bS : Boxed W0 (w.heap.size + 1) 71 (.slice A l.length c) := by rw [← hW0]; exact bS.alloc _
  replace bN : Boxed W0 (w.heap.size + 2) 3 (.int .i64 472) := by rw [← hW0]; exact bN
  rw [hW0]
  clear hW0
  refine wpIn_rangeFunc_ownG rfl (by omega) (gf := 204) (lb := #[.pointer (some ⟨w.heap.size + 1, 0, none⟩), .pointer (some ⟨w.heap.size + 2, 0, none⟩)]) rfl trivial (enters_of Tryz.func204 (by kernel_rfl) rfl)
    (chunk_stops 8 (w.heap.size + 1) (w.heap.size + 2) A b off l.length c N (by omega) HN.out (by omega) hc1 HB.out W0 (by omega) (by omega) bS.cell bN.cell) both_t (both_b (by omega) (by omega)) (Below.refl _ _) (fun _ => rfl)
    (fun (pre : List (Fin N)) W => (∃ v, Boxed W w.heap.size 28 v ∧ Rep.byte.list.acc 71 (w.heap.size + 3) (fun b => w.heap.size + 3 ≤ b) W v (pre.map fun k => piece l k.1)) ∧ Below w.heap.size w W ∧ w.heap.size + 3 ≤ W.heap.size)
    (fun _ _ _ => False)
    (OwnFrom.and (Own.from (own_acc Rep.byte.list 71 (w.heap.size + 3) (fun b => w.heap.size + 3 ≤ b) w.heap.size 28 (fun pre : List (Fin N) => pre.map fun k => piece l k.1)) _) (OwnFrom.and (ownFrom_below (Nat.le_refl _) (by omega)) (fun _ _ _ _ hs hg _ => Nat.le_trans hs hg.size)))
    (fun _ _ _ _ _ hs _ _ => hs)
    ⟨⟨_, bO, Rep.acc_nil⟩, hB0, by omega⟩
    (fun x => { tmps := #[.slice A l.length c, undef, .slice none 0 0, .pointer (some ⟨w.heap.size, 0, none⟩), chunkVal b off l.length x.1, .slice A l.length c, .func (.func 204) #[] #[.pointer (some ⟨w.heap.size + 1, 0, none⟩), .pointer (some ⟨w.heap.size + 2, 0, none⟩)], chunkVal b off l.length x.1, undef, undef, undef, undef, undef, undef], defers := [] }) ?assign ?body ?done ?stop
  case assign =>
    intro l x W K hK
    gi_wp2
    exact hK
  case body =>
    rintro lr pre x W ⟨⟨v, hv, hacc⟩, hB, hsz3⟩ hlt
    have hx472 : 472 * x.1 < l.length := by have := x.2; have := HN.out; omega
    obtain rfl := HB.out (by omega)
    have hpl : (piece l x.1).length = min 472 (l.length - 472 * x.1) := by simp [piece]
    have hAW : ∀ W' : World, Below W.heap.size W W' → Rep.byte.list.val (fun b => b < w.heap.size) W' (chunkVal b off l.length x.1) (piece l x.1) := fun W' hW' => by
      have h1 : Rep.byte.At (fun b => b < w.heap.size) w (some ⟨b, off, none⟩) l := HA.out.keep (w := w) (fun b _ hb => ⟨hb.lt, rfl⟩)
      have h2 : Rep.byte.At (fun b => b < w.heap.size) W' (some ⟨b, off, none⟩) l := h1.below (hB.trans (hW'.mono hB.size)) (fun _ hb _ => hb)
      have h3 := (h2.drop (n := 472 * x.1) (by omega)).take 472
      simp only [Rep.byte, Nat.mul_one] at h3
      exact Rep.list_val hpl.symm (Nat.le_refl _) (by unfold maxLen; omega) h3
    have hml : (pre.map fun k => piece l k.1).length + 1 ≤ maxLen ∧ ((pre.map fun k => piece l k.1).length + 1) * 24 ≤ 140737488355328 := by
      rw [List.length_map]; have := HN.out; unfold maxLen; omega
    have hpb : (piece l x.1).length ≤ 100000000000000 := by omega
    clear hpl
    refine wpIn_block ?_
    refine region_round (by kernel_rfl) (noDefer_spec rfl) (by rintro ⟨_, _, h⟩; exact h) ?_
    refine wpAny_take (i := 1) (v := chunkVal b off l.length x.1) rfl (by kernel_rfl) (by kernel_rfl) (by kernel_rfl) (fun _ _ _ h => h) (Or.inl ⟨by rfl, fun _ => rfl⟩) ?_
    have hvW : ∀ W' : World, Below W.heap.size W W' → Boxed W' w.heap.size 28 v := fun W' hW' => (hW'.block _ (by omega)).trans hv
    have hbd : Below W.heap.size W W.drew := (Below.refl _ _).drew
    have hcall : ∀ W' : World, Below W.heap.size W W' → Calls Tryz.prog 165 #[chunkVal b off l.length x.1] W' (Res Rep.byte.list (fun b' => W'.heap.size ≤ b') W' (piece l x.1)) := fun W' hW' => bytesClone (hAW W' hW') hpb
    have hfresh : ∀ (W' : World), Below W.heap.size W W' → ∀ (W2 : World) (u : Value), Rep.byte.list.val (fun b' => W'.heap.size ≤ b') W2 u (piece l x.1) → Rep.byte.list.val (fun b' => w.heap.size + 3 ≤ b' ∧ v.ownBlock ≠ some b') W2 u (piece l x.1) := fun W' hW' W2 u hu =>
      Rep.val_mono (fun b' hb' _ => ⟨Nat.le_trans hsz3 (Nat.le_trans hW'.size hb'), fun he => by have := (Rep.acc_own hacc b' he).2; have := hW'.size; omega⟩) hu
    have hbuild : ∀ (W2 : World) (u : Value), Rep.byte.list.val (fun b' => w.heap.size + 3 ≤ b' ∧ v.ownBlock ≠ some b') W2 u (piece l x.1) → Below W.heap.size W W2 →
        Rep.byte.list.val (fun b' => w.heap.size + 3 ≤ b' ∧ v.ownBlock ≠ some b') (W2.alloc (.cells u.cells 71)) u (piece l x.1) ∧ Below W.heap.size W (W2.alloc (.cells u.cells 71)) ∧ (W2.alloc (.cells u.cells 71)).heap[W2.heap.size]? = some (.cells u.cells 71 (0, 0)) ∧ u.cells.size = 1 := fun W2 u hu hb2 =>
      ⟨Rep.val_keep (w := W2) (fun b' hb' hl => ⟨hb', Below.heap_alloc _ _ _ hl.lt⟩) hu, hb2.alloc hb2.size _, heap_alloc_new W2 _, by obtain ⟨A', c', rfl, _⟩ := Rep.val_list hu; rfl⟩
    refine any_step [0, 2] (by kernel_rfl) (by simp) ?_
    intro i hi
    rcases (by simpa using hi : i = 0 ∨ i = 2) with rfl | rfl
    · refine wpOp_step rfl (fun K hK => ?_)
      have hc := (hvW _ hbd).cell
      go_simp
      clear hc
      refine hK _ _ ?_
      clear hK K
      refine any_step [2] (by kernel_rfl) (by simp) ?_
      intro i hi
      obtain rfl : i = 2 := by simpa using hi
      refine wpOp_step rfl (fun K hK => ?_)
      go_simp
      refine (hcall _ hbd).mono ?_
      rintro e W2 ⟨u, rfl, hu, hb2⟩
      refine hK _ _ ?_
      clear hK K
      have hbW2 : Below W.heap.size W W2 := (hbd).trans (hb2.mono (hbd).size)
      have hu2 := hfresh _ hbd W2 u hu
      obtain ⟨Au, cu, rfl, _, _, _⟩ := Rep.val_list hu
      refine any_step [3] (by kernel_rfl) (by simp) ?_
      intro i hi
      obtain rfl : i = 3 := by simpa using hi
      refine wpOp_step rfl (fun K hK => ?_)
      refine step_run rfl (exec_buildSlice (vy := .slice Au (piece l x.1).length cu) rfl (.slice none 0 0) 1 Tryz.underlying28 info22' rfl rfl (by decide)) ?_
      go_simp
      refine hK _ _ ?_
      clear hK K
      obtain ⟨hu3, hbW3, hg3, _⟩ := hbuild W2 _ hu2 hbW2
      simp only [Value.cells] at hu3 hbW3 hg3
      obtain ⟨v', w1, q1, q2, q3, q4, q5, q6, q7, q8⟩ := box_collect (P := Tryz.prog) (ty := 28) Tryz.underlying28 info22 rfl (by decide) rfl hv (by omega) hsz3 (fun b' hb' => by omega) hacc hbW3 hu3 hg3 hml.1 hml.2
      have hform := Rep.acc_form q4
      refine any_step [4] (by kernel_rfl) (by simp) ?_
      intro i hi
      obtain rfl : i = 4 := by simpa using hi
      refine wpOp_step rfl (fun K hK => ?_)
      refine step_run rfl (exec_append (by rfl) (by rfl) (by rfl) q1) ?_
      go_simp
      refine hK _ _ ?_
      clear hK K
      refine any_step [5] (by kernel_rfl) (by simp) ?_
      intro i hi
      obtain rfl : i = 5 := by simpa using hi
      refine wpOp_step rfl (fun K hK => ?_)
      refine step_run_skip rfl (exec_store_box (by rfl) (by rfl) (by rfl) (by kernel_rfl) q2 (by obtain ⟨A', c', h, _⟩ := hform; exact ⟨_, _, _, h⟩)) ?_
      go_simp
      refine hK _ _ ?_
      clear hK K
      refine wpAny_done (by kernel_rfl) ?_ _
      exact ⟨q5.from _, ⟨q7 _ (by omega) (by omega), q7 _ (by omega) (by omega)⟩, ⟨v', q3, by rw [List.map_append]; exact q4⟩, hB.trans (q6.mono (by omega)), Nat.le_trans hsz3 q5.size⟩
    · refine wpOp_step rfl (fun K hK => ?_)
      go_simp
      refine (hcall _ hbd).mono ?_
      rintro e W2 ⟨u, rfl, hu, hb2⟩
      refine hK _ _ ?_
      clear hK K
      have hbW2 : Below W.heap.size W W2 := (hbd).trans (hb2.mono (hbd).size)
      have hu2 := hfresh _ hbd W2 u hu
      obtain ⟨Au, cu, rfl, _, _, _⟩ := Rep.val_list hu
      refine any_step [0, 3] (by kernel_rfl) (by simp) ?_
      intro i hi
      rcases (by simpa using hi : i = 0 ∨ i = 3) with rfl | rfl
      · refine wpOp_step rfl (fun K hK => ?_)
        have hc := (hvW _ hbW2).cell
        go_simp
        clear hc
        refine hK _ _ ?_
        clear hK K
        refine any_step [3] (by kernel_rfl) (by simp) ?_
        intro i hi
        obtain rfl : i = 3 := by simpa using hi
        refine wpOp_step rfl (fun K hK => ?_)
        refine step_run rfl (exec_buildSlice (vy := .slice Au (piece l x.1).length cu) rfl (.slice none 0 0) 1 Tryz.underlying28 info22' rfl rfl (by decide)) ?_
        go_simp
        refine hK _ _ ?_
        clear hK K
        obtain ⟨hu3, hbW3, hg3, _⟩ := hbuild W2 _ hu2 hbW2
        simp only [Value.cells] at hu3 hbW3 hg3
        obtain ⟨v', w1, q1, q2, q3, q4, q5, q6, q7, q8⟩ := box_collect (P := Tryz.prog) (ty := 28) Tryz.underlying28 info22 rfl (by decide) rfl hv (by omega) hsz3 (fun b' hb' => by omega) hacc hbW3 hu3 hg3 hml.1 hml.2
        have hform := Rep.acc_form q4
        refine any_step [4] (by kernel_rfl) (by simp) ?_
        intro i hi
        obtain rfl : i = 4 := by simpa using hi
        refine wpOp_step rfl (fun K hK => ?_)
        refine step_run rfl (exec_append (by rfl) (by rfl) (by rfl) q1) ?_
        go_simp
        refine hK _ _ ?_
        clear hK K
        refine any_step [5] (by kernel_rfl) (by simp) ?_
        intro i hi
        obtain rfl : i = 5 := by simpa using hi
        refine wpOp_step rfl (fun K hK => ?_)
        refine step_run_skip rfl (exec_store_box (by rfl) (by rfl) (by rfl) (by kernel_rfl) q2 (by obtain ⟨A', c', h, _⟩ := hform; exact ⟨_, _, _, h⟩)) ?_
        go_simp
        refine hK _ _ ?_
        clear hK K
        refine wpAny_done (by kernel_rfl) ?_ _
        exact ⟨q5.from _, ⟨q7 _ (by omega) (by omega), q7 _ (by omega) (by omega)⟩, ⟨v', q3, by rw [List.map_append]; exact q4⟩, hB.trans (q6.mono (by omega)), Nat.le_trans hsz3 q5.size⟩
      · refine wpOp_step rfl (fun K hK => ?_)
        refine step_run rfl (exec_buildSlice (vy := .slice Au (piece l x.1).length cu) rfl (.slice none 0 0) 1 Tryz.underlying28 info22' rfl rfl (by decide)) ?_
        go_simp
        refine hK _ _ ?_
        clear hK K
        obtain ⟨hu3, hbW3, hg3, _⟩ := hbuild W2 _ hu2 hbW2
        simp only [Value.cells] at hu3 hbW3 hg3
        refine any_step [0] (by kernel_rfl) (by simp) ?_
        intro i hi
        obtain rfl : i = 0 := by simpa using hi
        refine wpOp_step rfl (fun K hK => ?_)
        have hc := (hvW _ hbW3).cell
        go_simp
        clear hc
        refine hK _ _ ?_
        clear hK K
        obtain ⟨v', w1, q1, q2, q3, q4, q5, q6, q7, q8⟩ := box_collect (P := Tryz.prog) (ty := 28) Tryz.underlying28 info22 rfl (by decide) rfl hv (by omega) hsz3 (fun b' hb' => by omega) hacc hbW3 hu3 hg3 hml.1 hml.2
        have hform := Rep.acc_form q4
        refine any_step [4] (by kernel_rfl) (by simp) ?_
        intro i hi
        obtain rfl : i = 4 := by simpa using hi
        refine wpOp_step rfl (fun K hK => ?_)
        refine step_run rfl (exec_append (by rfl) (by rfl) (by rfl) q1) ?_
        go_simp
        refine hK _ _ ?_
        clear hK K
        refine any_step [5] (by kernel_rfl) (by simp) ?_
        intro i hi
        obtain rfl : i = 5 := by simpa using hi
        refine wpOp_step rfl (fun K hK => ?_)
        refine step_run_skip rfl (exec_store_box (by rfl) (by rfl) (by rfl) (by kernel_rfl) q2 (by obtain ⟨A', c', h, _⟩ := hform; exact ⟨_, _, _, h⟩)) ?_
        go_simp
        refine hK _ _ ?_
        clear hK K
        refine wpAny_done (by kernel_rfl) ?_ _
        exact ⟨q5.from _, ⟨q7 _ (by omega) (by omega), q7 _ (by omega) (by omega)⟩, ⟨v', q3, by rw [List.map_append]; exact q4⟩, hB.trans (q6.mono (by omega)), Nat.le_trans hsz3 q5.size⟩
  case done =>
    rintro D ys W hD hys ⟨⟨v, hv, hacc⟩, hB, hsz3⟩ hK
    have hc := hv.cell
    gi_wp2
    refine ⟨by simp, .inl ⟨_, _, rfl, run_takeDeferred hK, ?_⟩⟩
    have hcut : (ys.map fun k => piece l k.1) = cut l := by
      have h1 := congrArg (List.map (piece l)) hys
      rw [List.map_map] at h1
      rw [cut, pieces, ← HN.out, ← h1]
      rfl
    have hval : Rep.byte.list.list.val (fun b => w.heap.size ≤ b) (W.putObj D (.deferred none)) v (cut l) := by
      rw [← hcut]
      refine Rep.val_keep (w := W) (fun b' hb' hl => ⟨?_, World.putObj_heap_other ?_⟩) (Rep.acc_val hacc)
      · rcases hb' with hb' | hb'
        · omega
        · have := (Rep.acc_own hacc b' hb').1; omega
      · rintro rfl
        obtain ⟨_, _, _, hl⟩ := hl
        rw [hK] at hl; cases hl
    exact ⟨_, results_tmp rfl _ _ _, v, rfl, hval, hB.trans (belowK_b (w := w) (Nat.le_refl _) W D _ _ (by omega) hK rfl rfl)⟩
  case stop =>
    rintro D c pre W _ _ h _
    exact h.elim
end Go.Proofs.YtghbfbohnoebiaaGreat
