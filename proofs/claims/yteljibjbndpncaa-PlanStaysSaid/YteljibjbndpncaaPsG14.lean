/- Texts on which the proofs stand: DirGet, EntSame, Live25. No condition is laid on any input. -/
import Derived.Test.YteljibjbndpncaaPsG10
import Derived.Test.YteljibjbndpncaaPsG5
import Derived.Test.YteljibjbndpncaaPsG9
import Derived.Deep.RegionLaw
import Derived.Laws.StructEq
/- Walk of dir.Get. -/
namespace Go.Proofs.Yteljibjbndpncaa
open Go.RowKit

theorem u64_wrap_wf (n : Int) : (Lit.int .u64 (IntKind.u64.wrap n)).wf = true := by
  rw [wrap_u64]; simp [Lit.wf, IntKind.min, IntKind.max, IntKind.signed, IntKind.bits]; omega
theorem RdrAt.grown {w w' : World} {p : Nat} {A : Option Addr} {c : Nat} {b : List UInt8} {at_ : Nat} {bad : Bool} {row : Option Nat} (h : RdrAt w p A c b at_ bad) (hg : w.grownBy w' row) (hr : ∀ x, row = some x → p < x) : RdrAt w' p A c b at_ bad :=
  ⟨(hg.block p h.lt (fun e => by have := hr p e.symm; omega)).trans h.blk, h.sl.keep fun x hx hl => ⟨hx, hg.block x hl.lt (fun e => by have := hr x e.symm; omega)⟩, h.le⟩

/-- What is known of the reader and the entries at the head of a round. -/
def DirRel (b : List UInt8) (N : Nat) (l : List DEntry) (at_ : Nat) (bad : Bool) : Prop :=
  (bad = false → ¬ b.length < 2 ∧ N = natAt b 0 2 ∧ parseDir b l.length = some (l, at_)) ∧ (bad = true → dirGet b = ([], 12))
/-- .. and in the midst of an entry, behind its head. -/
def EntRel (b : List UInt8) (at0 : Nat) (C : Nat) (q : List Int) (at_ : Nat) (bad : Bool) : Prop :=
  (bad = false → at0 + 16 ≤ b.length ∧ C = countAt b at0 ∧ q = pagesAt b (at0 + 16) q.length ∧ at_ = at0 + 16 + 2 * q.length) ∧ (bad = true → parseEnt b at0 = none)

theorem rdNum_false (b : List UInt8) (a w : Nat) (h1 : 1 ≤ w) (h8 : w ≤ 8) : rdNum b a false (w : Int) = if a + w ≤ b.length then (i64of (natAt b a w), a + w, false) else (0, a, true) := by
  unfold rdNum
  rw [getNum_nat b a h1 h8, wide_small h1 h8]
  by_cases h : a + w ≤ b.length
  · rw [if_pos h, if_pos h]; rfl
  · rw [if_neg h, if_neg h]; rfl
theorem rdNum_wf (b : List UInt8) (a : Nat) (d : Bool) (w : Int) : (Lit.int .i64 (rdNum b a d w).1).wf = true := by
  unfold rdNum
  split
  · rfl
  · have := getNum_wf b a w
    split
    · rfl
    · rename_i h; rw [h] at this; exact this
theorem dirRel_start (b : List UInt8) : ∃ N : Nat, (rdNum b 0 false 2).1 = N ∧ N < 65536 ∧ DirRel b N [] (rdNum b 0 false 2).2.1 (rdNum b 0 false 2).2.2 := by
  have h : rdNum b 0 false 2 = _ := rdNum_false b 0 2 (by decide) (by decide)
  rw [h]
  by_cases hl : 0 + 2 ≤ b.length
  · rw [if_pos hl]
    exact ⟨natAt b 0 2, i64of_natAt b 0 2 (by decide), natAt_lt b 0 2, ⟨fun _ => ⟨by omega, rfl, rfl⟩, fun h => (by cases h)⟩⟩
  · rw [if_neg hl]
    exact ⟨0, rfl, by decide, ⟨fun h => (by cases h), fun _ => dirGet_short (by omega)⟩⟩
theorem entRel_start {b : List UInt8} {at_ : Nat} {r1 r2 r3 r4 r5 : Int × Nat × Bool} (e1 : r1 = rdNum b at_ false 1) (e2 : r2 = rdNum b r1.2.1 r1.2.2 8) (e3 : r3 = rdNum b r2.2.1 r2.2.2 1) (e4 : r4 = rdNum b r3.2.1 r3.2.2 4) (e5 : r5 = rdNum b r4.2.1 r4.2.2 2) :
    ∃ C : Nat, r5.1 = C ∧ C < 65536 ∧ EntRel b at_ C [] r5.2.1 r5.2.2 ∧ (r5.2.2 = false → (⟨r1.1, IntKind.u64.wrap r2.1, r3.1⟩ : DKey) = keyAt b at_ ∧ r4.1 = natAt b (at_ + 10) 4) := by
  rcases header e1 e2 e3 e4 e5 with ⟨h, h1, h2, h3, h4, h5⟩ | ⟨h, h5, hd⟩
  · refine ⟨countAt b at_, by rw [h5], natAt_lt b (at_ + 14) 2, ⟨fun _ => ⟨h, rfl, by simp [pagesAt], by rw [h5]; rfl⟩, fun hh => by rw [h5] at hh; cases hh⟩, fun _ => ⟨?_, h4⟩⟩
    rw [h1, h2, h3, u64_i64of _ (natAt8_lt b (at_ + 1))]; rfl
  · exact ⟨0, h5, by decide, ⟨fun hh => (by rw [hd] at hh; cases hh), fun _ => parseEnt_none (fun hh => h hh.1)⟩, fun hh => (by rw [hd] at hh; cases hh)⟩
theorem entRel_step {b : List UInt8} {at0 C a : Nat} {q : List Int} (h : EntRel b at0 C q a false) (hq : q.length < C) {r : Int × Nat × Bool} (e : r = rdNum b a false 2) : EntRel b at0 C (q ++ [r.1]) r.2.1 r.2.2 := by
  have hn : rdNum b a false 2 = _ := rdNum_false b a 2 (by decide) (by decide)
  obtain ⟨h16, hC, hq2, ha⟩ := h.1 rfl
  rw [hn] at e
  by_cases hl : a + 2 ≤ b.length
  · rw [if_pos hl] at e
    subst e
    refine ⟨fun _ => ⟨h16, hC, ?_, ?_⟩, fun hh => by cases hh⟩
    · rw [List.length_append, List.length_singleton, pagesAt_succ, ← hq2, ha, i64of_natAt b _ 2 (by decide)]
    · rw [List.length_append, List.length_singleton, ha]; show at0 + 16 + 2 * q.length + 2 = _; omega
  · rw [if_neg hl] at e
    subst e
    exact ⟨fun hh => (by cases hh), fun _ => parseEnt_none (fun hh => by have := hh.2; omega)⟩
theorem dirRel_step {b : List UInt8} {N at0 C a : Nat} {l : List DEntry} {q : List Int} {d : Bool} {k : DKey} {n : Int} (h : DirRel b N l at0 false) (hl : l.length < N) (he : EntRel b at0 C q a d) (hk : d = false → k = keyAt b at0 ∧ n = natAt b (at0 + 10) 4) (hq : d = false → q.length = C) (ha : a ≤ b.length) : DirRel b N (l ++ [⟨k, n, q⟩]) a d := by
  obtain ⟨h2, hN, hp⟩ := h.1 rfl
  cases d with
  | false =>
    obtain ⟨h16, hC, hq2, ha2⟩ := he.1 rfl
    obtain ⟨rfl, rfl⟩ := hk rfl
    have hqc := hq rfl
    rw [hqc] at hq2 ha2
    refine ⟨fun _ => ⟨h2, hN, ?_⟩, fun hh => by cases hh⟩
    rw [List.length_append, List.length_singleton, parse_step hp h16 (by omega), ← hC, ha2, hq2, hC]
    rfl
  | true => exact ⟨fun hh => (by cases hh), fun _ => dirGet_none h2 (by rw [← hN]; exact parse_fail hl hp (he.2 rfl))⟩

end Go.Proofs.Yteljibjbndpncaa
/- Walks of the comparison of entries. -/
namespace Go.Proofs.Yteljibjbndpncaa
open Go.RowKit

def keyV (x : DKey) : Value := .agg #[.int .i64 x.kind, .int .u64 x.sig, .int .i64 x.comp]
theorem run_eql_key (x y : DKey) (w : World) : (binOp .eql 32 (keyV x) (keyV y)).run Try.prog w = .ok (.bool (decide (x = y))) w := by
  have u3 := Try.underlying3
  have u44 := Try.underlying44
  have a3 := Try.isAgg3
  have a44 := Try.isAgg44
  have z3 := Try.sizeOf3
  have z44 := Try.sizeOf44
  have hS : Try.prog.underlying 32 = some (.struct (Try.prog.fieldsOf 32)) := by kernel_rfl
  have hp : Try.prog.stoodInHeld 32 = false := by kernel_rfl
  simp only [keyV]
  rw [run_eql_struct, show (10000 : Nat) = 9999 + 1 from rfl, run_equalIn_agg w 9999 32 _ _ hS hp]
  simp only [Program.fieldsOf, Try.underlying32]
  go_simp
  by_cases h1 : x.kind = y.kind <;> by_cases h2 : x.sig = y.sig <;> by_cases h3 : x.comp = y.comp <;> simp [h1, h2, h3, DKey.ext_iff]
theorem run_neq_key (x y : DKey) (w : World) : (binOp .neq 32 (keyV x) (keyV y)).run Try.prog w = .ok (.bool (decide (x ≠ y))) w := by
  have h := run_eql_key x y w
  simp only [keyV] at h ⊢
  rw [run_eql_struct] at h
  rw [run_neq_struct]
  cases hh : (Op.equalIn 10000 32 (.agg #[.int .i64 x.kind, .int .u64 x.sig, .int .i64 x.comp]) (.agg #[.int .i64 y.kind, .int .u64 y.sig, .int .i64 y.comp])).run Try.prog w with
  | ok b w' =>
    rw [hh] at h
    simp only [Result.andThen_ok, Result.ok.injEq, Value.bool.injEq] at h ⊢
    obtain ⟨rfl, rfl⟩ := h
    exact ⟨by simp, rfl⟩
  | halt s w' => rw [hh] at h; simp at h

theorem keyGuard : Try.prog.eqGuardType Try.prog.depth 32 = false := by kernel_rfl

end Go.Proofs.Yteljibjbndpncaa
/- The example of the statements on directories, walked; and more than is asked of flows. -/
namespace Go.Proofs.Yteljibjbndpncaa
open Go.RowKit

/-- A slice literal of values that have cells of their own. -/
theorem lit_list {α : Type} {r : Rep α} {e : Nat} {w : World} {cs : List Value} {xs : List α} {n : Nat} (hn : n = xs.length) (hm : n ≤ maxLen) {Q : Nat → Prop} (hb : Q w.heap.size) (hr : r.row Q (w.alloc (.cells cs.toArray e)) cs xs) :
    r.list.val Q (w.alloc (.cells cs.toArray e)) (.slice (some ⟨w.heap.size, 0, none⟩) n n) xs :=
  Rep.list_val hn (Nat.le_refl _) hm ⟨cs, hr, fun _ => ⟨w.heap.size, 0, rfl, hb, ⟨_, _, _, heap_alloc_new w _⟩, fun j u hj => by
    rw [cell_of_row _ _ _ _ _ _ (heap_alloc_new w _), Nat.zero_add, ← hj]; simp⟩⟩
theorem lit_bytes {w : World} (l : List UInt8) {n : Nat} (hn : n = l.length) (hm : n ≤ maxLen) : Rep.byte.list.val (fun b => w.heap.size ≤ b) (w.alloc (.cells (l.map fun x => .int .u8 (x.toNat : Int)).toArray 5)) (.slice (some ⟨w.heap.size, 0, none⟩) n n) l :=
  lit_list hn hm (Nat.le_refl _) (Rep.byte_row l)

def ent0 : List DEntry := [⟨⟨1, 0, 0⟩, 3, [2]⟩]
theorem ent0_bytes : dirGet (dirBytes ent0) = (ent0, 0) ∧ (dirBytes ent0).length = 20 := by decide +kernel
theorem put0 : dirBytes [] = [0, 0] := by decide +kernel

/-- More than is asked of flows. -/
def muchFlows (l : List DFlow) : Bool := decide (20 < l.length) || (l.take 50).any fun f => decide (3000 < f.data.length) || decide (50 < f.pages.length)
theorem any_take_succ {α : Type} {p : α → Bool} {s : List α} {k : Nat} (hk : k < s.length) (h : (s.take k).any p = false) (hc : p s[k] = false) : (s.take (k + 1)).any p = false := by
  rw [List.take_succ_eq_append_getElem hk, List.any_append, h]; simp [hc]
theorem any_of {α : Type} {p : α → Bool} {s : List α} {k n : Nat} (hk : k < s.length) (hn : k < n) (hc : p s[k] = true) : (s.take n).any p = true :=
  List.any_eq_true.2 ⟨s[k], List.mem_take_iff_getElem.2 ⟨k, by omega, rfl⟩, hc⟩

set_option maxRecDepth 100000 in
/-- ref24.Much -/
theorem muchFlows_calls {Q : Nat → Prop} {w : World} {v : Value} {l : List DFlow} (hx : rFlow.list.val Q w v l) :
    Calls Try.prog 7 #[v] w fun e w' => e = .returned (.bool (muchFlows l)) ∧ w' = w := by
  obtain ⟨A, c, rfl, hc1, hc2, hA⟩ := Rep.val_list hx
  unfold maxLen at hc2
  have HA := Lib.hid hA
  clear hx hA
  go_enter Try.func7, Try.ntmps7
  go_wp2_with fail
  go_loop [3] (fun i => ∃ k : Nat, i = .int .i64 k ∧ k ≤ l.length ∧ k ≤ 50 ∧ Hid ((l.take k).any (fun f => decide (3000 < f.data.length) || decide (50 < f.pages.length)) = false)) (fun i => l.length - (intOf i).toNat)
  case atStart => exact ⟨0, rfl, by omega, by omega, by simp [Hid]⟩
  case round =>
    obtain ⟨k, rfl, hk, hk5, hany⟩ := hrel
    by_cases hlt : (k : Int) < l.length
    · by_cases h50 : (k : Int) < 50
      · have hk' : k < l.length := by omega
        obtain ⟨b, off, Ad, cd, Ap, cp, rfl, hbc, cx0, cx1, cx2, cx3, cx4, g0, g1, g2, hsd, hs⟩ := rFlow_at HA.out (List.getElem?_eq_getElem hk')
        have hd := hsd.1
        have hd2 := hsd.2.1
        have hs1 := hs.1
        have hs2 := hs.2.1
        unfold maxLen at hd2 hs2
        have NX := Lib.hid (fun h => any_take_succ hk' hany h)
        have YS := Lib.hid (fun h => any_of (n := 50) (p := fun f : DFlow => decide (3000 < f.data.length) || decide (50 < f.pages.length)) hk' (by omega) h)
        generalize l[k] = x at *
        clear g0 g1 g2 hsd hs
        by_cases h1 : (3000 : Int) < x.data.length
        · have F := Lib.hid (show muchFlows l = true by unfold muchFlows; rw [YS.out (by simp; omega)]; simp)
          go_wp2_with fail
          go_ret
          exact ⟨by rw [F.out]; rfl, rfl⟩
        · by_cases h2 : (50 : Int) < x.pages.length
          · have F := Lib.hid (show muchFlows l = true by unfold muchFlows; rw [YS.out (by simp; omega)]; simp)
            go_wp2_with fail
            go_ret
            exact ⟨by rw [F.out]; rfl, rfl⟩
          · have N2 := Lib.hid (NX.out (by simp; omega))
            go_wp2_with fail
            go_round
            case rel => exact ⟨k + 1, by go_num, by omega, by omega, N2⟩
            case measure => simp [intOf]; omega
      · have hk50 : k = 50 := by omega
        have F := Lib.hid (show muchFlows l = true by unfold muchFlows; simp; omega)
        have h20 : (20 : Int) < l.length := by omega
        go_wp2_with fail
        go_ret
        exact ⟨by rw [F.out]; rfl, rfl⟩
    · have F := Lib.hid (show muchFlows l = decide ((20 : Int) < l.length) by
        unfold muchFlows
        have hkl : k = l.length := by omega
        have h50 : (l.take 50) = l.take k := by rw [hkl, List.take_length, List.take_of_length_le (by omega)]
        rw [h50, hany.out, Bool.or_false]
        rw [decide_eq_decide]; omega)
      by_cases h20 : (20 : Int) < l.length
      · have D : decide ((20 : Int) < l.length) = true := by simp [h20]
        rw [D] at F
        clear D
        go_wp2_with fail
        go_ret
        exact ⟨by rw [F.out]; rfl, rfl⟩
      · have D : decide ((20 : Int) < l.length) = false := by simp [h20]
        rw [D] at F
        clear D
        go_wp2_with fail
        go_ret
        exact ⟨by rw [F.out]; rfl, rfl⟩
end Go.Proofs.Yteljibjbndpncaa
