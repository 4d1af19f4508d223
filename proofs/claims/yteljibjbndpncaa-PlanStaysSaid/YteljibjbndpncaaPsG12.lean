/- Texts on which the proofs stand: PlanFind, IDs, PlanStay. No condition is laid on any input. -/
import Derived.Test.YteljibjbndpncaaPsCut
import Derived.Test.YteljibjbndpncaaPsG10
import Derived.Test.YteljibjbndpncaaPsG5
import Derived.Test.YteljibjbndpncaaPsG9
import Derived.Laws.StructEq
import Derived.Laws.Externs
import Derived.Lib.Bytealg
/- Walks: finding a flow by its key. -/
namespace Go.Proofs.Yteljibjbndpncaa
open Go.RowKit

set_option maxRecDepth 100000 in
/-- plan.stays' predicate -/
theorem flow1_calls {w : World} {x : DFlow} {A1 A2 : Option Addr} {c1 c2 : Nat} {B : Nat} {k : DKey} (h0 : w.cell? ⟨B, 0, none⟩ = some (.int .i64 k.kind)) (h1 : w.cell? ⟨B, 1, none⟩ = some (.int .u64 k.sig)) (h2 : w.cell? ⟨B, 2, none⟩ = some (.int .i64 k.comp)) (hB : B < w.heap.size) :
    Calls Try.prog 83 #[.agg #[.int .i64 x.key.kind, .int .u64 x.key.sig, .int .i64 x.key.comp, .slice A1 x.data.length c1, .slice A2 x.pages.length c2], .pointer (some ⟨B, 0, none⟩)] w fun en w' => en = .returned (.bool (decide (x.key = k))) ∧ Below w.heap.size w w' := by
  obtain ⟨W1, hW1⟩ : ∃ W1, w.alloc (.cells #[.int .i64 x.key.kind, .int .u64 x.key.sig, .int .i64 x.key.comp, .slice A1 x.data.length c1, .slice A2 x.pages.length c2] 35) = W1 := ⟨_, rfl⟩
  have hb : Below w.heap.size w W1 := by rw [← hW1]; exact (Below.refl _ _).alloc (Nat.le_refl _) _
  have hn : W1.heap[w.heap.size]? = some (.cells #[.int .i64 x.key.kind, .int .u64 x.key.sig, .int .i64 x.key.comp, .slice A1 x.data.length c1, .slice A2 x.pages.length c2] 35 (0, 0)) := by rw [← hW1]; exact heap_alloc_new _ _
  have e0 := cell_row hn 0
  have e1 := cell_row hn 1
  have e2 := cell_row hn 2
  have g0 := (hb.cell (p := ⟨B, 0, none⟩) hB).trans h0
  have g1 := (hb.cell (p := ⟨B, 1, none⟩) hB).trans h1
  have g2 := (hb.cell (p := ⟨B, 2, none⟩) hB).trans h2
  have HB := Lib.hid hb
  clear hb hn h0 h1 h2
  go_enter Try.func83, Try.ntmps83
  go_wp2_with fail
  try rw [hW1]
  clear hW1
  try go_wp2_with fail
  all_goals
    go_ret
    refine ⟨?_, HB.out⟩
    first
      | (have hk : x.key = k := DKey.ext (by omega) (by omega) (by omega)
         rw [decide_eq_true hk]; rfl)
      | (have hk : ¬ x.key = k := fun h => by (rw [DKey.ext_iff] at h; omega)
         rw [decide_eq_false hk]; rfl)

/-- The first place of a key; -1: there is none. -/
def placeF (l : List DFlow) (k : DKey) : Int := match l.findIdx? (fun e => decide (e.key = k)) with
  | none => -1
  | some i => (i : Int)
theorem placeF_none {l : List DFlow} {k : DKey} (h : ∀ e ∈ l, e.key ≠ k) : placeF l k = -1 := by
  unfold placeF
  rw [List.findIdx?_eq_none_iff.2 (fun e he => by simpa using h e he)]
theorem placeF_some {l : List DFlow} {key : DKey} {k : Nat} {e : DFlow} (he : l[k]? = some e) (hid : e.key = key) (h : ∀ e ∈ l.take k, e.key ≠ key) : placeF l key = k := by
  obtain ⟨hk, rfl⟩ := List.getElem?_eq_some_iff.1 he
  unfold placeF
  rw [List.findIdx?_eq_some_iff_getElem.2 ⟨hk, by simpa using hid, fun j hj => by
    have := h l[j] (List.mem_take_iff_getElem.2 ⟨j, by omega, rfl⟩)
    simpa using this⟩]
theorem nekey_take_succ {l : List DFlow} {key : DKey} {k : Nat} {e : DFlow} (he : l[k]? = some e) (hid : ¬ e.key = key) (h : ∀ e ∈ l.take k, e.key ≠ key) : ∀ e ∈ l.take (k + 1), e.key ≠ key := by
  obtain ⟨hk, rfl⟩ := List.getElem?_eq_some_iff.1 he
  intro x hx
  rw [List.take_succ_eq_append_getElem hk, List.mem_append, List.mem_singleton] at hx
  rcases hx with hx | rfl
  · exact h x hx
  · exact hid
theorem find_flow {l : List DFlow} {key : DKey} : (placeF l key = -1 ∧ l.find? (fun f => f.key == key) = none) ∨ ∃ (k : Nat) (e : DFlow), placeF l key = k ∧ l[k]? = some e ∧ l.find? (fun f => f.key == key) = some e := by
  unfold placeF
  cases h : l.findIdx? (fun e => decide (e.key = key)) with
  | none =>
    left
    refine ⟨rfl, ?_⟩
    rw [List.findIdx?_eq_none_iff] at h
    exact List.find?_eq_none.2 fun x hx => by have := h x hx; simpa using this
  | some k =>
    right
    obtain ⟨hk, h1, h2⟩ := List.findIdx?_eq_some_iff_getElem.1 h
    refine ⟨k, l[k], rfl, List.getElem?_eq_getElem hk, ?_⟩
    rw [List.find?_eq_some_iff_append]
    refine ⟨by simpa using h1, l.take k, l.drop (k + 1), by rw [List.getElem_cons_drop, List.take_append_drop], fun a ha => ?_⟩
    obtain ⟨j, hj, rfl⟩ := List.mem_take_iff_getElem.1 ha
    have := h2 j (by omega)
    simpa using this

set_option maxRecDepth 100000 in
set_option maxHeartbeats 1000000 in
/-- slices.IndexFunc, as0 plan.stays uses it -/
theorem flowIndex_calls {Q : Nat → Prop} {w : World} {A : Option Addr} {c : Nat} {l : List DFlow} {B : Nat} {key : DKey} (hA : rFlow.At Q w A l) (hc : l.length ≤ maxLen) (h0 : w.cell? ⟨B, 0, none⟩ = some (.int .i64 key.kind)) (h1 : w.cell? ⟨B, 1, none⟩ = some (.int .u64 key.sig)) (h2 : w.cell? ⟨B, 2, none⟩ = some (.int .i64 key.comp)) (hB : B < w.heap.size) :
    Calls Try.prog 82 #[.slice A l.length c, .func (.func 83) #[] #[.pointer (some ⟨B, 0, none⟩)]] w fun en w' => en = .returned (.int .i64 (placeF l key)) ∧ Below w.heap.size w w' := by
  unfold maxLen at hc
  have HA := Lib.hid hA
  have H0 := Lib.hid h0
  have H1 := Lib.hid h1
  have H2 := Lib.hid h2
  have HBB := Lib.hid hB
  clear hA h0 h1 h2 hB
  go_enter Try.func82, Try.ntmps82
  go_wp2_with fail
  go_loopw [8] (fun i wr => ∃ k : Nat, i = .int .i64 k ∧ k ≤ l.length ∧ Hid (∀ e ∈ l.take k, e.key ≠ key) ∧ Hid (Below w.heap.size w wr)) (fun i _ => l.length - (intOf i).toNat)
  case atStart => exact ⟨0, rfl, Nat.zero_le _, Lib.hid (by simp), Lib.hid (Below.refl _ _)⟩
  case round =>
    obtain ⟨k, rfl, hk, HN, HBW⟩ := hrel
    by_cases hlt : (k : Int) < l.length
    · obtain ⟨e, he⟩ : ∃ e, l[k]? = some e := ⟨_, List.getElem?_eq_getElem (by omega)⟩
      obtain ⟨b, off, A1, c1, A2, c2, rfl, hbc, e0, e1, e2, e3, e4, _⟩ := rFlow_at (HA.out.below HBW.out (fun _ _ h => h.lt)) he
      have HE := Lib.hid he
      clear he hbc
      go_wp2_with fail
      refine (flow1_calls (x := e) ((HBW.out.cell (p := ⟨B, 0, none⟩) HBB.out).trans H0.out) ((HBW.out.cell (p := ⟨B, 1, none⟩) HBB.out).trans H1.out) ((HBW.out.cell (p := ⟨B, 2, none⟩) HBB.out).trans H2.out) (Nat.lt_of_lt_of_le HBB.out HBW.out.size)).mono ?_
      rintro en w2 ⟨rfl, hb2⟩
      have HB2 := Lib.hid (HBW.out.trans (hb2.mono HBW.out.size))
      clear hb2 e0 e1 e2 e3 e4
      by_cases hid : e.key = key
      · have HF := Lib.hid (placeF_some HE.out hid HN.out)
        rw [decide_eq_true hid]
        clear hid
        go_wp2_with fail
        go_ret
        exact ⟨by rw [HF.out]; rfl, HB2.out⟩
      · have HF := Lib.hid (nekey_take_succ HE.out hid HN.out)
        rw [decide_eq_false hid]
        clear hid
        go_wp2_with fail
        exact ⟨⟨k + 1, by go_num, by omega, HF, HB2⟩, by simp [intOf]; omega⟩
    · obtain rfl : k = l.length := by omega
      rw [List.take_length] at HN
      have HF := Lib.hid (placeF_none HN.out)
      go_wp2_with fail
      go_ret
      exact ⟨by rw [HF.out]; rfl, HBW.out⟩
end Go.Proofs.Yteljibjbndpncaa
/- Walks of the comparisons that the statements on views reach. -/

namespace Go.Proofs.Yteljibjbndpncaa
open Go.RowKit

def idV (x : DID) : Value := .agg #[.int .i64 x.index, .int .i64 x.gen]
theorem run_eql_id (x y : DID) (w : World) : (binOp .eql 114 (idV x) (idV y)).run Try.prog w = .ok (.bool (decide (x = y))) w := by
  have u3 := Try.underlying3
  have a3 := Try.isAgg3
  have z3 := Try.sizeOf3
  have hS : Try.prog.underlying 114 = some (.struct (Try.prog.fieldsOf 114)) := by kernel_rfl
  have hp : Try.prog.stoodInHeld 114 = false := by kernel_rfl
  simp only [idV]
  rw [run_eql_struct, show (10000 : Nat) = 9999 + 1 from rfl, run_equalIn_agg w 9999 114 _ _ hS hp]
  simp only [Program.fieldsOf, Try.underlying114]
  go_simp
  by_cases h1 : x.index = y.index <;> by_cases h2 : x.gen = y.gen <;> simp [h1, h2, DID.ext_iff]
theorem run_neq_id (x y : DID) (w : World) : (binOp .neq 114 (idV x) (idV y)).run Try.prog w = .ok (.bool (decide (x ≠ y))) w := by
  have h := run_eql_id x y w
  simp only [idV] at h ⊢
  rw [run_eql_struct] at h
  rw [run_neq_struct]
  cases hh : (Op.equalIn 10000 114 (.agg #[.int .i64 x.index, .int .i64 x.gen]) (.agg #[.int .i64 y.index, .int .i64 y.gen])).run Try.prog w with
  | ok b w' =>
    rw [hh] at h
    simp only [Result.andThen_ok, Result.ok.injEq, Value.bool.injEq] at h ⊢
    obtain ⟨rfl, rfl⟩ := h
    exact ⟨by simp, rfl⟩
  | halt s w' => rw [hh] at h; simp at h
theorem idGuard : Try.prog.eqGuardType Try.prog.depth 114 = false := by kernel_rfl

/-- The place of a component among parts; -1: there is none. -/
def partAt (l : List DPart) (k : Int) : Int := match l.findIdx? (fun p => p.comp == k) with
  | some i => i
  | none => -1
theorem partAt_found {l : List DPart} {k : Int} {j : Nat} (hj : j < l.length) (h : l[j].comp = k) (hb : ∀ p ∈ l.take j, p.comp ≠ k) : partAt l k = j := by
  unfold partAt
  have : l.findIdx? (fun p => p.comp == k) = some j := by
    rw [List.findIdx?_eq_some_iff_getElem]
    refine ⟨hj, by simp [h], fun i hi => ?_⟩
    have := hb l[i] (List.mem_take_iff_getElem.2 ⟨i, by omega, rfl⟩)
    simpa using this
  rw [this]
theorem partAt_none {l : List DPart} {k : Int} (hb : ∀ p ∈ l, p.comp ≠ k) : partAt l k = -1 := by
  unfold partAt
  have : l.findIdx? (fun p => p.comp == k) = none := by
    rw [List.findIdx?_eq_none_iff]
    intro p hp
    have := hb p hp
    simpa using this
  rw [this]
theorem forall_take_succ {α : Type} {P : α → Prop} {l : List α} {k : Nat} (hk : k < l.length) (h : ∀ p ∈ l.take k, P p) (hc : P l[k]) : ∀ p ∈ l.take (k + 1), P p := by
  rw [List.take_succ_eq_append_getElem hk]
  intro p hp
  rcases List.mem_append.1 hp with hp | hp
  · exact h p hp
  · rw [List.mem_singleton.1 hp]; exact hc

set_option maxRecDepth 100000 in
/-- ref11.Part -/
theorem part_calls {Q : Nat → Prop} {w : World} {v : Value} {l : List DPart} {k : Int} (hx : rPart.list.val Q w v l) :
    Calls Try.prog 153 #[v, .int .i64 k] w fun e w' => e = .returned (.int .i64 (partAt l k)) ∧ w' = w := by
  obtain ⟨A, c, rfl, hc1, hc2, hA⟩ := Rep.val_list hx
  unfold maxLen at hc2
  have HA := Lib.hid hA
  clear hx hA
  go_enter Try.func153, Try.ntmps153
  go_wp2_with fail
  go_loop [5] (fun i => ∃ j : Nat, i = .int .i64 j ∧ j ≤ l.length ∧ Hid (∀ p ∈ l.take j, p.comp ≠ k)) (fun i => l.length - (intOf i).toNat)
  case atStart => exact ⟨0, rfl, by omega, Lib.hid (by simp)⟩
  case round =>
    obtain ⟨j, rfl, hj, hb⟩ := hrel
    by_cases hlt : (j : Int) < l.length
    · have hj' : j < l.length := by omega
      obtain ⟨b, off, A2, c2, rfl, _, c0, c1, _, _⟩ := rPart_at HA.out (List.getElem?_eq_getElem hj')
      have F1 := Lib.hid (fun h => partAt_found hj' h hb.out)
      have F2 := Lib.hid (fun h => forall_take_succ (P := fun p : DPart => p.comp ≠ k) hj' hb.out h)
      generalize l[j] = x at *
      by_cases hc : x.comp = k
      · have F := Lib.hid (F1.out hc)
        have g : (x.comp == k) = true := by simp [hc]
        clear hc
        go_wp2_with fail
        go_ret
        exact ⟨by rw [F.out]; rfl, rfl⟩
      · have F := Lib.hid (F2.out hc)
        have g : (x.comp == k) = false := by simp [hc]
        clear hc
        go_wp2_with fail
        go_round
        case rel => exact ⟨j + 1, by go_num, by omega, F⟩
        case measure => simp [intOf]; omega
    · have F := Lib.hid (partAt_none (l := l) (k := k) (by have := hb.out; rwa [List.take_of_length_le (by omega)] at this))
      go_wp2_with fail
      go_ret
      exact ⟨by rw [F.out]; rfl, rfl⟩

/-- bytes.Equal -/
theorem bytesEqual {Q Q' : Nat → Prop} {w : World} {v u : Value} {xs ys : List UInt8} (hx : Rep.byte.list.val Q w v xs) (hy : Rep.byte.list.val Q' w u ys) :
    Calls Try.prog 84 #[v, u] w fun e w' => e = .returned (.bool (decide (xs = ys))) ∧ w' = w := by
  obtain ⟨A, c, rfl, hc1, hc2, hA⟩ := Rep.val_list hx
  obtain ⟨B, d, rfl, hd1, hd2, hB⟩ := Rep.val_list hy
  have h1 := hA.toText (P := Try.prog) Try.underlying33 Try.underlying5 Try.underlying9 c
  have h2 := hB.toText (P := Try.prog) Try.underlying33 Try.underlying5 Try.underlying9 d
  clear hx hy hA hB hc1 hc2 hd1 hd2
  go_enter Try.func84, Try.ntmps84
  go_wp2_with fail
  go_ret
  exact ⟨by simp [Bool.beq_eq_decide_eq], rfl⟩

theorem run_loadBytes {P : Program} {w : World} {b : Nat} : ∀ (l : List UInt8) (off : Nat) (acc : List UInt8), (∀ j x, l[j]? = some x → w.cell? ⟨b, off + j, none⟩ = some (.int .u8 (x.toNat : Int))) →
    (Extern.Bytes.loadBytes ⟨b, off, none⟩ l.length ⟨acc.toArray⟩).run P w = .ok ⟨(acc ++ l).toArray⟩ w
  | [], off, acc, _ => by simp [Extern.Bytes.loadBytes]
  | x :: l, off, acc, h => by
    have h0 := h 0 x rfl
    rw [Nat.add_zero] at h0
    have ih := run_loadBytes (P := P) l (off + 1) (acc ++ [x]) (fun j y hj => by rw [Nat.add_assoc, Nat.add_comm 1 j]; exact h (j + 1) y (by simpa using hj))
    rw [List.length_cons]
    unfold Extern.Bytes.loadBytes
    simp only [Sem.run_bind, run_load, h0, Result.andThen_ok]
    have e : (⟨b, off, none⟩ : Addr).add 1 = ⟨b, off + 1, none⟩ := by simp [Addr.add]
    have e2 : (ByteArray.mk acc.toArray).push ((x.toNat : Int).toNat.toUInt8) = ⟨(acc ++ [x]).toArray⟩ := by
      simp [ByteArray.push]
    rw [e, e2, ih, List.append_assoc]
    rfl
theorem run_bytesOf {P : Program} {Q : Nat → Prop} {w : World} {v : Value} {l : List UInt8} (hx : Rep.byte.list.val Q w v l) : (Extern.Bytes.bytesOf v).run P w = .ok ⟨l.toArray⟩ w := by
  obtain ⟨A, c, rfl, _, _, hA⟩ := Rep.val_list hx
  cases A with
  | none =>
    have hnil : l = [] := by
      rcases Nat.eq_zero_or_pos l.length with h | h
      · exact List.eq_nil_of_length_eq_zero h
      · obtain ⟨b, off, h⟩ := hA.addr h; cases h
    subst hnil
    rfl
  | some a =>
    obtain ⟨es, h1, h2⟩ := hA
    rw [Rep.row_byte h1] at h2
    rcases Nat.eq_zero_or_pos l.length with h0 | h0
    · have := List.eq_nil_of_length_eq_zero h0
      subst this
      rfl
    · obtain ⟨b, off, he, _, _, hc⟩ := h2 h0
      cases he
      exact run_loadBytes (P := P) l off [] (fun j x hj => hc j _ (by rw [List.getElem?_map, hj]; rfl))

end Go.Proofs.Yteljibjbndpncaa
/- Walk of plan.stays. -/
namespace Go.Proofs.Yteljibjbndpncaa
open Go.RowKit

set_option maxRecDepth 100000 in
set_option maxHeartbeats 2000000 in
/-- plan.stays -/
theorem stays_calls {Qo Qb : Nat → Prop} {w : World} {vo vb : Value} {old : List DFlow} {k : DKey} {i : Nat} {x : List UInt8} (ho : rFlow.list.val Qo w vo old) (hx : Rep.byte.list.val Qb w vb x) (hd : ∀ f ∈ old, f.data.length ≤ 1000000) :
    Calls Try.prog 52 #[vo, .agg #[.int .i64 k.kind, .int .u64 k.sig, .int .i64 k.comp], .int .i64 (i : Int), vb] w fun e w' => e = .returned (.int .i64 (stayOf old k i x)) ∧ Below w.heap.size w w' := by
  obtain ⟨A1, c1, rfl, h1, h2, hat⟩ := Rep.val_list ho
  have HO := Lib.hid hat
  have HX := Lib.hid hx
  have HD := Lib.hid hd
  have HM := Lib.hid (Nat.le_trans h1 h2)
  unfold maxLen at h2
  obtain ⟨W1, hW1⟩ : ∃ W1, w.alloc (.cells #[.int .i64 k.kind, .int .u64 k.sig, .int .i64 k.comp] 32) = W1 := ⟨_, rfl⟩
  have hb1 : Below w.heap.size w W1 := by rw [← hW1]; exact (Below.refl _ _).alloc (Nat.le_refl _) _
  have hz1 : W1.heap.size = w.heap.size + 1 := by rw [← hW1]; simp
  have hr0 : W1.heap[w.heap.size]? = some (.cells #[.int .i64 k.kind, .int .u64 k.sig, .int .i64 k.comp] 32 (0, 0)) := by rw [← hW1]; exact heap_alloc_new _ _
  have FIN := Lib.hid (show ∀ W, Below W1.heap.size W1 W → Below w.heap.size w W from fun W h => hb1.trans (h.mono hb1.size))
  have KO := Lib.hid (show ∀ W, Below W1.heap.size W1 W → rFlow.At Qo W A1 old from fun W h => Rep.At.below HO.out (FIN.out W h) (fun _ _ h => h.lt))
  have KX := Lib.hid (show ∀ W, Below W1.heap.size W1 W → Rep.byte.list.val Qb W vb x from fun W h => Rep.val_below HX.out (FIN.out W h) (fun _ _ h => h.lt))
  have hix := flowIndex_calls (c := c1) (B := w.heap.size) (key := k) (KO.out W1 (Below.refl _ _)) HM.out (cell_row hr0 0) (cell_row hr0 1) (cell_row hr0 2) (by omega)
  have HIX := Lib.hid hix
  clear ho hx hd hat hb1 hz1 hr0 hix
  go_enter Try.func52, Try.ntmps52
  go_wp2_with fail
  try rw [hW1]
  clear hW1
  try go_wp2_with fail
  refine HIX.out.mono ?_
  rintro e w2 ⟨rfl, hb2⟩
  have HB2 := Lib.hid hb2
  clear hb2
  rcases find_flow (l := old) (key := k) with ⟨hp, hf⟩ | ⟨m, f, hp, he, hf⟩
  · have HF := Lib.hid (show stayOf old k i x = -1 by unfold stayOf; rw [hf])
    rw [hp]
    clear hp hf
    go_wp2_with fail
    go_ret
    exact ⟨by rw [HF.out]; rfl, FIN.out _ HB2.out⟩
  have HF := Lib.hid (show stayOf old k i x = if i < pieceCount f ∧ piece f.data i = x then pageAt f i else -1 by unfold stayOf; rw [hf])
  have HDF := Lib.hid (HD.out f (List.mem_of_getElem? he))
  have hml : (m : Int) < old.length := by have := (List.getElem?_eq_some_iff.1 he).1; omega
  rw [hp]
  obtain ⟨b, off, A2, c2, A3, c3, hA, hbc, d0, d1, d2, d3, d4, f0, f1, f2, s3, s4⟩ := rFlow_at (KO.out w2 HB2.out) he
  subst hA
  have KF := Lib.hid (show ∀ W, Below w2.heap.size w2 W → (W.cell? ⟨b, off + m * 5, none⟩ = some (.int .i64 f.key.kind) ∧ W.cell? ⟨b, off + m * 5 + 1, none⟩ = some (.int .u64 f.key.sig) ∧ W.cell? ⟨b, off + m * 5 + 2, none⟩ = some (.int .i64 f.key.comp) ∧ W.cell? ⟨b, off + m * 5 + 3, none⟩ = some (.slice A2 f.data.length c2) ∧ W.cell? ⟨b, off + m * 5 + 4, none⟩ = some (.slice A3 f.pages.length c3)) ∧ rFlow.val Qo W (.agg #[.int .i64 f.key.kind, .int .u64 f.key.sig, .int .i64 f.key.comp, .slice A2 f.data.length c2, .slice A3 f.pages.length c3]) f from fun W h =>
    ⟨⟨(h.cell (p := ⟨b, off + m * 5, none⟩) hbc.lt).trans d0, (h.cell (p := ⟨b, off + m * 5 + 1, none⟩) hbc.lt).trans d1, (h.cell (p := ⟨b, off + m * 5 + 2, none⟩) hbc.lt).trans d2, (h.cell (p := ⟨b, off + m * 5 + 3, none⟩) hbc.lt).trans d3, (h.cell (p := ⟨b, off + m * 5 + 4, none⟩) hbc.lt).trans d4⟩, rFlow_agg f0 f1 f2 (s3.below h (fun _ _ h => h.lt)) (s4.below h (fun _ _ h => h.lt))⟩)
  have HDV := Lib.hid s3.val
  clear hp he hf hbc d0 d1 d2 d4 f0 f1 f2 s3 s4
  go_wp2_with fail
  refine (cut_calls HDV.out HDF.out).mono ?_
  rintro e w3 ⟨u3, rfl, hu3, hb3⟩
  obtain ⟨A5, c5, rfl, h51, h52, hat5⟩ := Rep.val_list hu3
  have HB3 := Lib.hid hb3
  have HGET := Lib.hid (fun h : i < (f.data.length + 471) / 472 => cut_get h)
  have hlen : (cut f.data).length = pieceCount f := cut_length _
  have HPC := Lib.hid (show pieceCount f = (f.data.length + 471) / 472 from rfl)
  generalize cut f.data = P at *
  obtain ⟨n, hn⟩ : ∃ n, P.length = n := ⟨_, rfl⟩
  have HNP := Lib.hid (show n = pieceCount f by rw [← hn, hlen])
  rw [hn] at h51 ⊢
  unfold maxLen at h52
  clear hu3 hb3 d3 hlen hn
  by_cases hin : (i : Int) < n
  · have hgt := HGET.out (by rw [← HPC.out, ← HNP.out]; omega)
    obtain ⟨bb, o5, B6, c6, rfl, hcell, hc6, hm6, hat6⟩ := Rep.At.list hat5 hgt
    have HPV := Lib.hid (Rep.list_val (r := Rep.byte) rfl hc6 hm6 hat6)
    have HXV := Lib.hid (KX.out w3 (HB2.out.trans (HB3.out.mono HB2.out.size)))
    have HIN := Lib.hid (show i < pieceCount f by rw [← HNP.out]; omega)
    clear hat5 hgt hat6
    by_cases heq : piece f.data i = x
    · have HV := Lib.hid (show stayOf old k i x = pageAt f i by rw [HF.out, if_pos ⟨HIN.out, heq⟩])
      have HQ := Lib.hid (show decide (piece f.data i = x) = true from decide_eq_true heq)
      generalize piece f.data i = y at *
      clear heq
      go_wp2_with fail
      refine (bytesEqual HPV.out HXV.out).mono ?_
      rintro e w4 ⟨rfl, hw⟩
      subst hw
      rw [HQ.out]
      obtain ⟨⟨g0, g1, g2, g3, g4⟩, hfv⟩ := KF.out w4 HB3.out
      have HFV := Lib.hid hfv
      clear hfv hcell
      go_wp2_with fail
      refine (planAt_calls HFV.out).mono ?_
      rintro e w5 ⟨rfl, hb5⟩
      have HB5 := Lib.hid (HB2.out.trans ((HB3.out.trans (hb5.mono HB3.out.size)).mono HB2.out.size))
      clear hb5 g0 g1 g2 g3 g4
      go_wp2_with fail
      go_ret
      exact ⟨by rw [HV.out]; rfl, FIN.out _ HB5.out⟩
    · have HV := Lib.hid (show stayOf old k i x = -1 by rw [HF.out, if_neg (fun h => heq h.2)])
      have HQ := Lib.hid (show decide (piece f.data i = x) = false from decide_eq_false heq)
      generalize piece f.data i = y at *
      clear heq
      go_wp2_with fail
      refine (bytesEqual HPV.out HXV.out).mono ?_
      rintro e w4 ⟨rfl, hw⟩
      subst hw
      rw [HQ.out]
      clear hcell
      go_wp2_with fail
      go_ret
      exact ⟨by rw [HV.out]; rfl, FIN.out _ (HB2.out.trans (HB3.out.mono HB2.out.size))⟩
  · have HV := Lib.hid (show stayOf old k i x = -1 by rw [HF.out, if_neg (fun h => by have := HNP.out; omega)])
    clear hat5
    go_wp2_with fail
    go_ret
    exact ⟨by rw [HV.out]; rfl, FIN.out _ (HB2.out.trans (HB3.out.mono HB2.out.size))⟩
end Go.Proofs.Yteljibjbndpncaa
