/- Walks of the comparisons that the statements on views reach. -/
import Derived.Test.YtecdbfbaclgejaaSame
import Derived.Test.YtecdbfbaclgejaaText
import Derived.Laws.StructEq
import Derived.Laws.Externs
import Derived.Lib.Bytealg

namespace Go.Proofs.Ytecdbfbaclgejaa
open Go.RowKit

def idV (x : DID) : Value := .agg #[.int .i64 x.index, .int .i64 x.gen]
theorem run_eql_id (x y : DID) (w : World) : (binOp .eql 36 (idV x) (idV y)).run Try.prog w = .ok (.bool (decide (x = y))) w := by
  have u3 := Try.underlying3
  have a3 := Try.isAgg3
  have z3 := Try.sizeOf3
  have hS : Try.prog.underlying 36 = some (.struct (Try.prog.fieldsOf 36)) := by kernel_rfl
  have hp : Try.prog.stoodInHeld 36 = false := by kernel_rfl
  simp only [idV]
  rw [run_eql_struct, show (10000 : Nat) = 9999 + 1 from rfl, run_equalIn_agg w 9999 36 _ _ hS hp]
  simp only [Program.fieldsOf, Try.underlying36]
  go_simp
  by_cases h1 : x.index = y.index <;> by_cases h2 : x.gen = y.gen <;> simp [h1, h2, DID.ext_iff]
theorem run_neq_id (x y : DID) (w : World) : (binOp .neq 36 (idV x) (idV y)).run Try.prog w = .ok (.bool (decide (x ≠ y))) w := by
  have h := run_eql_id x y w
  simp only [idV] at h ⊢
  rw [run_eql_struct] at h
  rw [run_neq_struct]
  cases hh : (Op.equalIn 10000 36 (.agg #[.int .i64 x.index, .int .i64 x.gen]) (.agg #[.int .i64 y.index, .int .i64 y.gen])).run Try.prog w with
  | ok b w' =>
    rw [hh] at h
    simp only [Result.andThen_ok, Result.ok.injEq, Value.bool.injEq] at h ⊢
    obtain ⟨rfl, rfl⟩ := h
    exact ⟨by simp, rfl⟩
  | halt s w' => rw [hh] at h; simp at h
theorem idGuard : Try.prog.eqGuardType Try.prog.depth 36 = false := by kernel_rfl

set_option maxRecDepth 100000 in
set_option maxHeartbeats 400000 in
/-- ref09.SameIDs -/
theorem sameIDs {Q Q' : Nat → Prop} {w : World} {v u : Value} {xs ys : List DID} (hx : rID.list.val Q w v xs) (hy : rID.list.val Q' w u ys) :
    Calls Try.prog 27 #[v, u] w fun e w' => e = .returned (.bool (decide (xs = ys))) ∧ ∃ n, w' = w.drewN n := by
  obtain ⟨A, c, rfl, hc1, hc2, hA⟩ := Rep.val_list hx
  obtain ⟨B, d, rfl, hd1, hd2, hB⟩ := Rep.val_list hy
  clear hx hy
  unfold maxLen at hc2 hd2
  by_cases hlen : xs.length = ys.length
  · have hne : ((xs.length : Int) != (ys.length : Int)) = false := by simp [hlen]
    have H := Lib.hid hlen
    clear hlen
    go_enter Try.func27, Try.ntmps27
    go_wp2_with fail
    go_loopw [5] (fun i wr => ∃ k : Nat, i = .int .i64 k ∧ k ≤ xs.length ∧ xs.take k = ys.take k ∧ ∃ n, w.drewN n = wr) (fun i _ => xs.length - (intOf i).toNat)
    case atStart => exact ⟨0, rfl, Nat.zero_le _, by simp, 0, rfl⟩
    case round =>
      obtain ⟨k, rfl, hk, htk, n, rfl⟩ := hrel
      by_cases hlt : k < xs.length
      · obtain ⟨b, off, rfl, _, c0, c1, wx⟩ := rID_at hA (List.getElem?_eq_getElem hlt)
        have hlt' : k < ys.length := by rw [← H.out]; exact hlt
        obtain ⟨b', off', rfl, _, d0, d1, wy⟩ := rID_at hB (List.getElem?_eq_getElem hlt')
        have T := Lib.hid htk
        clear htk wx wy
        have i1 : (k : Int) < (xs.length : Int) := by omega
        have i2 : (k : Int) < (ys.length : Int) := by omega
        generalize hX : xs[k] = x at *
        generalize hY : ys[k] = y at *
        have HX := Lib.hid hX
        have HY := Lib.hid hY
        have hqk := run_neq_id x y
        simp only [idV] at hqk
        have hqg := idGuard
        clear hX hY
        by_cases hxy : x = y
        · have g1 : decide (x ≠ y) = false := by simp [hxy]
          rw [g1] at hqk
          have HXY := Lib.hid hxy
          clear hxy g1
          go_wp2_with fail
          go_quiet (fail)
          go_wp2_with fail
          go_roundw
          case rel => exact ⟨k + 1, by go_num, by omega, by rw [List.take_succ_eq_append_getElem hlt, List.take_succ_eq_append_getElem hlt', T.out, HX.out, HY.out, HXY.out], _, rfl⟩
          case measure => simp [intOf]; omega
        · have g1 : decide (x ≠ y) = true := by simp [hxy]
          rw [g1] at hqk
          have HXY := Lib.hid (show ¬ xs = ys by rintro rfl; exact hxy (HX.out.symm.trans HY.out))
          clear hxy g1
          go_wp2_with fail
          go_quiet (fail)
          go_wp2_with fail
          go_ret
          refine ⟨?_, by rw [World.drewN_drewN]; exact ⟨_, rfl⟩⟩
          simp [HXY.out]
      · have hk' : k = xs.length := by omega
        have hall : xs = ys := by rw [← List.take_length (l := xs), ← hk', htk, hk', H.out, List.take_length]
        have HA := Lib.hid hall
        have HK := Lib.hid hk'
        clear hall hk' htk
        have i1 : ¬ (k : Int) < (xs.length : Int) := by omega
        go_wp2_with fail
        go_ret
        exact ⟨by simp [HA.out], _, rfl⟩
  · have hne : ((xs.length : Int) != (ys.length : Int)) = true := by simp; omega
    have H := Lib.hid hlen
    clear hlen
    go_enter Try.func27, Try.ntmps27
    go_wp2_with fail
    go_ret
    refine ⟨?_, 0, rfl⟩
    have : ¬ xs = ys := by rintro rfl; exact H.out rfl
    simp [this]

/-- The place of a component among parts; -1: there is none. -/
def partAt (l : List DPart) (k : Int) : Int := match l.findIdx? (fun p => p.comp == k) with
  | some i => i
  | none => -1
theorem partAt_found {l : List DPart} {k : Int} {j : Nat} (hj : j < l.length) (h : l[j].comp = k) (hb : ∀ p ∈ l.take j, p.comp ≠ k) : partAt l k = j := by
  unfold partAt
  have : l.findIdx? (fun p => p.comp == k) = some j := by
    rw [List.findIdx?_eq_some_iff_getElem]
    refine ⟨hj, by simp [h], fun i hi => ?_⟩
    have := hb l[i] (List.mem_take_iff_getElem.2 ⟨i, by omega, rfl⟩)
    simpa using this
  rw [this]
theorem partAt_none {l : List DPart} {k : Int} (hb : ∀ p ∈ l, p.comp ≠ k) : partAt l k = -1 := by
  unfold partAt
  have : l.findIdx? (fun p => p.comp == k) = none := by
    rw [List.findIdx?_eq_none_iff]
    intro p hp
    have := hb p hp
    simpa using this
  rw [this]
theorem forall_take_succ {α : Type} {P : α → Prop} {l : List α} {k : Nat} (hk : k < l.length) (h : ∀ p ∈ l.take k, P p) (hc : P l[k]) : ∀ p ∈ l.take (k + 1), P p := by
  rw [List.take_succ_eq_append_getElem hk]
  intro p hp
  rcases List.mem_append.1 hp with hp | hp
  · exact h p hp
  · rw [List.mem_singleton.1 hp]; exact hc

set_option maxRecDepth 100000 in
/-- ref11.Part -/
theorem part_calls {Q : Nat → Prop} {w : World} {v : Value} {l : List DPart} {k : Int} (hx : rPart.list.val Q w v l) :
    Calls Try.prog 108 #[v, .int .i64 k] w fun e w' => e = .returned (.int .i64 (partAt l k)) ∧ w' = w := by
  obtain ⟨A, c, rfl, hc1, hc2, hA⟩ := Rep.val_list hx
  unfold maxLen at hc2
  have HA := Lib.hid hA
  clear hx hA
  go_enter Try.func108, Try.ntmps108
  go_wp2_with fail
  go_loop [5] (fun i => ∃ j : Nat, i = .int .i64 j ∧ j ≤ l.length ∧ Hid (∀ p ∈ l.take j, p.comp ≠ k)) (fun i => l.length - (intOf i).toNat)
  case atStart => exact ⟨0, rfl, by omega, Lib.hid (by simp)⟩
  case round =>
    obtain ⟨j, rfl, hj, hb⟩ := hrel
    by_cases hlt : (j : Int) < l.length
    · have hj' : j < l.length := by omega
      obtain ⟨b, off, A2, c2, rfl, _, c0, c1, _, _⟩ := rPart_at HA.out (List.getElem?_eq_getElem hj')
      have F1 := Lib.hid (fun h => partAt_found hj' h hb.out)
      have F2 := Lib.hid (fun h => forall_take_succ (P := fun p : DPart => p.comp ≠ k) hj' hb.out h)
      generalize l[j] = x at *
      by_cases hc : x.comp = k
      · have F := Lib.hid (F1.out hc)
        have g : (x.comp == k) = true := by simp [hc]
        clear hc
        go_wp2_with fail
        go_ret
        exact ⟨by rw [F.out]; rfl, rfl⟩
      · have F := Lib.hid (F2.out hc)
        have g : (x.comp == k) = false := by simp [hc]
        clear hc
        go_wp2_with fail
        go_round
        case rel => exact ⟨j + 1, by go_num, by omega, F⟩
        case measure => simp [intOf]; omega
    · have F := Lib.hid (partAt_none (l := l) (k := k) (by have := hb.out; rwa [List.take_of_length_le (by omega)] at this))
      go_wp2_with fail
      go_ret
      exact ⟨by rw [F.out]; rfl, rfl⟩

/-- bytes.Equal -/
theorem bytesEqual {Q Q' : Nat → Prop} {w : World} {v u : Value} {xs ys : List UInt8} (hx : Rep.byte.list.val Q w v xs) (hy : Rep.byte.list.val Q' w u ys) :
    Calls Try.prog 166 #[v, u] w fun e w' => e = .returned (.bool (decide (xs = ys))) ∧ w' = w := by
  obtain ⟨A, c, rfl, hc1, hc2, hA⟩ := Rep.val_list hx
  obtain ⟨B, d, rfl, hd1, hd2, hB⟩ := Rep.val_list hy
  have h1 := hA.toText (P := Try.prog) Try.underlying22 Try.underlying5 Try.underlying9 c
  have h2 := hB.toText (P := Try.prog) Try.underlying22 Try.underlying5 Try.underlying9 d
  clear hx hy hA hB hc1 hc2 hd1 hd2
  go_enter Try.func166, Try.ntmps166
  go_wp2_with fail
  go_ret
  exact ⟨by simp [Bool.beq_eq_decide_eq], rfl⟩

theorem run_loadBytes {P : Program} {w : World} {b : Nat} : ∀ (l : List UInt8) (off : Nat) (acc : List UInt8), (∀ j x, l[j]? = some x → w.cell? ⟨b, off + j, none⟩ = some (.int .u8 (x.toNat : Int))) →
    (Extern.Bytes.loadBytes ⟨b, off, none⟩ l.length ⟨acc.toArray⟩).run P w = .ok ⟨(acc ++ l).toArray⟩ w
  | [], off, acc, _ => by simp [Extern.Bytes.loadBytes]
  | x :: l, off, acc, h => by
    have h0 := h 0 x rfl
    rw [Nat.add_zero] at h0
    have ih := run_loadBytes (P := P) l (off + 1) (acc ++ [x]) (fun j y hj => by rw [Nat.add_assoc, Nat.add_comm 1 j]; exact h (j + 1) y (by simpa using hj))
    rw [List.length_cons]
    unfold Extern.Bytes.loadBytes
    simp only [Sem.run_bind, run_load, h0, Result.andThen_ok]
    have e : (⟨b, off, none⟩ : Addr).add 1 = ⟨b, off + 1, none⟩ := by simp [Addr.add]
    have e2 : (ByteArray.mk acc.toArray).push ((x.toNat : Int).toNat.toUInt8) = ⟨(acc ++ [x]).toArray⟩ := by
      simp [ByteArray.push]
    rw [e, e2, ih, List.append_assoc]
    rfl
theorem run_bytesOf {P : Program} {Q : Nat → Prop} {w : World} {v : Value} {l : List UInt8} (hx : Rep.byte.list.val Q w v l) : (Extern.Bytes.bytesOf v).run P w = .ok ⟨l.toArray⟩ w := by
  obtain ⟨A, c, rfl, _, _, hA⟩ := Rep.val_list hx
  cases A with
  | none =>
    have hnil : l = [] := by
      rcases Nat.eq_zero_or_pos l.length with h | h
      · exact List.eq_nil_of_length_eq_zero h
      · obtain ⟨b, off, h⟩ := hA.addr h; cases h
    subst hnil
    rfl
  | some a =>
    obtain ⟨es, h1, h2⟩ := hA
    rw [Rep.row_byte h1] at h2
    rcases Nat.eq_zero_or_pos l.length with h0 | h0
    · have := List.eq_nil_of_length_eq_zero h0
      subst this
      rfl
    · obtain ⟨b, off, he, _, _, hc⟩ := h2 h0
      cases he
      exact run_loadBytes (P := P) l off [] (fun j x hj => hc j _ (by rw [List.getElem?_map, hj]; rfl))

set_option maxRecDepth 100000 in
/-- bytes.Compare -/
theorem bytesCompare {Q Q' : Nat → Prop} {w : World} {v u : Value} {xs ys : List UInt8} (hx : Rep.byte.list.val Q w v xs) (hy : Rep.byte.list.val Q' w u ys) :
    Calls Try.prog 167 #[v, u] w fun e w' => e = .returned (.int .i64 (Lib.compareBytes xs ys)) ∧ w' = w := by
  have hrun : (Extern.BytealgCompare.compare #[v, u]).run Try.prog w = .ok (.int .i64 (Lib.compareBytes xs ys)) w := by
    change Sem.run Try.prog (do pure (goInt (Extern.BytealgCompare.cmp (← Extern.Bytes.bytesOf v) (← Extern.Bytes.bytesOf u)))) w = _
    simp only [Sem.run_bind, run_bytesOf hx, run_bytesOf hy, Sem.run_pure, Result.andThen]
    rw [Lib.cmp_eq]
    rfl
  have HR := Lib.hid hrun
  obtain ⟨A, c, rfl, _, _, _⟩ := Rep.val_list hx
  obtain ⟨B, d, rfl, _, _, _⟩ := Rep.val_list hy
  clear hrun hx hy
  go_enter Try.func167, Try.ntmps167
  go_wp2_with fail
  rw [run_callFunc_extern Try.func213 (by kernel_rfl) (by kernel_rfl) (by kernel_rfl) (e := Extern.BytealgCompare.compare) (by kernel_rfl), HR.out]
  simp only [Result.andThen]
  rw [Oper.upon_value]
  go_wp2_with fail
  go_ret
  exact ⟨rfl, rfl⟩
end Go.Proofs.Ytecdbfbaclgejaa
