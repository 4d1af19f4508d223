/- Walks of the comparison of entries. -/
import Derived.Test.YtecdbfbaclgejaaSame
import Derived.Test.YtecdbfbaclgejaaText
import Derived.Laws.StructEq
namespace Go.Proofs.Ytecdbfbaclgejaa
open Go.RowKit

def keyV (x : DKey) : Value := .agg #[.int .i64 x.kind, .int .u64 x.sig, .int .i64 x.comp]
theorem run_eql_key (x y : DKey) (w : World) : (binOp .eql 69 (keyV x) (keyV y)).run Try.prog w = .ok (.bool (decide (x = y))) w := by
  have u3 := Try.underlying3
  have u44 := Try.underlying44
  have a3 := Try.isAgg3
  have a44 := Try.isAgg44
  have z3 := Try.sizeOf3
  have z44 := Try.sizeOf44
  have hS : Try.prog.underlying 69 = some (.struct (Try.prog.fieldsOf 69)) := by kernel_rfl
  have hp : Try.prog.stoodInHeld 69 = false := by kernel_rfl
  simp only [keyV]
  rw [run_eql_struct, show (10000 : Nat) = 9999 + 1 from rfl, run_equalIn_agg w 9999 69 _ _ hS hp]
  simp only [Program.fieldsOf, Try.underlying69]
  go_simp
  by_cases h1 : x.kind = y.kind <;> by_cases h2 : x.sig = y.sig <;> by_cases h3 : x.comp = y.comp <;> simp [h1, h2, h3, DKey.ext_iff]
theorem run_neq_key (x y : DKey) (w : World) : (binOp .neq 69 (keyV x) (keyV y)).run Try.prog w = .ok (.bool (decide (x ≠ y))) w := by
  have h := run_eql_key x y w
  simp only [keyV] at h ⊢
  rw [run_eql_struct] at h
  rw [run_neq_struct]
  cases hh : (Op.equalIn 10000 69 (.agg #[.int .i64 x.kind, .int .u64 x.sig, .int .i64 x.comp]) (.agg #[.int .i64 y.kind, .int .u64 y.sig, .int .i64 y.comp])).run Try.prog w with
  | ok b w' =>
    rw [hh] at h
    simp only [Result.andThen_ok, Result.ok.injEq, Value.bool.injEq] at h ⊢
    obtain ⟨rfl, rfl⟩ := h
    exact ⟨by simp, rfl⟩
  | halt s w' => rw [hh] at h; simp at h

theorem keyGuard : Try.prog.eqGuardType Try.prog.depth 69 = false := by kernel_rfl

set_option maxRecDepth 100000 in
set_option maxHeartbeats 1000000 in
/-- ref25.Same -/
theorem entSame_calls {Q Q' : Nat → Prop} {w : World} {v u : Value} {xs ys : List DEntry} (hx : rEntry.list.val Q w v xs) (hy : rEntry.list.val Q' w u ys) :
    Calls Try.prog 35 #[v, u] w fun e w' => e = .returned (.bool (decide (xs = ys))) ∧ ∃ n, w' = w.drewN n := by
  obtain ⟨A, c, rfl, hc1, hc2, hA⟩ := Rep.val_list hx
  obtain ⟨B, d, rfl, hd1, hd2, hB⟩ := Rep.val_list hy
  clear hx hy
  unfold maxLen at hc2 hd2
  by_cases hlen : xs.length = ys.length
  · have hne : ((xs.length : Int) != (ys.length : Int)) = false := by simp [hlen]
    have H := Lib.hid hlen
    clear hlen
    go_enter Try.func35, Try.ntmps35
    go_wp2_with fail
    go_loopw [5] (fun i wr => ∃ k : Nat, i = .int .i64 k ∧ k ≤ xs.length ∧ xs.take k = ys.take k ∧ ∃ n, w.drewN n = wr) (fun i _ => xs.length - (intOf i).toNat)
    case atStart => exact ⟨0, rfl, Nat.zero_le _, by simp, 0, rfl⟩
    case round =>
      obtain ⟨k, rfl, hk, htk, n, rfl⟩ := hrel
      by_cases hlt : k < xs.length
      · obtain ⟨b, off, Ap, cp, rfl, _, a0, a1, a2, a3, a4, g0, g1, g2, g3, hsx⟩ := rEntry_at hA (List.getElem?_eq_getElem hlt)
        have hlt' : k < ys.length := by rw [← H.out]; exact hlt
        obtain ⟨b', off', Bp, dp, rfl, _, b0, b1, b2, b3, b4, k0, k1, k2, k3, hsy⟩ := rEntry_at hB (List.getElem?_eq_getElem hlt')
        have T := Lib.hid htk
        clear htk
        have i1 : (k : Int) < (xs.length : Int) := by omega
        have i2 : (k : Int) < (ys.length : Int) := by omega
        generalize hX : xs[k] = x at *
        generalize hY : ys[k] = y at *
        have HX := Lib.hid hX
        have HY := Lib.hid hY
        have HSL := Lib.hid (show ∀ m, Calls Try.prog 47 #[.slice Ap x.pages.length cp, .slice Bp y.pages.length dp] (w.drewN m) fun e w' => e = .returned (.bool (decide (x.pages = y.pages))) ∧ ∃ n, w' = (w.drewN m).drewN n from
          fun m => sameList (hsx.drewN m).val (hsy.drewN m).val)
        have hqk := run_neq_key x.key y.key
        simp only [keyV] at hqk
        have hqg := keyGuard
        clear hX hY
        by_cases hkey : x.key = y.key
        · have d1 : decide (x.key ≠ y.key) = false := by simp [hkey]
          rw [d1] at hqk
          by_cases hlong : x.long = y.long
          · have d2 : (x.long != y.long) = false := by simp [hlong]
            by_cases hpg : x.pages = y.pages
            · have d3 : decide (x.pages = y.pages) = true := by simp [hpg]
              rw [d3] at HSL
              have HXY := Lib.hid (show x = y from DEntry.ext hkey hlong hpg)
              clear hkey hlong hpg d1 d3
              go_wp2_with fail
              go_quiet ((go_at_call 47; exact q_more (HSL.out _)))
              go_wp2_with fail
              go_roundw
              case rel => exact ⟨k + 1, by go_num, by omega, by rw [List.take_succ_eq_append_getElem hlt, List.take_succ_eq_append_getElem hlt', T.out, HX.out, HY.out, HXY.out], _, rfl⟩
              case measure => simp [intOf]; omega
            · have d3 : decide (x.pages = y.pages) = false := by simp [hpg]
              rw [d3] at HSL
              have HXY := Lib.hid (show ¬ xs = ys by rintro rfl; exact hpg (by rw [← HX.out, ← HY.out]))
              clear hkey hlong hpg d1 d3
              go_wp2_with fail
              go_quiet ((go_at_call 47; exact q_more (HSL.out _)))
              go_wp2_with fail
              go_ret
              refine ⟨?_, by rw [World.drewN_drewN]; exact ⟨_, rfl⟩⟩
              simp [HXY.out]
          · have d2 : (x.long != y.long) = true := by simp [hlong]
            have HXY := Lib.hid (show ¬ xs = ys by rintro rfl; exact hlong (by rw [← HX.out, ← HY.out]))
            clear hkey hlong d1 HSL
            go_wp2_with fail
            go_quiet (fail)
            go_wp2_with fail
            go_ret
            refine ⟨?_, by rw [World.drewN_drewN]; exact ⟨_, rfl⟩⟩
            simp [HXY.out]
        · have d1 : decide (x.key ≠ y.key) = true := by simp [hkey]
          rw [d1] at hqk
          have HXY := Lib.hid (show ¬ xs = ys by rintro rfl; exact hkey (by rw [← HX.out, ← HY.out]))
          clear hkey d1 HSL
          go_wp2_with fail
          go_quiet (fail)
          go_wp2_with fail
          go_ret
          refine ⟨?_, by rw [World.drewN_drewN]; exact ⟨_, rfl⟩⟩
          simp [HXY.out]
      · have hk' : k = xs.length := by omega
        have hall : xs = ys := by rw [← List.take_length (l := xs), ← hk', htk, hk', H.out, List.take_length]
        have HA := Lib.hid hall
        have HK := Lib.hid hk'
        clear hall hk' htk
        have i1 : ¬ (k : Int) < (xs.length : Int) := by omega
        go_wp2_with fail
        go_ret
        exact ⟨by simp [HA.out], _, rfl⟩
  · have hne : ((xs.length : Int) != (ys.length : Int)) = true := by simp; omega
    have H := Lib.hid hlen
    clear hlen
    go_enter Try.func35, Try.ntmps35
    go_wp2_with fail
    go_ret
    refine ⟨?_, 0, rfl⟩
    have : ¬ xs = ys := by rintro rfl; exact H.out rfl
    simp [this]
end Go.Proofs.Ytecdbfbaclgejaa
