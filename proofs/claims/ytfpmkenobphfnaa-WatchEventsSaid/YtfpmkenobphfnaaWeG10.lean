/- Texts on which the proofs stand: EntSame, Live25. No condition is laid on any input. -/
import Derived.Test.YtfpmkenobphfnaaWeDirGet
import Derived.Test.YtfpmkenobphfnaaWeG2
import Derived.Test.YtfpmkenobphfnaaWeG7
import Derived.Laws.StructEq
/- Walks of the comparison of entries. -/
namespace Go.Proofs.Ytfpmkenobphfnaa
open Go.RowKit

def keyV (x : DKey) : Value := .agg #[.int .i64 x.kind, .int .u64 x.sig, .int .i64 x.comp]
theorem run_eql_key (x y : DKey) (w : World) : (binOp .eql 67 (keyV x) (keyV y)).run Try.prog w = .ok (.bool (decide (x = y))) w := by
  have u3 := Try.underlying3
  have u44 := Try.underlying44
  have a3 := Try.isAgg3
  have a44 := Try.isAgg44
  have z3 := Try.sizeOf3
  have z44 := Try.sizeOf44
  have hS : Try.prog.underlying 67 = some (.struct (Try.prog.fieldsOf 67)) := by kernel_rfl
  have hp : Try.prog.stoodInHeld 67 = false := by kernel_rfl
  simp only [keyV]
  rw [run_eql_struct, show (10000 : Nat) = 9999 + 1 from rfl, run_equalIn_agg w 9999 67 _ _ hS hp]
  simp only [Program.fieldsOf, Try.underlying67]
  go_simp
  by_cases h1 : x.kind = y.kind <;> by_cases h2 : x.sig = y.sig <;> by_cases h3 : x.comp = y.comp <;> simp [h1, h2, h3, DKey.ext_iff]
theorem run_neq_key (x y : DKey) (w : World) : (binOp .neq 67 (keyV x) (keyV y)).run Try.prog w = .ok (.bool (decide (x ≠ y))) w := by
  have h := run_eql_key x y w
  simp only [keyV] at h ⊢
  rw [run_eql_struct] at h
  rw [run_neq_struct]
  cases hh : (Op.equalIn 10000 67 (.agg #[.int .i64 x.kind, .int .u64 x.sig, .int .i64 x.comp]) (.agg #[.int .i64 y.kind, .int .u64 y.sig, .int .i64 y.comp])).run Try.prog w with
  | ok b w' =>
    rw [hh] at h
    simp only [Result.andThen_ok, Result.ok.injEq, Value.bool.injEq] at h ⊢
    obtain ⟨rfl, rfl⟩ := h
    exact ⟨by simp, rfl⟩
  | halt s w' => rw [hh] at h; simp at h

theorem keyGuard : Try.prog.eqGuardType Try.prog.depth 67 = false := by kernel_rfl

set_option maxRecDepth 100000 in
set_option maxHeartbeats 1000000 in
/-- ref25.Same -/
theorem entSame_calls {Q Q' : Nat → Prop} {w : World} {v u : Value} {xs ys : List DEntry} (hx : rEntry.list.val Q w v xs) (hy : rEntry.list.val Q' w u ys) :
    Calls Try.prog 37 #[v, u] w fun e w' => e = .returned (.bool (decide (xs = ys))) ∧ ∃ n, w' = w.drewN n := by
  obtain ⟨A, c, rfl, hc1, hc2, hA⟩ := Rep.val_list hx
  obtain ⟨B, d, rfl, hd1, hd2, hB⟩ := Rep.val_list hy
  clear hx hy
  unfold maxLen at hc2 hd2
  by_cases hlen : xs.length = ys.length
  · have hne : ((xs.length : Int) != (ys.length : Int)) = false := by simp [hlen]
    have H := Lib.hid hlen
    clear hlen
    go_enter Try.func37, Try.ntmps37
    go_wp2_with fail
    go_loopw [5] (fun i wr => ∃ k : Nat, i = .int .i64 k ∧ k ≤ xs.length ∧ xs.take k = ys.take k ∧ ∃ n, w.drewN n = wr) (fun i _ => xs.length - (intOf i).toNat)
    case atStart => exact ⟨0, rfl, Nat.zero_le _, by simp, 0, rfl⟩
    case round =>
      obtain ⟨k, rfl, hk, htk, n, rfl⟩ := hrel
      by_cases hlt : k < xs.length
      · obtain ⟨b, off, Ap, cp, rfl, _, a0, a1, a2, a3, a4, g0, g1, g2, g3, hsx⟩ := rEntry_at hA (List.getElem?_eq_getElem hlt)
        have hlt' : k < ys.length := by rw [← H.out]; exact hlt
        obtain ⟨b', off', Bp, dp, rfl, _, b0, b1, b2, b3, b4, k0, k1, k2, k3, hsy⟩ := rEntry_at hB (List.getElem?_eq_getElem hlt')
        have T := Lib.hid htk
        clear htk
        have i1 : (k : Int) < (xs.length : Int) := by omega
        have i2 : (k : Int) < (ys.length : Int) := by omega
        generalize hX : xs[k] = x at *
        generalize hY : ys[k] = y at *
        have HX := Lib.hid hX
        have HY := Lib.hid hY
        have HSL := Lib.hid (show ∀ m, Calls Try.prog 22 #[.slice Ap x.pages.length cp, .slice Bp y.pages.length dp] (w.drewN m) fun e w' => e = .returned (.bool (decide (x.pages = y.pages))) ∧ ∃ n, w' = (w.drewN m).drewN n from
          fun m => sameList (hsx.drewN m).val (hsy.drewN m).val)
        have hqk := run_neq_key x.key y.key
        simp only [keyV] at hqk
        have hqg := keyGuard
        clear hX hY
        by_cases hkey : x.key = y.key
        · have d1 : decide (x.key ≠ y.key) = false := by simp [hkey]
          rw [d1] at hqk
          by_cases hlong : x.long = y.long
          · have d2 : (x.long != y.long) = false := by simp [hlong]
            by_cases hpg : x.pages = y.pages
            · have d3 : decide (x.pages = y.pages) = true := by simp [hpg]
              rw [d3] at HSL
              have HXY := Lib.hid (show x = y from DEntry.ext hkey hlong hpg)
              clear hkey hlong hpg d1 d3
              go_wp2_with fail
              go_quiet ((go_at_call 22; exact q_more (HSL.out _)))
              go_wp2_with fail
              go_roundw
              case rel => exact ⟨k + 1, by go_num, by omega, by rw [List.take_succ_eq_append_getElem hlt, List.take_succ_eq_append_getElem hlt', T.out, HX.out, HY.out, HXY.out], _, rfl⟩
              case measure => simp [intOf]; omega
            · have d3 : decide (x.pages = y.pages) = false := by simp [hpg]
              rw [d3] at HSL
              have HXY := Lib.hid (show ¬ xs = ys by rintro rfl; exact hpg (by rw [← HX.out, ← HY.out]))
              clear hkey hlong hpg d1 d3
              go_wp2_with fail
              go_quiet ((go_at_call 22; exact q_more (HSL.out _)))
              go_wp2_with fail
              go_ret
              refine ⟨?_, by rw [World.drewN_drewN]; exact ⟨_, rfl⟩⟩
              simp [HXY.out]
          · have d2 : (x.long != y.long) = true := by simp [hlong]
            have HXY := Lib.hid (show ¬ xs = ys by rintro rfl; exact hlong (by rw [← HX.out, ← HY.out]))
            clear hkey hlong d1 HSL
            go_wp2_with fail
            go_quiet (fail)
            go_wp2_with fail
            go_ret
            refine ⟨?_, by rw [World.drewN_drewN]; exact ⟨_, rfl⟩⟩
            simp [HXY.out]
        · have d1 : decide (x.key ≠ y.key) = true := by simp [hkey]
          rw [d1] at hqk
          have HXY := Lib.hid (show ¬ xs = ys by rintro rfl; exact hkey (by rw [← HX.out, ← HY.out]))
          clear hkey d1 HSL
          go_wp2_with fail
          go_quiet (fail)
          go_wp2_with fail
          go_ret
          refine ⟨?_, by rw [World.drewN_drewN]; exact ⟨_, rfl⟩⟩
          simp [HXY.out]
      · have hk' : k = xs.length := by omega
        have hall : xs = ys := by rw [← List.take_length (l := xs), ← hk', htk, hk', H.out, List.take_length]
        have HA := Lib.hid hall
        have HK := Lib.hid hk'
        clear hall hk' htk
        have i1 : ¬ (k : Int) < (xs.length : Int) := by omega
        go_wp2_with fail
        go_ret
        exact ⟨by simp [HA.out], _, rfl⟩
  · have hne : ((xs.length : Int) != (ys.length : Int)) = true := by simp; omega
    have H := Lib.hid hlen
    clear hlen
    go_enter Try.func37, Try.ntmps37
    go_wp2_with fail
    go_ret
    refine ⟨?_, 0, rfl⟩
    have : ¬ xs = ys := by rintro rfl; exact H.out rfl
    simp [this]
end Go.Proofs.Ytfpmkenobphfnaa
/- The example of the statements on directories, walked; and more than is asked of flows. -/
namespace Go.Proofs.Ytfpmkenobphfnaa
open Go.RowKit

/-- code -/
theorem code25_calls (n : Int) (w : World) : Calls Try.prog 38 #[.int .i64 n] w fun e w' => e = .returned (.int .i64 n) ∧ w' = w := by
  go_enter Try.func38, Try.ntmps38
  go_wp2_with fail
  go_ret
  exact ⟨rfl, rfl⟩

/-- A slice literal of values that have cells of their own. -/
theorem lit_list {α : Type} {r : Rep α} {e : Nat} {w : World} {cs : List Value} {xs : List α} {n : Nat} (hn : n = xs.length) (hm : n ≤ maxLen) {Q : Nat → Prop} (hb : Q w.heap.size) (hr : r.row Q (w.alloc (.cells cs.toArray e)) cs xs) :
    r.list.val Q (w.alloc (.cells cs.toArray e)) (.slice (some ⟨w.heap.size, 0, none⟩) n n) xs :=
  Rep.list_val hn (Nat.le_refl _) hm ⟨cs, hr, fun _ => ⟨w.heap.size, 0, rfl, hb, ⟨_, _, _, heap_alloc_new w _⟩, fun j u hj => by
    rw [cell_of_row _ _ _ _ _ _ (heap_alloc_new w _), Nat.zero_add, ← hj]; simp⟩⟩
theorem lit_bytes {w : World} (l : List UInt8) {n : Nat} (hn : n = l.length) (hm : n ≤ maxLen) : Rep.byte.list.val (fun b => w.heap.size ≤ b) (w.alloc (.cells (l.map fun x => .int .u8 (x.toNat : Int)).toArray 5)) (.slice (some ⟨w.heap.size, 0, none⟩) n n) l :=
  lit_list hn hm (Nat.le_refl _) (Rep.byte_row l)

def ent0 : List DEntry := [⟨⟨1, 0, 0⟩, 3, [2]⟩]
theorem ent0_bytes : dirGet (dirBytes ent0) = (ent0, 0) ∧ (dirBytes ent0).length = 20 := by decide +kernel
theorem put0 : dirBytes [] = [0, 0] := by decide +kernel

set_option maxRecDepth 100000 in
set_option maxHeartbeats 1000000 in
/-- live of the statements on directories -/
theorem live25 (w : World) : Calls Try.prog 28 #[] w fun e w' => e = .returned (.bool true) ∧ Below w.heap.size w w' := by
  have HE := Lib.hid ent0_bytes.1
  have HL := Lib.hid ent0_bytes.2
  go_enter Try.func28, Try.ntmps28
  go_wp2_with fail
  obtain ⟨W2, hW2⟩ : ∃ W2, (w.alloc (.cells #[.int .i64 2] 3)).alloc (.cells #[.int .i64 1, .int .u64 0, .int .i64 0, .int .i64 3, .slice (some ⟨w.heap.size, 0, none⟩) 1 1] 69) = W2 := ⟨_, rfl⟩
  have hb2 : Below w.heap.size w W2 := by rw [← hW2]; exact ((Below.refl _ _).alloc (Nat.le_refl _) _).alloc (by simp) _
  have hx : rEntry.list.val (fun _ => True) W2 (.slice (some ⟨w.heap.size + 1, 0, none⟩) 1 1) ent0 := by
    rw [← hW2]
    have hp : (Rep.int .i64).list.val (fun _ => True) (w.alloc (.cells #[.int .i64 2] 3)) (.slice (some ⟨w.heap.size, 0, none⟩) 1 1) [2] :=
      lit_list (r := Rep.int .i64) (e := 3) (w := w) (xs := [2]) (n := 1) (cs := [.int .i64 2]) (Q := fun _ => True) rfl (by simp [maxLen]) trivial ⟨[.int .i64 2], [], rfl, ⟨rfl, rfl⟩, rfl⟩
    have hp2 := Rep.val_below (B := w.heap.size + 1) hp (((Below.refl _ (w.alloc (.cells #[.int .i64 2] 3))).alloc (o := .cells #[.int .i64 1, .int .u64 0, .int .i64 0, .int .i64 3, .slice (some ⟨w.heap.size, 0, none⟩) 1 1] 69) (by simp) )) (fun _ _ h => by have := h.lt; simpa using this)
    obtain ⟨A, c, he, hs⟩ := Rep.val_sl hp2
    cases he
    have := lit_list (r := rEntry) (e := 69) (w := w.alloc (.cells #[.int .i64 2] 3)) (xs := ent0) (n := 1) (cs := [.int .i64 1, .int .u64 0, .int .i64 0, .int .i64 3, .slice (some ⟨w.heap.size, 0, none⟩) 1 1]) (Q := fun _ => True) rfl (by simp [maxLen]) trivial
      (Rep.row_one_elem (rEntry_mk (x := ⟨⟨1, 0, 0⟩, 3, [2]⟩) rfl rfl rfl rfl hs))
    simpa using this
  have HX := Lib.hid hx
  have HB2 := Lib.hid hb2
  try rw [hW2]
  clear hW2 hx hb2
  refine (rdput_calls HX.out (by rw [HL.out]; decide) (by decide)).mono ?_
  rintro e w3 ⟨u3, rfl, hu3, hb3⟩
  have HU3 := Lib.hid (Rep.acc_fresh hu3)
  have HB3 := Lib.hid (HB2.out.trans (hb3.mono HB2.out.size))
  have HX3 := Lib.hid (Rep.val_below HX.out hb3 fun _ _ h => h.lt)
  clear hu3 hb3
  go_wp2_with fail
  refine (dget_calls HU3.out (by rw [HL.out]; decide)).mono ?_
  rintro e w4 ⟨u4, rfl, hu4, hb4⟩
  rw [HE.out] at hu4
  rw [show (dirGet (dirBytes ent0)).2 = 0 by rw [HE.out]]
  have HU4 := Lib.hid hu4
  have HB4 := Lib.hid (HB3.out.trans (hb4.mono HB3.out.size))
  have HX4 := Lib.hid (Rep.val_below HX3.out hb4 fun _ _ h => h.lt)
  clear hu4 hb4
  go_wp2_with fail
  refine (dput_calls (l := []) (Q := fun _ => True) (Rep.val_nil (by simp [maxLen])) (by rw [put0]; decide) (by decide)).mono ?_
  rintro e w5 ⟨u5, rfl, hu5, hb5⟩
  rw [put0] at hu5
  have HU5 := Lib.hid hu5
  have HB5 := Lib.hid (HB4.out.trans (hb5.mono HB4.out.size))
  have HX5 := Lib.hid (Rep.val_below HX4.out hb5 fun _ _ h => h.lt)
  have HU45 := Lib.hid (Rep.val_below HU4.out hb5 fun _ _ h => h.lt)
  clear hu5 hb5
  go_wp2_with fail
  have hb6 : Below w5.heap.size w5 (w5.alloc (.cells #[.int .u8 0, .int .u8 0] 5)) := (Below.refl _ _).alloc (Nat.le_refl _) _
  have hl6 := lit_bytes (w := w5) [0, 0] (n := 2) rfl (by simp [maxLen])
  have HL6 := Lib.hid (show Rep.byte.list.val (fun b => w5.heap.size ≤ b) (w5.alloc (.cells #[.int .u8 0, .int .u8 0] 5)) (.slice (some ⟨w5.heap.size, 0, none⟩) 2 2) [0, 0] from hl6)
  have HU6 := Lib.hid (Rep.val_below HU5.out hb6 fun _ _ h => h.lt)
  have HB6 := Lib.hid (HB5.out.trans (hb6.mono HB5.out.size))
  have HX6 := Lib.hid (Rep.val_below HX5.out hb6 fun _ _ h => h.lt)
  have HU46 := Lib.hid (Rep.val_below HU45.out hb6 fun _ _ h => h.lt)
  clear hl6 hb6
  generalize w5.alloc (.cells #[.int .u8 0, .int .u8 0] 5) = W6 at *
  refine (sameBytes HU6.out HL6.out).mono ?_
  rintro e w6 ⟨rfl, rfl⟩
  simp only [decide_true]
  go_wp2_with fail
  refine (entSame_calls HU46.out HX6.out).mono ?_
  rintro e w7 ⟨rfl, nq, rfl⟩
  simp only [decide_true]
  go_wp2_with (go_at_call 38; refine (code25_calls _ _).mono ?_; rintro e w' ⟨rfl, rfl⟩)
  go_ret
  exact ⟨rfl, below_drewN HB6.out nq⟩

/-- More than is asked of flows. -/
def muchFlows (l : List DFlow) : Bool := decide (20 < l.length) || (l.take 50).any fun f => decide (3000 < f.data.length) || decide (50 < f.pages.length)
theorem any_take_succ {α : Type} {p : α → Bool} {s : List α} {k : Nat} (hk : k < s.length) (h : (s.take k).any p = false) (hc : p s[k] = false) : (s.take (k + 1)).any p = false := by
  rw [List.take_succ_eq_append_getElem hk, List.any_append, h]; simp [hc]
theorem any_of {α : Type} {p : α → Bool} {s : List α} {k n : Nat} (hk : k < s.length) (hn : k < n) (hc : p s[k] = true) : (s.take n).any p = true :=
  List.any_eq_true.2 ⟨s[k], List.mem_take_iff_getElem.2 ⟨k, by omega, rfl⟩, hc⟩

set_option maxRecDepth 100000 in
/-- ref24.Much -/
theorem muchFlows_calls {Q : Nat → Prop} {w : World} {v : Value} {l : List DFlow} (hx : rFlow.list.val Q w v l) :
    Calls Try.prog 39 #[v] w fun e w' => e = .returned (.bool (muchFlows l)) ∧ w' = w := by
  obtain ⟨A, c, rfl, hc1, hc2, hA⟩ := Rep.val_list hx
  unfold maxLen at hc2
  have HA := Lib.hid hA
  clear hx hA
  go_enter Try.func39, Try.ntmps39
  go_wp2_with fail
  go_loop [3] (fun i => ∃ k : Nat, i = .int .i64 k ∧ k ≤ l.length ∧ k ≤ 50 ∧ Hid ((l.take k).any (fun f => decide (3000 < f.data.length) || decide (50 < f.pages.length)) = false)) (fun i => l.length - (intOf i).toNat)
  case atStart => exact ⟨0, rfl, by omega, by omega, by simp [Hid]⟩
  case round =>
    obtain ⟨k, rfl, hk, hk5, hany⟩ := hrel
    by_cases hlt : (k : Int) < l.length
    · by_cases h50 : (k : Int) < 50
      · have hk' : k < l.length := by omega
        obtain ⟨b, off, Ad, cd, Ap, cp, rfl, hbc, cx0, cx1, cx2, cx3, cx4, g0, g1, g2, hsd, hs⟩ := rFlow_at HA.out (List.getElem?_eq_getElem hk')
        have hd := hsd.1
        have hd2 := hsd.2.1
        have hs1 := hs.1
        have hs2 := hs.2.1
        unfold maxLen at hd2 hs2
        have NX := Lib.hid (fun h => any_take_succ hk' hany h)
        have YS := Lib.hid (fun h => any_of (n := 50) (p := fun f : DFlow => decide (3000 < f.data.length) || decide (50 < f.pages.length)) hk' (by omega) h)
        generalize l[k] = x at *
        clear g0 g1 g2 hsd hs
        by_cases h1 : (3000 : Int) < x.data.length
        · have F := Lib.hid (show muchFlows l = true by unfold muchFlows; rw [YS.out (by simp; omega)]; simp)
          go_wp2_with fail
          go_ret
          exact ⟨by rw [F.out]; rfl, rfl⟩
        · by_cases h2 : (50 : Int) < x.pages.length
          · have F := Lib.hid (show muchFlows l = true by unfold muchFlows; rw [YS.out (by simp; omega)]; simp)
            go_wp2_with fail
            go_ret
            exact ⟨by rw [F.out]; rfl, rfl⟩
          · have N2 := Lib.hid (NX.out (by simp; omega))
            go_wp2_with fail
            go_round
            case rel => exact ⟨k + 1, by go_num, by omega, by omega, N2⟩
            case measure => simp [intOf]; omega
      · have hk50 : k = 50 := by omega
        have F := Lib.hid (show muchFlows l = true by unfold muchFlows; simp; omega)
        have h20 : (20 : Int) < l.length := by omega
        go_wp2_with fail
        go_ret
        exact ⟨by rw [F.out]; rfl, rfl⟩
    · have F := Lib.hid (show muchFlows l = decide ((20 : Int) < l.length) by
        unfold muchFlows
        have hkl : k = l.length := by omega
        have h50 : (l.take 50) = l.take k := by rw [hkl, List.take_length, List.take_of_length_le (by omega)]
        rw [h50, hany.out, Bool.or_false]
        rw [decide_eq_decide]; omega)
      by_cases h20 : (20 : Int) < l.length
      · have D : decide ((20 : Int) < l.length) = true := by simp [h20]
        rw [D] at F
        clear D
        go_wp2_with fail
        go_ret
        exact ⟨by rw [F.out]; rfl, rfl⟩
      · have D : decide ((20 : Int) < l.length) = false := by simp [h20]
        rw [D] at F
        clear D
        go_wp2_with fail
        go_ret
        exact ⟨by rw [F.out]; rfl, rfl⟩
end Go.Proofs.Ytfpmkenobphfnaa
