/- Walk of the reference's directory out of bytes. -/
import Derived.Test.YtecdbfbaclgejaaDirMath
import Derived.Test.YtecdbfbaclgejaaEntries
namespace Go.Proofs.Ytecdbfbaclgejaa
open Go.RowKit

/-- A call that returns a value that reads as x, and a number. -/
def ResN {α : Type} (r : Rep α) (Q : Nat → Prop) (w : World) (x : α) (n : Int) (e : Ending) (w' : World) : Prop := ∃ u, e = .returned (.tuple #[u, .int .i64 n]) ∧ r.val Q w' u x ∧ Below w.heap.size w w'

theorem u64_i64of (n : Nat) (h : n < 18446744073709551616) : IntKind.u64.wrap (i64of n) = n := by rw [wrap_u64, i64of_emod n h]
theorem natAt8_lt (b : List UInt8) (at_ : Nat) : natAt b at_ 8 < 18446744073709551616 := natAt_lt b at_ 8
theorem natAt_wf (b : List UInt8) (at_ w : Nat) (h : w ≤ 7) : (Lit.int .i64 (natAt b at_ w : Int)).wf = true := by rw [← i64of_natAt b at_ w h]; exact i64of_wf _
theorem u64_wf (n : Nat) (h : n < 18446744073709551616) : (Lit.int .u64 (n : Int)).wf = true := by
  simp [Lit.wf, IntKind.min, IntKind.max, IntKind.signed, IntKind.bits]; omega
theorem entAt_wf (b : List UInt8) (at_ : Nat) : (Lit.int .i64 (entAt b at_).key.kind).wf = true ∧ (Lit.int .u64 (entAt b at_).key.sig).wf = true ∧ (Lit.int .i64 (entAt b at_).key.comp).wf = true ∧ (Lit.int .i64 (entAt b at_).long).wf = true :=
  ⟨natAt_wf _ _ _ (by decide), u64_wf _ (natAt8_lt _ _), natAt_wf _ _ _ (by decide), natAt_wf _ _ _ (by decide)⟩

theorem cell_row {w : World} {b e : Nat} {cs : Array Value} {f : Nat × Nat} (h : w.heap[b]? = some (.cells cs e f)) (i : Nat) : w.cell? ⟨b, i, none⟩ = cs[i]? := by simp [World.cell?, h]
theorem frozen_row {w : World} {b e : Nat} {cs : Array Value} (h : w.heap[b]? = some (.cells cs e (0, 0))) (i : Nat) : w.frozen? ⟨b, i, none⟩ = false := by simp [World.frozen?, h]
theorem dirGet_short {b : List UInt8} (h : b.length < 2) : dirGet b = ([], 12) := by rw [dirGet, if_pos h]
theorem dirGet_none {b : List UInt8} (h : ¬ b.length < 2) (hp : parseDir b (natAt b 0 2) = none) : dirGet b = ([], 12) := by rw [dirGet, if_neg h, hp]
theorem dirGet_form {b : List UInt8} {l : List DEntry} {e : Nat} (h : ¬ b.length < 2) (hp : parseDir b (natAt b 0 2) = some (l, e)) (he : e ≠ b.length) : dirGet b = ([], 11) := by
  rw [dirGet, if_neg h, hp]; simp only [if_neg he]
theorem dirGet_ok {b : List UInt8} {l : List DEntry} {e : Nat} (h : ¬ b.length < 2) (hp : parseDir b (natAt b 0 2) = some (l, e)) (he : e = b.length) : dirGet b = (l, 0) := by
  rw [dirGet, if_neg h, hp]; simp only [if_pos he]
theorem parse_fail {b : List UInt8} {i N at_ : Nat} {l : List DEntry} (hi : i < N) (h : parseDir b i = some (l, at_)) (h2 : parseEnt b at_ = none) : parseDir b N = none := by
  refine parseDir_none (n := i + 1) ?_ N hi
  rw [parseDir, h]; simp only [h2]
theorem parse_step {b : List UInt8} {i at_ : Nat} {l : List DEntry} (h : parseDir b i = some (l, at_)) (h1 : at_ + 16 ≤ b.length) (h2 : at_ + 16 + 2 * countAt b at_ ≤ b.length) : parseDir b (i + 1) = some (l ++ [entAt b at_], at_ + 16 + 2 * countAt b at_) := by
  rw [parseDir, h]; simp only [parseEnt, if_pos (And.intro h1 h2)]
theorem parseEnt_none {b : List UInt8} {at_ : Nat} (h : ¬ (at_ + 16 ≤ b.length ∧ at_ + 16 + 2 * countAt b at_ ≤ b.length)) : parseEnt b at_ = none := by rw [parseEnt, if_neg h]

set_option maxRecDepth 100000 in
set_option maxHeartbeats 1000000 in
/-- ref25.Get -/
theorem rdget_calls {Q : Nat → Prop} {w : World} {v : Value} {b : List UInt8} (hx : Rep.byte.list.val Q w v b) (hb : b.length ≤ 1000000000) :
    Calls Try.prog 34 #[v] w (ResN rEntry.list (fun b => w.heap.size ≤ b) w (dirGet b).1 (dirGet b).2) := by
  have HX := Lib.hid hx
  obtain ⟨A, c, rfl, hc1, hc2, hA⟩ := Rep.val_list hx
  unfold maxLen at hc2
  have HA := Lib.hid hA
  have G0 := Lib.hid (getNum_nat b 0 (w := 2) (by decide) (by decide))
  clear hx hA
  by_cases hs : b.length < 2
  · have R := Lib.hid (dirGet_short hs)
    rw [if_neg (by omega)] at G0
    go_enter Try.func34, Try.ntmps34
    go_wp2_with fail
    refine (rget_calls (at_ := 0) (width := 2) HX.out rfl).mono ?_
    rintro e w' ⟨rfl, rfl⟩
    rw [show getNum b 0 2 = none from G0.out]
    simp only [Option.getD_none, Option.isSome_none]
    go_wp2_with fail
    go_ret2
    rw [R.out]
    exact ⟨_, rfl, Rep.val_nil (by simp [maxLen]), Below.refl _ _⟩
  · have HS := Lib.hid hs
    rw [if_pos (by omega), i64of_natAt b 0 2 (by decide)] at G0
    obtain ⟨N, hN⟩ : ∃ N, N = natAt b 0 2 := ⟨_, rfl⟩
    have hN1 : N < 65536 := by rw [hN]; exact natAt_lt b 0 2
    rw [← hN] at G0
    have HN := Lib.hid hN
    clear hN hs
    go_enter Try.func34, Try.ntmps34
    go_wp2_with fail
    refine (rget_calls (at_ := 0) (width := 2) HX.out rfl).mono ?_
    rintro e w' ⟨rfl, rfl⟩
    rw [show getNum b 0 2 = some (N : Int) from G0.out]
    simp only [Option.getD_some, Option.isSome_some]
    go_wp2_with fail
    go_loopw [6, 7, 8] (fun s p i wr => ∃ (k at_ : Nat) (l : List DEntry), i = .int .i64 k ∧ k ≤ N ∧ p = .int .i64 at_ ∧ Hid (parseDir b k = some (l, at_)) ∧ rEntry.acc 83 w'.heap.size (fun b => w'.heap.size ≤ b) wr s l ∧ Below w'.heap.size w' wr)
      (fun _ _ i _ => N - (intOf i).toNat)
    case atStart => exact ⟨0, 2, [], rfl, by omega, rfl, rfl, Rep.acc_nil, Below.refl _ _⟩
    case round =>
      obtain ⟨k, at_, l, rfl, hk, rfl, hp, hv, hb1⟩ := hrel
      have HB1 := Lib.hid hb1
      have hat := parseDir_at (by have := HS.out; omega) hp.out
      have HLEN := Lib.hid (parseDir_length hp.out)
      have HV := Lib.hid hv
      obtain ⟨A2, c2, rfl, _, _⟩ := Rep.acc_form hv
      have HXr := Lib.hid (Rep.val_below HX.out hb1 fun _ _ hb => hb.lt)
      clear hv hb1
      by_cases hlt : (k : Int) < N
      · have G1 := Lib.hid (show getNum b ((at_ : Int) + 14) 2 = _ from getNum_nat b (at_ + 14) (w := 2) (by decide) (by decide))
        by_cases h16 : at_ + 16 ≤ b.length
        · rw [if_pos (by omega), i64of_natAt b (at_ + 14) 2 (by decide), show natAt b (at_ + 14) 2 = countAt b at_ from rfl] at G1
          have hc := natAt_lt b (at_ + 14) 2
          rw [show natAt b (at_ + 14) 2 = countAt b at_ from rfl] at hc
          by_cases hfit : at_ + 16 + 2 * countAt b at_ ≤ b.length
          · have PS := Lib.hid (parse_step hp.out h16 hfit)
            have EA := Lib.hid (show entAt b at_ = ⟨⟨natAt b at_ 1, natAt b (at_ + 1) 8, natAt b (at_ + 9) 1⟩, natAt b (at_ + 10) 4, pagesAt b (at_ + 16) (countAt b at_)⟩ from rfl)
            obtain ⟨C, hC⟩ : ∃ C, C = countAt b at_ := ⟨_, rfl⟩
            rw [← hC] at G1 hc hfit PS EA
            have HC := Lib.hid hC
            have n1 : ¬ ((b.length : Int) - at_ - 16) / 2 < C := by omega
            have n2 : (0 : Int) ≤ (b.length : Int) - at_ - 16 := by omega
            have G2 := Lib.hid (show getNum b ((at_ : Int) + 1) 8 = some (i64of (natAt b (at_ + 1) 8)) from (getNum_nat b (at_ + 1) (w := 8) (by decide) (by decide)).trans (if_pos (by omega)))
            have G3 := Lib.hid (show getNum b ((at_ : Int) + 10) 4 = some ((natAt b (at_ + 10) 4 : Nat) : Int) from ((getNum_nat b (at_ + 10) (w := 4) (by decide) (by decide)).trans (if_pos (by omega))).trans (congrArg some (i64of_natAt b (at_ + 10) 4 (by decide))))
            clear hC
            go_wp2_with fail
            refine (rget_calls (at_ := ((at_ : Int) + 14)) (width := 2) HXr.out (wf_i64 (by omega) (by omega))).mono ?_
            rintro e w1 ⟨rfl, rfl⟩
            rw [show getNum b ((at_ : Int) + 14) 2 = some (C : Int) from G1.out]
            simp only [Option.getD_some, Option.isSome_some]
            go_wp2_with fail
            refine (rget_calls (at_ := ((at_ : Int) + 1)) (width := 8) HXr.out (wf_i64 (by omega) (by omega))).mono ?_
            rintro e w1 ⟨rfl, rfl⟩
            rw [G2.out]
            simp only [Option.getD_some, Option.isSome_some]
            go_wp2_with fail
            refine (rget_calls (at_ := ((at_ : Int) + 10)) (width := 4) HXr.out (wf_i64 (by omega) (by omega))).mono ?_
            rintro e w1 ⟨rfl, rfl⟩
            rw [G3.out]
            simp only [Option.getD_some, Option.isSome_some]
            go_wp2_with fail
            have hXb := (Rep.val_sl HXr.out)
            obtain ⟨A0, c0, he0, hX0⟩ := hXb
            cases he0
            obtain ⟨bb, off, rfl, k0⟩ := hX0.2.2.byte (i := at_) (List.getElem?_eq_getElem (show at_ < b.length by omega))
            obtain ⟨bb', off', he1, k9⟩ := hX0.2.2.byte (i := at_ + 9) (List.getElem?_eq_getElem (show at_ + 9 < b.length by omega))
            cases he1
            have N0 := Lib.hid (natAt_one (show at_ < b.length by omega))
            have N9 := Lib.hid (natAt_one (show at_ + 9 < b.length by omega))
            have y0 := byte_le (b[at_]'(by omega))
            have y9 := byte_le (b[at_ + 9]'(by omega))
            have z0 : (0 : Int) ≤ ((b[at_]'(by omega)).toNat : Int) := by omega
            have z9 : (0 : Int) ≤ ((b[at_ + 9]'(by omega)).toNat : Int) := by omega
            generalize (b[at_]'(by omega)).toNat = x0 at *
            generalize (b[at_ + 9]'(by omega)).toNat = x9 at *
            have j0 : (at_ : Int) < b.length := by omega
            have j9 : (at_ : Int) + 9 < b.length := by omega
            have s9 : IntKind.i64.wrap ((at_ : Int) + 9) = (at_ : Int) + 9 := IntWalk.i64_in _ ⟨by omega, by omega⟩
            have p9 : (0 : Int) ≤ (at_ : Int) + 9 := by omega
            have hu := u64_i64of _ (natAt8_lt b (at_ + 1))
            have r0 : IntKind.i64.wrap (x0 : Int) = x0 := IntWalk.i64_in _ ⟨by omega, by omega⟩
            have r9 : IntKind.i64.wrap (x9 : Int) = x9 := IntWalk.i64_in _ ⟨by omega, by omega⟩
            have t9 : ((at_ : Int) + 9).toNat = at_ + 9 := by omega
            clear hX0
            go_region_held3 (fun w' => w'.cell? ⟨bb, off + at_, none⟩ = some (.int .u8 x0) ∧ w'.cell? ⟨bb, off + (at_ + 9), none⟩ = some (.int .u8 x9))
              (go_keep) (fail)
            rename_i hHeld
            clear hHeld s9 p9 t9 k0 k9 r0 r9
            go_wp2_with fail
            have EQ := Lib.hid (show entAt b at_ = ⟨⟨x0, natAt b (at_ + 1) 8, x9⟩, natAt b (at_ + 10) 4, pagesAt b (at_ + 16) C⟩ by rw [EA.out, N0.out, N9.out])
            have EW := Lib.hid (entAt_wf b at_)
            generalize natAt b (at_ + 10) 4 = lg at *
            generalize natAt b (at_ + 1) 8 = sg at *
            obtain ⟨W3, hW3⟩ : ∃ W3, (w1.alloc (.cells #[.int .i64 x0, .int .u64 sg, .int .i64 x9, .int .i64 lg, .slice none 0 0] 83)).drew = W3 := ⟨_, rfl⟩
            have hbx : W3.heap[w1.heap.size]? = some (.cells #[.int .i64 x0, .int .u64 sg, .int .i64 x9, .int .i64 lg, .slice none 0 0] 83 (0, 0)) := by rw [← hW3]; exact heap_alloc_new w1 _
            have hb3 : Below w1.heap.size w1 W3 := by rw [← hW3]; exact ((Below.refl _ _).alloc (Nat.le_refl _) _).drew
            have hs3 : W3.heap.size = w1.heap.size + 1 := by rw [← hW3]; simp
            rw [hW3]
            have HBX := Lib.hid hbx
            have B3 := Lib.hid hb3
            have HS3 := Lib.hid hs3
            clear hW3 hbx hb3 hs3 y0 y9 z0 z9 j0 j9 n1 n2 hu
            go_loopw [7, 16] (fun p i wr => ∃ (j : Nat) (u : Value), i = .int .i64 j ∧ j ≤ C ∧ p = .int .i64 ((at_ + 16 + 2 * j : Nat) : Int) ∧ wr.heap[w1.heap.size]? = some (.cells #[.int .i64 x0, .int .u64 sg, .int .i64 x9, .int .i64 lg, u] 83 (0, 0)) ∧ (Rep.int .i64).acc 3 (w1.heap.size + 1) (fun _ => False) wr u (pagesAt b (at_ + 16) j) ∧ Below w1.heap.size w1 wr ∧ w1.heap.size + 1 ≤ wr.heap.size)
              (fun _ i _ => C - (intOf i).toNat)
            case atStart => exact ⟨0, .slice none 0 0, rfl, by omega, rfl, HBX.out, Rep.acc_nil, B3.out, by rw [HS3.out]; exact Nat.le_refl _⟩
            case round =>
              obtain ⟨j, u, rfl, hj, rfl, hbx, hacc, hb6, hsz6⟩ := hrel
              have HBX6 := Lib.hid hbx
              have HB6 := Lib.hid hb6
              have HA6 := Lib.hid hacc
              obtain ⟨A6, c6, rfl, _, _⟩ := Rep.acc_form hacc
              clear hbx hacc hb6
              by_cases hlt2 : (j : Int) < C
              · have e4 : wr.cell? ⟨w1.heap.size, 4, none⟩ = some (.slice A6 (pagesAt b (at_ + 16) j).length c6) := by simp [World.cell?, HBX6.out]
                have T := Lib.hid (pagesAt_succ b (at_ + 16) j)
                have L := Lib.hid (show (pagesAt b (at_ + 16) j).length + 1 ≤ maxLen ∧ ((pagesAt b (at_ + 16) j).length + 1) * 8 ≤ 140737488355328 by rw [pagesAt_length]; unfold maxLen; omega)
                have G4 := Lib.hid (show getNum b ((at_ + 16 + 2 * j : Nat) : Int) 2 = some ((natAt b (at_ + 16 + 2 * j) 2 : Nat) : Int) from ((getNum_nat b (at_ + 16 + 2 * j) (w := 2) (by decide) (by decide)).trans (if_pos (by omega))).trans (congrArg some (i64of_natAt b _ 2 (by decide))))
                have hpw := Lib.hid (natAt_wf b (at_ + 16 + 2 * j) 2 (by decide))
                have HXq := Lib.hid (Rep.val_below HXr.out HB6.out fun _ _ hb => hb.lt)
                obtain ⟨at6, hat6⟩ : ∃ a, a = at_ + 16 + 2 * j := ⟨_, rfl⟩
                have hat7 : at6 ≤ 1000000000 := by omega
                have HAT := Lib.hid (show at6 + 2 = at_ + 16 + 2 * (j + 1) by omega)
                rw [← hat6] at G4 hpw T ⊢
                generalize pagesAt b (at_ + 16) j = q at *
                generalize natAt b at6 2 = pn at *
                clear hat6
                go_wp2_with fail
                refine (rget_calls (at_ := (at6 : Int)) (width := 2) HXq.out (wf_i64 (by omega) (by omega))).mono ?_
                rintro e w2 ⟨rfl, rfl⟩
                rw [G4.out]
                simp only [Option.getD_some, Option.isSome_some]
                go_wp2_with (refine wpList_snoc (e := 3) (base := w1.heap.size + 1) (Q := fun _ => False) (r := Rep.int .i64) rfl rfl _ _ 30 _ rfl rfl rfl (.int .i64 0) 1 8 Try.underlying30 info3 rfl (by decide) rfl _ q HA6.out (pn : Int) _ (by exact rfl) ⟨_, rfl, rfl, hpw.out⟩ (by exact rfl) (by exact rfl) L.out.1 L.out.2 hsz6 ?_; intro s7 w7 hacc7 hgr7 hat7; rw [← T.out] at hacc7; have HA7 := Lib.hid hacc7; have HG7 := Lib.hid hgr7; obtain ⟨A7, c7, rfl, _, _⟩ := Rep.acc_form hacc7; have HBX7 := Lib.hid ((hgr7.block w1.heap.size (by omega) (fun e => by have := (Rep.acc_own HA6.out _ e.symm).1; omega)).trans HBX6.out); clear hacc7 hgr7 hat7; have e4 := cell_row HBX7.out 4; have z4 := frozen_row HBX7.out 4)
                have hown7 := Rep.acc_own HA7.out
                exact ⟨⟨j + 1, _, by go_num, by omega, by rw [← HAT.out]; go_num, (heap_setRow HBX7.out).trans rfl,
                  by exact Rep.acc_keep (fun b hb _ => Below.heap_setCell _ _ _ _ (by rcases hb with hb | hb; exact hb.elim; have := (hown7 b hb).1; show b ≠ w1.heap.size; omega)) (fun _ h _ => h) HA7.out,
                  (HB6.out.grown HG7.out (by omega) (fun k hk => by have := (Rep.acc_own HA6.out k hk).1; omega)).setCell (p := ⟨w1.heap.size, 4, none⟩) (Nat.le_refl _) _, by have := HG7.out.size; simp; omega⟩, by simp [intOf]; omega⟩
              · obtain rfl : j = C := by omega
                have e0 := cell_row HBX6.out 0
                have e1 := cell_row HBX6.out 1
                have e2 := cell_row HBX6.out 2
                have e3 := cell_row HBX6.out 3
                have e4 := cell_row HBX6.out 4
                have HV6 := Lib.hid (Rep.acc_later HV.out HB6.out)
                have HO := Lib.hid (show ∀ b, (Value.slice A2 l.length c2).ownBlock = some b → b < w1.heap.size from fun b hb => (Rep.acc_own HV.out b hb).2)
                have HW0 := Lib.hid HB1.out.size
                have HY := Lib.hid (show rEntry.val (fun b => w'.heap.size ≤ b ∧ (Value.slice A2 l.length c2).ownBlock ≠ some b) wr (.agg #[.int .i64 x0, .int .u64 sg, .int .i64 x9, .int .i64 lg, .slice A6 (pagesAt b (at_ + 16) j).length c6]) (entAt b at_) by
                  have hw := EW.out
                  rw [EQ.out] at hw ⊢
                  obtain ⟨A8, c8, he, h8⟩ := Rep.val_sl (Rep.acc_fresh HA6.out)
                  cases he
                  exact rEntry_agg (x := ⟨⟨x0, sg, x9⟩, lg, pagesAt b (at_ + 16) j⟩) hw.1 hw.2.1 hw.2.2.1 hw.2.2.2 (h8.keep fun b hb _ => ⟨⟨by have := HW0.out; omega, fun e => by have := HO.out b e; omega⟩, rfl⟩))
                have L2 := Lib.hid (show l.length + 1 ≤ maxLen ∧ (l.length + 1) * 56 ≤ 140737488355328 by rw [HLEN.out]; unfold maxLen; omega)
                have HB7 := Lib.hid (HB1.out.trans (HB6.out.mono HB1.out.size))
                generalize pagesAt b (at_ + 16) j = q at *
                clear hsz6 hc hfit h16
                go_wp2_with (refine wpList_snoc (e := 83) (base := w'.heap.size) (Q := fun b => w'.heap.size ≤ b) (r := rEntry) rfl rfl _ _ 52 _ rfl rfl rfl (.agg #[.int .i64 0, .int .u64 0, .int .i64 0, .int .i64 0, .slice none 0 0]) 5 56 Try.underlying52 infoEntry rfl (by decide) rfl _ l HV6.out (entAt b at_) _ (by exact rfl) HY.out (by exact rfl) (by exact rfl) L2.out.1 L2.out.2 HB7.out.size ?_; intro s8 w8 hacc8 hgr8 hat8)
                exact ⟨⟨k + 1, at_ + 16 + 2 * j, l ++ [entAt b at_], by go_num, by omega, rfl, PS.out, hacc8, Rep.acc_below HV6.out HB7.out hgr8 HB7.out.size⟩, by simp [intOf]; omega⟩
          · have F := Lib.hid (dirGet_none HS.out (by rw [← HN.out]; exact parse_fail (by omega) hp.out (parseEnt_none (fun h => hfit h.2))))
            obtain ⟨C, hC⟩ : ∃ C, C = countAt b at_ := ⟨_, rfl⟩
            rw [← hC] at G1 hc hfit
            have n1 : ((b.length : Int) - at_ - 16) / 2 < C := by omega
            have n2 : (0 : Int) ≤ (b.length : Int) - at_ - 16 := by omega
            clear hC
            go_wp2_with fail
            refine (rget_calls (at_ := ((at_ : Int) + 14)) (width := 2) HXr.out (wf_i64 (by omega) (by omega))).mono ?_
            rintro e w1 ⟨rfl, rfl⟩
            rw [show getNum b ((at_ : Int) + 14) 2 = some (C : Int) from G1.out]
            simp only [Option.getD_some, Option.isSome_some]
            go_wp2_with fail
            go_ret2
            rw [F.out]
            exact ⟨_, rfl, Rep.val_nil (by simp [maxLen]), HB1.out⟩
        · have F := Lib.hid (dirGet_none HS.out (by rw [← HN.out]; exact parse_fail (by omega) hp.out (parseEnt_none (fun h => h16 h.1))))
          rw [if_neg (by omega)] at G1
          go_wp2_with fail
          refine (rget_calls (at_ := ((at_ : Int) + 14)) (width := 2) HXr.out (wf_i64 (by omega) (by omega))).mono ?_
          rintro e w1 ⟨rfl, rfl⟩
          rw [show getNum b ((at_ : Int) + 14) 2 = none from G1.out]
          simp only [Option.getD_none, Option.isSome_none]
          go_wp2_with fail
          go_ret2
          rw [F.out]
          exact ⟨_, rfl, Rep.val_nil (by simp [maxLen]), HB1.out⟩
      · obtain rfl : k = N := by omega
        by_cases he : at_ = b.length
        · have F := Lib.hid (dirGet_ok HS.out (by rw [← HN.out]; exact hp.out) he)
          have n1 : ((at_ : Int) != (b.length : Int)) = false := by simp [he]
          clear he
          go_wp2_with fail
          go_ret2
          rw [F.out]
          refine ⟨_, rfl, ?_, HB1.out⟩
          refine Rep.val_mono (fun b hb _ => ?_) (Rep.acc_val HV.out)
          rcases hb with hb | hb
          · exact hb
          · exact (Rep.acc_own HV.out b hb).1
        · have F := Lib.hid (dirGet_form HS.out (by rw [← HN.out]; exact hp.out) he)
          have n1 : ((at_ : Int) != (b.length : Int)) = true := by simp; omega
          clear he
          go_wp2_with fail
          go_ret2
          rw [F.out]
          exact ⟨_, rfl, Rep.val_nil (by simp [maxLen]), HB1.out⟩
end Go.Proofs.Ytecdbfbaclgejaa
