/- Walk of the reference's components of terms. -/
import Derived.Test.YtecdbfbaclgejaaSets
namespace Go.Proofs.Ytecdbfbaclgejaa
open Go.RowKit

/-- Numbers of the call's own stand where another row of its own grows. -/
theorem ints_stand {w w' : World} {base : Nat} {v u : Value} {xs : List Int} (h : (Rep.int .i64).acc 3 base (fun _ => False) w v xs) (hg : w.grownBy w' u.ownBlock) (hne : ∀ x, v.ownBlock = some x → u.ownBlock ≠ some x) : (Rep.int .i64).acc 3 base (fun _ => False) w' v xs :=
  Rep.acc_keep (fun x hx hl => hg.block x hl.lt (fun e => by rcases hx with hx | hx; exact hx.elim; exact hne x hx e.symm)) (fun _ h _ => h) h

set_option maxRecDepth 100000 in
set_option maxHeartbeats 1000000 in
/-- ref35.Sets -/
theorem rsets_calls {Q : Nat → Prop} {w : World} {v : Value} {l : List DTerm} (hx : rTerm.list.val Q w v l) (hl : l.length ≤ 1000) :
    Calls Try.prog 26 #[v] w fun e w' => e = .returned (.tuple #[.int .u64 ((maskOf (withL l) : Nat) : Int), .int .u64 ((maskOf (lackL l) : Nat) : Int)]) ∧ Below w.heap.size w w' := by
  obtain ⟨A, c, rfl, hc1, hc2, hA⟩ := Rep.val_list hx
  unfold maxLen at hc2
  have HA := Lib.hid hA
  clear hx hA
  go_enter Try.func26, Try.ntmps26
  go_wp2_with fail
  go_loopw [4, 5, 6] (fun a b i wr => ∃ (k : Nat) (S T : List Int), i = .int .i64 k ∧ k ≤ l.length ∧ (Rep.int .i64).acc 3 w.heap.size (fun _ => False) wr a S ∧ (Rep.int .i64).acc 3 w.heap.size (fun _ => False) wr b T ∧ Hid (S = withL (l.take k)) ∧ Hid (T = lackL (l.take k)) ∧ Hid (∀ x, a.ownBlock = some x → b.ownBlock ≠ some x) ∧ Below w.heap.size w wr) (fun _ _ i _ => l.length - (intOf i).toNat)
  case atStart => exact ⟨0, [], [], rfl, by omega, Rep.acc_nil, Rep.acc_nil, Lib.hid (show [] = withL [] from rfl), Lib.hid (show [] = lackL [] from rfl), Lib.hid (fun x h => by simp [Value.ownBlock] at h), Below.refl _ _⟩
  case round =>
    obtain ⟨k, S, T, rfl, hk, ha, hb, hS, hT, hne, hbel⟩ := hrel
    have HB := Lib.hid hbel
    have HAA := Lib.hid ha
    have HBB := Lib.hid hb
    have HSL := Lib.hid (show S.length ≤ 1000 by rw [hS.out]; have := withL_len (l.take k); rw [List.length_take] at this; omega)
    have HTL := Lib.hid (show T.length ≤ 1000 by rw [hT.out]; have := lackL_len (l.take k); rw [List.length_take] at this; omega)
    obtain ⟨A1, c1, rfl, _, _⟩ := Rep.acc_form ha
    obtain ⟨A2, c2, rfl, _, _⟩ := Rep.acc_form hb
    have hba := hbel.size
    clear ha hb
    by_cases hlt : (k : Int) < l.length
    · have hk' : k < l.length := by omega
      obtain ⟨b0, o0, A3, c3, rfl, _, d0, d1, cd, wx, wc, sd⟩ := rTerm_at (HA.out.below hbel fun _ _ h => h.lt) (List.getElem?_eq_getElem hk')
      have Y1 := Lib.hid (fun h => withL_yes hk' h)
      have N1 := Lib.hid (fun h => withL_no hk' h)
      have Y2 := Lib.hid (fun h => lackL_yes hk' h)
      have N2 := Lib.hid (fun h => lackL_no hk' h)
      generalize l[k] = x at *
      have WC := Lib.hid wc
      clear hbel wx wc sd cd
      by_cases h1 : x.kind = 1
      · have R1 := Lib.hid (show withL (l.take (k + 1)) = S by rw [N1.out (by simp [hasTerm, h1]), hS.out])
        have R2 := Lib.hid (show lackL (l.take (k + 1)) = T ++ [x.comp] by rw [Y2.out (by simp [lackTerm, h1]), hT.out])
        have g1 : (x.kind == 1) = true := by simp [h1]
        have L := Lib.hid (show T.length + 1 ≤ maxLen ∧ (T.length + 1) * 8 ≤ 140737488355328 by have := HTL.out; unfold maxLen; omega)
        clear h1
        go_wp2_with (refine wpList_snoc (e := 3) (base := w.heap.size) (Q := fun _ => False) (r := Rep.int .i64) rfl rfl _ _ 30 _ rfl rfl rfl (.int .i64 0) 1 8 Try.underlying30 info3 rfl (by decide) rfl _ T HBB.out x.comp _ (by exact rfl) ⟨_, rfl, rfl, WC.out⟩ (by exact rfl) (by exact rfl) L.out.1 L.out.2 hba ?_; intro s7 w7 hacc7 hgr7 hat7)
        refine ⟨⟨k + 1, S, T ++ [x.comp], by go_num, by omega, ints_stand HAA.out hgr7 hne.out, hacc7, Lib.hid R1.out.symm, Lib.hid R2.out.symm, Lib.hid (fun y hy => ?_), Rep.acc_below HBB.out HB.out hgr7 hba⟩, by simp [intOf]; omega⟩
        rcases hat7 with h | h
        · rw [h]; exact hne.out y hy
        · rw [h]; intro e; have := (Rep.acc_own HAA.out y hy).2; have := Option.some.inj e; omega
      · have g1 : (x.kind == 1) = false := by simp [h1]
        by_cases h2 : 0 ≤ x.kind ∧ x.kind ≤ 3
        · have R1 := Lib.hid (show withL (l.take (k + 1)) = S ++ [x.comp] by rw [Y1.out (by simp only [hasTerm, decide_eq_true_eq]; omega), hS.out])
          have R2 := Lib.hid (show lackL (l.take (k + 1)) = T by rw [N2.out (by simp [lackTerm, h1]), hT.out])
          have L := Lib.hid (show S.length + 1 ≤ maxLen ∧ (S.length + 1) * 8 ≤ 140737488355328 by have := HSL.out; unfold maxLen; omega)
          obtain ⟨h3, h4⟩ := h2
          clear h1
          go_wp2_with (refine wpList_snoc (e := 3) (base := w.heap.size) (Q := fun _ => False) (r := Rep.int .i64) rfl rfl _ _ 30 _ rfl rfl rfl (.int .i64 0) 1 8 Try.underlying30 info3 rfl (by decide) rfl _ S HAA.out x.comp _ (by exact rfl) ⟨_, rfl, rfl, WC.out⟩ (by exact rfl) (by exact rfl) L.out.1 L.out.2 hba ?_; intro s7 w7 hacc7 hgr7 hat7)
          refine ⟨⟨k + 1, S ++ [x.comp], T, by go_num, by omega, hacc7, ints_stand HBB.out hgr7 (fun y hy e => hne.out y e hy), Lib.hid R1.out.symm, Lib.hid R2.out.symm, Lib.hid (fun y hy => ?_), Rep.acc_below HAA.out HB.out hgr7 hba⟩, by simp [intOf]; omega⟩
          rcases hat7 with h | h
          · rw [h] at hy; exact hne.out y hy
          · intro e; rw [h] at hy; have := (Rep.acc_own HBB.out y e).2; have := Option.some.inj hy; omega
        · have R1 := Lib.hid (show withL (l.take (k + 1)) = S by rw [N1.out (by simp only [hasTerm, decide_eq_false_iff_not]; omega), hS.out])
          have R2 := Lib.hid (show lackL (l.take (k + 1)) = T by rw [N2.out (by simp [lackTerm, h1]), hT.out])
          clear h1
          by_cases h3 : 0 ≤ x.kind
          · have h4 : ¬ x.kind ≤ 3 := by omega
            clear h2
            go_wp2_with fail
            exact ⟨⟨k + 1, S, T, by go_num, by omega, HAA.out, HBB.out, Lib.hid R1.out.symm, Lib.hid R2.out.symm, hne, HB.out⟩, by simp [intOf]; omega⟩
          · clear h2
            go_wp2_with fail
            exact ⟨⟨k + 1, S, T, by go_num, by omega, HAA.out, HBB.out, Lib.hid R1.out.symm, Lib.hid R2.out.symm, hne, HB.out⟩, by simp [intOf]; omega⟩
    · obtain rfl : k = l.length := by omega
      rw [List.take_length] at hS hT
      have HA1 := Lib.hid (Rep.acc_fresh HAA.out)
      have HB1 := Lib.hid (Rep.acc_fresh HBB.out)
      clear hbel
      go_wp2_with fail
      refine (maskOf_calls HA1.out).mono ?_
      rintro e w1 ⟨rfl, rfl⟩
      go_wp2_with fail
      refine (maskOf_calls HB1.out).mono ?_
      rintro e w1 ⟨rfl, rfl⟩
      rw [hS.out, hT.out]
      generalize hm1 : maskOf (withL l) = m1
      generalize hm2 : maskOf (lackL l) = m2
      have HM1 := Lib.hid hm1
      have HM2 := Lib.hid hm2
      clear hm1 hm2
      go_wp2_with fail
      go_ret2
      exact ⟨by rw [HM1.out, HM2.out]; rfl, HB.out⟩
end Go.Proofs.Ytecdbfbaclgejaa
